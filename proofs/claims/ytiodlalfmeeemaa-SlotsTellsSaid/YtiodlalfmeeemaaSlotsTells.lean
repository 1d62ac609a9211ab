/- SlotsTells: for every input the law answers true. No conditions. -/
import Derived.Test.YtiodlalfmeeemaaSlotsFree
namespace Go.Proofs.Ytiodlalfmeeemaa
open Go.RowKit Sl

theorem errOf_beq (b : Bool) : ((errOf b == 0) == b) = true := by cases b <;> rfl

theorem box_cells (w w' : World) (cs : Array Value) (T : TypeId) (hb : Below (w.heap.size + 1) (w.alloc (.cells cs T)) w') (j : Nat) : w'.cell? ⟨w.heap.size, j, none⟩ = cs[j]? := by
  rw [hb.cell (by simp)]
  exact cell_of_row _ _ j cs T (0, 0) (heap_alloc_new w _)
theorem box_keep {w W W' : World} {a b c : Value} (hb : Below W.heap.size W W') (h : W.cell? ⟨w.heap.size, 0, none⟩ = some a ∧ W.cell? ⟨w.heap.size, 1, none⟩ = some b ∧ W.cell? ⟨w.heap.size, 2, none⟩ = some c ∧ w.heap.size + 1 ≤ W.heap.size ∧ Below w.heap.size w W) :
    W'.cell? ⟨w.heap.size, 0, none⟩ = some a ∧ W'.cell? ⟨w.heap.size, 1, none⟩ = some b ∧ W'.cell? ⟨w.heap.size, 2, none⟩ = some c ∧ w.heap.size + 1 ≤ W'.heap.size ∧ Below w.heap.size w W' := by
  obtain ⟨h0, h1, h2, h3, h4⟩ := h
  have hz := hb.size
  exact ⟨(hb.cell (by simp; omega)).trans h0, (hb.cell (by simp; omega)).trans h1, (hb.cell (by simp; omega)).trans h2, by omega, h4.trans (hb.mono (by omega))⟩
/-- What the law asks of the slots. -/
def tellG (l : List Slot) : Int := if slotsErr l = 0 then grab l else 0
def tellE (l : List Slot) : Int := if slotsErr l = 0 then (if grab l = 0 then 7 else 0) else slotsErr l

set_option maxRecDepth 100000 in
set_option maxHeartbeats 1000000 in
theorem law_tells (s : Slot) (tA : Option Addr) (tn tc : Nat) (A : Option Addr) (n c : Nat) (l : List Slot) (w : World) (hs : SlotV w w.heap.size s tA tn tc) (h : SlotsR w w.heap.size A n l) (hn : n ≤ c) (hc : c ≤ 4611686018427387903) :
    Calls Try.prog 3 #[.agg #[.int .i64 s.kind, .string s.data, .slice tA tn tc], .slice A n c] w fun e w' => e = .returned (.bool true) ∧ Below w.heap.size w w' := by
  have HG' := fun W (hb : Below w.heap.size w W) => (grab_any A n c l W ((h.below hb (Nat.le_refl _)).more hb.size) hn hc)
  have HU' := fun W (hb : Below w.heap.size w W) => (used_any A n c l W ((h.below hb (Nat.le_refl _)).more hb.size) (by omega))
  have HE' := fun W (hb : Below w.heap.size w W) => (rslots_any A n c l W ((h.below hb (Nat.le_refl _)).more hb.size) (by omega))
  have HC' := fun W (hb : Below w.heap.size w W) => (scheck_any s tA tn tc W ((hs.table.below hb (Nat.le_refl _)).more hb.size) (Nat.le_trans hs.len hs.cap) hs.data)
  have HF' := fun W (hb : Below w.heap.size w W) => (rfine_any s tA tn tc W ((hs.table.below hb (Nat.le_refl _)).more hb.size) (Nat.le_trans hs.len hs.cap))
  have hcmp := errOf_beq (slotFine s)
  generalize slotFine s = sf at HC' HF' hcmp
  generalize errOf sf = ef at HC' hcmp
  have HG := Lib.hid HG'; have HU := Lib.hid HU'; have HE := Lib.hid HE'; have HC := Lib.hid HC'; have HF := Lib.hid HF'
  clear HG' HU' HE' HC' HF'
  by_cases he : slotsErr l = 0
  · obtain ⟨l1, l2⟩ := slotsErr_len he
    have hln := h.1
    have RG := Lib.hid (fun W (hb : Below w.heap.size w W) => rgrab_any A n c l W ((h.below hb (Nat.le_refl _)).more hb.size) (by omega) (by omega))
    have RU := Lib.hid (fun W (hb : Below w.heap.size w W) => rused_any A n c l W ((h.below hb (Nat.le_refl _)).more hb.size) (by omega))
    have u1 := used_ok he
    rw [u1, he] at HU
    rw [he] at HE
    by_cases hg : grab l = 0
    · rw [show grabN l = 0 from by unfold grabN; rw [if_pos he, hg]; rfl, show grabE l = 7 from by unfold grabE; rw [if_pos he, if_pos hg]] at HG
      rw [hg] at RG
      generalize used l = us at HU RU
      clear h hs he hg l1 l2 hln u1 hc hn
      go_enter Try.func3, Try.ntmps3
      go_wp2_with fail
      have hb0 : Below w.heap.size w (w.alloc (.cells #[.int .i64 s.kind, .string s.data, .slice tA tn tc] 24)) := (Below.refl _ _).alloc (Nat.le_refl _) _
      refine (HG.out _ hb0).mono ?_
      rintro e w1 ⟨rfl, hb1⟩
      have hb01 := hb0.trans (hb1.mono hb0.size)
      go_wp2_with fail
      refine (HU.out _ hb01).mono ?_
      rintro e w2 ⟨rfl, hb2⟩
      have hb02 := hb01.trans (hb2.mono hb01.size)
      go_wp2_with fail
      refine (HE.out _ hb02).mono ?_
      rintro e w3 ⟨rfl, hb3⟩
      have hb03 := hb02.trans (hb3.mono hb02.size)
      go_wp2_with fail
      refine (RG.out _ hb03).mono ?_
      rintro e w' ⟨rfl, rfl⟩
      go_wp2_with fail
      refine (RU.out _ hb03).mono ?_
      rintro e w' ⟨rfl, rfl⟩
      go_wp2_with fail
      have hz3 : w.heap.size + 1 ≤ w3.heap.size := by have := hb1.size; have := hb2.size; have := hb3.size; simp at *; omega
      have hbx : Below (w.heap.size + 1) (w.alloc (.cells #[.int .i64 s.kind, .string s.data, .slice tA tn tc] 24)) w3 := ((hb1.mono (by simp)).trans (hb2.mono (by have := hb1.size; simp at *; omega))).trans (hb3.mono (by have := hb1.size; have := hb2.size; simp at *; omega))
      have k0 := box_cells w w3 #[.int .i64 s.kind, .string s.data, .slice tA tn tc] 24 hbx
      obtain ⟨c0, c1, c2⟩ : w3.cell? ⟨w.heap.size, 0, none⟩ = some (.int .i64 s.kind) ∧ w3.cell? ⟨w.heap.size, 1, none⟩ = some (.string s.data) ∧ w3.cell? ⟨w.heap.size, 2, none⟩ = some (.slice tA tn tc) := ⟨k0 0, k0 1, k0 2⟩
      clear hb0 hb1 hb01 hb2 hb02 hb3 hbx k0 HG HU HE
      go_region_held3 (fun w' => w'.cell? ⟨w.heap.size, 0, none⟩ = some (.int .i64 s.kind) ∧ w'.cell? ⟨w.heap.size, 1, none⟩ = some (.string s.data) ∧ w'.cell? ⟨w.heap.size, 2, none⟩ = some (.slice tA tn tc) ∧ w.heap.size + 1 ≤ w'.heap.size ∧ Below w.heap.size w w')
        (((repeat (refine box_keep (by assumption) ?_)); refine ⟨?_, ?_, ?_, ?_, ?_⟩ <;> first | assumption | exact Below.drew ‹_›))
        (first | (go_at_call 17; refine (slotsBegun_any _).mono ?_; rintro e w5 ⟨rfl, hb5⟩) | (go_at_call 18; refine (HC.out _ ?_).mono ?_; (exact below_next hb03.drew hb5); rintro e w6 ⟨rfl, hb6⟩) | (go_at_call 19; refine (HF.out _ ?_).mono ?_; (exact below_next (below_next hb03.drew hb5) hb6); rintro e w7 ⟨rfl, hb7⟩))
      go_wp2_with fail
      go_ret
      exact ⟨rfl, below_next (below_next (below_next hb03.drew hb5) hb6) hb7⟩

    · rw [show grabN l = grab l from by unfold grabN; rw [if_pos he], show grabE l = 0 from by unfold grabE; rw [if_pos he, if_neg hg]] at HG
      generalize used l = us at HU RU
      have hg' : (((grab l : Nat) : Int) == 0) = false := by rw [beq_eq_false_iff_ne]; omega
      generalize grab l = gr at HG RG hg'
      clear h hs he hg l1 l2 hln u1 hc hn
      go_enter Try.func3, Try.ntmps3
      go_wp2_with fail
      have hb0 : Below w.heap.size w (w.alloc (.cells #[.int .i64 s.kind, .string s.data, .slice tA tn tc] 24)) := (Below.refl _ _).alloc (Nat.le_refl _) _
      refine (HG.out _ hb0).mono ?_
      rintro e w1 ⟨rfl, hb1⟩
      have hb01 := hb0.trans (hb1.mono hb0.size)
      go_wp2_with fail
      refine (HU.out _ hb01).mono ?_
      rintro e w2 ⟨rfl, hb2⟩
      have hb02 := hb01.trans (hb2.mono hb01.size)
      go_wp2_with fail
      refine (HE.out _ hb02).mono ?_
      rintro e w3 ⟨rfl, hb3⟩
      have hb03 := hb02.trans (hb3.mono hb02.size)
      go_wp2_with fail
      refine (RG.out _ hb03).mono ?_
      rintro e w' ⟨rfl, rfl⟩
      go_wp2_with fail
      refine (RU.out _ hb03).mono ?_
      rintro e w' ⟨rfl, rfl⟩
      go_wp2_with fail
      have hz3 : w.heap.size + 1 ≤ w3.heap.size := by have := hb1.size; have := hb2.size; have := hb3.size; simp at *; omega
      have hbx : Below (w.heap.size + 1) (w.alloc (.cells #[.int .i64 s.kind, .string s.data, .slice tA tn tc] 24)) w3 := ((hb1.mono (by simp)).trans (hb2.mono (by have := hb1.size; simp at *; omega))).trans (hb3.mono (by have := hb1.size; have := hb2.size; simp at *; omega))
      have k0 := box_cells w w3 #[.int .i64 s.kind, .string s.data, .slice tA tn tc] 24 hbx
      obtain ⟨c0, c1, c2⟩ : w3.cell? ⟨w.heap.size, 0, none⟩ = some (.int .i64 s.kind) ∧ w3.cell? ⟨w.heap.size, 1, none⟩ = some (.string s.data) ∧ w3.cell? ⟨w.heap.size, 2, none⟩ = some (.slice tA tn tc) := ⟨k0 0, k0 1, k0 2⟩
      clear hb0 hb1 hb01 hb2 hb02 hb3 hbx k0 HG HU HE
      go_region_held3 (fun w' => w'.cell? ⟨w.heap.size, 0, none⟩ = some (.int .i64 s.kind) ∧ w'.cell? ⟨w.heap.size, 1, none⟩ = some (.string s.data) ∧ w'.cell? ⟨w.heap.size, 2, none⟩ = some (.slice tA tn tc) ∧ w.heap.size + 1 ≤ w'.heap.size ∧ Below w.heap.size w w')
        (((repeat (refine box_keep (by assumption) ?_)); refine ⟨?_, ?_, ?_, ?_, ?_⟩ <;> first | assumption | exact Below.drew ‹_›))
        (first | (go_at_call 17; refine (slotsBegun_any _).mono ?_; rintro e w5 ⟨rfl, hb5⟩) | (go_at_call 18; refine (HC.out _ ?_).mono ?_; (exact below_next hb03.drew hb5); rintro e w6 ⟨rfl, hb6⟩) | (go_at_call 19; refine (HF.out _ ?_).mono ?_; (exact below_next (below_next hb03.drew hb5) hb6); rintro e w7 ⟨rfl, hb7⟩))
      go_wp2_with fail
      go_ret
      exact ⟨rfl, below_next (below_next (below_next hb03.drew hb5) hb6) hb7⟩
  · obtain ⟨g1, g2⟩ := grab_bad he
    rw [g1, g2] at HG
    have u1 := used_bad he
    rw [u1] at HU
    have he' : (slotsErr l == 0) = false := by simpa using he
    generalize slotsErr l = er at HG HU HE he'
    clear h hs he g1 g2 u1 hc hn
    go_enter Try.func3, Try.ntmps3
    go_wp2_with fail
    have hb0 : Below w.heap.size w (w.alloc (.cells #[.int .i64 s.kind, .string s.data, .slice tA tn tc] 24)) := (Below.refl _ _).alloc (Nat.le_refl _) _
    refine (HG.out _ hb0).mono ?_
    rintro e w1 ⟨rfl, hb1⟩
    have hb01 := hb0.trans (hb1.mono hb0.size)
    go_wp2_with fail
    refine (HU.out _ hb01).mono ?_
    rintro e w2 ⟨rfl, hb2⟩
    have hb02 := hb01.trans (hb2.mono hb01.size)
    go_wp2_with fail
    refine (HE.out _ hb02).mono ?_
    rintro e w3 ⟨rfl, hb3⟩
    have hb03 := hb02.trans (hb3.mono hb02.size)
    go_wp2_with fail
    have hz3 : w.heap.size + 1 ≤ w3.heap.size := by have := hb1.size; have := hb2.size; have := hb3.size; simp at *; omega
    have hbx : Below (w.heap.size + 1) (w.alloc (.cells #[.int .i64 s.kind, .string s.data, .slice tA tn tc] 24)) w3 := ((hb1.mono (by simp)).trans (hb2.mono (by have := hb1.size; simp at *; omega))).trans (hb3.mono (by have := hb1.size; have := hb2.size; simp at *; omega))
    have k0 := box_cells w w3 #[.int .i64 s.kind, .string s.data, .slice tA tn tc] 24 hbx
    obtain ⟨c0, c1, c2⟩ : w3.cell? ⟨w.heap.size, 0, none⟩ = some (.int .i64 s.kind) ∧ w3.cell? ⟨w.heap.size, 1, none⟩ = some (.string s.data) ∧ w3.cell? ⟨w.heap.size, 2, none⟩ = some (.slice tA tn tc) := ⟨k0 0, k0 1, k0 2⟩
    clear hb0 hb1 hb01 hb2 hb02 hb3 hbx k0 HG HU HE
    go_region_held3 (fun w' => w'.cell? ⟨w.heap.size, 0, none⟩ = some (.int .i64 s.kind) ∧ w'.cell? ⟨w.heap.size, 1, none⟩ = some (.string s.data) ∧ w'.cell? ⟨w.heap.size, 2, none⟩ = some (.slice tA tn tc) ∧ w.heap.size + 1 ≤ w'.heap.size ∧ Below w.heap.size w w')
      (((repeat (refine box_keep (by assumption) ?_)); refine ⟨?_, ?_, ?_, ?_, ?_⟩ <;> first | assumption | exact Below.drew ‹_›))
      (first | (go_at_call 17; refine (slotsBegun_any _).mono ?_; rintro e w5 ⟨rfl, hb5⟩) | (go_at_call 18; refine (HC.out _ ?_).mono ?_; (exact below_next hb03.drew hb5); rintro e w6 ⟨rfl, hb6⟩) | (go_at_call 19; refine (HF.out _ ?_).mono ?_; (exact below_next (below_next hb03.drew hb5) hb6); rintro e w7 ⟨rfl, hb7⟩))
    go_wp2_with fail
    go_ret
    exact ⟨rfl, below_next (below_next (below_next hb03.drew hb5) hb6) hb7⟩
end Go.Proofs.Ytiodlalfmeeemaa
