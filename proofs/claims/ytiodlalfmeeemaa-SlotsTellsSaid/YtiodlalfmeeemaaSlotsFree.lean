/- SlotsFree: for every input the law answers true, and each argument reads as it read. No conditions. -/
import Derived.Test.YtiodlalfmeeemaaSlots5
import Derived.Test.YtiodlalfmeeemaaOpen
import Derived.ProofKit
namespace Go.Proofs.Ytiodlalfmeeemaa
open Go.ChangeShapes Go.WideShapes Go.ChangeAt Go.RowKit Sl

theorem slotsErr_kind0 {l : List Slot} (h : slotsErr l = 0) : kind0 l = 0 := by
  unfold slotsErr at h
  split at h
  · omega
  · split at h
    · split at h
      · assumption
      · omega
    · omega
theorem used_count (l : List Slot) (h : l.all (fun y => !(y.kind == 0)) = true) : used l = l.length := by
  induction l with
  | nil => rfl
  | cons a l ih =>
    simp only [List.all_cons, Bool.and_eq_true] at h
    have ha : a.kind ≠ 0 := by simpa using h.1
    simp only [used, List.length_cons]
    rw [ih h.2, if_neg ha]; omega
theorem firstAt_full {α : Type} (p : α → Bool) (l : List α) (h : ¬ firstAt p l < l.length) : l.all (fun y => !p y) = true := by
  have : l.any p = false := by
    cases ha : l.any p
    · rfl
    · exact absurd ((firstAt_lt p l).2 ha) h
  rw [List.all_eq_true]; intro x hx
  have := List.any_eq_false.1 this x hx
  simpa using this
theorem used_full {l : List Slot} (h : slotsErr l = 0) (hg : grab l = 0) : used l = 39 := by
  obtain ⟨h1, h2⟩ := slotsErr_len h
  have hk := slotsErr_kind0 h
  unfold grab at hg
  split at hg
  · omega
  · rename_i hn
    split at hg
    · omega
    · unfold freeAt at hn
      have ha := used_count _ (firstAt_full _ _ hn)
      cases l with
      | nil => simp at h1
      | cons a l =>
        simp only [kind0] at hk
        simp only [List.drop_succ_cons, List.drop_zero] at ha
        simp only [used, hk, if_true, ha]
        simp only [List.length_cons] at *
        omega
theorem firstAt_before {α : Type} (p : α → Bool) (l : List α) (j : Nat) (x : α) (hj : j < firstAt p l) (hx : l[j]? = some x) : p x = false := by
  induction l generalizing j with
  | nil => simp at hx
  | cons a l ih =>
    simp only [firstAt] at hj
    split at hj
    · omega
    · rename_i ha
      cases j with
      | zero => simp at hx; subst hx; simpa using ha
      | succ j => exact ih j (by omega) (by simpa using hx)
theorem firstAt_at {α : Type} (p : α → Bool) (l : List α) (x : α) (hx : l[firstAt p l]? = some x) : p x = true := by
  induction l with
  | nil => simp at hx
  | cons a l ih =>
    simp only [firstAt] at hx
    split at hx
    · rename_i ha; simp at hx; subst hx; exact ha
    · exact ih (by simpa using hx)
theorem grab_is {l : List Slot} (h : slotsErr l = 0) (hg : grab l ≠ 0) : 1 ≤ grab l ∧ grab l ≤ l.length ∧ (∀ s, l[grab l]? = some s → s.kind = 0) ∧ (∀ j s, 1 ≤ j → j < grab l → l[j]? = some s → s.kind ≠ 0) := by
  obtain ⟨h1, h2⟩ := slotsErr_len h
  unfold grab at hg ⊢
  split
  · rename_i hn
    rw [List.length_drop] at hn
    refine ⟨by omega, by omega, fun s hs => ?_, fun j s hj1 hj2 hs => ?_⟩
    · have := firstAt_at (fun s : Slot => s.kind == 0) (l.drop 1) s (by rw [List.getElem?_drop, Nat.add_comm]; exact hs)
      simpa using this
    · have := firstAt_before (fun s : Slot => s.kind == 0) (l.drop 1) (j - 1) s (by unfold freeAt at hj2; omega) (by rw [List.getElem?_drop, show 1 + (j - 1) = j from by omega]; exact hs)
      simpa using this
  · rename_i hn
    rw [if_neg hn] at hg
    split
    · refine ⟨by omega, by omega, fun s hs => ?_, fun j s hj1 hj2 hs => ?_⟩
      · rw [List.getElem?_eq_none (by omega)] at hs; cases hs
      · have ha := firstAt_full _ _ hn
        have := List.all_eq_true.1 ha s (List.mem_of_getElem? (i := j - 1) (by rw [List.getElem?_drop, show 1 + (j - 1) = j from by omega]; exact hs))
        simpa using this
    · rename_i h40; rw [if_neg h40] at hg; exact absurd rfl hg

set_option maxRecDepth 100000 in
set_option maxHeartbeats 1000000 in
theorem law_free (A : Option Addr) (n c : Nat) (l : List Slot) (w : World) (h : SlotsR w w.heap.size A n l) (hn : n ≤ c) (hc : c ≤ 4611686018427387903) :
    Calls Try.prog 4 #[.slice A n c] w fun e w' => e = .returned (.bool true) ∧ Below w.heap.size w w' := by
  have HG := Lib.hid (grab_any A n c l w h hn hc)
  have HU := fun W (hb : Below w.heap.size w W) => Lib.hid (used_any A n c l W ((h.below hb (Nat.le_refl _)).more hb.size) (by omega))
  by_cases he : slotsErr l = 0
  · obtain ⟨l1, l2⟩ := slotsErr_len he
    have hln := h.1
    by_cases hg : grab l = 0
    · rw [show grabN l = 0 from by unfold grabN; rw [if_pos he, hg]; rfl, show grabE l = 7 from by unfold grabE; rw [if_pos he, if_pos hg]] at HG
      rw [he, show usedN l = 39 from by unfold usedN; rw [if_pos he, used_full he hg]; rfl] at HU
      clear h he hg l1 l2 hln
      go_enter Try.func4, Try.ntmps4
      go_wp2_with (first | (go_at_call 12; refine HG.out.mono ?_; rintro e w1 ⟨rfl, hb1⟩) | (go_at_call 13; refine (HU _ hb1).out.mono ?_; rintro e w2 ⟨rfl, hb2⟩) | (go_at_call 17; refine (slotsBegun_any _).mono ?_; rintro e w3 ⟨rfl, hb3⟩))
      go_ret
      exact ⟨rfl, hb1.trans ((hb2.mono hb1.size).trans (hb3.mono (Nat.le_trans hb1.size hb2.size)))⟩
    · obtain ⟨g1, g2, g3, g4⟩ := grab_is he hg
      rw [show grabN l = grab l from by unfold grabN; rw [if_pos he], show grabE l = 0 from by unfold grabE; rw [if_pos he, if_neg hg]] at HG
      rw [he] at HU
      rw [hln] at g2
      generalize grab l = g at HG g1 g2 g3 g4
      have G3 := Lib.hid g3
      have G4 := Lib.hid g4
      have n40 : n ≤ 40 := by omega
      have hcell : ∀ k, 1 ≤ k → k < n → ∃ b o s, A = some ⟨b, o, none⟩ ∧ b < w.heap.size ∧ l[k]? = some s ∧ w.cell? ⟨b, o + k * 3, none⟩ = some (.int .i64 s.kind) := by
        intro k _ hk
        obtain ⟨b, o, s, _, _, _, e1, e2, e3, e4, _⟩ := h.at_ hk
        exact ⟨b, o, s, e1, e2, e3, e4⟩
      have HC := Lib.hid hcell
      have G1 : (g : Int) < 1 → False := by omega
      clear h he hg l1 l2 hln g3 g4 hcell G1
      by_cases hgn : g < n
      · obtain ⟨b, o, s, rfl, hb, hx, hc0⟩ := HC.out g g1 hgn
        have hk0 : (s.kind != 0) = false := by simpa using G3.out s hx
        have hzz := w.heap.size
        clear hzz hx
        have HC0 := Lib.hid hc0
        clear hc0
        go_enter Try.func4, Try.ntmps4
        go_wp2_with fail
        refine HG.out.mono ?_
        rintro e w1 ⟨rfl, hb1⟩
        go_wp2_with fail
        refine (HU _ hb1).out.mono ?_
        rintro e w2 ⟨rfl, hb2⟩
        have hb12 := hb1.trans (hb2.mono hb1.size)
        have c0 := (hb12.cell (p := ⟨b, o + g * 3, none⟩) hb).trans HC0.out
        go_wp2_with fail
        go_loop [7] (fun i => ∃ k : Nat, 1 ≤ k ∧ k ≤ g ∧ i = .int .i64 k) (fun i => g - (intOf i).toNat)
        case atStart => exact ⟨1, Nat.le_refl _, g1, rfl⟩
        case round =>
          obtain ⟨k, hk1, hkg, rfl⟩ := hrel
          by_cases hlt : k < g
          · obtain ⟨b', o', s', e1, hb', hx', hc'⟩ := HC.out k hk1 (by omega)
            simp only [Option.some.injEq, Addr.mk.injEq, and_true] at e1
            obtain ⟨rfl, rfl⟩ := e1
            have c1 := (hb12.cell (p := ⟨b, o + k * 3, none⟩) hb).trans hc'
            have hk1 : (s'.kind == 0) = false := by simpa using G4.out k s' hk1 hlt hx'
            clear hx' hc'
            go_wp2_with fail
            go_round
            case rel => exact ⟨k + 1, by omega, by omega, by go_num⟩
            case measure => simp [intOf]; omega
          · go_wp2_with (go_at_call 17; refine (slotsBegun_any _).mono ?_; rintro e w3 ⟨rfl, hb3⟩)
            go_ret
            exact ⟨rfl, hb12.trans (hb3.mono hb12.size)⟩
      · go_enter Try.func4, Try.ntmps4
        go_wp2_with fail
        refine HG.out.mono ?_
        rintro e w1 ⟨rfl, hb1⟩
        go_wp2_with fail
        refine (HU _ hb1).out.mono ?_
        rintro e w2 ⟨rfl, hb2⟩
        have hb12 := hb1.trans (hb2.mono hb1.size)
        go_wp2_with fail
        go_loop [7] (fun i => ∃ k : Nat, 1 ≤ k ∧ k ≤ g ∧ i = .int .i64 k) (fun i => g - (intOf i).toNat)
        case atStart => exact ⟨1, Nat.le_refl _, g1, rfl⟩
        case round =>
          obtain ⟨k, hk1, hkg, rfl⟩ := hrel
          by_cases hlt : k < g
          · obtain ⟨b', o', s', rfl, hb', hx', hc'⟩ := HC.out k hk1 (by omega)
            have c1 := (hb12.cell (p := ⟨b', o' + k * 3, none⟩) hb').trans hc'
            have hk1 : (s'.kind == 0) = false := by simpa using G4.out k s' hk1 hlt hx'
            clear hx' hc'
            go_wp2_with fail
            go_round
            case rel => exact ⟨k + 1, by omega, by omega, by go_num⟩
            case measure => simp [intOf]; omega
          · go_wp2_with (go_at_call 17; refine (slotsBegun_any _).mono ?_; rintro e w3 ⟨rfl, hb3⟩)
            go_ret
            exact ⟨rfl, hb12.trans (hb3.mono hb12.size)⟩
  · have he' : (slotsErr l != 0) = true := by simpa using he
    clear h he
    go_enter Try.func4, Try.ntmps4
    go_wp2_with (first | (go_at_call 12; refine HG.out.mono ?_; rintro e w1 ⟨rfl, hb1⟩) | (go_at_call 13; refine (HU _ hb1).out.mono ?_; rintro e w2 ⟨rfl, hb2⟩) | (go_at_call 17; refine (slotsBegun_any _).mono ?_; rintro e w3 ⟨rfl, hb3⟩))
    go_ret
    exact ⟨rfl, hb1.trans ((hb2.mono hb1.size).trans (hb3.mono (Nat.le_trans hb1.size hb2.size)))⟩
end Go.Proofs.Ytiodlalfmeeemaa
