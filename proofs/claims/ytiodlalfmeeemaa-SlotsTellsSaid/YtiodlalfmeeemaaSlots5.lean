/- The reference's GrabOf, UsedOf. Conditions: the slots are read in blocks below the heap's size. -/
import Derived.Test.YtiodlalfmeeemaaSlots4
namespace Go.Proofs.Ytiodlalfmeeemaa
open Go.RowKit Sl

theorem grab_at {l : List Slot} (k : Nat) (s : Slot) (h1 : 1 ≤ k) (hs : l[k]? = some s) (h0 : s.kind = 0) (ha : ((l.drop 1).take (k - 1)).all (fun y => !(y.kind == 0)) = true) : grab l = k := by
  have hx : (l.drop 1)[k - 1]? = some s := by rw [List.getElem?_drop, show 1 + (k - 1) = k from by omega]; exact hs
  have hf := firstAt_hit (fun s : Slot => s.kind == 0) (l.drop 1) (k - 1) s hx (by simp [h0]) ha
  have hl : k < l.length := (List.getElem?_eq_some_iff.1 hs).1
  unfold grab freeAt
  rw [hf, if_pos (by rw [List.length_drop]; omega)]
  omega
theorem grab_end {l : List Slot} (ha : (l.drop 1).all (fun y => !(y.kind == 0)) = true) : grab l = if l.length < 40 then l.length else 0 := by
  have hf := firstAt_none (fun s : Slot => s.kind == 0) (l.drop 1) ha
  unfold grab freeAt
  rw [hf, if_neg (by omega)]

set_option maxRecDepth 100000 in
set_option maxHeartbeats 400000 in
theorem rgrab_any (A : Option Addr) (n c : Nat) (l : List Slot) (w : World) (h : SlotsR w w.heap.size A n l) (h1 : 1 ≤ n) (hc : n ≤ 4611686018427387903) :
    Calls Try.prog 15 #[.slice A n c] w fun e w' => e = .returned (.int .i64 (grab l)) ∧ w = w' := by
  go_enter Try.func15, Try.ntmps15
  go_wp2_with fail
  go_loop [3] (fun i => ∃ k : Nat, 1 ≤ k ∧ k ≤ n ∧ i = .int .i64 k ∧ ((l.drop 1).take (k - 1)).all (fun y => !(y.kind == 0)) = true) (fun i => n - (intOf i).toNat)
  case atStart => exact ⟨1, Nat.le_refl _, h1, rfl, by simp⟩
  case round =>
    obtain ⟨k, hk1, hkn, rfl, ha⟩ := hrel
    have HA := Lib.hid ha
    clear ha
    by_cases hlt : k < n
    · obtain ⟨b, o, s, tA, tn, tc, rfl, hb, hx, c0, _, _, _⟩ := h.at_ hlt
      have HX := Lib.hid hx
      clear hx
      cases hp : (s.kind == 0)
      · go_wp2_with fail
        go_round
        case rel => exact ⟨k + 1, by omega, by omega, by go_num, by
          rw [show k + 1 - 1 = (k - 1) + 1 from by omega, all_take_succ _ (l.drop 1) (k - 1) s (by rw [List.getElem?_drop, show 1 + (k - 1) = k from by omega]; exact HX.out), HA.out, hp]; rfl⟩
        case measure => simp [intOf]; omega
      · go_wp2_with fail
        go_ret
        exact ⟨ret_int (by rw [grab_at k s hk1 HX.out (by simpa using hp) HA.out]), rfl⟩
    · have hg := grab_end (l := l) (all_done _ (l.drop 1) (k - 1) (by rw [List.length_drop, h.1]; omega) HA.out)
      rw [h.1] at hg
      have HG := Lib.hid hg
      clear hg
      by_cases h40 : n < 40
      · go_wp2_with fail
        go_ret
        exact ⟨ret_int (by rw [HG.out, if_pos h40]), rfl⟩
      · go_wp2_with fail
        go_ret
        exact ⟨ret_int (by rw [HG.out, if_neg h40]; rfl), rfl⟩

set_option maxRecDepth 100000 in
set_option maxHeartbeats 400000 in
theorem rused_any (A : Option Addr) (n c : Nat) (l : List Slot) (w : World) (h : SlotsR w w.heap.size A n l) (hc : n ≤ 4611686018427387903) :
    Calls Try.prog 16 #[.slice A n c] w fun e w' => e = .returned (.int .i64 (used l)) ∧ w = w' := by
  go_enter Try.func16, Try.ntmps16
  go_wp2_with fail
  go_loop [4, 3] (fun i u => ∃ k : Nat, k ≤ n ∧ i = .int .i64 k ∧ u = .int .i64 (used (l.take k) : Nat)) (fun i _ => n - (intOf i).toNat)
  case atStart => exact ⟨0, Nat.zero_le _, rfl, rfl⟩
  case round =>
    obtain ⟨k, hkn, rfl, rfl⟩ := hrel
    have hu := used_le (l.take k)
    rw [List.length_take] at hu
    have hu' : used (l.take k) ≤ n := by omega
    clear hu
    by_cases hlt : k < n
    · obtain ⟨b, o, s, tA, tn, tc, rfl, hb, hx, c0, _, _, _⟩ := h.at_ hlt
      have HU := Lib.hid (used_take_succ l k s hx)
      clear hx
      cases hp : (s.kind != 0)
      · go_wp2_with fail
        go_round
        case rel => exact ⟨k + 1, by omega, by go_num, by rw [HU.out, if_pos (by simpa using hp)]; rfl⟩
        case measure => simp [intOf]; omega
      · go_wp2_with fail
        go_round
        case rel => exact ⟨k + 1, by omega, by go_num, by rw [HU.out, if_neg (by simpa using hp)]; go_num⟩
        case measure => simp [intOf]; omega
    · go_wp2_with fail
      go_ret
      exact ⟨ret_int (by rw [used_all (by rw [h.1]; omega)]), rfl⟩

def abcd : ByteArray := { data := #[97, 98, 99, 100] }
def bl : List Slot := [⟨0, { data := #[] }, []⟩, ⟨1, { data := #[97, 98, 99, 100] }, []⟩, ⟨0, { data := #[] }, []⟩, ⟨2, { data := #[] }, [1, 0, -1, 0]⟩]
theorem bl_grab : grabN bl = 2 ∧ grabE bl = 0 ∧ usedN bl = 2 ∧ slotsErr bl = 0 ∧ grabN (bl.take 2) = 2 ∧ grabE (bl.take 2) = 0 := by decide +kernel
theorem bl_read (w : World) (T T' : TypeId) : SlotsR ((w.alloc (.cells #[.int .i64 1, .int .i64 0, .int .i64 (-1), .int .i64 0] T)).alloc (.cells #[.int .i64 0, .string { data := #[] }, .slice none 0 0, .int .i64 1,
          .string { data := #[97, 98, 99, 100] }, .slice none 0 0, .int .i64 0, .string { data := #[] }, .slice none 0 0, .int .i64 2, .string { data := #[] }, .slice (some ⟨w.heap.size, 0, none⟩) 4 4] T')) (w.heap.size + 2)
    (some ⟨w.heap.size + 1, 0, none⟩) 4 bl := by
  have h1 := heap_alloc_new (w.alloc (.cells #[.int .i64 1, .int .i64 0, .int .i64 (-1), .int .i64 0] T)) (.cells #[.int .i64 0, .string { data := #[] }, .slice none 0 0, .int .i64 1,
          .string { data := #[97, 98, 99, 100] }, .slice none 0 0, .int .i64 0, .string { data := #[] }, .slice none 0 0, .int .i64 2, .string { data := #[] }, .slice (some ⟨w.heap.size, 0, none⟩) 4 4] T')
  have h0 := (Below.heap_alloc (w.alloc (.cells #[.int .i64 1, .int .i64 0, .int .i64 (-1), .int .i64 0] T)) (.cells #[.int .i64 0, .string { data := #[] }, .slice none 0 0, .int .i64 1,
          .string { data := #[97, 98, 99, 100] }, .slice none 0 0, .int .i64 0, .string { data := #[] }, .slice none 0 0, .int .i64 2, .string { data := #[] }, .slice (some ⟨w.heap.size, 0, none⟩) 4 4] T') w.heap.size (by simp)).trans (heap_alloc_new w _)
  have hz : (w.alloc (.cells #[.int .i64 1, .int .i64 0, .int .i64 (-1), .int .i64 0] T)).heap.size = w.heap.size + 1 := by simp
  rw [hz] at h1
  refine SlotsR.of_block [⟨⟨0, { data := #[] }, []⟩, none, 0, 0⟩, ⟨⟨1, { data := #[97, 98, 99, 100] }, []⟩, none, 0, 0⟩, ⟨⟨0, { data := #[] }, []⟩, none, 0, 0⟩, ⟨⟨2, { data := #[] }, [1, 0, -1, 0]⟩, some ⟨w.heap.size, 0, none⟩, 4, 4⟩] bl h1 (by omega) rfl rfl rfl ?_
  intro x hx
  simp only [List.mem_cons, List.not_mem_nil, or_false] at hx
  rcases hx with rfl | rfl | rfl | rfl
  · exact ⟨by decide, by decide, by decide, Rd.none_⟩
  · exact ⟨by decide, by decide, by decide, Rd.none_⟩
  · exact ⟨by decide, by decide, by decide, Rd.none_⟩
  · exact ⟨by dsimp only; decide, by dsimp only; decide, by dsimp only; decide, Rd.of_block h0 (by simp) rfl rfl⟩

set_option maxRecDepth 100000 in
theorem slotsBegun_any (w : World) : Calls Try.prog 17 #[] w fun e w' => e = .returned (.bool true) ∧ Below w.heap.size w w' := by
  have hr := bl_read w 3 24
  obtain ⟨g1, g2, g3, g4, g5, g6⟩ := bl_grab
  have HG := fun (W : World) (hr : SlotsR W W.heap.size (some ⟨w.heap.size + 1, 0, none⟩) 4 bl) => grab_any (some ⟨w.heap.size + 1, 0, none⟩) 4 4 bl W hr (by omega) (by omega)
  rw [g1, g2] at HG
  have HU := fun (W : World) (hr : SlotsR W W.heap.size (some ⟨w.heap.size + 1, 0, none⟩) 4 bl) => used_any (some ⟨w.heap.size + 1, 0, none⟩) 4 4 bl W hr (by omega)
  rw [g3, g4] at HU
  have HG2 := fun (W : World) (hr : SlotsR W W.heap.size (some ⟨w.heap.size + 1, 0, none⟩) 4 bl) => grab_any (some ⟨w.heap.size + 1, 0, none⟩) 2 4 (bl.take 2) W (hr.take (by omega)) (by omega) (by omega)
  rw [g5, g6] at HG2
  have H1 := Lib.hid HG
  have H2 := Lib.hid HU
  have H3 := Lib.hid HG2
  have HR := Lib.hid hr
  clear HG HU HG2 g1 g2 g3 g4 g5 g6 hr
  go_enter Try.func17, Try.ntmps17
  go_wp2_with fail
  refine (H1.out _ (HR.out.more (by simp))).mono ?_
  rintro e w1 ⟨rfl, hb1⟩
  go_wp2_with fail
  refine (H2.out _ ((HR.out.below hb1 (by simp)).more (by have := hb1.size; simp at this; omega))).mono ?_
  rintro e w2 ⟨rfl, hb2⟩
  go_wp2_with fail
  refine (H3.out _ (((HR.out.below hb1 (by simp)).below hb2 (by have := hb1.size; simp at this; omega)).more (by have := hb1.size; have := hb2.size; simp at *; omega))).mono ?_
  rintro e w3 ⟨rfl, hb3⟩
  have hz1 := hb1.size
  have hz2 := hb2.size
  have hz3 := hb3.size
  simp at hz1
  have r3 := ((HR.out.below hb1 (by simp)).below hb2 (by omega)).below hb3 (by omega)
  obtain ⟨b, o, s, tA, tn, tc, e1, hb, hx, c0, c1, c2, hs⟩ := r3.at_ (k := 3) (by omega)
  simp only [Option.some.injEq, Addr.mk.injEq, and_true] at e1
  obtain ⟨rfl, rfl⟩ := e1
  have hs' : s = ⟨2, { data := #[] }, [1, 0, -1, 0]⟩ := by simpa [bl] using hx.symm
  subst hs'
  have K1 := scheck_any _ tA tn tc w3 (hs.table.more (by omega)) (Nat.le_trans hs.len hs.cap) hs.data
  rw [show slotFine ⟨2, { data := #[] }, [1, 0, -1, 0]⟩ = true from by decide +kernel] at K1
  have K2 := fun (W : World) T => scheck_any ⟨2, { data := #[] }, [0, 0, 0, 0]⟩ (some ⟨W.heap.size, 0, none⟩) 4 4 (W.alloc (.cells #[.int .i64 0, .int .i64 0, .int .i64 0, .int .i64 0] T)) (Rd.of_block (heap_alloc_new W _) (by simp) rfl rfl) (by decide) (by decide)
  rw [show slotFine ⟨2, { data := #[] }, [0, 0, 0, 0]⟩ = false from by decide +kernel] at K2
  have L1 := Lib.hid K1
  have L2 := Lib.hid K2
  clear K1 K2 r3 hs hx
  go_wp2_with fail
  refine L1.out.mono ?_
  rintro e w4 ⟨rfl, hb4⟩
  unfold errOf
  have hz4 := hb4.size
  go_wp2_with fail
  refine (L2.out _ _).mono ?_
  rintro e w5 ⟨rfl, hb5⟩
  unfold errOf
  have hz5 := hb5.size
  simp at hz5
  go_wp2_with fail
  refine (scheck_no _ _ _ _ _ _ (by decide) (by decide) (by decide)).mono ?_
  rintro e w6 ⟨rfl, hb6⟩
  go_wp2_with fail
  go_ret
  exact ⟨rfl, (below2 w _ _).trans ((((hb1.mono (by simp; omega)).trans (hb2.mono (by omega))).trans ((hb3.mono (by omega)).trans (hb4.mono (by omega)))).trans (((Below.refl _ _).alloc (by omega) _).trans ((hb5.mono (by simp; omega)).trans (hb6.mono (by omega)))))⟩
end Go.Proofs.Ytiodlalfmeeemaa
