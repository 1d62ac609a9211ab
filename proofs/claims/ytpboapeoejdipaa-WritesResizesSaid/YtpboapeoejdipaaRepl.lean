/- slices.Replace at a row of four entries of the call's own, one of them replaced. Conditions: those. -/
import Derived.Test.YtpboapeoejdipaaEntry3
import Derived.StillTailTactics
namespace Go.Proofs.Ytpboapeoejdipaa
open Go.RowKit Sl

theorem splice_one (L : List Value) (k : Nat) (y : Value) (hk : k < 4) (hL : 4 ≤ L.length) : (splice L k [y]).take 4 = (L.take 4).set k y ∧ (splice L k [y]).length = L.length := by
  unfold splice
  refine ⟨?_, by simp; omega⟩
  apply List.ext_getElem?
  intro j
  rw [List.getElem?_take, List.getElem?_set, List.length_take, List.getElem?_take]
  by_cases h4 : j < 4
  · rw [if_pos h4, if_pos h4, List.getElem?_append, List.length_take, Nat.min_eq_left (by omega)]
    by_cases h1 : j < k
    · rw [if_pos h1, if_neg (by omega), List.getElem?_take, if_pos h1]
    · rw [if_neg h1]
      by_cases h2 : k = j
      · subst h2
        rw [if_pos rfl, if_pos (by omega), Nat.sub_self]; rfl
      · rw [if_neg h2, show j - k = (j - k - 1) + 1 from by omega, List.singleton_append, List.getElem?_cons_succ, List.getElem?_drop]
        congr 1
        simp; omega
  · rw [if_neg h4, if_neg h4]
    by_cases h2 : k = j
    · omega
    · rw [if_neg h2]
theorem splice_self (L : List Value) (k : Nat) (hk : k ≤ 4) (hL : 4 ≤ L.length) : splice L k ((L.take 4).drop k) = L := by
  unfold splice
  rw [List.length_drop, List.length_take, Nat.min_eq_left hL, show k + (4 - k) = 4 from by omega]
  have : L.take k = (L.take 4).take k := by rw [List.take_take, Nat.min_eq_left hk]
  rw [this, ← List.append_assoc, List.take_append_drop, List.take_append_drop]

theorem clear_none (A : Option Addr) (n : Nat) (W : World) : (Builtin.clear_ #[22] 0 #[.slice A 0 n]).run Try.prog W = .ok (.tuple #[]) W := by
  cases A <;> simp [Builtin.clear_, run_underlying Try.underlying22]

set_option maxRecDepth 100000 in
set_option maxHeartbeats 1000000 in
theorem replace_0 (g vb vc c base : Nat) (t : List Int) (y : Int) (w : World) (h : w.ownsRow base 3 1 (.slice (some ⟨g, 0, none⟩) 4 c) 4 (ints t)) (hv : Rd w w.heap.size 1 (some ⟨vb, 0, none⟩) 1 (ints [y])) (hc : 4 ≤ c) (hm : c ≤ maxLen) :
    Calls Try.prog 98 #[.slice (some ⟨g, 0, none⟩) 4 c, .int .i64 0, .int .i64 1, .slice (some ⟨vb, 0, none⟩) 1 vc] w (OwnRes base 3 1 4 (ints (t.set 0 y)) w) := by
  obtain ⟨cur, hh, hcs, htk⟩ : ∃ cur : Array Value, w.heap[g]? = some (.cells cur 3 (0, 0)) ∧ cur.size = c ∧ cur.toList.take 4 = ints t := by
    rcases h.2 with ⟨h', _⟩ | ⟨g', cap', cur, h', hb, hg, hnc, hcm, hcs, htake⟩
    · simp at h'
    · simp only [Value.slice.injEq, Option.some.injEq, Addr.mk.injEq, and_true, true_and] at h'
      obtain ⟨rfl, rfl⟩ := h'
      exact ⟨cur, hg, by simpa using hcs, by simpa using htake⟩
  have c0 : ¬ c = 0 := by omega
  have c1 : ¬ c = 1 := by omega
  have c2 : ¬ c = 1 := by omega
  have c1' : (1 : Int) ≤ c := by omega
  have c4 : (4 : Int) ≤ c := by omega
  go_enter Try.func98, Try.ntmps98
  go_wp2_with fail
  go_quiet (fail)
  rename_i nq
  obtain ⟨W0, hW0⟩ : ∃ W0, w.drewN nq = W0 := ⟨_, rfl⟩
  rw [hW0]
  have hh0 : W0.heap[g]? = some (.cells cur 3 (0, 0)) := by rw [← hW0]; exact hh
  have hv0 : Rd W0 w.heap.size 1 (some ⟨vb, 0, none⟩) 1 (ints [y]) := by rw [← hW0]; exact hv
  obtain ⟨W1, a1, a2, a3⟩ := run_cp (P := Try.prog) W0 22 22 3 3 Try.underlying22 (by kernel_rfl) g 0 4 c (some ⟨g, 0, none⟩) (some ⟨vb, 0, none⟩) 1 vc cur 3 hh0 _ (ints [y]) hv0 (fun _ => rfl) (by omega) (by omega) (oneCell_ints _)
  have HC1 := Lib.hid a1
  have HW0 := Lib.hid hW0
  have A2 := Lib.hid a2
  clear a1 hW0 a2
  go_wp2_with (refine wpList_cp rfl _ _ _ _ _ rfl rfl rfl rfl HC1.out ?_)
  have hlen : 4 ≤ cur.toList.length := by rw [Array.length_toList, hcs]; exact hc
  obtain ⟨u1, u2⟩ := splice_one cur.toList 0 (.int .i64 y) (by omega) hlen
  rw [htk] at u1
  have e1 : (ints t).set 0 (.int .i64 y) = ints (t.set 0 y) := ints_set t 0 y
  rw [e1] at u1
  have a2 := A2.out
  rw [show ints [y] = [Value.int .i64 y] from rfl] at a2
  generalize splice cur.toList 0 [Value.int .i64 y] = L at a2 u1 u2
  have hL4 : 4 ≤ L.length := by omega
  have hrd : Rd W1.drew W1.heap.size 1 (some ⟨g, 1, none⟩) 3 ((L.take 4).drop 1) := by
    refine ⟨by simp; omega, fun _ => ⟨g, 1, rfl, (Array.getElem?_eq_some_iff.1 a2).1, fun j u hu => ?_⟩⟩
    have hj : j < 3 := by have := (List.getElem?_eq_some_iff.1 hu).1; simp at this; omega
    rw [List.getElem?_drop, List.getElem?_take, if_pos (by omega)] at hu
    show W1.cell? _ = _
    rw [cell_of_row _ _ _ _ _ _ a2, List.getElem?_toArray]
    exact hu
  have h1c : ∀ v ∈ (L.take 4).drop 1, v.oneCell' = true := by
    intro v hv; rw [u1] at hv; exact oneCell_ints _ v (List.mem_of_mem_drop hv)
  obtain ⟨W2, b1, b2, b3⟩ := run_cp (P := Try.prog) W1.drew 22 22 3 3 Try.underlying22 (by kernel_rfl) g 1 3 (c - 1) (some ⟨g, 1, none⟩) (some ⟨g, 1, none⟩) 3 (c - 1) L.toArray 3 a2 _ _ hrd (fun _ => rfl) (by omega) (by simp; omega) h1c
  rw [splice_self L 1 (by omega) hL4] at b2
  have hgb : base ≤ g := by
    rcases h.2 with ⟨h', _⟩ | ⟨g', cap', cur', h', hb, _⟩
    · simp at h'
    · simp only [Value.slice.injEq, Option.some.injEq, Addr.mk.injEq, and_true, true_and] at h'
      obtain ⟨rfl, rfl⟩ := h'
      exact hb
  have HO : Hid (W2.ownsRow base 3 1 (.slice (some ⟨g, 0, none⟩) 4 c) 4 (ints (t.set 0 y))) := by
    have hlc : L.length = c := by rw [u2, Array.length_toList, hcs]
    refine ⟨by have := h.1; simp [ints] at this ⊢; exact this, Or.inr ⟨g, c, L.toArray, rfl, hgb, b2, hc, hm, by simp [hlc], by simpa using u1⟩⟩
  have HB : Hid (Below base w W2) := by
    have h0 : Below base w W0 := by rw [← HW0.out]; exact ⟨rfl, rfl, rfl, Nat.le_refl _, fun _ _ => rfl⟩
    exact b3.below (a3.below h0 hgb).drew hgb
  have HC2 := Lib.hid b1
  clear b1 b2 a2 hrd h1c u2 e1
  have hwr : IntKind.i64.wrap 1 = 1 := by decide
  go_still_tail 9, (by kernel_rfl)
  refine wpList_cp rfl _ _ _ _ _ rfl rfl rfl rfl HC2.out ?_
  clear hwr
  have hcl := fun A n W => clear_none A n W
  go_wp2_with fail
  all_goals
    go_ret
    exact ⟨some ⟨g, 0, none⟩, c, by first | rfl | simp_all, HO.out, HB.out, hc, hm⟩
set_option maxRecDepth 100000 in
set_option maxHeartbeats 1000000 in
theorem replace_1 (g vb vc c base : Nat) (t : List Int) (y : Int) (w : World) (h : w.ownsRow base 3 1 (.slice (some ⟨g, 0, none⟩) 4 c) 4 (ints t)) (hv : Rd w w.heap.size 1 (some ⟨vb, 0, none⟩) 1 (ints [y])) (hc : 4 ≤ c) (hm : c ≤ maxLen) :
    Calls Try.prog 98 #[.slice (some ⟨g, 0, none⟩) 4 c, .int .i64 1, .int .i64 2, .slice (some ⟨vb, 0, none⟩) 1 vc] w (OwnRes base 3 1 4 (ints (t.set 1 y)) w) := by
  obtain ⟨cur, hh, hcs, htk⟩ : ∃ cur : Array Value, w.heap[g]? = some (.cells cur 3 (0, 0)) ∧ cur.size = c ∧ cur.toList.take 4 = ints t := by
    rcases h.2 with ⟨h', _⟩ | ⟨g', cap', cur, h', hb, hg, hnc, hcm, hcs, htake⟩
    · simp at h'
    · simp only [Value.slice.injEq, Option.some.injEq, Addr.mk.injEq, and_true, true_and] at h'
      obtain ⟨rfl, rfl⟩ := h'
      exact ⟨cur, hg, by simpa using hcs, by simpa using htake⟩
  have c0 : ¬ c = 0 := by omega
  have c1 : ¬ c = 1 := by omega
  have c2 : ¬ c = 2 := by omega
  have c1' : (2 : Int) ≤ c := by omega
  have c4 : (4 : Int) ≤ c := by omega
  go_enter Try.func98, Try.ntmps98
  go_wp2_with fail
  go_quiet (fail)
  rename_i nq
  obtain ⟨W0, hW0⟩ : ∃ W0, w.drewN nq = W0 := ⟨_, rfl⟩
  rw [hW0]
  have hh0 : W0.heap[g]? = some (.cells cur 3 (0, 0)) := by rw [← hW0]; exact hh
  have hv0 : Rd W0 w.heap.size 1 (some ⟨vb, 0, none⟩) 1 (ints [y]) := by rw [← hW0]; exact hv
  obtain ⟨W1, a1, a2, a3⟩ := run_cp (P := Try.prog) W0 22 22 3 3 Try.underlying22 (by kernel_rfl) g 1 3 (c - 1) (some ⟨g, 1, none⟩) (some ⟨vb, 0, none⟩) 1 vc cur 3 hh0 _ (ints [y]) hv0 (fun _ => rfl) (by omega) (by omega) (oneCell_ints _)
  have HC1 := Lib.hid a1
  have HW0 := Lib.hid hW0
  have A2 := Lib.hid a2
  clear a1 hW0 a2
  go_wp2_with (refine wpList_cp rfl _ _ _ _ _ rfl rfl rfl rfl HC1.out ?_)
  have hlen : 4 ≤ cur.toList.length := by rw [Array.length_toList, hcs]; exact hc
  obtain ⟨u1, u2⟩ := splice_one cur.toList 1 (.int .i64 y) (by omega) hlen
  rw [htk] at u1
  have e1 : (ints t).set 1 (.int .i64 y) = ints (t.set 1 y) := ints_set t 1 y
  rw [e1] at u1
  have a2 := A2.out
  rw [show ints [y] = [Value.int .i64 y] from rfl] at a2
  generalize splice cur.toList 1 [Value.int .i64 y] = L at a2 u1 u2
  have hL4 : 4 ≤ L.length := by omega
  have hrd : Rd W1.drew W1.heap.size 1 (some ⟨g, 2, none⟩) 2 ((L.take 4).drop 2) := by
    refine ⟨by simp; omega, fun _ => ⟨g, 2, rfl, (Array.getElem?_eq_some_iff.1 a2).1, fun j u hu => ?_⟩⟩
    have hj : j < 2 := by have := (List.getElem?_eq_some_iff.1 hu).1; simp at this; omega
    rw [List.getElem?_drop, List.getElem?_take, if_pos (by omega)] at hu
    show W1.cell? _ = _
    rw [cell_of_row _ _ _ _ _ _ a2, List.getElem?_toArray]
    exact hu
  have h1c : ∀ v ∈ (L.take 4).drop 2, v.oneCell' = true := by
    intro v hv; rw [u1] at hv; exact oneCell_ints _ v (List.mem_of_mem_drop hv)
  obtain ⟨W2, b1, b2, b3⟩ := run_cp (P := Try.prog) W1.drew 22 22 3 3 Try.underlying22 (by kernel_rfl) g 2 2 (c - 2) (some ⟨g, 2, none⟩) (some ⟨g, 2, none⟩) 2 (c - 2) L.toArray 3 a2 _ _ hrd (fun _ => rfl) (by omega) (by simp; omega) h1c
  rw [splice_self L 2 (by omega) hL4] at b2
  have hgb : base ≤ g := by
    rcases h.2 with ⟨h', _⟩ | ⟨g', cap', cur', h', hb, _⟩
    · simp at h'
    · simp only [Value.slice.injEq, Option.some.injEq, Addr.mk.injEq, and_true, true_and] at h'
      obtain ⟨rfl, rfl⟩ := h'
      exact hb
  have HO : Hid (W2.ownsRow base 3 1 (.slice (some ⟨g, 0, none⟩) 4 c) 4 (ints (t.set 1 y))) := by
    have hlc : L.length = c := by rw [u2, Array.length_toList, hcs]
    refine ⟨by have := h.1; simp [ints] at this ⊢; exact this, Or.inr ⟨g, c, L.toArray, rfl, hgb, b2, hc, hm, by simp [hlc], by simpa using u1⟩⟩
  have HB : Hid (Below base w W2) := by
    have h0 : Below base w W0 := by rw [← HW0.out]; exact ⟨rfl, rfl, rfl, Nat.le_refl _, fun _ _ => rfl⟩
    exact b3.below (a3.below h0 hgb).drew hgb
  have HC2 := Lib.hid b1
  clear b1 b2 a2 hrd h1c u2 e1
  have hwr : IntKind.i64.wrap 2 = 2 := by decide
  go_still_tail 9, (by kernel_rfl)
  refine wpList_cp rfl _ _ _ _ _ rfl rfl rfl rfl HC2.out ?_
  clear hwr
  have hcl := fun A n W => clear_none A n W
  go_wp2_with fail
  all_goals
    go_ret
    exact ⟨some ⟨g, 0, none⟩, c, by first | rfl | simp_all, HO.out, HB.out, hc, hm⟩
set_option maxRecDepth 100000 in
set_option maxHeartbeats 1000000 in
theorem replace_2 (g vb vc c base : Nat) (t : List Int) (y : Int) (w : World) (h : w.ownsRow base 3 1 (.slice (some ⟨g, 0, none⟩) 4 c) 4 (ints t)) (hv : Rd w w.heap.size 1 (some ⟨vb, 0, none⟩) 1 (ints [y])) (hc : 4 ≤ c) (hm : c ≤ maxLen) :
    Calls Try.prog 98 #[.slice (some ⟨g, 0, none⟩) 4 c, .int .i64 2, .int .i64 3, .slice (some ⟨vb, 0, none⟩) 1 vc] w (OwnRes base 3 1 4 (ints (t.set 2 y)) w) := by
  obtain ⟨cur, hh, hcs, htk⟩ : ∃ cur : Array Value, w.heap[g]? = some (.cells cur 3 (0, 0)) ∧ cur.size = c ∧ cur.toList.take 4 = ints t := by
    rcases h.2 with ⟨h', _⟩ | ⟨g', cap', cur, h', hb, hg, hnc, hcm, hcs, htake⟩
    · simp at h'
    · simp only [Value.slice.injEq, Option.some.injEq, Addr.mk.injEq, and_true, true_and] at h'
      obtain ⟨rfl, rfl⟩ := h'
      exact ⟨cur, hg, by simpa using hcs, by simpa using htake⟩
  have c0 : ¬ c = 0 := by omega
  have c1 : ¬ c = 2 := by omega
  have c2 : ¬ c = 3 := by omega
  have c1' : (3 : Int) ≤ c := by omega
  have c4 : (4 : Int) ≤ c := by omega
  go_enter Try.func98, Try.ntmps98
  go_wp2_with fail
  go_quiet (fail)
  rename_i nq
  obtain ⟨W0, hW0⟩ : ∃ W0, w.drewN nq = W0 := ⟨_, rfl⟩
  rw [hW0]
  have hh0 : W0.heap[g]? = some (.cells cur 3 (0, 0)) := by rw [← hW0]; exact hh
  have hv0 : Rd W0 w.heap.size 1 (some ⟨vb, 0, none⟩) 1 (ints [y]) := by rw [← hW0]; exact hv
  obtain ⟨W1, a1, a2, a3⟩ := run_cp (P := Try.prog) W0 22 22 3 3 Try.underlying22 (by kernel_rfl) g 2 2 (c - 2) (some ⟨g, 2, none⟩) (some ⟨vb, 0, none⟩) 1 vc cur 3 hh0 _ (ints [y]) hv0 (fun _ => rfl) (by omega) (by omega) (oneCell_ints _)
  have HC1 := Lib.hid a1
  have HW0 := Lib.hid hW0
  have A2 := Lib.hid a2
  clear a1 hW0 a2
  go_wp2_with (refine wpList_cp rfl _ _ _ _ _ rfl rfl rfl rfl HC1.out ?_)
  have hlen : 4 ≤ cur.toList.length := by rw [Array.length_toList, hcs]; exact hc
  obtain ⟨u1, u2⟩ := splice_one cur.toList 2 (.int .i64 y) (by omega) hlen
  rw [htk] at u1
  have e1 : (ints t).set 2 (.int .i64 y) = ints (t.set 2 y) := ints_set t 2 y
  rw [e1] at u1
  have a2 := A2.out
  rw [show ints [y] = [Value.int .i64 y] from rfl] at a2
  generalize splice cur.toList 2 [Value.int .i64 y] = L at a2 u1 u2
  have hL4 : 4 ≤ L.length := by omega
  have hrd : Rd W1.drew W1.heap.size 1 (some ⟨g, 3, none⟩) 1 ((L.take 4).drop 3) := by
    refine ⟨by simp; omega, fun _ => ⟨g, 3, rfl, (Array.getElem?_eq_some_iff.1 a2).1, fun j u hu => ?_⟩⟩
    have hj : j < 1 := by have := (List.getElem?_eq_some_iff.1 hu).1; simp at this; omega
    rw [List.getElem?_drop, List.getElem?_take, if_pos (by omega)] at hu
    show W1.cell? _ = _
    rw [cell_of_row _ _ _ _ _ _ a2, List.getElem?_toArray]
    exact hu
  have h1c : ∀ v ∈ (L.take 4).drop 3, v.oneCell' = true := by
    intro v hv; rw [u1] at hv; exact oneCell_ints _ v (List.mem_of_mem_drop hv)
  obtain ⟨W2, b1, b2, b3⟩ := run_cp (P := Try.prog) W1.drew 22 22 3 3 Try.underlying22 (by kernel_rfl) g 3 1 (c - 3) (some ⟨g, 3, none⟩) (some ⟨g, 3, none⟩) 1 (c - 3) L.toArray 3 a2 _ _ hrd (fun _ => rfl) (by omega) (by simp; omega) h1c
  rw [splice_self L 3 (by omega) hL4] at b2
  have hgb : base ≤ g := by
    rcases h.2 with ⟨h', _⟩ | ⟨g', cap', cur', h', hb, _⟩
    · simp at h'
    · simp only [Value.slice.injEq, Option.some.injEq, Addr.mk.injEq, and_true, true_and] at h'
      obtain ⟨rfl, rfl⟩ := h'
      exact hb
  have HO : Hid (W2.ownsRow base 3 1 (.slice (some ⟨g, 0, none⟩) 4 c) 4 (ints (t.set 2 y))) := by
    have hlc : L.length = c := by rw [u2, Array.length_toList, hcs]
    refine ⟨by have := h.1; simp [ints] at this ⊢; exact this, Or.inr ⟨g, c, L.toArray, rfl, hgb, b2, hc, hm, by simp [hlc], by simpa using u1⟩⟩
  have HB : Hid (Below base w W2) := by
    have h0 : Below base w W0 := by rw [← HW0.out]; exact ⟨rfl, rfl, rfl, Nat.le_refl _, fun _ _ => rfl⟩
    exact b3.below (a3.below h0 hgb).drew hgb
  have HC2 := Lib.hid b1
  clear b1 b2 a2 hrd h1c u2 e1
  have hwr : IntKind.i64.wrap 3 = 3 := by decide
  go_still_tail 9, (by kernel_rfl)
  refine wpList_cp rfl _ _ _ _ _ rfl rfl rfl rfl HC2.out ?_
  clear hwr
  have hcl := fun A n W => clear_none A n W
  go_wp2_with fail
  all_goals
    go_ret
    exact ⟨some ⟨g, 0, none⟩, c, by first | rfl | simp_all, HO.out, HB.out, hc, hm⟩

set_option maxRecDepth 100000 in
set_option maxHeartbeats 1000000 in
theorem replace_3 (g vb vc c base : Nat) (t : List Int) (y : Int) (w : World) (h : w.ownsRow base 3 1 (.slice (some ⟨g, 0, none⟩) 4 c) 4 (ints t)) (hv : Rd w w.heap.size 1 (some ⟨vb, 0, none⟩) 1 (ints [y])) (hc : 4 ≤ c) (hbs : base ≤ w.heap.size) :
    Calls Try.prog 98 #[.slice (some ⟨g, 0, none⟩) 4 c, .int .i64 3, .int .i64 4, .slice (some ⟨vb, 0, none⟩) 1 vc] w (OwnRes base 3 1 4 (ints (t.set 3 y)) w) := by
  obtain ⟨i0, hi0, hz0, hz1, hz2⟩ := info_parts Try.infoInt
  have hl : t.length = 4 := by have := h.1; simp [ints] at this; omega
  have h3 : w.ownsRow base 3 1 (.slice (some ⟨g, 0, none⟩) 3 c) 3 (ints (t.take 3)) := by
    refine ⟨by simp [ints]; omega, ?_⟩
    rcases h.2 with ⟨h', _⟩ | ⟨g', cap', cur, h', hb, hg, hnc, hcm, hcs, htake⟩
    · simp at h'
    · simp only [Value.slice.injEq, Option.some.injEq, Addr.mk.injEq, and_true, true_and] at h'
      obtain ⟨rfl, rfl⟩ := h'
      refine Or.inr ⟨g, c, cur, rfl, hb, hg, by omega, hcm, hcs, ?_⟩
      rw [← ints_take, ← htake, List.take_take]
      rfl
  obtain ⟨A', c', w', q1, q2, q3, q4, q5, _, _⟩ := run_app (P := Try.prog) w base 22 22 3 i0 _ 1 8 Try.underlying22 hi0 hz0 hz1 hz2 rfl (by omega) _ 3 _ h3 w.heap.size (some ⟨vb, 0, none⟩) 1 vc _ hv (oneCell_ints _) (by omega) (by unfold maxLen; omega) hbs
  have hs : ints (t.take 3) ++ ints [y] = ints (t.set 3 y) := by
    match t, hl with
    | [a, b, d, e], _ => rfl
  rw [hs] at q2
  have HR := Lib.hid q1
  have HO := Lib.hid q2
  have c4 : (4 : Int) ≤ c := by omega
  have c3 : (3 : Int) ≤ c := by omega
  have c0 : ¬ c = 0 := by omega
  have c3' : ¬ c = 3 := by omega
  clear h h3 q1 q2 hv hs hl
  go_enter Try.func98, Try.ntmps98
  go_wp2_with (at_builtin; refine wpList_app rfl _ _ _ _ rfl rfl rfl rfl HR.out ?_)
  go_ret
  exact ⟨A', c', rfl, HO.out, q3, q4, q5⟩
end Go.Proofs.Ytpboapeoejdipaa
