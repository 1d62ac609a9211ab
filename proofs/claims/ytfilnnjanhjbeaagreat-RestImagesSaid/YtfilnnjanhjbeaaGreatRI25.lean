/- Texts of the proof of restImages_holds: Repl. Conditions: as each text says. -/
import Derived.Test.YtfilnnjanhjbeaaGreatRI4
import Derived.Test.YtfilnnjanhjbeaaGreatRI24
import Derived.Test.YtfilnnjanhjbeaaGreatRI3
import Derived.StillTailTactics
import Derived.Test.YtfilnnjanhjbeaaGreatRI13
namespace Go.Proofs.YtfilnnjanhjbeaaGreat
open Go.RowKit Sl
theorem own_some_ {w : World} {base size n c : Nat} {e : TypeId} {A : Option Addr} {xs : List Value} (h : w.ownsRow base e size (.slice A n c) n xs) (hn : 0 < n) : ∃ g, A = some ⟨g, 0, none⟩ ∧ base ≤ g ∧ g < w.heap.size := by
  rcases h.2 with ⟨hv, rfl⟩ | ⟨g, cap, cur, hv, hb, hh, _⟩
  · omega
  · simp only [Value.slice.injEq] at hv
    obtain ⟨rfl, _, _⟩ := hv
    exact ⟨g, rfl, hb, (Array.getElem?_eq_some_iff.1 hh).1⟩
def IntsPair (base : Nat) (xs : List Int) (er : Int) (w : World) (e : Ending) (w' : World) : Prop :=
  ∃ A n c, e = .returned (.tuple #[.slice A n c, .int .i64 er]) ∧ w'.ownsRow base 3 1 (.slice A n c) n (ints xs) ∧ Below base w w' ∧ n ≤ c ∧ c ≤ maxLen
theorem IntsPair.mk_nil {base : Nat} {xs : List Int} {er er' : Int} {w w' : World} (hx : xs = []) (he : er = er') (hb : Below base w w') : IntsPair base xs er w (.returned (.tuple #[.slice none 0 0, .int .i64 er'])) w' := by
  subst hx; subst he
  exact ⟨none, 0, 0, rfl, World.ownsRow_nil _ _ _ _, hb, Nat.le_refl _, by simp⟩
theorem oneCell_ints (l : List Int) : ∀ u ∈ ints l, u.oneCell' = true := by
  intro u hu
  obtain ⟨s, _, rfl⟩ := List.mem_map.1 hu
  rfl
theorem ints_take (l : List Int) (k : Nat) : (ints l).take k = ints (l.take k) := by simp [ints, List.map_take]
set_option maxRecDepth 100000 in
set_option maxHeartbeats 1000000 in
theorem ecut_any (A : Option Addr) (n c : Nat) (t : List Int) (x : Int) (w : World) (h : Rd w w.heap.size 1 A n (ints t)) (hn : n ≤ c) (hc : n ≤ maxLen) :
    Calls Tryz.prog 54 #[.slice A n c, .int .i64 x] w (IntsPair w.heap.size (cutV t x) (cutE t x) w) := by
  have HK := Lib.hid (echeck_any A n c w.heap.size t w h hc)
  by_cases he : entriesErr t = 0
  · rw [he] at HK
    obtain ⟨l4, _⟩ := entriesErr_is he
    have hln := h.len
    by_cases hx : 0 ≤ x ∧ x ≤ 4
    · obtain ⟨m, rfl⟩ := Int.eq_ofNat_of_zero_le hx.1
      have hm4 : m ≤ 4 := by omega
      have R := Lib.hid (cut_ok (m := m) he hm4)
      have hsl := fun W => run_upto (P := Tryz.prog) 22 3 1 Tryz.underlying22 (fun W => by kernel_rfl) A n c m (by omega) W
      have hmk : ∀ W : World, (Instr.makeSlice 22 (.int .i64 4) (.int .i64 4)).run Tryz.prog W = .ok (.slice (some ⟨W.heap.size, 0, none⟩) 4 4) (W.alloc (.cells #[.int .i64 0, .int .i64 0, .int .i64 0, .int .i64 0] 3)) := fun _ => by kernel_rfl
      have ht := h.take (k := m) (by omega)
      rw [Nat.mul_one, ints_take] at ht
      obtain ⟨W2, c1, c2, c3⟩ := run_cp (P := Tryz.prog) (w.alloc (.cells #[.int .i64 0, .int .i64 0, .int .i64 0, .int .i64 0] 3)) 22 22 3 3 Tryz.underlying22 (by kernel_rfl) w.heap.size 0 4 4 (some ⟨w.heap.size, 0, none⟩) A m c
        #[.int .i64 0, .int .i64 0, .int .i64 0, .int .i64 0] 3 (heap_alloc_new w _) w.heap.size (ints (t.take m)) (ht.below ((Below.refl _ _).alloc (Nat.le_refl _) _) (Nat.le_refl _)) (fun _ => rfl) hm4 (by simp; omega) (oneCell_ints _)
      have hfin : splice [Value.int .i64 0, .int .i64 0, .int .i64 0, .int .i64 0] 0 (ints (t.take m)) = ints (cutL t m) := by
        unfold splice cutL ints
        rw [List.take_zero, List.nil_append, List.map_append, List.map_replicate, List.length_map, List.length_take, Nat.zero_add, l4, Nat.min_eq_left hm4]
        congr 1
        rw [show ([Value.int .i64 0, .int .i64 0, .int .i64 0, .int .i64 0] : List Value) = List.replicate 4 (.int .i64 0) from rfl, List.drop_replicate]
      have hb2 := c3.below ((Below.refl w.heap.size w).alloc (Nat.le_refl _) _) (Nat.le_refl _)
      rw [show (#[Value.int .i64 0, .int .i64 0, .int .i64 0, .int .i64 0] : Array Value).toList = [Value.int .i64 0, .int .i64 0, .int .i64 0, .int .i64 0] from rfl, hfin] at c2
      have ho := own_of_block (base := w.heap.size) c2 (Nat.le_refl _) (n := 4) (by simp [ints, cutL]; omega) (by unfold maxLen; omega)
      have HO := Lib.hid ho
      have HC := Lib.hid c1
      clear h he hx ht l4 hln ho c1 c2 c3 hfin
      go_enter Tryz.func54, Tryz.ntmps54
      go_wp2_with (first | (go_at_call 82; refine HK.out.mono ?_; rintro e w1 ⟨rfl, rfl⟩) | (refine wpList_cp rfl _ _ _ _ _ rfl rfl rfl rfl HC.out ?_))
      go_ret2
      exact ⟨_, 4, 4, by rw [R.out.1]; rfl, by rw [R.out.2]; exact HO.out, hb2, Nat.le_refl _, by unfold maxLen; omega⟩
    · have R := Lib.hid (cut_out (n := x) he hx)
      clear h he hln l4
      have hx' : x < 0 ∨ (0 ≤ x ∧ 4 < x) := by omega
      rcases hx' with hx' | ⟨hx1, hx2⟩
      all_goals
        go_enter Tryz.func54, Tryz.ntmps54
        go_wp2_with (go_at_call 82; refine HK.out.mono ?_; rintro e w1 ⟨rfl, rfl⟩)
        go_ret2
        exact IntsPair.mk_nil R.out.2 R.out.1 (Below.refl _ _)
  · have R := Lib.hid (cut_no (n := x) he)
    have he' : (entriesErr t != 0) = true := by simpa using he
    clear h he
    go_enter Tryz.func54, Tryz.ntmps54
    go_wp2_with (go_at_call 82; refine HK.out.mono ?_; rintro e w1 ⟨rfl, rfl⟩)
    go_ret2
    exact IntsPair.mk_nil R.out.2 R.out.1 (Below.refl _ _)
theorem ints_set (t : List Int) (k : Nat) (e : Int) : (ints t).set k (.int .i64 e) = ints (t.set k e) := by simp [ints, List.map_set]
end Go.Proofs.YtfilnnjanhjbeaaGreat
namespace Go.Proofs.YtfilnnjanhjbeaaGreat
open Go.RowKit Sl
theorem splice_one (L : List Value) (k : Nat) (y : Value) (hk : k < 4) (hL : 4 ≤ L.length) : (splice L k [y]).take 4 = (L.take 4).set k y ∧ (splice L k [y]).length = L.length := by
  unfold splice
  refine ⟨?_, by simp; omega⟩
  apply List.ext_getElem?
  intro j
  rw [List.getElem?_take, List.getElem?_set, List.length_take, List.getElem?_take]
  by_cases h4 : j < 4
  · rw [if_pos h4, if_pos h4, List.getElem?_append, List.length_take, Nat.min_eq_left (by omega)]
    by_cases h1 : j < k
    · rw [if_pos h1, if_neg (by omega), List.getElem?_take, if_pos h1]
    · rw [if_neg h1]
      by_cases h2 : k = j
      · subst h2
        rw [if_pos rfl, if_pos (by omega), Nat.sub_self]; rfl
      · rw [if_neg h2, show j - k = (j - k - 1) + 1 from by omega, List.singleton_append, List.getElem?_cons_succ, List.getElem?_drop]
        congr 1
        simp; omega
  · rw [if_neg h4, if_neg h4]
    by_cases h2 : k = j
    · omega
    · rw [if_neg h2]
theorem splice_self (L : List Value) (k : Nat) (hk : k ≤ 4) (hL : 4 ≤ L.length) : splice L k ((L.take 4).drop k) = L := by
  unfold splice
  rw [List.length_drop, List.length_take, Nat.min_eq_left hL, show k + (4 - k) = 4 from by omega]
  have : L.take k = (L.take 4).take k := by rw [List.take_take, Nat.min_eq_left hk]
  rw [this, ← List.append_assoc, List.take_append_drop, List.take_append_drop]
theorem clear_none (A : Option Addr) (n : Nat) (W : World) : (Builtin.clear_ #[22] 0 #[.slice A 0 n]).run Tryz.prog W = .ok (.tuple #[]) W := by
  cases A <;> simp [Builtin.clear_, run_underlying Tryz.underlying22]
set_option maxRecDepth 100000 in
set_option maxHeartbeats 1000000 in
theorem replace_0 (g vb vc c base : Nat) (t : List Int) (y : Int) (w : World) (h : w.ownsRow base 3 1 (.slice (some ⟨g, 0, none⟩) 4 c) 4 (ints t)) (hv : Rd w w.heap.size 1 (some ⟨vb, 0, none⟩) 1 (ints [y])) (hc : 4 ≤ c) (hm : c ≤ maxLen) :
    Calls Tryz.prog 98 #[.slice (some ⟨g, 0, none⟩) 4 c, .int .i64 0, .int .i64 1, .slice (some ⟨vb, 0, none⟩) 1 vc] w (OwnRes base 3 1 4 (ints (t.set 0 y)) w) := by
  obtain ⟨cur, hh, hcs, htk⟩ : ∃ cur : Array Value, w.heap[g]? = some (.cells cur 3 (0, 0)) ∧ cur.size = c ∧ cur.toList.take 4 = ints t := by
    rcases h.2 with ⟨h', _⟩ | ⟨g', cap', cur, h', hb, hg, hnc, hcm, hcs, htake⟩
    · simp at h'
    · simp only [Value.slice.injEq, Option.some.injEq, Addr.mk.injEq, and_true, true_and] at h'
      obtain ⟨rfl, rfl⟩ := h'
      exact ⟨cur, hg, by simpa using hcs, by simpa using htake⟩
  have c0 : ¬ c = 0 := by omega
  have c1 : ¬ c = 1 := by omega
  have c2 : ¬ c = 1 := by omega
  have c1' : (1 : Int) ≤ c := by omega
  have c4 : (4 : Int) ≤ c := by omega
  go_enter Tryz.func98, Tryz.ntmps98
  go_wp2_with fail
  go_quiet (fail)
  rename_i nq
  obtain ⟨W0, hW0⟩ : ∃ W0, w.drewN nq = W0 := ⟨_, rfl⟩
  rw [hW0]
  have hh0 : W0.heap[g]? = some (.cells cur 3 (0, 0)) := by rw [← hW0]; exact hh
  have hv0 : Rd W0 w.heap.size 1 (some ⟨vb, 0, none⟩) 1 (ints [y]) := by rw [← hW0]; exact hv
  obtain ⟨W1, a1, a2, a3⟩ := run_cp (P := Tryz.prog) W0 22 22 3 3 Tryz.underlying22 (by kernel_rfl) g 0 4 c (some ⟨g, 0, none⟩) (some ⟨vb, 0, none⟩) 1 vc cur 3 hh0 _ (ints [y]) hv0 (fun _ => rfl) (by omega) (by omega) (oneCell_ints _)
  have HC1 := Lib.hid a1
  have HW0 := Lib.hid hW0
  have A2 := Lib.hid a2
  clear a1 hW0 a2
  go_wp2_with (refine wpList_cp rfl _ _ _ _ _ rfl rfl rfl rfl HC1.out ?_)
  have hlen : 4 ≤ cur.toList.length := by rw [Array.length_toList, hcs]; exact hc
  obtain ⟨u1, u2⟩ := splice_one cur.toList 0 (.int .i64 y) (by omega) hlen
  rw [htk] at u1
  have e1 : (ints t).set 0 (.int .i64 y) = ints (t.set 0 y) := ints_set t 0 y
  rw [e1] at u1
  have a2 := A2.out
  rw [show ints [y] = [Value.int .i64 y] from rfl] at a2
  generalize splice cur.toList 0 [Value.int .i64 y] = L at a2 u1 u2
  have hL4 : 4 ≤ L.length := by omega
  have hrd : Rd W1.drew W1.heap.size 1 (some ⟨g, 1, none⟩) 3 ((L.take 4).drop 1) := by
    refine ⟨by simp; omega, fun _ => ⟨g, 1, rfl, (Array.getElem?_eq_some_iff.1 a2).1, fun j u hu => ?_⟩⟩
    have hj : j < 3 := by have := (List.getElem?_eq_some_iff.1 hu).1; simp at this; omega
    rw [List.getElem?_drop, List.getElem?_take, if_pos (by omega)] at hu
    show W1.cell? _ = _
    rw [cell_of_row _ _ _ _ _ _ a2, List.getElem?_toArray]
    exact hu
  have h1c : ∀ v ∈ (L.take 4).drop 1, v.oneCell' = true := by
    intro v hv; rw [u1] at hv; exact oneCell_ints _ v (List.mem_of_mem_drop hv)
  obtain ⟨W2, b1, b2, b3⟩ := run_cp (P := Tryz.prog) W1.drew 22 22 3 3 Tryz.underlying22 (by kernel_rfl) g 1 3 (c - 1) (some ⟨g, 1, none⟩) (some ⟨g, 1, none⟩) 3 (c - 1) L.toArray 3 a2 _ _ hrd (fun _ => rfl) (by omega) (by simp; omega) h1c
  rw [splice_self L 1 (by omega) hL4] at b2
  have hgb : base ≤ g := by
    rcases h.2 with ⟨h', _⟩ | ⟨g', cap', cur', h', hb, _⟩
    · simp at h'
    · simp only [Value.slice.injEq, Option.some.injEq, Addr.mk.injEq, and_true, true_and] at h'
      obtain ⟨rfl, rfl⟩ := h'
      exact hb
  have HO : Hid (W2.ownsRow base 3 1 (.slice (some ⟨g, 0, none⟩) 4 c) 4 (ints (t.set 0 y))) := by
    have hlc : L.length = c := by rw [u2, Array.length_toList, hcs]
    refine ⟨by have := h.1; simp [ints] at this ⊢; exact this, Or.inr ⟨g, c, L.toArray, rfl, hgb, b2, hc, hm, by simp [hlc], by simpa using u1⟩⟩
  have HB : Hid (Below base w W2) := by
    have h0 : Below base w W0 := by rw [← HW0.out]; exact ⟨rfl, rfl, rfl, Nat.le_refl _, fun _ _ => rfl⟩
    exact b3.below (a3.below h0 hgb).drew hgb
  have HC2 := Lib.hid b1
  clear b1 b2 a2 hrd h1c u2 e1
  have hwr : IntKind.i64.wrap 1 = 1 := by decide
  go_still_tail 9, (by kernel_rfl)
  refine wpList_cp rfl _ _ _ _ _ rfl rfl rfl rfl HC2.out ?_
  clear hwr
  have hcl := fun A n W => clear_none A n W
  go_wp2_with fail
  all_goals
    go_ret
    exact ⟨some ⟨g, 0, none⟩, c, by first | rfl | simp_all, HO.out, HB.out, hc, hm⟩
set_option maxRecDepth 100000 in
set_option maxHeartbeats 1000000 in
theorem replace_1 (g vb vc c base : Nat) (t : List Int) (y : Int) (w : World) (h : w.ownsRow base 3 1 (.slice (some ⟨g, 0, none⟩) 4 c) 4 (ints t)) (hv : Rd w w.heap.size 1 (some ⟨vb, 0, none⟩) 1 (ints [y])) (hc : 4 ≤ c) (hm : c ≤ maxLen) :
    Calls Tryz.prog 98 #[.slice (some ⟨g, 0, none⟩) 4 c, .int .i64 1, .int .i64 2, .slice (some ⟨vb, 0, none⟩) 1 vc] w (OwnRes base 3 1 4 (ints (t.set 1 y)) w) := by
  obtain ⟨cur, hh, hcs, htk⟩ : ∃ cur : Array Value, w.heap[g]? = some (.cells cur 3 (0, 0)) ∧ cur.size = c ∧ cur.toList.take 4 = ints t := by
    rcases h.2 with ⟨h', _⟩ | ⟨g', cap', cur, h', hb, hg, hnc, hcm, hcs, htake⟩
    · simp at h'
    · simp only [Value.slice.injEq, Option.some.injEq, Addr.mk.injEq, and_true, true_and] at h'
      obtain ⟨rfl, rfl⟩ := h'
      exact ⟨cur, hg, by simpa using hcs, by simpa using htake⟩
  have c0 : ¬ c = 0 := by omega
  have c1 : ¬ c = 1 := by omega
  have c2 : ¬ c = 2 := by omega
  have c1' : (2 : Int) ≤ c := by omega
  have c4 : (4 : Int) ≤ c := by omega
  go_enter Tryz.func98, Tryz.ntmps98
  go_wp2_with fail
  go_quiet (fail)
  rename_i nq
  obtain ⟨W0, hW0⟩ : ∃ W0, w.drewN nq = W0 := ⟨_, rfl⟩
  rw [hW0]
  have hh0 : W0.heap[g]? = some (.cells cur 3 (0, 0)) := by rw [← hW0]; exact hh
  have hv0 : Rd W0 w.heap.size 1 (some ⟨vb, 0, none⟩) 1 (ints [y]) := by rw [← hW0]; exact hv
  obtain ⟨W1, a1, a2, a3⟩ := run_cp (P := Tryz.prog) W0 22 22 3 3 Tryz.underlying22 (by kernel_rfl) g 1 3 (c - 1) (some ⟨g, 1, none⟩) (some ⟨vb, 0, none⟩) 1 vc cur 3 hh0 _ (ints [y]) hv0 (fun _ => rfl) (by omega) (by omega) (oneCell_ints _)
  have HC1 := Lib.hid a1
  have HW0 := Lib.hid hW0
  have A2 := Lib.hid a2
  clear a1 hW0 a2
  go_wp2_with (refine wpList_cp rfl _ _ _ _ _ rfl rfl rfl rfl HC1.out ?_)
  have hlen : 4 ≤ cur.toList.length := by rw [Array.length_toList, hcs]; exact hc
  obtain ⟨u1, u2⟩ := splice_one cur.toList 1 (.int .i64 y) (by omega) hlen
  rw [htk] at u1
  have e1 : (ints t).set 1 (.int .i64 y) = ints (t.set 1 y) := ints_set t 1 y
  rw [e1] at u1
  have a2 := A2.out
  rw [show ints [y] = [Value.int .i64 y] from rfl] at a2
  generalize splice cur.toList 1 [Value.int .i64 y] = L at a2 u1 u2
  have hL4 : 4 ≤ L.length := by omega
  have hrd : Rd W1.drew W1.heap.size 1 (some ⟨g, 2, none⟩) 2 ((L.take 4).drop 2) := by
    refine ⟨by simp; omega, fun _ => ⟨g, 2, rfl, (Array.getElem?_eq_some_iff.1 a2).1, fun j u hu => ?_⟩⟩
    have hj : j < 2 := by have := (List.getElem?_eq_some_iff.1 hu).1; simp at this; omega
    rw [List.getElem?_drop, List.getElem?_take, if_pos (by omega)] at hu
    show W1.cell? _ = _
    rw [cell_of_row _ _ _ _ _ _ a2, List.getElem?_toArray]
    exact hu
  have h1c : ∀ v ∈ (L.take 4).drop 2, v.oneCell' = true := by
    intro v hv; rw [u1] at hv; exact oneCell_ints _ v (List.mem_of_mem_drop hv)
  obtain ⟨W2, b1, b2, b3⟩ := run_cp (P := Tryz.prog) W1.drew 22 22 3 3 Tryz.underlying22 (by kernel_rfl) g 2 2 (c - 2) (some ⟨g, 2, none⟩) (some ⟨g, 2, none⟩) 2 (c - 2) L.toArray 3 a2 _ _ hrd (fun _ => rfl) (by omega) (by simp; omega) h1c
  rw [splice_self L 2 (by omega) hL4] at b2
  have hgb : base ≤ g := by
    rcases h.2 with ⟨h', _⟩ | ⟨g', cap', cur', h', hb, _⟩
    · simp at h'
    · simp only [Value.slice.injEq, Option.some.injEq, Addr.mk.injEq, and_true, true_and] at h'
      obtain ⟨rfl, rfl⟩ := h'
      exact hb
  have HO : Hid (W2.ownsRow base 3 1 (.slice (some ⟨g, 0, none⟩) 4 c) 4 (ints (t.set 1 y))) := by
    have hlc : L.length = c := by rw [u2, Array.length_toList, hcs]
    refine ⟨by have := h.1; simp [ints] at this ⊢; exact this, Or.inr ⟨g, c, L.toArray, rfl, hgb, b2, hc, hm, by simp [hlc], by simpa using u1⟩⟩
  have HB : Hid (Below base w W2) := by
    have h0 : Below base w W0 := by rw [← HW0.out]; exact ⟨rfl, rfl, rfl, Nat.le_refl _, fun _ _ => rfl⟩
    exact b3.below (a3.below h0 hgb).drew hgb
  have HC2 := Lib.hid b1
  clear b1 b2 a2 hrd h1c u2 e1
  have hwr : IntKind.i64.wrap 2 = 2 := by decide
  go_still_tail 9, (by kernel_rfl)
  refine wpList_cp rfl _ _ _ _ _ rfl rfl rfl rfl HC2.out ?_
  clear hwr
  have hcl := fun A n W => clear_none A n W
  go_wp2_with fail
  all_goals
    go_ret
    exact ⟨some ⟨g, 0, none⟩, c, by first | rfl | simp_all, HO.out, HB.out, hc, hm⟩
set_option maxRecDepth 100000 in
set_option maxHeartbeats 1000000 in
theorem replace_2 (g vb vc c base : Nat) (t : List Int) (y : Int) (w : World) (h : w.ownsRow base 3 1 (.slice (some ⟨g, 0, none⟩) 4 c) 4 (ints t)) (hv : Rd w w.heap.size 1 (some ⟨vb, 0, none⟩) 1 (ints [y])) (hc : 4 ≤ c) (hm : c ≤ maxLen) :
    Calls Tryz.prog 98 #[.slice (some ⟨g, 0, none⟩) 4 c, .int .i64 2, .int .i64 3, .slice (some ⟨vb, 0, none⟩) 1 vc] w (OwnRes base 3 1 4 (ints (t.set 2 y)) w) := by
  obtain ⟨cur, hh, hcs, htk⟩ : ∃ cur : Array Value, w.heap[g]? = some (.cells cur 3 (0, 0)) ∧ cur.size = c ∧ cur.toList.take 4 = ints t := by
    rcases h.2 with ⟨h', _⟩ | ⟨g', cap', cur, h', hb, hg, hnc, hcm, hcs, htake⟩
    · simp at h'
    · simp only [Value.slice.injEq, Option.some.injEq, Addr.mk.injEq, and_true, true_and] at h'
      obtain ⟨rfl, rfl⟩ := h'
      exact ⟨cur, hg, by simpa using hcs, by simpa using htake⟩
  have c0 : ¬ c = 0 := by omega
  have c1 : ¬ c = 2 := by omega
  have c2 : ¬ c = 3 := by omega
  have c1' : (3 : Int) ≤ c := by omega
  have c4 : (4 : Int) ≤ c := by omega
  go_enter Tryz.func98, Tryz.ntmps98
  go_wp2_with fail
  go_quiet (fail)
  rename_i nq
  obtain ⟨W0, hW0⟩ : ∃ W0, w.drewN nq = W0 := ⟨_, rfl⟩
  rw [hW0]
  have hh0 : W0.heap[g]? = some (.cells cur 3 (0, 0)) := by rw [← hW0]; exact hh
  have hv0 : Rd W0 w.heap.size 1 (some ⟨vb, 0, none⟩) 1 (ints [y]) := by rw [← hW0]; exact hv
  obtain ⟨W1, a1, a2, a3⟩ := run_cp (P := Tryz.prog) W0 22 22 3 3 Tryz.underlying22 (by kernel_rfl) g 2 2 (c - 2) (some ⟨g, 2, none⟩) (some ⟨vb, 0, none⟩) 1 vc cur 3 hh0 _ (ints [y]) hv0 (fun _ => rfl) (by omega) (by omega) (oneCell_ints _)
  have HC1 := Lib.hid a1
  have HW0 := Lib.hid hW0
  have A2 := Lib.hid a2
  clear a1 hW0 a2
  go_wp2_with (refine wpList_cp rfl _ _ _ _ _ rfl rfl rfl rfl HC1.out ?_)
  have hlen : 4 ≤ cur.toList.length := by rw [Array.length_toList, hcs]; exact hc
  obtain ⟨u1, u2⟩ := splice_one cur.toList 2 (.int .i64 y) (by omega) hlen
  rw [htk] at u1
  have e1 : (ints t).set 2 (.int .i64 y) = ints (t.set 2 y) := ints_set t 2 y
  rw [e1] at u1
  have a2 := A2.out
  rw [show ints [y] = [Value.int .i64 y] from rfl] at a2
  generalize splice cur.toList 2 [Value.int .i64 y] = L at a2 u1 u2
  have hL4 : 4 ≤ L.length := by omega
  have hrd : Rd W1.drew W1.heap.size 1 (some ⟨g, 3, none⟩) 1 ((L.take 4).drop 3) := by
    refine ⟨by simp; omega, fun _ => ⟨g, 3, rfl, (Array.getElem?_eq_some_iff.1 a2).1, fun j u hu => ?_⟩⟩
    have hj : j < 1 := by have := (List.getElem?_eq_some_iff.1 hu).1; simp at this; omega
    rw [List.getElem?_drop, List.getElem?_take, if_pos (by omega)] at hu
    show W1.cell? _ = _
    rw [cell_of_row _ _ _ _ _ _ a2, List.getElem?_toArray]
    exact hu
  have h1c : ∀ v ∈ (L.take 4).drop 3, v.oneCell' = true := by
    intro v hv; rw [u1] at hv; exact oneCell_ints _ v (List.mem_of_mem_drop hv)
  obtain ⟨W2, b1, b2, b3⟩ := run_cp (P := Tryz.prog) W1.drew 22 22 3 3 Tryz.underlying22 (by kernel_rfl) g 3 1 (c - 3) (some ⟨g, 3, none⟩) (some ⟨g, 3, none⟩) 1 (c - 3) L.toArray 3 a2 _ _ hrd (fun _ => rfl) (by omega) (by simp; omega) h1c
  rw [splice_self L 3 (by omega) hL4] at b2
  have hgb : base ≤ g := by
    rcases h.2 with ⟨h', _⟩ | ⟨g', cap', cur', h', hb, _⟩
    · simp at h'
    · simp only [Value.slice.injEq, Option.some.injEq, Addr.mk.injEq, and_true, true_and] at h'
      obtain ⟨rfl, rfl⟩ := h'
      exact hb
  have HO : Hid (W2.ownsRow base 3 1 (.slice (some ⟨g, 0, none⟩) 4 c) 4 (ints (t.set 2 y))) := by
    have hlc : L.length = c := by rw [u2, Array.length_toList, hcs]
    refine ⟨by have := h.1; simp [ints] at this ⊢; exact this, Or.inr ⟨g, c, L.toArray, rfl, hgb, b2, hc, hm, by simp [hlc], by simpa using u1⟩⟩
  have HB : Hid (Below base w W2) := by
    have h0 : Below base w W0 := by rw [← HW0.out]; exact ⟨rfl, rfl, rfl, Nat.le_refl _, fun _ _ => rfl⟩
    exact b3.below (a3.below h0 hgb).drew hgb
  have HC2 := Lib.hid b1
  clear b1 b2 a2 hrd h1c u2 e1
  have hwr : IntKind.i64.wrap 3 = 3 := by decide
  go_still_tail 9, (by kernel_rfl)
  refine wpList_cp rfl _ _ _ _ _ rfl rfl rfl rfl HC2.out ?_
  clear hwr
  have hcl := fun A n W => clear_none A n W
  go_wp2_with fail
  all_goals
    go_ret
    exact ⟨some ⟨g, 0, none⟩, c, by first | rfl | simp_all, HO.out, HB.out, hc, hm⟩
set_option maxRecDepth 100000 in
set_option maxHeartbeats 1000000 in
theorem replace_3 (g vb vc c base : Nat) (t : List Int) (y : Int) (w : World) (h : w.ownsRow base 3 1 (.slice (some ⟨g, 0, none⟩) 4 c) 4 (ints t)) (hv : Rd w w.heap.size 1 (some ⟨vb, 0, none⟩) 1 (ints [y])) (hc : 4 ≤ c) (hbs : base ≤ w.heap.size) :
    Calls Tryz.prog 98 #[.slice (some ⟨g, 0, none⟩) 4 c, .int .i64 3, .int .i64 4, .slice (some ⟨vb, 0, none⟩) 1 vc] w (OwnRes base 3 1 4 (ints (t.set 3 y)) w) := by
  obtain ⟨i0, hi0, hz0, hz1, hz2⟩ := info_parts Tryz.infoInt
  have hl : t.length = 4 := by have := h.1; simp [ints] at this; omega
  have h3 : w.ownsRow base 3 1 (.slice (some ⟨g, 0, none⟩) 3 c) 3 (ints (t.take 3)) := by
    refine ⟨by simp [ints]; omega, ?_⟩
    rcases h.2 with ⟨h', _⟩ | ⟨g', cap', cur, h', hb, hg, hnc, hcm, hcs, htake⟩
    · simp at h'
    · simp only [Value.slice.injEq, Option.some.injEq, Addr.mk.injEq, and_true, true_and] at h'
      obtain ⟨rfl, rfl⟩ := h'
      refine Or.inr ⟨g, c, cur, rfl, hb, hg, by omega, hcm, hcs, ?_⟩
      rw [← ints_take, ← htake, List.take_take]
      rfl
  obtain ⟨A', c', w', q1, q2, q3, q4, q5, _, _⟩ := run_app (P := Tryz.prog) w base 22 22 3 i0 _ 1 8 Tryz.underlying22 hi0 hz0 hz1 hz2 rfl (by omega) _ 3 _ h3 w.heap.size (some ⟨vb, 0, none⟩) 1 vc _ hv (oneCell_ints _) (by omega) (by unfold maxLen; omega) hbs
  have hs : ints (t.take 3) ++ ints [y] = ints (t.set 3 y) := by
    match t, hl with
    | [a, b, d, e], _ => rfl
  rw [hs] at q2
  have HR := Lib.hid q1
  have HO := Lib.hid q2
  have c4 : (4 : Int) ≤ c := by omega
  have c3 : (3 : Int) ≤ c := by omega
  have c0 : ¬ c = 0 := by omega
  have c3' : ¬ c = 3 := by omega
  clear h h3 q1 q2 hv hs hl
  go_enter Tryz.func98, Tryz.ntmps98
  go_wp2_with (at_builtin; refine wpList_app rfl _ _ _ _ rfl rfl rfl rfl HR.out ?_)
  go_ret
  exact ⟨A', c', rfl, HO.out, q3, q4, q5⟩
end Go.Proofs.YtfilnnjanhjbeaaGreat
namespace Go.Proofs.YtfilnnjanhjbeaaGreat
open Go.RowKit Sl
theorem replace_any (g vb vc c base k : Nat) (hk : k < 4) (t : List Int) (y : Int) (w : World) (h : w.ownsRow base 3 1 (.slice (some ⟨g, 0, none⟩) 4 c) 4 (ints t)) (hv : Rd w w.heap.size 1 (some ⟨vb, 0, none⟩) 1 (ints [y])) (hc : 4 ≤ c) (hm : c ≤ maxLen) (hbs : base ≤ w.heap.size) :
    Calls Tryz.prog 98 #[.slice (some ⟨g, 0, none⟩) 4 c, .int .i64 k, .int .i64 ((k : Int) + 1), .slice (some ⟨vb, 0, none⟩) 1 vc] w (OwnRes base 3 1 4 (ints (t.set k y)) w) :=
  match k, hk with
  | 0, _ => replace_0 g vb vc c base t y w h hv hc hm
  | 1, _ => replace_1 g vb vc c base t y w h hv hc hm
  | 2, _ => replace_2 g vb vc c base t y w h hv hc hm
  | 3, _ => replace_3 g vb vc c base t y w h hv hc hbs
  | n + 4, h => absurd h (by omega)
set_option maxRecDepth 100000 in
set_option maxHeartbeats 1000000 in
theorem ewith_any (A : Option Addr) (n c : Nat) (t : List Int) (x y : Int) (w : World) (h : Rd w w.heap.size 1 A n (ints t)) (hc : n ≤ maxLen) :
    Calls Tryz.prog 81 #[.slice A n c, .int .i64 x, .int .i64 y] w (IntsPair w.heap.size (withV t x y) (withE t x y) w) := by
  have HK := Lib.hid (echeck_any A n c w.heap.size t w h hc)
  by_cases he : entriesErr t = 0
  · rw [he] at HK
    obtain ⟨l4, _⟩ := entriesErr_is he
    have hln := h.len
    have hn4 : n = 4 := by omega
    subst hn4
    by_cases hx : 0 ≤ x ∧ x < 4
    · obtain ⟨k, rfl⟩ := Int.eq_ofNat_of_zero_le hx.1
      have hk4 : k < 4 := by omega
      cases hf : fine y
      · have R := Lib.hid (with_bad (k := (k : Int)) he hx hf)
        clear h he hx hln l4
        go_enter Tryz.func81, Tryz.ntmps81
        go_wp2_with (first | (go_at_call 82; refine HK.out.mono ?_; rintro e w2 ⟨rfl, rfl⟩) | (go_at_call 97; refine (fine_any _ _).mono ?_; rintro e w2 ⟨rfl, rfl⟩))
        go_ret2
        exact IntsPair.mk_nil R.out.2 R.out.1 (Below.refl _ _)
      · have R := Lib.hid (with_ok (k := k) he hk4 hf)
        have HC := Lib.hid (cloneInts A 4 c (ints t) w h (oneCell_ints t) (by omega))
        clear h he hx hln l4
        go_enter Tryz.func81, Tryz.ntmps81
        go_wp2_with (first | (go_at_call 82; refine HK.out.mono ?_; rintro e w2 ⟨rfl, rfl⟩) | (go_at_call 97; refine (fine_any _ _).mono ?_; rintro e w2 ⟨rfl, rfl⟩))
        refine HC.out.mono ?_
        rintro e w1 ⟨A1, c1, rfl, ho1, hb1, hc1, hm1⟩
        obtain ⟨g, rfl, hg1, hg2⟩ := own_some_ ho1 (by omega)
        have hz := hb1.size
        have HR := Lib.hid (fun W (hb : Below w1.heap.size w1 W) (hv : Rd W W.heap.size 1 (some ⟨w1.heap.size, 0, none⟩) 1 (ints [y])) => replace_any g w1.heap.size 1 c1 w.heap.size k hk4 t y W (own_below ho1 hb) hv hc1 hm1 (Nat.le_trans hz hb.size))
        have HB := Lib.hid hb1
        clear ho1 hb1
        go_wp2_with fail
        refine (HR.out _ ((Below.refl _ _).alloc (Nat.le_refl _) _) (Rd.of_block (heap_alloc_new w1 _) (by simp) rfl rfl)).mono ?_
        rintro e w2 ⟨A2, c2, rfl, ho2, hb2, hc2, hm2⟩
        have HO := Lib.hid ho2
        have HB2 := Lib.hid (HB.out.trans (((Below.refl w.heap.size w1).alloc hz _).trans hb2))
        clear ho2 hb2
        go_wp2_with fail
        go_ret2
        exact ⟨A2, 4, c2, by rw [R.out.1]; rfl, by rw [R.out.2]; exact HO.out, HB2.out, hc2, hm2⟩
    · have R := Lib.hid (with_out (k := x) (e := y) he hx)
      clear h he hln l4
      have hx' : x < 0 ∨ (0 ≤ x ∧ 4 ≤ x) := by omega
      rcases hx' with hx' | ⟨hx1, hx2⟩
      all_goals
        clear hx
        go_enter Tryz.func81, Tryz.ntmps81
        go_wp2_with (go_at_call 82; refine HK.out.mono ?_; rintro e w1 ⟨rfl, rfl⟩)
        go_ret2
        exact IntsPair.mk_nil R.out.2 R.out.1 (Below.refl _ _)
  · have R := Lib.hid (with_no (k := x) (e := y) he)
    have he' : (entriesErr t != 0) = true := by simpa using he
    clear h he
    go_enter Tryz.func81, Tryz.ntmps81
    go_wp2_with (go_at_call 82; refine HK.out.mono ?_; rintro e w1 ⟨rfl, rfl⟩)
    go_ret2
    exact IntsPair.mk_nil R.out.2 R.out.1 (Below.refl _ _)
def GotI (w : World) (A : Option Addr) (n : Nat) (l : List Int) : Prop := Rd w w.heap.size 1 A n (ints l)
theorem GotI.next {w w' : World} {A : Option Addr} {n : Nat} {l : List Int} (h : GotI w A n l) (hb : Below w.heap.size w w') : GotI w' A n l := (Rd.below h hb (Nat.le_refl _)).more hb.size
theorem GotI.fresh (w : World) (cs : Array Value) (T : TypeId) (n : Nat) (l : List Int) (h : cs.toList = ints l) (hn : l.length = n) : GotI (w.alloc (.cells cs T)) (some ⟨w.heap.size, 0, none⟩) n l :=
  Rd.of_block (heap_alloc_new w _) (by simp) h (by simp [ints, hn])
end Go.Proofs.YtfilnnjanhjbeaaGreat
