/- entry.Cut, and the reference's CutOf and WithOf. Conditions: the entries are read in blocks below the heap's size. -/
import Derived.Test.YtpboapeoejdipaaSlotsA
import Derived.Test.YtpboapeoejdipaaPureE
import Derived.Test.YtpboapeoejdipaaMemA
namespace Go.Proofs.Ytpboapeoejdipaa
open Go.RowKit Sl

theorem own_some_ {w : World} {base size n c : Nat} {e : TypeId} {A : Option Addr} {xs : List Value} (h : w.ownsRow base e size (.slice A n c) n xs) (hn : 0 < n) : ∃ g, A = some ⟨g, 0, none⟩ ∧ base ≤ g ∧ g < w.heap.size := by
  rcases h.2 with ⟨hv, rfl⟩ | ⟨g, cap, cur, hv, hb, hh, _⟩
  · omega
  · simp only [Value.slice.injEq] at hv
    obtain ⟨rfl, _, _⟩ := hv
    exact ⟨g, rfl, hb, (Array.getElem?_eq_some_iff.1 hh).1⟩
/-- What a function answers that makes a slice of integers of its own, and an error. -/
def IntsPair (base : Nat) (xs : List Int) (er : Int) (w : World) (e : Ending) (w' : World) : Prop :=
  ∃ A n c, e = .returned (.tuple #[.slice A n c, .int .i64 er]) ∧ w'.ownsRow base 3 1 (.slice A n c) n (ints xs) ∧ Below base w w' ∧ n ≤ c ∧ c ≤ maxLen
theorem IntsPair.mk_nil {base : Nat} {xs : List Int} {er er' : Int} {w w' : World} (hx : xs = []) (he : er = er') (hb : Below base w w') : IntsPair base xs er w (.returned (.tuple #[.slice none 0 0, .int .i64 er'])) w' := by
  subst hx; subst he
  exact ⟨none, 0, 0, rfl, World.ownsRow_nil _ _ _ _, hb, Nat.le_refl _, by simp⟩
theorem oneCell_ints (l : List Int) : ∀ u ∈ ints l, u.oneCell' = true := by
  intro u hu
  obtain ⟨s, _, rfl⟩ := List.mem_map.1 hu
  rfl
theorem ints_take (l : List Int) (k : Nat) : (ints l).take k = ints (l.take k) := by simp [ints, List.map_take]

set_option maxRecDepth 100000 in
set_option maxHeartbeats 1000000 in
theorem ecut_any (A : Option Addr) (n c : Nat) (t : List Int) (x : Int) (w : World) (h : Rd w w.heap.size 1 A n (ints t)) (hn : n ≤ c) (hc : n ≤ maxLen) :
    Calls Try.prog 46 #[.slice A n c, .int .i64 x] w (IntsPair w.heap.size (cutV t x) (cutE t x) w) := by
  have HK := Lib.hid (echeck_any A n c w.heap.size t w h hc)
  by_cases he : entriesErr t = 0
  · rw [he] at HK
    obtain ⟨l4, _⟩ := entriesErr_is he
    have hln := h.len
    by_cases hx : 0 ≤ x ∧ x ≤ 4
    · obtain ⟨m, rfl⟩ := Int.eq_ofNat_of_zero_le hx.1
      have hm4 : m ≤ 4 := by omega
      have R := Lib.hid (cut_ok (m := m) he hm4)
      have hsl := fun W => run_upto (P := Try.prog) 22 3 1 Try.underlying22 (fun W => by kernel_rfl) A n c m (by omega) W
      have hmk : ∀ W : World, (Instr.makeSlice 22 (.int .i64 4) (.int .i64 4)).run Try.prog W = .ok (.slice (some ⟨W.heap.size, 0, none⟩) 4 4) (W.alloc (.cells #[.int .i64 0, .int .i64 0, .int .i64 0, .int .i64 0] 3)) := fun _ => by kernel_rfl
      have ht := h.take (k := m) (by omega)
      rw [Nat.mul_one, ints_take] at ht
      obtain ⟨W2, c1, c2, c3⟩ := run_cp (P := Try.prog) (w.alloc (.cells #[.int .i64 0, .int .i64 0, .int .i64 0, .int .i64 0] 3)) 22 22 3 3 Try.underlying22 (by kernel_rfl) w.heap.size 0 4 4 (some ⟨w.heap.size, 0, none⟩) A m c
        #[.int .i64 0, .int .i64 0, .int .i64 0, .int .i64 0] 3 (heap_alloc_new w _) w.heap.size (ints (t.take m)) (ht.below ((Below.refl _ _).alloc (Nat.le_refl _) _) (Nat.le_refl _)) (fun _ => rfl) hm4 (by simp; omega) (oneCell_ints _)
      have hfin : splice [Value.int .i64 0, .int .i64 0, .int .i64 0, .int .i64 0] 0 (ints (t.take m)) = ints (cutL t m) := by
        unfold splice cutL ints
        rw [List.take_zero, List.nil_append, List.map_append, List.map_replicate, List.length_map, List.length_take, Nat.zero_add, l4, Nat.min_eq_left hm4]
        congr 1
        rw [show ([Value.int .i64 0, .int .i64 0, .int .i64 0, .int .i64 0] : List Value) = List.replicate 4 (.int .i64 0) from rfl, List.drop_replicate]
      have hb2 := c3.below ((Below.refl w.heap.size w).alloc (Nat.le_refl _) _) (Nat.le_refl _)
      rw [show (#[Value.int .i64 0, .int .i64 0, .int .i64 0, .int .i64 0] : Array Value).toList = [Value.int .i64 0, .int .i64 0, .int .i64 0, .int .i64 0] from rfl, hfin] at c2
      have ho := own_of_block (base := w.heap.size) c2 (Nat.le_refl _) (n := 4) (by simp [ints, cutL]; omega) (by unfold maxLen; omega)
      have HO := Lib.hid ho
      have HC := Lib.hid c1
      clear h he hx ht l4 hln ho c1 c2 c3 hfin
      go_enter Try.func46, Try.ntmps46
      go_wp2_with (first | (go_at_call 75; refine HK.out.mono ?_; rintro e w1 ⟨rfl, rfl⟩) | (refine wpList_cp rfl _ _ _ _ _ rfl rfl rfl rfl HC.out ?_))
      go_ret2
      exact ⟨_, 4, 4, by rw [R.out.1]; rfl, by rw [R.out.2]; exact HO.out, hb2, Nat.le_refl _, by unfold maxLen; omega⟩
    · have R := Lib.hid (cut_out (n := x) he hx)
      clear h he hln l4
      have hx' : x < 0 ∨ (0 ≤ x ∧ 4 < x) := by omega
      rcases hx' with hx' | ⟨hx1, hx2⟩
      all_goals
        go_enter Try.func46, Try.ntmps46
        go_wp2_with (go_at_call 75; refine HK.out.mono ?_; rintro e w1 ⟨rfl, rfl⟩)
        go_ret2
        exact IntsPair.mk_nil R.out.2 R.out.1 (Below.refl _ _)
  · have R := Lib.hid (cut_no (n := x) he)
    have he' : (entriesErr t != 0) = true := by simpa using he
    clear h he
    go_enter Try.func46, Try.ntmps46
    go_wp2_with (go_at_call 75; refine HK.out.mono ?_; rintro e w1 ⟨rfl, rfl⟩)
    go_ret2
    exact IntsPair.mk_nil R.out.2 R.out.1 (Below.refl _ _)

theorem ints_set (t : List Int) (k : Nat) (e : Int) : (ints t).set k (.int .i64 e) = ints (t.set k e) := by simp [ints, List.map_set]
/-- What the reference's loop has cut after it has come to k. -/
def zeroed (t : List Int) (m k : Nat) : List Int := t.take m ++ List.replicate (k - m) 0 ++ t.drop k
theorem zeroed_start (t : List Int) (m : Nat) : zeroed t m m = t := by simp [zeroed]
theorem zeroed_succ (t : List Int) (m k : Nat) (hm : m ≤ k) (hk : k < t.length) : (zeroed t m k).set k 0 = zeroed t m (k + 1) := by
  unfold zeroed
  have hl : (t.take m ++ List.replicate (k - m) 0).length = k := by rw [List.length_append, List.length_take, List.length_replicate]; omega
  rw [List.set_append_right _ _ (by omega), hl, Nat.sub_self, List.drop_eq_getElem_cons hk, List.set_cons_zero, show k + 1 - m = (k - m) + 1 from by omega, List.replicate_succ']
  simp
theorem zeroed_end (t : List Int) (m : Nat) (h : t.length = 4) : zeroed t m 4 = cutL t m := by
  unfold zeroed cutL; rw [List.drop_of_length_le (by omega), List.append_nil]
theorem zeroed_len (t : List Int) (m k : Nat) (hm : m ≤ k) (hk : k ≤ t.length) : (zeroed t m k).length = t.length := by
  unfold zeroed; rw [List.length_append, List.length_append, List.length_take, List.length_replicate, List.length_drop]; omega

set_option maxRecDepth 100000 in
set_option maxHeartbeats 1000000 in
theorem rcut_any (A : Option Addr) (n c : Nat) (t : List Int) (x : Int) (w : World) (h : Rd w w.heap.size 1 A n (ints t)) (hc : n ≤ maxLen) :
    Calls Try.prog 51 #[.slice A n c, .int .i64 x] w (IntsPair w.heap.size (cutV t x) (cutE t x) w) := by
  have HK := Lib.hid (rcheck_any A n c w.heap.size t w h hc)
  obtain ⟨i0, hi0, hz0, hz1, hz2⟩ := info_parts Try.infoInt
  by_cases he : entriesErr t = 0
  · rw [he] at HK
    obtain ⟨l4, _⟩ := entriesErr_is he
    have hln := h.len
    have hn4 : n = 4 := by omega
    subst hn4
    by_cases hx : 0 ≤ x ∧ x ≤ 4
    · obtain ⟨m, rfl⟩ := Int.eq_ofNat_of_zero_le hx.1
      have hm4 : m ≤ 4 := by omega
      have hw : decide ((m : Int) ≤ 4) = true := by simp; omega
      have R := Lib.hid (cut_ok (m := m) he hm4)
      obtain ⟨A1, c1, w1, q1, q2, q3, q4, q5, _, _⟩ := run_app (P := Try.prog) (w.alloc (.cells #[] 3)) w.heap.size 22 22 3 i0 _ 1 8 Try.underlying22 hi0 hz0 hz1 hz2 rfl (by omega) _ 0 []
        (own_new w _ _ _ (Nat.le_refl _)) w.heap.size A 4 c _ (h.below ((Below.refl _ _).alloc (Nat.le_refl _) _) (Nat.le_refl _)) (oneCell_ints t) (by omega) (by unfold maxLen; omega) (by simp)
      rw [Nat.zero_add] at q1 q2 q4
      rw [List.nil_append] at q2
      obtain ⟨g, rfl, hg1, hg2⟩ := own_some_ q2 (by omega)
      have HR := Lib.hid q1
      have hb := ((Below.refl w.heap.size w).alloc (Nat.le_refl _) _).trans q3
      have L4 := Lib.hid l4
      have Q2 := Lib.hid q2
      clear h he hx hln q1 q2 q3 l4
      go_enter Try.func51, Try.ntmps51
      go_wp2_with (first | (go_at_call 80; refine HK.out.mono ?_; rintro e w2 ⟨rfl, rfl⟩) | (go_at_call 50; refine (within_any _ _ _ _).mono ?_; rintro e w2 ⟨rfl, rfl⟩) | (at_builtin; refine wpList_app rfl _ _ _ _ rfl rfl rfl rfl HR.out ?_))
      go_loopw [8] (fun iv wr => ∃ k : Nat, m ≤ k ∧ k ≤ 4 ∧ iv = .int .i64 k ∧ wr.ownsRow w.heap.size 3 1 (.slice (some ⟨g, 0, none⟩) 4 c1) 4 (ints (zeroed t m k)) ∧ Below w.heap.size w wr) (fun iv _ => 4 - (intOf iv).toNat)
      case atStart => exact ⟨m, Nat.le_refl _, hm4, rfl, by rw [zeroed_start]; exact Q2.out, hb⟩
      case round =>
        obtain ⟨k, hk1, hk2, rfl, ho, hbw⟩ := hrel
        by_cases hlt : k < 4
        · have hzl := zeroed_len t m k hk1 (by rw [L4.out]; exact hk2)
          rw [L4.out] at hzl
          have hcell := ho.cellAt k (by omega)
          unfold ints at hcell
          rw [List.getElem?_map, List.getElem?_eq_getElem (by omega)] at hcell
          simp only [Option.map_some] at hcell
          generalize (zeroed t m k)[k] = u at hcell
          have hf := ho.frozenAt k
          have hst := (ho.stored k (.int .i64 0)).1
          rw [ints_set, zeroed_succ t m k hk1 (by rw [L4.out]; exact hlt)] at hst
          have HS := Lib.hid hst
          clear hst ho hzl
          go_wp2_with fail
          go_roundw
          case rel => exact ⟨k + 1, by omega, by omega, by go_num, HS.out, hbw.setCell (p := ⟨g, k, none⟩) hg1 _⟩
          case measure => simp [intOf]; omega
        · have hk4 : k = 4 := by omega
          subst hk4
          have HO := Lib.hid ho
          clear ho
          go_wp2_with fail
          go_ret2
          exact ⟨_, 4, c1, by rw [R.out.1]; rfl, by rw [R.out.2, ← zeroed_end t m L4.out]; exact HO.out, hbw, q4, q5⟩
    · have R := Lib.hid (cut_out (n := x) he hx)
      have hw : (decide (0 ≤ x) && decide (x ≤ 4)) = false := by rw [Bool.eq_false_iff]; simp; omega
      clear h he hln l4 hx
      go_enter Try.func51, Try.ntmps51
      go_wp2_with (first | (go_at_call 80; refine HK.out.mono ?_; rintro e w2 ⟨rfl, rfl⟩) | (go_at_call 50; refine (within_any _ _ _ _).mono ?_; rintro e w2 ⟨rfl, rfl⟩))
      go_ret2
      exact IntsPair.mk_nil R.out.2 R.out.1 (Below.refl _ _)
  · have R := Lib.hid (cut_no (n := x) he)
    have he' : (entriesErr t != 0) = true := by simpa using he
    clear h he
    go_enter Try.func51, Try.ntmps51
    go_wp2_with (go_at_call 80; refine HK.out.mono ?_; rintro e w1 ⟨rfl, rfl⟩)
    go_ret2
    exact IntsPair.mk_nil R.out.2 R.out.1 (Below.refl _ _)

end Go.Proofs.Ytpboapeoejdipaa
