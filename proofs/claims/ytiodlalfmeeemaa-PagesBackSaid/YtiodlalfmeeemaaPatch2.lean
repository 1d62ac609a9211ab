/- The reference's PatchOf. No conditions beside the sizes of texts that are read. -/
import Derived.Test.YtiodlalfmeeemaaPatch
import Derived.IntWalk
namespace Go.Proofs.Ytiodlalfmeeemaa
open Go.RowKit Sl

set_option maxRecDepth 100000 in
set_option maxHeartbeats 1000000 in
theorem rpatch_any (p : ByteArray) (x : Int) (s : ByteArray) (w : World) (hs : s.size ≤ 4611686018427387903) (hx : I64 x) :
    Calls Try.prog 38 #[.string p, .int .i64 x, .string s] w fun e w' => e = .returned (.tuple #[.string (patchV p x s), .int .i64 (patchE p x s)]) ∧ Below w.heap.size w w' := by
  by_cases h4 : p.size = 4
  · have g4 : ((p.size : Int) != 4) = false := by simp [h4]
    by_cases hr : 0 ≤ x ∧ x ≤ 4 ∧ (s.size : Int) ≤ 4 - x
    · obtain ⟨k, rfl⟩ := Int.eq_ofNat_of_zero_le hr.1
      have hk : k + s.size ≤ 4 := by omega
      have R := Lib.hid (patch_ok h4 hk)
      have hv : patchV p k s = p.extract 0 k ++ s ++ p.extract (k + s.size) p.size := by
        rw [R.out.2]
        apply toL_eq
        rw [toL_ofL, toL_append, toL_append, toL_extract, toL_extract, List.drop_zero, Nat.sub_zero]
        congr 1
        rw [List.take_of_length_le (by rw [List.length_drop, toL_len]; omega)]
      have hk4 : (k : Int) ≤ 4 := by omega
      have hks : (s.size : Int) ≤ 4 - k := by omega
      have hw1 : decide ((k : Int) ≤ 4) = true := by simpa using hk4
      have hkp : (k : Int) ≤ p.size := by omega
      have hkp2 : (k : Int) + s.size ≤ p.size := by omega
      have hk0 : (0 : Int) ≤ (k : Int) + s.size := by omega
      have hz1 : (p.extract 0 k ++ s).size ≤ 4 := by rw [← toL_len, toL_append, List.length_append, toL_extract, toL_len, List.length_take, List.drop_zero, toL_len]; omega
      have hz2 : (p.extract (k + s.size) p.size).size ≤ 4 := by rw [← toL_len, toL_extract, List.length_take, List.length_drop, toL_len]; omega
      have hz3 : (p.extract 0 k).size ≤ 4 := by rw [← toL_len, toL_extract, List.length_take, List.drop_zero, toL_len]; omega
      have HV := Lib.hid hv
      have hkn : k ≤ p.size := by omega
      have hkn2 : k + s.size ≤ p.size := by omega
      have hwr := IntWalk.i64_in ((k : Int) + (s.size : Int)) (by omega)
      have hnn : ((k : Int) + (s.size : Int)).toNat = k + s.size := by omega
      clear h4 hr hk hv
      go_enter Try.func38, Try.ntmps38
      go_wp2_with (go_at_call 53; refine (within_any _ _ _ _).mono ?_; rintro e w2 ⟨rfl, rfl⟩)
      go_quiet (fail)
      clear hwr hnn
      go_wp2_with fail
      go_ret2
      exact ⟨ret_si HV.out R.out.1, ⟨rfl, rfl, rfl, Nat.le_refl _, fun _ _ => rfl⟩⟩
    · have R := Lib.hid (patch_out (x := x) (s := s) h4 hr)
      have hr' : (¬ (0 ≤ x ∧ x ≤ 4)) ∨ (0 ≤ x ∧ x ≤ 4 ∧ 4 - x < (s.size : Int)) := by omega
      clear h4 hr
      rcases hr' with h1 | ⟨h1, h2, h3⟩
      · have hw : (decide (0 ≤ x) && decide (x ≤ 4)) = false := by rw [Bool.eq_false_iff]; simp; omega
        clear h1
        go_enter Try.func38, Try.ntmps38
        go_wp2_with (go_at_call 53; refine (within_any _ _ _ _).mono ?_; rintro e w2 ⟨rfl, rfl⟩)
        go_ret2
        exact ⟨ret_si R.out.2 R.out.1, Below.refl _ _⟩
      · have hw : (decide (0 ≤ x) && decide (x ≤ 4)) = true := by simp; omega
        go_enter Try.func38, Try.ntmps38
        go_wp2_with (go_at_call 53; refine (within_any _ _ _ _).mono ?_; rintro e w2 ⟨rfl, rfl⟩)
        go_ret2
        exact ⟨ret_si R.out.2 R.out.1, Below.refl _ _⟩
  · have g4 : ((p.size : Int) != 4) = true := by simp; omega
    have R := Lib.hid (patch_form (x := x) (s := s) h4)
    clear h4
    go_enter Try.func38, Try.ntmps38
    go_wp2_with fail
    go_ret2
    exact ⟨ret_si R.out.2 R.out.1, Below.refl _ _⟩
end Go.Proofs.Ytiodlalfmeeemaa
