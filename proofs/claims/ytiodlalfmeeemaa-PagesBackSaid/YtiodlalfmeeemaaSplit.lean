/- pages.Split and Join, and the reference's. Conditions: the pages are read in blocks below the heap's size. -/
import Derived.Test.YtiodlalfmeeemaaFlat2
import Derived.Test.YtiodlalfmeeemaaPureS
import Derived.Lib.Strings
namespace Go.Proofs.Ytiodlalfmeeemaa
open Go.RowKit Sl

theorem toL_extract (s : ByteArray) (a b : Nat) : toL (s.extract a b) = ((toL s).drop a).take (b - a) := Lib.extract_data s a b
theorem toL_append (a b : ByteArray) : toL (a ++ b) = toL a ++ toL b := by simp [toL]
theorem split_take {s : ByteArray} : ofL ((toL s).take 4) = s.extract 0 4 := by apply toL_eq; rw [toL_ofL, toL_extract]; simp
theorem split_drop {s : ByteArray} : toL (s.extract 4 s.size) = (toL s).drop 4 := by
  rw [toL_extract, List.take_of_length_le (by rw [List.length_drop, toL_len]; omega)]

def strSize : Value → Nat | .string s => s.size | _ => 0
/-- Split's loop: f pages may still come, s is left, these are done. -/
def SplitRel (f : Nat) (s : ByteArray) (done : List ByteArray) (s0 : ByteArray) : Prop :=
  done ++ (splitL f (toL s)).map ofL = (splitL 17 (toL s0)).map ofL ∧ s.size ≤ 4 * (f - 1) ∧ 1 ≤ f ∧ f + done.length ≤ 17
theorem SplitRel.start {s : ByteArray} (h : s.size ≤ 64) : SplitRel 17 s [] s := ⟨rfl, by omega, by omega, by simp⟩
theorem SplitRel.step {f : Nat} {s s0 : ByteArray} {done : List ByteArray} (h : SplitRel f s done s0) (h4 : 4 < s.size) : SplitRel (f - 1) (s.extract 4 s.size) (done ++ [s.extract 0 4]) s0 := by
  obtain ⟨a, b, c, d⟩ := h
  obtain ⟨f', rfl⟩ : ∃ f', f = f' + 1 := ⟨f - 1, by omega⟩
  refine ⟨?_, ?_, by omega, by rw [List.length_append]; simp; omega⟩
  · rw [splitL_step (by rw [toL_len]; exact h4)] at a
    rw [← a, split_drop, ← split_take]; simp
  · have : (s.extract 4 s.size).size = s.size - 4 := by rw [← toL_len, split_drop, List.length_drop, toL_len]
    rw [this]; omega
theorem SplitRel.empty {f : Nat} {s s0 : ByteArray} {done : List ByteArray} (h : SplitRel f s done s0) (h0 : s.size = 0) : done = (splitL 17 (toL s0)).map ofL := by
  obtain ⟨a, _⟩ := h
  have : toL s = [] := List.eq_nil_of_length_eq_zero (by rw [toL_len, h0])
  rw [this, splitL_nil] at a
  simpa using a
theorem SplitRel.last {f : Nat} {s s0 : ByteArray} {done : List ByteArray} (h : SplitRel f s done s0) (h4 : s.size ≤ 4) (h0 : s.size ≠ 0) : done ++ [s ++ ({ data := #[0, 0, 0, 0] } : ByteArray).extract s.size 4] = (splitL 17 (toL s0)).map ofL := by
  obtain ⟨a, b, c, _⟩ := h
  obtain ⟨f', rfl⟩ : ∃ f', f = f' + 1 := ⟨f - 1, by omega⟩
  rw [splitL_last (by rw [toL_len]; exact h4) (fun e => h0 (by rw [← toL_len, e]; rfl))] at a
  rw [← a]
  congr 1
  simp only [List.map_cons, List.map_nil, List.cons.injEq, and_true]
  apply toL_eq
  rw [toL_append, toL_extract, toL_ofL, toL_len]
  congr 1
  have : toL ({ data := #[0, 0, 0, 0] } : ByteArray) = List.replicate 4 0 := rfl
  rw [this, List.drop_replicate, List.take_replicate]
  congr 1
  omega
theorem isEmpty_size (d : ByteArray) : d.toList.isEmpty = (d.size == 0) := by
  rw [Bool.eq_iff_iff]
  rw [List.isEmpty_iff, beq_iff_eq, ← List.length_eq_zero_iff, ByteArray.toList_eq]
  rfl

set_option maxRecDepth 100000 in
set_option maxHeartbeats 1000000 in
theorem split_any (s0 : ByteArray) (w : World) (hs0 : s0.size ≤ 4611686018427387903) :
    Calls Try.prog 28 #[.string s0] w (OwnPair w.heap.size 9 1 ((splitV s0).map Value.string) (splitE s0) w) := by
  obtain ⟨i0, hi0, hz0, hz1, hz2⟩ := info_parts Try.infoStr
  by_cases h64 : 64 < s0.size
  · have r1 : splitV s0 = [] := by unfold splitV; rw [if_pos h64]
    have r2 : splitE s0 = 2 := by unfold splitE; rw [if_pos h64]
    have R := Lib.hid (And.intro r1 r2)
    clear r1 r2
    go_enter Try.func28, Try.ntmps28
    go_wp2_with fail
    go_ret2
    exact OwnPair.mk_nil (by rw [R.out.1]; rfl) R.out.2 (Below.refl _ _)
  · have r1 : splitV s0 = (splitL 17 (toL s0)).map ofL := by unfold splitV; rw [if_neg h64]
    have r2 : splitE s0 = 0 := by unfold splitE; rw [if_neg h64]
    have R := Lib.hid (And.intro r1 r2)
    clear r1 r2
    go_enter Try.func28, Try.ntmps28
    go_wp2_with fail
    go_loopw [0, 4] (fun sv o wr => ∃ (f : Nat) (s : ByteArray) (done : List ByteArray) (A : Option Addr) (c : Nat), sv = .string s ∧ o = .slice A done.length c ∧ wr.ownsRow w.heap.size 9 1 (.slice A done.length c) done.length (done.map Value.string) ∧ Below w.heap.size w wr ∧ SplitRel f s done s0 ∧ done.length ≤ c ∧ c ≤ maxLen)
      (fun sv _ _ => strSize sv)
    case atStart => exact ⟨17, s0, [], none, 0, rfl, rfl, World.ownsRow_nil _ _ _ _, Below.refl _ _, SplitRel.start (by omega), Nat.le_refl _, by simp⟩
    case round =>
      obtain ⟨f, s, done, A, c, rfl, rfl, ho, hbw, hr, hc1, hc2⟩ := hrel
      have HO := Lib.hid ho
      have HR := Lib.hid hr
      have hd := hr.2.2.2
      clear ho hr
      by_cases h4 : 4 < s.size
      · obtain ⟨A2, c2, w4, q1, q2, q3, q4, q5, _, _⟩ := app_one (P := Try.prog) _ w.heap.size 36 36 9 i0 _ 1 16 Try.underlying36 hi0 hz0 hz1 hz2 rfl (by omega) _ _ _ HO.out #[.string (s.extract 0 4)] rfl
          (by intro u hu; simp at hu; subst hu; rfl) (by omega) (by unfold maxLen; omega) hbw.size
        have HR1 := Lib.hid q1
        have HO2 := Lib.hid q2
        have hbw4 := hbw.trans q3
        clear q1 q2 hbw q3
        go_wp2_with (at_builtin; refine wpList_app rfl _ _ _ _ rfl rfl rfl rfl HR1.out ?_)
        go_roundw
        case rel =>
          refine ⟨f - 1, s.extract 4 s.size, done ++ [s.extract 0 4], A2, c2, rfl, by rw [List.length_append]; rfl, ?_, hbw4, HR.out.step h4, by rw [List.length_append]; exact q4, q5⟩
          rw [List.length_append, List.map_append]
          exact HO2.out
        case measure =>
          show (s.extract 4 s.size).size < s.size
          rw [← toL_len (s.extract 4 s.size), split_drop, List.length_drop, toL_len]; omega
      · have hE := isEmpty_size s
        cases hem : s.toList.isEmpty
        · rw [hem] at hE
          have hs0' : s.size ≠ 0 := by intro e; rw [e] at hE; cases hE
          have HE := Lib.hid (HR.out.last (by omega) hs0')
          clear hE
          have h4' : s.size ≤ 4 := by omega
          go_wp2_with fail
          refine (zero_any _).mono ?_
          rintro e w3 ⟨rfl, hb3⟩
          unfold zeroP
          obtain ⟨A2, c2, w4, q1, q2, q3, q4, q5, _, _⟩ := app_one (P := Try.prog) w3 w.heap.size 36 36 9 i0 _ 1 16 Try.underlying36 hi0 hz0 hz1 hz2 rfl (by omega) _ _ _ (own_below HO.out hb3) #[.string (s ++ ({ data := #[0, 0, 0, 0] } : ByteArray).extract s.size 4)] rfl
            (by intro u hu; simp at hu; subst hu; rfl) (by omega) (by unfold maxLen; omega) (Nat.le_trans hbw.size hb3.size)
          have HR1 := Lib.hid q1
          have HO2 := Lib.hid q2
          have hbw4 := below_next hbw hb3 |>.trans q3
          clear q1 q2 hb3 hbw q3
          go_wp2_with (at_builtin; refine wpList_app rfl _ _ _ _ rfl rfl rfl rfl HR1.out ?_)
          go_ret2
          refine ⟨A2, _, c2, by rw [R.out.2]; rfl, ?_, hbw4, q4, q5⟩
          rw [R.out.1, ← HE.out, List.map_append]
          exact HO2.out
        · rw [hem] at hE
          have HE := Lib.hid (HR.out.empty (by simpa using hE.symm))
          clear hE
          go_wp2_with fail
          go_ret2
          refine ⟨A, _, c, by rw [R.out.2]; rfl, ?_, hbw, hc1, hc2⟩
          rw [R.out.1, ← HE.out]
          exact HO.out

/-- The bytes with j times 0 behind. -/
def zs (s : ByteArray) (j : Nat) : ByteArray := ofL (toL s ++ List.replicate j 0)
theorem zs_size (s : ByteArray) (j : Nat) : (zs s j).size = s.size + j := by rw [← toL_len, zs, toL_ofL, List.length_append, List.length_replicate, toL_len]
theorem zs_zero (s : ByteArray) : zs s 0 = s := by unfold zs; rw [List.replicate_zero, List.append_nil, ofL_toL]
theorem zs_succ (s : ByteArray) (j : Nat) : zs s j ++ { data := #[0] } = zs s (j + 1) := by
  apply toL_eq
  rw [toL_append, zs, zs, toL_ofL, toL_ofL, List.replicate_succ', ← List.append_assoc]
  rfl
theorem zs_pad (s : ByteArray) (j : Nat) (hj : j < 4) (h : (s.size + j) % 4 = 0) : toL (zs s j) = padL (toL s) := by
  rw [zs, toL_ofL, padL, toL_len]
  congr 2
  omega
theorem zs_chunk (t : ByteArray) (i : Nat) : t.extract (4 * i) (4 * i + 4) = ofL (chunk (toL t) i) := by
  apply toL_eq
  rw [toL_extract, toL_ofL, chunk]
  congr 1
  omega

set_option maxRecDepth 100000 in
set_option maxHeartbeats 1000000 in
theorem rsplit_any (s0 : ByteArray) (w : World) (hs0 : s0.size ≤ 4611686018427387903) :
    Calls Try.prog 30 #[.string s0] w (OwnPair w.heap.size 9 1 ((splitV s0).map Value.string) (splitE s0) w) := by
  obtain ⟨i0, hi0, hz0, hz1, hz2⟩ := info_parts Try.infoStr
  by_cases h64 : 64 < s0.size
  · have r1 : splitV s0 = [] := by unfold splitV; rw [if_pos h64]
    have r2 : splitE s0 = 2 := by unfold splitE; rw [if_pos h64]
    have R := Lib.hid (And.intro r1 r2)
    clear r1 r2
    go_enter Try.func30, Try.ntmps30
    go_wp2_with fail
    go_ret2
    exact OwnPair.mk_nil (by rw [R.out.1]; rfl) R.out.2 (Below.refl _ _)
  · have r1 : splitV s0 = (List.range ((padL (toL s0)).length / 4)).map (fun i => ofL (chunk (padL (toL s0)) i)) := by
      unfold splitV; rw [if_neg h64, splitL_chunks 17 _ (by rw [toL_len]; omega), List.map_map]; rfl
    have r2 : splitE s0 = 0 := by unfold splitE; rw [if_neg h64]
    have R := Lib.hid (And.intro r1 r2)
    clear r1 r2
    go_enter Try.func30, Try.ntmps30
    go_wp2_with fail
    go_loop [0] (fun sv => ∃ j : Nat, j < 4 ∧ sv = .string (zs s0 j) ∧ (s0.size + j) % 4 = (if j = 0 then s0.size % 4 else (s0.size % 4 + j) % 4) ∧ s0.size % 4 + j ≤ 4 ∧ (j = 0 ∨ 0 < s0.size % 4)) (fun sv => 68 - strSize sv)
    case atStart => exact ⟨0, by omega, by rw [zs_zero], by simp, by omega, Or.inl rfl⟩
    case round =>
      obtain ⟨j, hj, rfl, _, hj2, hj3⟩ := hrel
      have hz := zs_size s0 j
      generalize ht : zs s0 j = t at hz
      have HT := Lib.hid ht
      clear ht
      by_cases hm : t.size % 4 = 0
      · have hpad : toL t = padL (toL s0) := by rw [← HT.out]; exact zs_pad s0 j hj (by omega)
        have hl : (padL (toL s0)).length = t.size := by rw [← hpad, toL_len]
        have t68 : t.size ≤ 67 := by omega
        have HM := Lib.hid hm
        have hm2 : (((t.size : Int) % 4) != 0) = false := by simp; omega
        have HP := Lib.hid hpad
        have HL := Lib.hid hl
        clear hpad hl hm hz
        go_wp2_with fail
        go_loopw [5, 4] (fun iv o wr => ∃ (i : Nat) (A : Option Addr) (c : Nat), 4 * i ≤ t.size ∧ iv = .int .i64 (4 * i : Nat) ∧ o = .slice A i c ∧ wr.ownsRow w.heap.size 9 1 (.slice A i c) i (((List.range i).map (fun i => ofL (chunk (padL (toL s0)) i))).map Value.string) ∧ Below w.heap.size w wr ∧ i ≤ c ∧ c ≤ maxLen)
          (fun iv _ _ => t.size - (intOf iv).toNat)
        case atStart => exact ⟨0, none, 0, by omega, rfl, rfl, World.ownsRow_nil _ _ _ _, Below.refl _ _, Nat.le_refl _, by simp⟩
        case round =>
          obtain ⟨i, A, c, hi, rfl, rfl, ho, hbw, hc1, hc2⟩ := hrel
          have HO := Lib.hid ho
          clear ho
          by_cases hlt : 4 * i < t.size
          · have hlt4 : 4 * i + 4 ≤ t.size := by have := HM.out; omega
            obtain ⟨A2, c2, w4, q1, q2, q3, q4, q5, _, _⟩ := app_one (P := Try.prog) _ w.heap.size 36 36 9 i0 _ 1 16 Try.underlying36 hi0 hz0 hz1 hz2 rfl (by omega) _ _ _ HO.out #[.string (t.extract (4 * i) (4 * i + 4))] rfl
              (by intro u hu; simp at hu; subst hu; rfl) (by omega) (by unfold maxLen; omega) hbw.size
            rw [zs_chunk, HP.out] at q2
            have HR1 := Lib.hid q1
            have HO2 := Lib.hid q2
            have hbw4 := hbw.trans q3
            clear q1 q2 hbw q3
            go_wp2_with (at_builtin; refine wpList_app rfl _ _ _ _ rfl rfl rfl rfl HR1.out ?_)
            go_roundw
            case rel =>
              refine ⟨i + 1, A2, c2, by omega, by go_num, rfl, ?_, hbw4, q4, q5⟩
              rw [List.range_succ, List.map_append, List.map_append]
              exact HO2.out
            case measure => simp [intOf]; omega
          · have hii : i = t.size / 4 := by omega
            have HI := Lib.hid hii
            clear hii
            go_wp2_with fail
            go_ret2
            refine ⟨A, _, c, by rw [R.out.2]; rfl, ?_, hbw, hc1, hc2⟩
            rw [R.out.1, HL.out, ← HI.out]
            exact HO.out
      · have hm2 : (((t.size : Int) % 4) != 0) = true := by simp; omega
        have hj5 : j + 1 < 4 := by omega
        go_wp2_with fail
        go_round
        case rel => exact ⟨j + 1, hj5, by rw [← zs_succ, HT.out], by rw [if_neg (by omega)]; omega, by omega, Or.inr (by omega)⟩
        case measure =>
          show 68 - (t ++ { data := #[0] }).size < 68 - t.size
          rw [← toL_len (t ++ _), toL_append, List.length_append, toL_len]
          show 68 - (t.size + 1) < 68 - t.size
          omega
end Go.Proofs.Ytiodlalfmeeemaa
