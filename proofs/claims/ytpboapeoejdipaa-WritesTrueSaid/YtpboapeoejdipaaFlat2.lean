/- flat.Resize, and the reference's Write and Resize. Conditions: the pages are read in blocks below the heap's size. -/
import Derived.Test.YtpboapeoejdipaaFlat
import Derived.Test.YtpboapeoejdipaaMemA
namespace Go.Proofs.Ytpboapeoejdipaa
open Go.RowKit Sl

theorem flatResize_no {l : List ByteArray} {g : Int} (h : pagesErr l ≠ 0) : flatResizeE l g = pagesErr l ∧ flatResizeV l g = [] := by
  have : flatResizeE l g = pagesErr l := by unfold flatResizeE; rw [if_neg h]
  exact ⟨this, by unfold flatResizeV; rw [this, if_neg h]⟩
theorem flatResize_out {l : List ByteArray} {g : Int} (h : pagesErr l = 0) (hg : ¬ (0 ≤ g ∧ g ≤ 16)) : flatResizeE l g = 3 ∧ flatResizeV l g = [] := by
  have : flatResizeE l g = 3 := by unfold flatResizeE; rw [if_pos h, if_neg hg]
  exact ⟨this, by unfold flatResizeV; rw [this, if_neg (by decide)]⟩
theorem flatResize_ok {l : List ByteArray} {g : Nat} (h : pagesErr l = 0) (hg : g ≤ 16) : flatResizeE l g = 0 ∧ flatResizeV l g = l.take g ++ List.replicate (g - l.length) zeroP := by
  have : flatResizeE l g = 0 := by unfold flatResizeE; rw [if_pos h, if_pos (by omega)]
  exact ⟨this, by unfold flatResizeV; rw [this, if_pos rfl, Int.toNat_natCast]⟩

def padded (l : List ByteArray) (m k : Nat) : List Value := (l.take m ++ List.replicate k zeroP).map Value.string
theorem padded_zero (l : List ByteArray) (m : Nat) : padded l m 0 = (l.take m).map Value.string := by simp [padded]
theorem padded_succ (l : List ByteArray) (m k : Nat) : padded l m k ++ [Value.string zeroP] = padded l m (k + 1) := by
  simp [padded, List.replicate_succ']

set_option maxRecDepth 100000 in
set_option maxHeartbeats 1000000 in
theorem fresize_any (A : Option Addr) (n c : Nat) (l : List ByteArray) (x : Int) (w : World) (h : StrsR w w.heap.size A n l) (hn : n ≤ c) (hc : n ≤ 4611686018427387903) :
    Calls Try.prog 26 #[.slice A n c, .int .i64 x] w (OwnPair w.heap.size 9 1 ((flatResizeV l x).map Value.string) (flatResizeE l x) w) := by
  have HK := Lib.hid (pcheck_any A n c l w h (by omega))
  obtain ⟨i0, hi0, hz0, hz1, hz2⟩ := info_parts Try.infoStr
  by_cases he : pagesErr l = 0
  · rw [he] at HK
    have hln := h.len
    obtain ⟨l16, _⟩ := pagesErr_len he
    by_cases hx : 0 ≤ x ∧ x ≤ 16
    · obtain ⟨g, rfl⟩ := Int.eq_ofNat_of_zero_le hx.1
      have R := Lib.hid (flatResize_ok (g := g) he (by omega))
      have hg16 : g ≤ 16 := by omega
      obtain ⟨m, hm, hmin⟩ : ∃ m : Nat, m = min n g ∧ (min (n : Int) (g : Int)) = (m : Int) := ⟨min n g, rfl, by omega⟩
      have hmn : m ≤ n := by omega
      have hmg : m ≤ g := by omega
      have hsl := fun W => run_upto (P := Try.prog) 37 9 1 Try.underlying37 (fun W => by kernel_rfl) A n c m (by omega) W
      have HC := Lib.hid (cloneStrs A m c _ w (h.take hmn).1 (oneCell_strs _) (by omega))
      have hfin : l.take g ++ List.replicate (g - l.length) zeroP = l.take m ++ List.replicate (g - m) zeroP := by
        rw [hln]
        rcases Nat.le_total n g with h1 | h1
        · rw [show m = n from by omega, List.take_of_length_le (by omega), List.take_of_length_le (by omega)]
        · rw [show m = g from by omega, show g - n = 0 from by omega, Nat.sub_self]
      have HF := Lib.hid hfin
      have h16 : l.length ≤ 16 := l16
      clear h he hx hln l16 hm hfin
      have HM := Lib.hid hmin
      clear hmin
      go_enter Try.func26, Try.ntmps26
      go_wp2_with fail
      refine HK.out.mono ?_
      rintro e w1 ⟨rfl, rfl⟩
      go_wp2_with fail
      rw [show (min (n : Int) (g : Int)).toNat = m from by rw [HM.out]; rfl]
      clear HM hsl
      refine HC.out.mono ?_
      rintro e w2 ⟨A1, c1, rfl, hown, hb2, hc1, hc2⟩
      go_wp2_with fail
      go_loopw [30, 7] (fun i o wr => ∃ (k c' : Nat) (A' : Option Addr), k ≤ g - m ∧ i = .int .i64 k ∧ o = .slice A' (m + k) c' ∧ wr.ownsRow w.heap.size 9 1 (.slice A' (m + k) c') (m + k) (padded l m k) ∧ Below w.heap.size w wr ∧ m + k ≤ c' ∧ c' ≤ maxLen) (fun i _ _ => (g - m) - (intOf i).toNat)
      case atStart => exact ⟨0, c1, A1, Nat.zero_le _, rfl, rfl, by rw [padded_zero]; exact hown, hb2, hc1, hc2⟩
      case round =>
        obtain ⟨k, c', A', hkg, rfl, rfl, ho, hbw, hc1', hc2'⟩ := hrel
        have HO := Lib.hid ho
        clear ho hown
        by_cases hlt : k < g - m
        · have hlt' : (k : Int) < (g : Int) - m := by omega
          go_wp2_with fail
          refine (zero_any _).mono ?_
          rintro e w3 ⟨rfl, hb3⟩
          obtain ⟨A2, c2, w4, q1, q2, q3, q4, q5, _, _⟩ := app_one (P := Try.prog) w3 w.heap.size 37 37 9 i0 _ 1 16 Try.underlying37 hi0 hz0 hz1 hz2 rfl (by omega) _ _ _ (own_below HO.out hb3) #[.string zeroP] rfl
            (by intro u hu; simp at hu; subst hu; rfl) (by omega) (by unfold maxLen; omega) (Nat.le_trans hbw.size hb3.size)
          have HR := Lib.hid q1
          have HO2 := Lib.hid q2
          have hbw4 := below_next hbw hb3 |>.trans q3
          clear q1 q2 hb3 hbw q3
          go_wp2_with (at_builtin; refine wpList_app rfl _ _ _ _ rfl rfl rfl rfl HR.out ?_)
          go_roundw
          case rel => exact ⟨k + 1, c2, A2, by omega, by go_num, rfl, by rw [← padded_succ]; exact HO2.out, hbw4, q4, q5⟩
          case measure => simp [intOf]; omega
        · have hlt' : ¬ (k : Int) < (g : Int) - m := by omega
          have hkk : k = g - m := by omega
          have HKK := Lib.hid hkk
          clear hkk
          go_wp2_with fail
          go_ret2
          refine ⟨A', _, c', by rw [R.out.1]; rfl, ?_, hbw, hc1', hc2'⟩
          rw [R.out.2, HF.out, ← HKK.out]
          exact HO.out
    · have R := Lib.hid (flatResize_out (g := x) he hx)
      clear h he hln l16
      have hx' : x < 0 ∨ (0 ≤ x ∧ 16 < x) := by omega
      rcases hx' with hx' | ⟨hx1, hx2⟩
      · go_enter Try.func26, Try.ntmps26
        go_wp2_with (go_at_call 59; refine HK.out.mono ?_; rintro e w1 ⟨rfl, rfl⟩)
        go_ret2
        exact OwnPair.mk_nil (by rw [R.out.2]; rfl) R.out.1 (Below.refl _ _)
      · go_enter Try.func26, Try.ntmps26
        go_wp2_with (go_at_call 59; refine HK.out.mono ?_; rintro e w1 ⟨rfl, rfl⟩)
        go_ret2
        exact OwnPair.mk_nil (by rw [R.out.2]; rfl) R.out.1 (Below.refl _ _)
  · have R := Lib.hid (flatResize_no (g := x) he)
    have he' : (pagesErr l != 0) = true := by simpa using he
    clear h he
    go_enter Try.func26, Try.ntmps26
    go_wp2_with (go_at_call 59; refine HK.out.mono ?_; rintro e w1 ⟨rfl, rfl⟩)
    go_ret2
    exact OwnPair.mk_nil (by rw [R.out.2]; rfl) R.out.1 (Below.refl _ _)

/-- What the reference's loop has gathered after k rounds. -/
def gathered (l : List ByteArray) (k : Nat) : List ByteArray := l.take k ++ List.replicate (k - l.length) zeroP
theorem gathered_zero (l : List ByteArray) : gathered l 0 = [] := by simp [gathered]
theorem gathered_in (l : List ByteArray) (k : Nat) (s : ByteArray) (hs : l[k]? = some s) : (gathered l k).map Value.string ++ [Value.string s] = (gathered l (k + 1)).map Value.string := by
  have hk : k < l.length := (List.getElem?_eq_some_iff.1 hs).1
  unfold gathered
  rw [show k - l.length = 0 from by omega, show k + 1 - l.length = 0 from by omega, List.take_add_one, hs]
  simp
theorem gathered_out (l : List ByteArray) (k : Nat) (hk : l.length ≤ k) : (gathered l k).map Value.string ++ [Value.string zeroP] = (gathered l (k + 1)).map Value.string := by
  unfold gathered
  rw [List.take_of_length_le hk, List.take_of_length_le (by omega), show k + 1 - l.length = (k - l.length) + 1 from by omega, List.replicate_succ']
  simp

end Go.Proofs.Ytpboapeoejdipaa
