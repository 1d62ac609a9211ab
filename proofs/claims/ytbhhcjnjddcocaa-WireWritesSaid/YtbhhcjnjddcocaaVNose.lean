/- The reference's nose: bytes that are read, 0 where none is left. Conditions: the text is not too long. -/
import Derived.Test.YtbhhcjnjddcocaaVGlass
namespace Go.Proofs.Ytbhhcjnjddcocaa
open Go.RowKit Sl
theorem grown_under {w w' w'' : World} {row : Option Nat} (h : w.grownBy w' row) (hb : Below w.heap.size w' w'') : w.grownBy w'' row :=
  ⟨hb.os.trans h.os, hb.tape.trans h.tape, hb.output.trans h.output, Nat.le_trans h.size hb.size, fun k hk hne => (hb.block k hk).trans (h.block k hk hne)⟩
set_option maxRecDepth 100000 in
set_option maxHeartbeats 1000000 in
theorem nbyte_any (gb : Nat) (l : List UInt8) (w : World) (h : Gl w gb 66 l) :
    Calls Try.prog 26 #[.pointer (some ⟨gb, 0, none⟩)] w fun e w' => e = .returned (.int .i64 ((nNum l).1 : Nat)) ∧ Gl w' gb 66 (nNum l).2 ∧ w.grownBy w' (some gb) := by
  have c := h.cell
  have f := h.froz
  cases l with
  | nil =>
    have hr := ofL_empty
    generalize hs : ofL [] = s at *
    go_enter Try.func26, Try.ntmps26
    go_wp2_with fail
    go_ret
    exact ⟨rfl, h, World.grownBy.refl w _⟩
  | cons b r =>
    have S := h.set r
    have E := ofL_from (b :: r) 1
    have hz : (ofL (b :: r)).size = r.length + 1 := by rw [ofL_size]; rfl
    have hr : (ofL (b :: r)).toList.isEmpty = false := by rw [ByteArray.toList_eq]; rfl
    have hi : ∀ hh, ((ofL (b :: r))[0]'hh).toNat = b.toNat := fun _ => rfl
    have hw := u8_wrap b
    rw [show (b :: r).drop 1 = r from rfl] at E
    rw [← E] at S
    have S := Lib.hid S
    clear h E
    generalize ofL (b :: r) = s at *
    have e0 : (0 : Int) < (s.size : Int) := by omega
    have e1 : (1 : Int) ≤ (s.size : Int) := by omega
    clear hz
    go_enter Try.func26, Try.ntmps26
    go_wp2_with fail
    go_ret
    exact ⟨congrArg (fun z => Ending.returned (.int .i64 z)) hw, S.out.1, S.out.2⟩
set_option maxRecDepth 100000 in
set_option maxHeartbeats 1000000 in
theorem ntext_any (gb : Nat) (l : List UInt8) (n : Nat) (w : World) (h : Gl w gb 66 l) :
    Calls Try.prog 27 #[.pointer (some ⟨gb, 0, none⟩), .int .i64 n] w fun e w' => e = .returned (.string (ofL (l.take n))) ∧ Gl w' gb 66 (l.drop n) ∧ w.grownBy w' (some gb) := by
  have c := h.cell
  have f := h.froz
  have hs := ofL_size l
  by_cases hn : n ≤ l.length
  · have E1 := Lib.hid (ofL_to l n)
    have E2 := Lib.hid (ofL_from l n)
    have S := Lib.hid (h.set (l.drop n))
    rw [← hs] at hn
    clear h hs
    generalize ofL l = s at *
    have e0 : (0 : Int) ≤ (n : Int) := by omega
    have e1 : (n : Int) ≤ (s.size : Int) := by omega
    go_enter Try.func27, Try.ntmps27
    go_wp2_with fail
    go_ret
    have S1 := S.out
    rw [← E2.out] at S1
    exact ⟨congrArg (fun x => Ending.returned (.string x)) E1.out, S1.1, S1.2⟩
  · have ht : l.take n = l := List.take_of_length_le (by omega)
    have hd : l.drop n = [] := List.drop_of_length_le (by omega)
    rw [ht, hd]
    have S := Lib.hid (h.set [])
    have e1 : ((ofL l).size : Int) < (n : Int) := by omega
    clear h ht hd hs hn
    generalize ofL l = s at *
    go_enter Try.func27, Try.ntmps27
    go_wp2_with fail
    go_ret
    exact ⟨rfl, S.out.1, S.out.2⟩
set_option maxRecDepth 100000 in
set_option maxHeartbeats 1000000 in
theorem nlist_any (gb : Nat) (l : List UInt8) (n : Nat) (w : World) (h : Gl w gb 66 l) (hn : n ≤ 100000) :
    Calls Try.prog 28 #[.pointer (some ⟨gb, 0, none⟩), .int .i64 n] w fun e w' => (∃ v, e = .returned v ∧ IntsV w.heap.size (nList n l).1 v w') ∧ Gl w' gb 66 (nList n l).2 ∧ w.grownBy w' (some gb) := by
  obtain ⟨i0, hi0, hz0, hz1, hz2⟩ := info_parts Try.infoInt
  have h0 := Lib.hid h
  clear h
  go_enter Try.func28, Try.ntmps28
  go_wp2_with fail
  go_loopw [5, 6] (fun o i wr => ∃ (k c' : Nat) (A' : Option Addr), k ≤ n ∧ i = .int .i64 k ∧ o = .slice A' k c' ∧ wr.ownsRow w.heap.size 3 1 (.slice A' k c') k (ints (nList k l).1) ∧ Gl wr gb 66 (nList k l).2 ∧ w.grownBy wr (some gb) ∧ k ≤ c' ∧ c' ≤ maxLen) (fun _ i _ => n - (intOf i).toNat)
  case atStart => exact ⟨0, 0, none, Nat.zero_le _, rfl, rfl, World.ownsRow_nil _ _ _ _, h0.out, World.grownBy.refl _ _, Nat.le_refl _, by simp⟩
  case round =>
    obtain ⟨k, c', A', hk, rfl, rfl, ho, hG, hg, hc1, hc2⟩ := hrel
    clear h0
    have hls := nList_succ k l
    by_cases hlt : k < n
    · have K := Lib.hid (nbyte_any gb _ wr hG)
      have e0 : (0 : Int) ≤ (k : Int) := by omega
      have e1 : (k : Int) < (n : Int) := by omega
      generalize hzz : nList (k + 1) l = z at *
      generalize nList k l = y at *
      generalize nNum y.2 = u at *
      have hgT := hG.ty
      go_wp2_with fail
      refine K.out.mono ?_
      rintro e w2 ⟨rfl, hG2, hg2⟩
      have ho2 := own_grown ho hg2 hgT (by decide)
      have hg3 := hg.trans hg2
      obtain ⟨A2, c2, w4, q1, q2, q3, q4, q5, q6, _⟩ := app_one (P := Try.prog) w2 w.heap.size 22 22 3 i0 _ 1 8 Try.underlying22 hi0 hz0 hz1 hz2 rfl (by omega) _ _ _ ho2 #[.int .i64 (entI (u.1 : Nat))] rfl
        (by intro u hu; simp at hu; subst hu; rfl) (by omega) (by unfold maxLen; omega) hg3.size
      have b1 := below1 w2 (.cells #[.int .i64 (entI (u.1 : Nat))] 3)
      have G3 := (hG2.next b1)
      have G4 := Lib.hid (G3.kept q6 (fun e => (G3.ty.ne (own_block (own_below ho2 b1) e.symm) (by decide)) rfl))
      have HR := Lib.hid q1
      have g4 := Lib.hid (grown_under hg3 q3)
      have O4 := Lib.hid (show w4.ownsRow w.heap.size 3 1 (.slice A2 (k + 1) c2) (k + 1) (ints z.1) from by rw [hls]; simpa [ints] using q2)
      have G5 := Lib.hid (show Gl w4 gb 66 z.2 from by rw [hls]; exact G4.out)
      clear q1 q2 q3 q6 ho ho2 hG hG2 hg hg2 hg3 K b1 G3 G4 hls hgT
      generalize hm : (u.1 : Int) = m at *
      cases hB : (m == 255)
      · have hE : entI m = m := by unfold entI; rw [if_neg (by simpa using hB)]
        rw [hE] at HR
        go_wp2_with (at_builtin; refine wpList_app rfl _ _ _ _ rfl rfl rfl rfl HR.out ?_)
        go_roundw
        case rel => exact ⟨k + 1, c2, A2, by omega, by go_num, rfl, by rw [hzz]; exact O4.out, by rw [hzz]; exact G5.out, g4.out, q4, q5⟩
        case measure => simp [intOf]; omega
      · have hE : entI m = -1 := by unfold entI; rw [if_pos (by simpa using hB)]
        rw [hE] at HR
        go_wp2_with (at_builtin; refine wpList_app rfl _ _ _ _ rfl rfl rfl rfl HR.out ?_)
        go_roundw
        case rel => exact ⟨k + 1, c2, A2, by omega, by go_num, rfl, by rw [hzz]; exact O4.out, by rw [hzz]; exact G5.out, g4.out, q4, q5⟩
        case measure => simp [intOf]; omega
    · obtain rfl : k = n := by omega
      have hl := nList_len k l
      go_wp2_with fail
      go_ret
      exact ⟨⟨_, rfl, A', c', by rw [hl]; rfl, by rw [hl]; exact ho, by rw [hl]; exact hc1, hc2⟩, hG, hg⟩
end Go.Proofs.Ytbhhcjnjddcocaa
