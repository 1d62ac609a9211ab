/- The laws' readsBegun. No conditions. -/
import Derived.Test.YtnjjnioilbnnpaaReads4
namespace Go.Proofs.Ytnjjnioilbnnpaa
open Go.RowKit Sl
abbrev sB : ByteArray := { data := #[98, 98, 98, 98] }
abbrev sA : ByteArray := { data := #[97, 97, 97, 97] }
theorem p_read4 : readV (pImg 6 [2, 4] [0, 2, 2, 1, 1] [3, 0, 0, 0]) 4 = { data := #[98, 98, 98, 98] } ∧ lookE (pImg 6 [2, 4] [0, 2, 2, 1, 1] [3, 0, 0, 0]) 4 = 0 := by decide +kernel
theorem p_read1 : readV (pImg 6 [2, 4] [0, 2, 2, 1, 1] [3, 0, 0, 0]) 1 = { data := #[0, 0, 0, 0] } ∧ lookE (pImg 6 [2, 4] [0, 2, 2, 1, 1] [3, 0, 0, 0]) 1 = 0 := by decide +kernel
theorem p_all : allM (pImg 6 [2, 4] [0, 2, 2, 1, 1] [3, 0, 0, 0]) = [{ data := #[97, 97, 97, 97] }, { data := #[0, 0, 0, 0] }, { data := #[0, 0, 0, 0] }, { data := #[97, 97, 97, 97] }, { data := #[98, 98, 98, 98] }, { data := #[0, 0, 0, 0] }] := by decide +kernel
theorem p_past : pastV (pImg 6 [2, 4] [0, 2, 2, 1, 1] [3, 0, 0, 0]) { data := #[111, 108, 100] } = [{ data := #[97, 97, 97, 97] }, { data := #[0, 0, 0, 0] }, { data := #[0, 0, 0, 0] }, { data := #[97, 97, 97, 97] }] ∧ pastE (pImg 6 [2, 4] [0, 2, 2, 1, 1] [3, 0, 0, 0]) { data := #[111, 108, 100] } = 0 := by decide +kernel
theorem p_pastn : pastV (pImg 6 [2, 4] [0, 2, 2, 1, 1] [3, 0, 0, 0]) { data := #[110, 101, 119] } = [] ∧ pastE (pImg 6 [2, 4] [0, 2, 2, 1, 1] [3, 0, 0, 0]) { data := #[110, 101, 119] } = 5 := by decide +kernel
section
variable (W : World) (h : Nat)
theorem pc_read4 (p : PairAt W h [2, 4] [0, 2, 2, 1, 1] [3, 0, 0, 0]) : Calls Try.prog 30 #[.agg #[.int .i64 6, .slice (some ⟨h + 1, 0, none⟩) 2 2, .slice (some ⟨h + 1 + 1 + 1 + 1, 0, none⟩) 5 5, .slice (some ⟨h + 1 + 1 + 1 + 1 + 1, 0, none⟩) 5 5, .slice (some ⟨h + 1 + 1 + 1 + 1 + 1 + 1 + 1, 0, none⟩) 1 1], .int .i64 4] W fun e w' => e = .returned (.tuple #[.string { data := #[98, 98, 98, 98] }, .int .i64 0]) ∧ Below W.heap.size W w' := by
  have := tread_any (pV h) _ 4 W (p.img 6 rfl rfl rfl)
  rw [p_read4.1, p_read4.2] at this
  exact this
theorem pc_read1 (p : PairAt W h [2, 4] [0, 2, 2, 1, 1] [3, 0, 0, 0]) : Calls Try.prog 30 #[.agg #[.int .i64 6, .slice (some ⟨h + 1, 0, none⟩) 2 2, .slice (some ⟨h + 1 + 1 + 1 + 1, 0, none⟩) 5 5, .slice (some ⟨h + 1 + 1 + 1 + 1 + 1, 0, none⟩) 5 5, .slice (some ⟨h + 1 + 1 + 1 + 1 + 1 + 1 + 1, 0, none⟩) 1 1], .int .i64 1] W fun e w' => e = .returned (.tuple #[.string { data := #[0, 0, 0, 0] }, .int .i64 0]) ∧ Below W.heap.size W w' := by
  have := tread_any (pV h) _ 1 W (p.img 6 rfl rfl rfl)
  rw [p_read1.1, p_read1.2] at this
  exact this
theorem pc_all (p : PairAt W h [2, 4] [0, 2, 2, 1, 1] [3, 0, 0, 0]) : Calls Try.prog 32 #[.agg #[.int .i64 6, .slice (some ⟨h + 1, 0, none⟩) 2 2, .slice (some ⟨h + 1 + 1 + 1 + 1, 0, none⟩) 5 5, .slice (some ⟨h + 1 + 1 + 1 + 1 + 1, 0, none⟩) 5 5, .slice (some ⟨h + 1 + 1 + 1 + 1 + 1 + 1 + 1, 0, none⟩) 1 1]] W (OwnPair W.heap.size 9 1 ([{ data := #[97, 97, 97, 97] }, { data := #[0, 0, 0, 0] }, { data := #[0, 0, 0, 0] }, { data := #[97, 97, 97, 97] }, { data := #[98, 98, 98, 98] }, { data := #[0, 0, 0, 0] }].map Value.string) 0 W) := by
  have := tAll_any (pV h) _ W (p.img 6 rfl rfl rfl)
  rw [p_all, p_check] at this
  exact this
theorem pc_past (p : PairAt W h [2, 4] [0, 2, 2, 1, 1] [3, 0, 0, 0]) : Calls Try.prog 33 #[.agg #[.int .i64 6, .slice (some ⟨h + 1, 0, none⟩) 2 2, .slice (some ⟨h + 1 + 1 + 1 + 1, 0, none⟩) 5 5, .slice (some ⟨h + 1 + 1 + 1 + 1 + 1, 0, none⟩) 5 5, .slice (some ⟨h + 1 + 1 + 1 + 1 + 1 + 1 + 1, 0, none⟩) 1 1], .string { data := #[111, 108, 100] }] W (OwnPair W.heap.size 9 1 ([{ data := #[97, 97, 97, 97] }, { data := #[0, 0, 0, 0] }, { data := #[0, 0, 0, 0] }, { data := #[97, 97, 97, 97] }].map Value.string) 0 W) := by
  have := tPast_any (pV h) _ { data := #[111, 108, 100] } W (p.img 6 rfl rfl rfl)
  rw [p_past.1, p_past.2] at this
  exact this
theorem pc_pastn (p : PairAt W h [2, 4] [0, 2, 2, 1, 1] [3, 0, 0, 0]) : Calls Try.prog 33 #[.agg #[.int .i64 6, .slice (some ⟨h + 1, 0, none⟩) 2 2, .slice (some ⟨h + 1 + 1 + 1 + 1, 0, none⟩) 5 5, .slice (some ⟨h + 1 + 1 + 1 + 1 + 1, 0, none⟩) 5 5, .slice (some ⟨h + 1 + 1 + 1 + 1 + 1 + 1 + 1, 0, none⟩) 1 1], .string { data := #[110, 101, 119] }] W (OwnPair W.heap.size 9 1 (([] : List ByteArray).map Value.string) 5 W) := by
  have := tPast_any (pV h) _ { data := #[110, 101, 119] } W (p.img 6 rfl rfl rfl)
  rw [p_pastn.1, p_pastn.2] at this
  exact this
end
theorem own_strs {w : World} {base n c : Nat} {A : Option Addr} {l : List ByteArray} (h : w.ownsRow base 9 1 (.slice A n c) n (l.map Value.string)) : n = l.length ∧ Rd w w.heap.size 1 A n (l.map Value.string) := ⟨by have := h.1; simp at this; omega, Rd.of_own h⟩
set_option maxRecDepth 100000 in
set_option maxHeartbeats 4000000 in
theorem readsBegun_any (w : World) : Calls Try.prog 36 #[] w fun e w' => e = .returned (.bool true) ∧ Below w.heap.size w w' := by
  go_enter Try.func36, Try.ntmps36
  go_wp2_with fail
  refine (pair_any _).mono ?_
  rintro e w1 ⟨rfl, hp1, hb1⟩
  have T1 := Lib.hid hb1
  clear hb1
  go_wp2_with fail
  refine (pc_read4 _ _ hp1).mono ?_
  rintro e w2 ⟨rfl, hb2⟩
  have T2 := Lib.hid (below_next T1.out hb2)
  clear hb2 hp1
  go_wp2_with fail
  refine (pair_any _).mono ?_
  rintro e w3 ⟨rfl, hp3, hb3⟩
  have T3 := Lib.hid (below_next T2.out hb3)
  clear hb3
  go_wp2_with fail
  refine (pc_read1 _ _ hp3).mono ?_
  rintro e w4 ⟨rfl, hb4⟩
  have T4 := Lib.hid (below_next T3.out hb4)
  clear hb4 hp3
  go_wp2_with fail
  refine (pair_any _).mono ?_
  rintro e w5 ⟨rfl, hp5, hb5⟩
  have T5 := Lib.hid (below_next T4.out hb5)
  clear hb5
  go_wp2_with fail
  refine (pc_all _ _ hp5).mono ?_
  rintro e w6 ⟨A6, n6, c6, rfl, ho6, hb6, hc6, hm6⟩
  have T6 := Lib.hid (below_next T5.out hb6)
  obtain ⟨rfl, hr6⟩ := own_strs ho6
  have R6 := Lib.hid hr6
  clear ho6 hr6 hm6 hb6 hp5
  go_wp2_with fail
  refine (pair_any _).mono ?_
  rintro e w7 ⟨rfl, hp7, hb7⟩
  have U7 := Lib.hid hb7
  clear hb7
  go_wp2_with fail
  refine (pc_past _ _ hp7).mono ?_
  rintro e w8 ⟨A8, n8, c8, rfl, ho8, hb8, hc8, hm8⟩
  have U8 := Lib.hid (below_next U7.out hb8)
  obtain ⟨rfl, hr8⟩ := own_strs ho8
  have R8 := Lib.hid hr8
  clear ho8 hr8 hm8 hb8 hp7
  go_wp2_with fail
  refine (pair_any _).mono ?_
  rintro e w9 ⟨rfl, hp9, hb9⟩
  have V9 := Lib.hid hb9
  clear hb9
  go_wp2_with fail
  refine (pc_pastn _ _ hp9).mono ?_
  rintro e w10 ⟨A10, n10, c10, rfl, ho10, hb10, hc10, hm10⟩
  have V10 := Lib.hid (below_next V9.out hb10)
  clear ho10 hm10 hb10 hp9
  have S1 := Lib.hid (fun (T : TypeId) => samePages_any A6 (some ⟨w10.heap.size, 0, none⟩) _ 6 c6 6 [{ data := #[97, 97, 97, 97] }, { data := #[0, 0, 0, 0] }, { data := #[0, 0, 0, 0] }, { data := #[97, 97, 97, 97] }, { data := #[98, 98, 98, 98] }, { data := #[0, 0, 0, 0] }] [{ data := #[97, 97, 97, 97] }, { data := #[0, 0, 0, 0] }, { data := #[0, 0, 0, 0] }, { data := #[97, 97, 97, 97] }, { data := #[98, 98, 98, 98] }, { data := #[0, 0, 0, 0] }] (w10.alloc (.cells #[Value.string { data := #[97, 97, 97, 97] }, Value.string { data := #[0, 0, 0, 0] }, Value.string { data := #[0, 0, 0, 0] }, Value.string { data := #[97, 97, 97, 97] }, Value.string { data := #[98, 98, 98, 98] }, Value.string { data := #[0, 0, 0, 0] }] T)) ((R6.out.next (below_next U8.out V10.out)).next (below1 _ _)) (Rd.of_block (heap_alloc_new w10 _) (by simp) rfl rfl) (by simp) (by omega))
  go_wp2_with fail
  refine (S1.out _).mono ?_
  rintro e w11 ⟨rfl, hb11⟩
  have X11 := Lib.hid ((below1 w10 _).trans (hb11.mono (by simp)))
  have S2 := Lib.hid (fun (T : TypeId) => samePages_any A8 (some ⟨w11.heap.size, 0, none⟩) _ 4 c8 4 [{ data := #[97, 97, 97, 97] }, { data := #[0, 0, 0, 0] }, { data := #[0, 0, 0, 0] }, { data := #[97, 97, 97, 97] }] [{ data := #[97, 97, 97, 97] }, { data := #[0, 0, 0, 0] }, { data := #[0, 0, 0, 0] }, { data := #[97, 97, 97, 97] }] (w11.alloc (.cells #[Value.string { data := #[97, 97, 97, 97] }, Value.string { data := #[0, 0, 0, 0] }, Value.string { data := #[0, 0, 0, 0] }, Value.string { data := #[97, 97, 97, 97] }] T)) (((R8.out.next V10.out).next X11.out).next (below1 _ _)) (Rd.of_block (heap_alloc_new w11 _) (by simp) rfl rfl) (by simp) (by omega))
  go_wp2_with fail
  refine (S2.out _).mono ?_
  rintro e w12 ⟨rfl, hb12⟩
  go_wp2_with fail
  go_ret
  exact ⟨rfl, below_next T6.out (below_next (below_next U8.out V10.out) (below_next X11.out ((below1 w11 _).trans (hb12.mono (by simp)))))⟩
end Go.Proofs.Ytnjjnioilbnnpaa
