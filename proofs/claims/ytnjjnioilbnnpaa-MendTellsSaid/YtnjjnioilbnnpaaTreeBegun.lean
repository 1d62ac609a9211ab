/- The constant checks of the tree's laws. No conditions. -/
import Derived.Test.YtnjjnioilbnnpaaPair
import Derived.Test.YtnjjnioilbnnpaaSame
namespace Go.Proofs.Ytnjjnioilbnnpaa
open Go.RowKit Sl

theorem p_shape : shapeErr (pImg 6 [2, 4] [0, 2, 2, 1, 1] [3, 0, 0, 0]) = 0 := by decide +kernel
theorem p_cnt : cntV (pImg 6 [2, 4] [0, 2, 2, 1, 1] [3, 0, 0, 0]) = [0, 2, 2, 1, 1] := by decide +kernel
theorem p_check : checkErr (pImg 6 [2, 4] [0, 2, 2, 1, 1] [3, 0, 0, 0]) = 0 := by decide +kernel
theorem p_check9 : checkErr (pImg 6 [2, 4] [0, 1, 2, 1, 1] [3, 0, 0, 0]) = 9 := by decide +kernel
theorem p_shape1 : shapeErr (pImg 5 [2, 4] [0, 2, 2, 1, 1] [3, 3, 0, 0]) = 1 := by decide +kernel
theorem p_look2 : lookN (pImg 6 [2, 4] [0, 2, 2, 1, 1] [3, 0, 0, 0]) 2 = -1 ∧ lookE (pImg 6 [2, 4] [0, 2, 2, 1, 1] [3, 0, 0, 0]) 2 = 0 := by decide +kernel
theorem p_look4 : lookN (pImg 6 [2, 4] [0, 2, 2, 1, 1] [3, 0, 0, 0]) 4 = 3 ∧ lookE (pImg 6 [2, 4] [0, 2, 2, 1, 1] [3, 0, 0, 0]) 4 = 0 := by decide +kernel
section
variable (W : World) (h : Nat)
theorem pc_counts (p : PairAt W h [2, 4] [0, 2, 2, 1, 1] [3, 0, 0, 0]) : Calls Try.prog 14 #[.agg #[.int .i64 6, .slice (some ⟨h + 1, 0, none⟩) 2 2, .slice (some ⟨h + 1 + 1 + 1 + 1, 0, none⟩) 5 5, .slice (some ⟨h + 1 + 1 + 1 + 1 + 1, 0, none⟩) 5 5, .slice (some ⟨h + 1 + 1 + 1 + 1 + 1 + 1 + 1, 0, none⟩) 1 1]] W (IntsRes W.heap.size [0, 2, 2, 1, 1] 0 W) := by
  have := tcounts_any (pV h) _ W (p.img 6 rfl rfl rfl)
  rw [p_shape, p_cnt] at this
  exact this
theorem pc_shape (p : PairAt W h [2, 4] [0, 2, 2, 1, 1] [3, 0, 0, 0]) : Calls Try.prog 12 #[.agg #[.int .i64 6, .slice (some ⟨h + 1, 0, none⟩) 2 2, .slice (some ⟨h + 1 + 1 + 1 + 1, 0, none⟩) 5 5, .slice (some ⟨h + 1 + 1 + 1 + 1 + 1, 0, none⟩) 5 5, .slice (some ⟨h + 1 + 1 + 1 + 1 + 1 + 1 + 1, 0, none⟩) 1 1]] W fun e w' => e = .returned (.int .i64 0) ∧ Below W.heap.size W w' := by
  have := shape_any (pV h) _ W (p.img 6 rfl rfl rfl)
  rw [p_shape] at this
  exact this
theorem pc_check (p : PairAt W h [2, 4] [0, 2, 2, 1, 1] [3, 0, 0, 0]) : Calls Try.prog 17 #[.agg #[.int .i64 6, .slice (some ⟨h + 1, 0, none⟩) 2 2, .slice (some ⟨h + 1 + 1 + 1 + 1, 0, none⟩) 5 5, .slice (some ⟨h + 1 + 1 + 1 + 1 + 1, 0, none⟩) 5 5, .slice (some ⟨h + 1 + 1 + 1 + 1 + 1 + 1 + 1, 0, none⟩) 1 1]] W fun e w' => e = .returned (.int .i64 0) ∧ Below W.heap.size W w' := by
  have := tcheck_any (pV h) _ W (p.img 6 rfl rfl rfl)
  rw [p_check] at this
  exact this
theorem pc_check9 (p : PairAt W h [2, 4] [0, 1, 2, 1, 1] [3, 0, 0, 0]) : Calls Try.prog 17 #[.agg #[.int .i64 6, .slice (some ⟨h + 1, 0, none⟩) 2 2, .slice (some ⟨h + 1 + 1 + 1 + 1, 0, none⟩) 5 5, .slice (some ⟨h + 1 + 1 + 1 + 1 + 1, 0, none⟩) 5 5, .slice (some ⟨h + 1 + 1 + 1 + 1 + 1 + 1 + 1, 0, none⟩) 1 1]] W fun e w' => e = .returned (.int .i64 9) ∧ Below W.heap.size W w' := by
  have := tcheck_any (pV h) _ W (p.img 6 rfl rfl rfl)
  rw [p_check9] at this
  exact this
theorem pc_shape1 (p : PairAt W h [2, 4] [0, 2, 2, 1, 1] [3, 3, 0, 0]) : Calls Try.prog 12 #[.agg #[.int .i64 5, .slice (some ⟨h + 1, 0, none⟩) 2 2, .slice (some ⟨h + 1 + 1 + 1 + 1, 0, none⟩) 5 5, .slice (some ⟨h + 1 + 1 + 1 + 1 + 1, 0, none⟩) 5 5, .slice (some ⟨h + 1 + 1 + 1 + 1 + 1 + 1 + 1, 0, none⟩) 1 1]] W fun e w' => e = .returned (.int .i64 1) ∧ Below W.heap.size W w' := by
  have := shape_any (pV h) _ W (p.img 5 rfl rfl rfl)
  rw [p_shape1] at this
  exact this
theorem pc_look2 (p : PairAt W h [2, 4] [0, 2, 2, 1, 1] [3, 0, 0, 0]) : Calls Try.prog 19 #[.agg #[.int .i64 6, .slice (some ⟨h + 1, 0, none⟩) 2 2, .slice (some ⟨h + 1 + 1 + 1 + 1, 0, none⟩) 5 5, .slice (some ⟨h + 1 + 1 + 1 + 1 + 1, 0, none⟩) 5 5, .slice (some ⟨h + 1 + 1 + 1 + 1 + 1 + 1 + 1, 0, none⟩) 1 1], .int .i64 2] W fun e w' => e = .returned (.tuple #[.int .i64 (-1), .int .i64 0]) ∧ Below W.heap.size W w' := by
  have := tlook_any (pV h) _ 2 W (p.img 6 rfl rfl rfl)
  rw [p_look2.1, p_look2.2] at this
  exact this
theorem pc_look4 (p : PairAt W h [2, 4] [0, 2, 2, 1, 1] [3, 0, 0, 0]) : Calls Try.prog 19 #[.agg #[.int .i64 6, .slice (some ⟨h + 1, 0, none⟩) 2 2, .slice (some ⟨h + 1 + 1 + 1 + 1, 0, none⟩) 5 5, .slice (some ⟨h + 1 + 1 + 1 + 1 + 1, 0, none⟩) 5 5, .slice (some ⟨h + 1 + 1 + 1 + 1 + 1 + 1 + 1, 0, none⟩) 1 1], .int .i64 4] W fun e w' => e = .returned (.tuple #[.int .i64 3, .int .i64 0]) ∧ Below W.heap.size W w' := by
  have := tlook_any (pV h) _ 4 W (p.img 6 rfl rfl rfl)
  rw [p_look4.1, p_look4.2] at this
  exact this
end

set_option maxRecDepth 100000 in
set_option maxHeartbeats 2000000 in
theorem treeBegun_any (w : World) : Calls Try.prog 11 #[] w fun e w' => e = .returned (.bool true) ∧ Below w.heap.size w w' := by
  go_enter Try.func11, Try.ntmps11
  go_wp2_with fail
  refine (pair_any _).mono ?_
  rintro e w1 ⟨rfl, hp1, hb1⟩
  have HB1 := Lib.hid hb1
  clear hb1
  go_wp2_with fail
  refine (pc_counts _ _ hp1).mono ?_
  rintro e w2 ⟨A2, n2, c2, rfl, ho2, hb2, hc2, hm2⟩
  obtain rfl : n2 = 5 := by have := ho2.1; simp [ints] at this; omega
  have r2 : Rd w2 w2.heap.size 1 A2 5 (ints [0, 2, 2, 1, 1]) := Rd.of_own ho2
  have HB2 := Lib.hid (below_next HB1.out hb2)
  have HR2 := Lib.hid r2
  clear ho2 hb2 r2 hp1 HB1 hm2
  go_wp2_with fail
  refine (pair_any _).mono ?_
  rintro e w3 ⟨rfl, hp3, hb3⟩
  have T3 := Lib.hid hb3
  clear hb3
  go_wp2_with fail
  refine (pc_look2 _ _ hp3).mono ?_
  rintro e w4 ⟨rfl, hb4⟩
  have T4 := Lib.hid (below_next T3.out hb4)
  clear hb4 T3 hp3
  go_wp2_with fail
  refine (pair_any _).mono ?_
  rintro e w5 ⟨rfl, hp5, hb5⟩
  have T5 := Lib.hid (below_next T4.out hb5)
  clear hb5 T4
  go_wp2_with fail
  refine (pc_look4 _ _ hp5).mono ?_
  rintro e w6 ⟨rfl, hb6⟩
  have T6 := Lib.hid (below_next T5.out hb6)
  clear hb6 T5 hp5
  go_wp2_with fail
  refine (pair_any _).mono ?_
  rintro e w7 ⟨rfl, hp7, hb7⟩
  have T7 := Lib.hid (below_next T6.out hb7)
  have hz7 := hp7.lt
  have hz67 := T6.out.size
  clear hb7 T6
  have x1 := fun o => ((below1 w7 o).cell (p := ⟨w6.heap.size + 1 + 1 + 1 + 1 + 1, 1, none⟩) (by dsimp only; omega)).trans (hp7.refs.cell (k := 1) (x := 2) rfl)
  have x2 := fun o => ((below1 w7 o).frozen (p := ⟨w6.heap.size + 1 + 1 + 1 + 1 + 1, 1, none⟩) (by dsimp only; omega)).trans (hp7.refs.frozen 1)
  obtain ⟨W8, hW8⟩ : ∃ W8, (w7.alloc (.cells #[.int .i64 6, .slice (some ⟨w6.heap.size + 1, 0, none⟩) 2 2, .slice (some ⟨w6.heap.size + 1 + 1 + 1 + 1, 0, none⟩) 5 5, .slice (some ⟨w6.heap.size + 1 + 1 + 1 + 1 + 1, 0, none⟩) 5 5, .slice (some ⟨w6.heap.size + 1 + 1 + 1 + 1 + 1 + 1 + 1, 0, none⟩) 1 1] 26)).setCell ⟨w6.heap.size + 1 + 1 + 1 + 1 + 1, 1, none⟩ (.int .i64 1) = W8 := ⟨_, rfl⟩
  have hpX : PairAt W8 w6.heap.size [2, 4] [0, 1, 2, 1, 1] [3, 0, 0, 0] := by rw [← hW8]; exact (hp7.keep (below1 _ _) (by omega)).setRefs 1 1
  have hbX : Box W8 w7.heap.size 6 (pV w6.heap.size) := by
    rw [← hW8]
    exact (Box.new w7 6 (pV w6.heap.size) 26).set _ _ (by dsimp only; omega)
  have hzW : w7.heap.size < W8.heap.size := by rw [← hW8]; simp [World.setCell]
  have T8 := Lib.hid (show Below w2.heap.size w2 W8 from by rw [← hW8]; exact (T7.out.alloc T7.out.size _).setCell (p := ⟨w6.heap.size + 1 + 1 + 1 + 1 + 1, 1, none⟩) (by dsimp only; omega) _)
  go_wp2_with fail
  clear x1 x2 hp7 hW8 T7
  refine (pair_any _).mono ?_
  rintro e w9 ⟨rfl, hp9, hb9⟩
  have T9 := Lib.hid (below_next T8.out hb9)
  have HPX := Lib.hid (hpX.keep hb9 (by omega))
  have HBX := Lib.hid (hbX.keep hb9 hzW)
  have hz9 := hp9.lt
  have hz89 := T8.out.size
  clear hb9 T8 hpX hbX
  have y0 := fun o => ((below1 w9 o).cell (p := ⟨W8.heap.size + 1 + 1 + 1 + 1, 14, none⟩) (by dsimp only; omega)).trans (cell_of_row w9 (W8.heap.size + 1 + 1 + 1 + 1) 14 _ _ _ hp9.slots)
  simp only [List.getElem?_toArray, List.getElem?_cons_succ, List.getElem?_cons_zero] at y0
  have y1 := fun o => ((below1 w9 o).cell (p := ⟨W8.heap.size + 1 + 1 + 1, 1, none⟩) (by dsimp only; omega)).trans (hp9.t4.cell (k := 1) (x := 0) rfl)
  have y2 := fun o => ((below1 w9 o).frozen (p := ⟨W8.heap.size + 1 + 1 + 1, 1, none⟩) (by dsimp only; omega)).trans (hp9.t4.frozen 1)
  obtain ⟨WA, hWA⟩ : ∃ WA, (w9.alloc (.cells #[.int .i64 5, .slice (some ⟨W8.heap.size + 1, 0, none⟩) 2 2, .slice (some ⟨W8.heap.size + 1 + 1 + 1 + 1, 0, none⟩) 5 5, .slice (some ⟨W8.heap.size + 1 + 1 + 1 + 1 + 1, 0, none⟩) 5 5, .slice (some ⟨W8.heap.size + 1 + 1 + 1 + 1 + 1 + 1 + 1, 0, none⟩) 1 1] 26)).setCell ⟨W8.heap.size + 1 + 1 + 1, 1, none⟩ (.int .i64 3) = WA := ⟨_, rfl⟩
  have hpY : PairAt WA W8.heap.size [2, 4] [0, 2, 2, 1, 1] [3, 3, 0, 0] := by rw [← hWA]; exact (hp9.keep (below1 _ _) (by omega)).setT4 1 3
  have hbY : Box WA w9.heap.size 5 (pV W8.heap.size) := by
    rw [← hWA]
    exact (Box.new w9 5 (pV W8.heap.size) 26).set _ _ (by dsimp only; omega)
  have hzA : w9.heap.size < WA.heap.size := by rw [← hWA]; simp [World.setCell]
  have hbA : Below (W8.heap.size + 1 + 1 + 1) w9 WA := by rw [← hWA]; exact (show Below (W8.heap.size + 1 + 1 + 1) w9 (w9.alloc _) from (below1 w9 _).mono (by omega)).setCell (p := ⟨W8.heap.size + 1 + 1 + 1, 1, none⟩) (Nat.le_refl _) _
  have TA := Lib.hid (T9.out.trans (hbA.mono (by omega)))
  have HPXA := Lib.hid (HPX.out.keep hbA (by omega))
  have HBXA := Lib.hid (HBX.out.keep hbA (by omega))
  have hzAA := TA.out.size
  go_wp2_with fail
  clear y0 y1 y2 hp9 hWA T9 HPX HBX hbA
  refine (pair_any _).mono ?_
  rintro e wB ⟨rfl, hpB, hbB⟩
  have TB := Lib.hid (below_next TA.out hbB)
  have HPXB := Lib.hid (HPXA.out.keep hbB (by omega))
  have HBXB := Lib.hid (HBXA.out.keep hbB (by omega))
  have HPYB := Lib.hid (hpY.keep hbB (by omega))
  have HBYB := Lib.hid (hbY.keep hbB hzA)
  have hzB := hbB.size
  clear hbB TA HPXA HBXA hpY hbY
  go_wp2_with fail
  refine (pc_shape _ _ hpB).mono ?_
  rintro e wC ⟨rfl, hbC⟩
  have TC := Lib.hid (below_next TB.out hbC)
  have HPXC := Lib.hid (HPXB.out.keep hbC (by omega))
  have HBXC := Lib.hid (HBXB.out.keep hbC (by omega))
  have HPYC := Lib.hid (HPYB.out.keep hbC (by omega))
  have HBYC := Lib.hid (HBYB.out.keep hbC (by omega))
  have hzC := hbC.size
  clear hbC TB HPXB HBXB HPYB HBYB hpB
  go_wp2_with fail
  refine (pair_any _).mono ?_
  rintro e wD ⟨rfl, hpD, hbD⟩
  have TD := Lib.hid (below_next TC.out hbD)
  have HPXD := Lib.hid (HPXC.out.keep hbD (by omega))
  have HBXD := Lib.hid (HBXC.out.keep hbD (by omega))
  have HPYD := Lib.hid (HPYC.out.keep hbD (by omega))
  have HBYD := Lib.hid (HBYC.out.keep hbD (by omega))
  have hzD := hbD.size
  clear hbD TC HPXC HBXC HPYC HBYC
  go_wp2_with fail
  refine (pc_check _ _ hpD).mono ?_
  rintro e wE ⟨rfl, hbE⟩
  have TE := Lib.hid (below_next TD.out hbE)
  have HPXE := HPXD.out.keep hbE (by omega)
  have HPYE := Lib.hid (HPYD.out.keep hbE (by omega))
  have HBYE := Lib.hid (HBYD.out.keep hbE (by omega))
  have hzE := hbE.size
  obtain ⟨b0, b1, b2, b3, b4⟩ := HBXD.out.keep hbE (by omega)
  dsimp only [pV] at b0 b1 b2 b3 b4
  clear hbE TD HPXD HBXD HPYD HBYD hpD
  go_wp2_with fail
  refine (pc_check9 _ _ HPXE).mono ?_
  rintro e wF ⟨rfl, hbF⟩
  have TF := Lib.hid (below_next TE.out hbF)
  have HPYF := HPYE.out.keep hbF (by omega)
  obtain ⟨d0, d1, d2, d3, d4⟩ := HBYE.out.keep hbF (by omega)
  dsimp only [pV] at d0 d1 d2 d3 d4
  clear hbF TE HPYE HBYE HPXE b0 b1 b2 b3 b4
  go_wp2_with fail
  refine (pc_shape1 _ _ HPYF).mono ?_
  rintro e wG ⟨rfl, hbG⟩
  have TG := Lib.hid (below_next TF.out hbG)
  clear hbG TF HPYF d0 d1 d2 d3 d4
  have S1 := Lib.hid (fun (T : TypeId) => sameInts_any A2 (some ⟨wG.heap.size, 0, none⟩) 5 5 c2 5 [0, 2, 2, 1, 1] [0, 2, 2, 1, 1] (wG.alloc (.cells #[.int .i64 0, .int .i64 2, .int .i64 2, .int .i64 1, .int .i64 1] T)) ((HR2.out.next TG.out).next (below1 _ _)) (Rd.of_block (heap_alloc_new wG _) (by simp) rfl rfl) (by omega) (by omega))
  go_wp2_with fail
  refine (S1.out _).mono ?_
  rintro e wH ⟨rfl, hbH⟩
  go_wp2_with fail
  go_ret
  exact ⟨rfl, below_next HB2.out (below_next TG.out ((below1 wG _).trans (hbH.mono (by simp))))⟩
end Go.Proofs.Ytnjjnioilbnnpaa
