/- The law MovePacks. Conditions: the image is read below the heap's size. (Printed by gen_movpacks.py.) -/
import Derived.Test.YtmdjoafbckphfaaMovBeg
import Derived.Test.YtmdjoafbckphfaaRPackB
import Derived.Test.YtmdjoafbckphfaaSameImg
namespace Go.Proofs.Ytmdjoafbckphfaa
open Go.RowKit Sl
set_option maxRecDepth 100000 in
set_option maxHeartbeats 4000000 in
theorem law_movePacks_ok (v : IV) (m : Img) (w : World) (h : ImgR w w.heap.size v m) (he : checkErr m = 0) :
    Calls Try.prog 5 #[.agg #[.int .i64 m.guest, .slice v.rA v.rn v.rc, .slice v.sA v.sn v.sc, .slice v.fA v.fn v.fc, .slice v.pA v.pn v.pc]] w fun e w' => e = .returned (.bool true) ∧ Below w.heap.size w w' := by
  have Kp' := fun W (hb : Below w.heap.size w W) => mpack_any v m W (h.next hb)
  have Kc' := fun W (hb : Below w.heap.size w W) => rcheckimg_any v m W (h.next hb)
  have KP' := fun W (hb : Below w.heap.size w W) => packOf_any v m W (h.next hb) he
  rw [packI_ok he, he] at Kp'
  rw [he] at Kc'
  generalize packM m = z at *
  obtain ⟨rA, rn, rc, sA, sn, sc, fA, fn, fc, pA, pn, pc⟩ := v
  dsimp only [imgV] at Kp' Kc' KP' ⊢
  have Kp := Lib.hid Kp'
  have Kc := Lib.hid Kc'
  have KP := Lib.hid KP'
  clear Kp' Kc' KP' h he
  have T0' := below1 w (.cells #[.int .i64 m.guest, .slice rA rn rc, .slice sA sn sc, .slice fA fn fc, .slice pA pn pc] 27)
  have X0' := Box.new w m.guest ⟨rA, rn, rc, sA, sn, sc, fA, fn, fc, pA, pn, pc⟩ 27
  have L0' : w.heap.size < (w.alloc (.cells #[.int .i64 m.guest, .slice rA rn rc, .slice sA sn sc, .slice fA fn fc, .slice pA pn pc] 27)).heap.size := by simp
  have T := Lib.hid T0'
  have XM := Lib.hid X0'
  have LM := Lib.hid L0'
  clear T0' X0' L0'
  obtain ⟨c1_0, c1_1, c1_2, c1_3, c1_4⟩ := XM.out
  try dsimp only at c1_0 c1_1 c1_2 c1_3 c1_4
  go_enter Try.func5, Try.ntmps5
  try dsimp only [List.append]
  clear c1_0 c1_1 c1_2 c1_3 c1_4
  obtain ⟨c2_0, c2_1, c2_2, c2_3, c2_4⟩ := XM.out
  try dsimp only at c2_0 c2_1 c2_2 c2_3 c2_4
  go_wp2_with fail
  generalize (w.alloc (.cells #[.int .i64 m.guest, .slice rA rn rc, .slice sA sn sc, .slice fA fn fc, .slice pA pn pc] 27)) = W3 at *
  refine (Kp.out _ T.out).mono ?_
  rintro e w4 ⟨v, rfl, hF, hb⟩
  clear c2_0 c2_1 c2_2 c2_3 c2_4
  replace T := Lib.hid (below_next T.out hb)
  replace XM := Lib.hid (XM.out.keep hb LM.out)
  replace LM := Lib.hid (Nat.lt_of_lt_of_le LM.out hb.size)
  clear hb
  have hx := Box.new w4 z.guest v 27
  have b1 := below1 w4 (.cells #[.int .i64 z.guest, .slice v.rA v.rn v.rc, .slice v.sA v.sn v.sc, .slice v.fA v.fn v.fc, .slice v.pA v.pn v.pc] 27)
  have hi2 := hF.imgR.next b1
  have hlt : w4.heap.size < (w4.alloc (.cells #[.int .i64 z.guest, .slice v.rA v.rn v.rc, .slice v.sA v.sn v.sc, .slice v.fA v.fn v.fc, .slice v.pA v.pn v.pc] 27)).heap.size := by simp
  replace T := Lib.hid (below_next T.out b1)
  replace XM := Lib.hid (XM.out.keep b1 LM.out)
  replace LM := Lib.hid (Nat.lt_of_lt_of_le LM.out b1.size)
  clear b1
  obtain ⟨xrA, xrn, xrc, xsA, xsn, xsc, xfA, xfn, xfc, xpA, xpn, xpc⟩ := v
  have Ix := Lib.hid hi2
  have Xx := Lib.hid hx
  have Lx := Lib.hid hlt
  dsimp only [imgV] at Ix Xx Lx T XM LM ⊢
  clear hF hx hi2 hlt
  obtain ⟨c5_0, c5_1, c5_2, c5_3, c5_4⟩ := XM.out
  try dsimp only at c5_0 c5_1 c5_2 c5_3 c5_4
  go_wp2_with fail
  generalize (w4.alloc (.cells #[.int .i64 z.guest, .slice xrA xrn xrc, .slice xsA xsn xsc, .slice xfA xfn xfc, .slice xpA xpn xpc] 27)) = W6 at *
  refine (Kc.out _ T.out).mono ?_
  rintro e w7 ⟨rfl, hb⟩
  clear c5_0 c5_1 c5_2 c5_3 c5_4
  replace T := Lib.hid (below_next T.out hb)
  replace XM := Lib.hid (XM.out.keep hb LM.out)
  replace LM := Lib.hid (Nat.lt_of_lt_of_le LM.out hb.size)
  replace Xx := Lib.hid (Xx.out.keep hb Lx.out)
  replace Lx := Lib.hid (Nat.lt_of_lt_of_le Lx.out hb.size)
  replace Ix := Lib.hid (Ix.out.next hb)
  clear hb
  have T5 := Lib.hid T.out
  have XM5 := Lib.hid XM.out
  have LM5 := Lib.hid LM.out
  have Xx5 := Lib.hid Xx.out
  have Lx5 := Lib.hid Lx.out
  have Ix5 := Lib.hid Ix.out
  have ZN := Lib.hid (ZB.new w7)
  have BN := Lib.hid (below1 w7 (.cells #[.int .i64 0, .slice none 0 0, .slice none 0 0, .slice none 0 0, .slice none 0 0] 27))
  have b1 := below1 w7 (.cells #[.int .i64 0, .slice none 0 0, .slice none 0 0, .slice none 0 0, .slice none 0 0] 27)
  replace T := Lib.hid (below_next T.out b1)
  replace XM := Lib.hid (XM.out.keep b1 LM.out)
  replace LM := Lib.hid (Nat.lt_of_lt_of_le LM.out b1.size)
  replace Xx := Lib.hid (Xx.out.keep b1 Lx.out)
  replace Lx := Lib.hid (Nat.lt_of_lt_of_le Lx.out b1.size)
  replace Ix := Lib.hid (Ix.out.next b1)
  clear b1
  obtain ⟨c8_0, c8_1, c8_2, c8_3, c8_4⟩ := XM.out
  try dsimp only at c8_0 c8_1 c8_2 c8_3 c8_4
  go_wp2_with fail
  generalize (w7.alloc (.cells #[.int .i64 0, .slice none 0 0, .slice none 0 0, .slice none 0 0, .slice none 0 0] 27)) = W9 at *
  refine (KP.out _ T.out).mono ?_
  rintro e w10 ⟨v8, tg8, q8, p8, rfl, i8, hb8⟩
  clear c8_0 c8_1 c8_2 c8_3 c8_4
  obtain ⟨yrA, yrn, yrc, ysA, ysn, ysc, yfA, yfn, yfc, ypA, ypn, ypc⟩ := v8
  dsimp only [imgV] at i8 ⊢
  have Z8 := ZN.out.next hb8
  obtain ⟨z0, z1, z2, z3, z4⟩ := Z8.cells
  obtain ⟨y0, y1, y2, y3, y4⟩ := Z8.froz
  have h5 := five Z8.box.1 Z8.box.2 z.guest ⟨yrA, yrn, yrc, ysA, ysn, ysc, yfA, yfn, yfc, ypA, ypn, ypc⟩
  have hsB := BN.out.size
  have hs8 := hb8.size
  have BB : Below w7.heap.size w7 (((((w10.setCell ⟨w7.heap.size, 0, none⟩ (.int .i64 z.guest)).setCell ⟨w7.heap.size, 1, none⟩ (.slice yrA yrn yrc)).setCell ⟨w7.heap.size, 2, none⟩ (.slice ysA ysn ysc)).setCell ⟨w7.heap.size, 3, none⟩ (.slice yfA yfn yfc)).setCell ⟨w7.heap.size, 4, none⟩ (.slice ypA ypn ypc)) := (BN.out.trans (hb8.mono hsB)).grown h5.2.2 (by omega) (fun k e => by injection e with e; omega)
  have O9 := Lib.hid (i8.kept h5.2.2 Z8.box.1.ty (by decide) (by decide) (by decide)).imgR
  have V9 := Lib.hid h5.1
  try dsimp only at V9
  try dsimp only at BB O9
  have lV9 : w7.heap.size < (((((w10.setCell ⟨w7.heap.size, 0, none⟩ (.int .i64 z.guest)).setCell ⟨w7.heap.size, 1, none⟩ (.slice yrA yrn yrc)).setCell ⟨w7.heap.size, 2, none⟩ (.slice ysA ysn ysc)).setCell ⟨w7.heap.size, 3, none⟩ (.slice yfA yfn yfc)).setCell ⟨w7.heap.size, 4, none⟩ (.slice ypA ypn ypc)).heap.size := by simp only [World.size_setCell]; exact (Array.getElem?_eq_some_iff.1 Z8.heap).1
  replace T := Lib.hid (below_next T5.out BB)
  replace XM := Lib.hid (XM5.out.keep BB LM5.out)
  replace LM := Lib.hid (Nat.lt_of_lt_of_le LM5.out BB.size)
  replace Xx := Lib.hid (Xx5.out.keep BB Lx5.out)
  replace Lx := Lib.hid (Nat.lt_of_lt_of_le Lx5.out BB.size)
  replace Ix := Lib.hid (Ix5.out.next BB)
  clear T5 XM5 LM5 Xx5 Lx5 Ix5 h5 i8 BB BN ZN hsB hs8 hb8
  go_wp2_with fail
  generalize (((((w10.setCell ⟨w7.heap.size, 0, none⟩ (.int .i64 z.guest)).setCell ⟨w7.heap.size, 1, none⟩ (.slice yrA yrn yrc)).setCell ⟨w7.heap.size, 2, none⟩ (.slice ysA ysn ysc)).setCell ⟨w7.heap.size, 3, none⟩ (.slice yfA yfn yfc)).setCell ⟨w7.heap.size, 4, none⟩ (.slice ypA ypn ypc)) = W11 at *
  clear Z8 z0 z1 z2 z3 z4 y0 y1 y2 y3 y4
  refine (moveBegun_any _).mono ?_
  rintro e wb ⟨rfl, hb⟩
  replace V9 := Lib.hid (V9.out.keep hb lV9)
  replace lV9 := Nat.lt_of_lt_of_le lV9 hb.size
  replace T := Lib.hid (below_next T.out hb)
  replace XM := Lib.hid (XM.out.keep hb LM.out)
  replace LM := Lib.hid (Nat.lt_of_lt_of_le LM.out hb.size)
  replace Xx := Lib.hid (Xx.out.keep hb Lx.out)
  replace Lx := Lib.hid (Nat.lt_of_lt_of_le Lx.out hb.size)
  replace Ix := Lib.hid (Ix.out.next hb)
  replace O9 := Lib.hid (O9.out.next hb)
  clear hb
  have HlV9 := Lib.hid lV9
  obtain ⟨c12_0, c12_1, c12_2, c12_3, c12_4⟩ := Xx.out
  try dsimp only at c12_0 c12_1 c12_2 c12_3 c12_4
  obtain ⟨c13_0, c13_1, c13_2, c13_3, c13_4⟩ := V9.out
  try dsimp only at c13_0 c13_1 c13_2 c13_3 c13_4
  go_wp2_with fail
  refine (sameImg_any _ ⟨yrA, yrn, yrc, ysA, ysn, ysc, yfA, yfn, yfc, ypA, ypn, ypc⟩ z _ Ix.out O9.out).mono ?_
  rintro e wc ⟨rfl, hb⟩
  clear c12_0 c12_1 c12_2 c12_3 c12_4 c13_0 c13_1 c13_2 c13_3 c13_4
  replace T := Lib.hid (below_next T.out hb)
  replace XM := Lib.hid (XM.out.keep hb LM.out)
  replace LM := Lib.hid (Nat.lt_of_lt_of_le LM.out hb.size)
  replace Xx := Lib.hid (Xx.out.keep hb Lx.out)
  replace Lx := Lib.hid (Nat.lt_of_lt_of_le Lx.out hb.size)
  replace Ix := Lib.hid (Ix.out.next hb)
  replace O9 := Lib.hid (O9.out.next hb)
  replace V9 := Lib.hid (V9.out.keep hb HlV9.out)
  replace HlV9 := Lib.hid (Nat.lt_of_lt_of_le HlV9.out hb.size)
  clear hb
  go_wp2_with fail
  go_ret
  exact ⟨rfl, T.out⟩
set_option maxRecDepth 100000 in
set_option maxHeartbeats 4000000 in
theorem law_movePacks_no (v : IV) (m : Img) (w : World) (h : ImgR w w.heap.size v m) (he : checkErr m ≠ 0) :
    Calls Try.prog 5 #[.agg #[.int .i64 m.guest, .slice v.rA v.rn v.rc, .slice v.sA v.sn v.sc, .slice v.fA v.fn v.fc, .slice v.pA v.pn v.pc]] w fun e w' => e = .returned (.bool true) ∧ Below w.heap.size w w' := by
  have Kp' := fun W (hb : Below w.heap.size w W) => mpack_any v m W (h.next hb)
  have Kc' := fun W (hb : Below w.heap.size w W) => rcheckimg_any v m W (h.next hb)
  have hn : (checkErr m == 0) = false := by simpa using he
  rw [packI_no he] at Kp'
  generalize checkErr m = ep at *
  obtain ⟨rA, rn, rc, sA, sn, sc, fA, fn, fc, pA, pn, pc⟩ := v
  dsimp only [imgV] at Kp' Kc' ⊢
  have Kp := Lib.hid Kp'
  have Kc := Lib.hid Kc'
  clear Kp' Kc' h he
  have T0' := below1 w (.cells #[.int .i64 m.guest, .slice rA rn rc, .slice sA sn sc, .slice fA fn fc, .slice pA pn pc] 27)
  have X0' := Box.new w m.guest ⟨rA, rn, rc, sA, sn, sc, fA, fn, fc, pA, pn, pc⟩ 27
  have L0' : w.heap.size < (w.alloc (.cells #[.int .i64 m.guest, .slice rA rn rc, .slice sA sn sc, .slice fA fn fc, .slice pA pn pc] 27)).heap.size := by simp
  have T := Lib.hid T0'
  have XM := Lib.hid X0'
  have LM := Lib.hid L0'
  clear T0' X0' L0'
  obtain ⟨c1_0, c1_1, c1_2, c1_3, c1_4⟩ := XM.out
  try dsimp only at c1_0 c1_1 c1_2 c1_3 c1_4
  go_enter Try.func5, Try.ntmps5
  try dsimp only [List.append]
  clear c1_0 c1_1 c1_2 c1_3 c1_4
  obtain ⟨c2_0, c2_1, c2_2, c2_3, c2_4⟩ := XM.out
  try dsimp only at c2_0 c2_1 c2_2 c2_3 c2_4
  go_wp2_with fail
  generalize (w.alloc (.cells #[.int .i64 m.guest, .slice rA rn rc, .slice sA sn sc, .slice fA fn fc, .slice pA pn pc] 27)) = W3 at *
  refine (Kp.out _ T.out).mono ?_
  rintro e w4 ⟨v, rfl, hF, hb⟩
  clear c2_0 c2_1 c2_2 c2_3 c2_4
  replace T := Lib.hid (below_next T.out hb)
  replace XM := Lib.hid (XM.out.keep hb LM.out)
  replace LM := Lib.hid (Nat.lt_of_lt_of_le LM.out hb.size)
  clear hb
  have hx := Box.new w4 noImg.guest v 27
  have b1 := below1 w4 (.cells #[.int .i64 noImg.guest, .slice v.rA v.rn v.rc, .slice v.sA v.sn v.sc, .slice v.fA v.fn v.fc, .slice v.pA v.pn v.pc] 27)
  have hi2 := hF.imgR.next b1
  have hlt : w4.heap.size < (w4.alloc (.cells #[.int .i64 noImg.guest, .slice v.rA v.rn v.rc, .slice v.sA v.sn v.sc, .slice v.fA v.fn v.fc, .slice v.pA v.pn v.pc] 27)).heap.size := by simp
  replace T := Lib.hid (below_next T.out b1)
  replace XM := Lib.hid (XM.out.keep b1 LM.out)
  replace LM := Lib.hid (Nat.lt_of_lt_of_le LM.out b1.size)
  clear b1
  obtain ⟨xrA, xrn, xrc, xsA, xsn, xsc, xfA, xfn, xfc, xpA, xpn, xpc⟩ := v
  have Ix := Lib.hid hi2
  have Xx := Lib.hid hx
  have Lx := Lib.hid hlt
  dsimp only [imgV] at Ix Xx Lx T XM LM ⊢
  clear hF hx hi2 hlt
  obtain ⟨c5_0, c5_1, c5_2, c5_3, c5_4⟩ := XM.out
  try dsimp only at c5_0 c5_1 c5_2 c5_3 c5_4
  go_wp2_with fail
  generalize (w4.alloc (.cells #[.int .i64 noImg.guest, .slice xrA xrn xrc, .slice xsA xsn xsc, .slice xfA xfn xfc, .slice xpA xpn xpc] 27)) = W6 at *
  refine (Kc.out _ T.out).mono ?_
  rintro e w7 ⟨rfl, hb⟩
  clear c5_0 c5_1 c5_2 c5_3 c5_4
  replace T := Lib.hid (below_next T.out hb)
  replace XM := Lib.hid (XM.out.keep hb LM.out)
  replace LM := Lib.hid (Nat.lt_of_lt_of_le LM.out hb.size)
  replace Xx := Lib.hid (Xx.out.keep hb Lx.out)
  replace Lx := Lib.hid (Nat.lt_of_lt_of_le Lx.out hb.size)
  replace Ix := Lib.hid (Ix.out.next hb)
  clear hb
  have V9 := Lib.hid (show Box _ w7.heap.size 0 noV from (ZB.new w7).cells)
  have b1 := below1 w7 (.cells #[.int .i64 0, .slice none 0 0, .slice none 0 0, .slice none 0 0, .slice none 0 0] 27)
  have lV9 : w7.heap.size < (w7.alloc (.cells #[.int .i64 0, .slice none 0 0, .slice none 0 0, .slice none 0 0, .slice none 0 0] 27)).heap.size := by simp
  replace T := Lib.hid (below_next T.out b1)
  replace XM := Lib.hid (XM.out.keep b1 LM.out)
  replace LM := Lib.hid (Nat.lt_of_lt_of_le LM.out b1.size)
  replace Xx := Lib.hid (Xx.out.keep b1 Lx.out)
  replace Lx := Lib.hid (Nat.lt_of_lt_of_le Lx.out b1.size)
  replace Ix := Lib.hid (Ix.out.next b1)
  clear b1
  have HlV9 := Lib.hid lV9
  clear lV9
  go_wp2_with fail
  generalize (w7.alloc (.cells #[.int .i64 0, .slice none 0 0, .slice none 0 0, .slice none 0 0, .slice none 0 0] 27)) = W8 at *
  refine (moveBegun_any _).mono ?_
  rintro e w9 ⟨rfl, hb⟩
  replace T := Lib.hid (below_next T.out hb)
  replace XM := Lib.hid (XM.out.keep hb LM.out)
  replace LM := Lib.hid (Nat.lt_of_lt_of_le LM.out hb.size)
  replace Xx := Lib.hid (Xx.out.keep hb Lx.out)
  replace Lx := Lib.hid (Nat.lt_of_lt_of_le Lx.out hb.size)
  replace Ix := Lib.hid (Ix.out.next hb)
  replace V9 := Lib.hid (V9.out.keep hb HlV9.out)
  replace HlV9 := Lib.hid (Nat.lt_of_lt_of_le HlV9.out hb.size)
  clear hb
  obtain ⟨c10_0, c10_1, c10_2, c10_3, c10_4⟩ := Xx.out
  try dsimp only at c10_0 c10_1 c10_2 c10_3 c10_4
  obtain ⟨c11_0, c11_1, c11_2, c11_3, c11_4⟩ := V9.out
  try dsimp only at c11_0 c11_1 c11_2 c11_3 c11_4
  dsimp only [noV, noImg] at c10_0 c10_1 c10_2 c10_3 c10_4 c11_0 c11_1 c11_2 c11_3 c11_4
  go_wp2_with fail
  have KSS := sameImg_any _ noV noImg _ Ix.out (noImg_R _)
  dsimp only [imgV, noImg, noV] at KSS
  refine KSS.mono ?_
  rintro e wc ⟨rfl, hb⟩
  clear c10_0 c10_1 c10_2 c10_3 c10_4 c11_0 c11_1 c11_2 c11_3 c11_4
  replace T := Lib.hid (below_next T.out hb)
  replace XM := Lib.hid (XM.out.keep hb LM.out)
  replace LM := Lib.hid (Nat.lt_of_lt_of_le LM.out hb.size)
  replace Xx := Lib.hid (Xx.out.keep hb Lx.out)
  replace Lx := Lib.hid (Nat.lt_of_lt_of_le Lx.out hb.size)
  replace Ix := Lib.hid (Ix.out.next hb)
  replace V9 := Lib.hid (V9.out.keep hb HlV9.out)
  replace HlV9 := Lib.hid (Nat.lt_of_lt_of_le HlV9.out hb.size)
  clear hb
  go_wp2_with fail
  go_ret
  exact ⟨rfl, T.out⟩
theorem law_movePacks (v : IV) (m : Img) (w : World) (h : ImgR w w.heap.size v m) :
    Calls Try.prog 5 #[.agg #[.int .i64 m.guest, .slice v.rA v.rn v.rc, .slice v.sA v.sn v.sc, .slice v.fA v.fn v.fc, .slice v.pA v.pn v.pc]] w fun e w' => e = .returned (.bool true) ∧ Below w.heap.size w w' := by
  by_cases he : checkErr m = 0
  · exact law_movePacks_ok v m w h he
  · exact law_movePacks_no v m w h he
end Go.Proofs.Ytmdjoafbckphfaa
