/- The law SnapsTells. Conditions: what is handed in is read below the heap's size. (Printed by gen_snlaws.py.) -/
import Derived.Test.YtfilnnjanhjbeaaSnBegun
import Derived.Test.YtfilnnjanhjbeaaSameImg
import Derived.Test.YtfilnnjanhjbeaaSame
namespace Go.Proofs.Ytfilnnjanhjbeaa
open Go.RowKit Sl
set_option maxRecDepth 100000 in
set_option maxHeartbeats 8000000 in
theorem law_snapsTells (v : IV) (m : Img) (name : ByteArray) (w : World) (h : ImgR w w.heap.size v m) (hsz : name.size ≤ 4611686018427387903) :
    Calls Try.prog 3 #[.agg #[.int .i64 m.guest, .slice v.rA v.rn v.rc, .slice v.sA v.sn v.sc, .slice v.fA v.fn v.fc, .slice v.pA v.pn v.pc], .string name] w fun e w' => e = .returned (.bool true) ∧ Below w.heap.size w w' := by
  have Ka' := fun W (hb : Below w.heap.size w W) => create_any v m name W (h.next hb) hsz
  have Kb' := fun W (hb : Below w.heap.size w W) => revert_any v m name W (h.next hb)
  have Kc' := fun W (hb : Below w.heap.size w W) => delete_any v m name W (h.next hb)
  have Kx' := fun W (hb : Below w.heap.size w W) => rcreate_any v m name W (h.next hb) hsz
  have Ky' := fun W (hb : Below w.heap.size w W) => rrevert_any v m name W (h.next hb)
  have Kz' := fun W (hb : Below w.heap.size w W) => rdelete_any v m name W (h.next hb)
  generalize createI m name = za at *
  generalize createE m name = ea at *
  generalize revertI m name = zb at *
  generalize deleteI m name = zc at *
  generalize pastE m name = eb at *
  obtain ⟨rA, rn, rc, sA, sn, sc, fA, fn, fc, pA, pn, pc⟩ := v
  dsimp only [imgV] at Ka' Kb' Kc' Kx' Ky' Kz' ⊢
  have Ka := Lib.hid Ka'
  have Kb := Lib.hid Kb'
  have Kc := Lib.hid Kc'
  have Kx := Lib.hid Kx'
  have Ky := Lib.hid Ky'
  have Kz := Lib.hid Kz'
  clear Ka' Kb' Kc' Kx' Ky' Kz' h
  have T0' := below1 w (.cells #[.int .i64 m.guest, .slice rA rn rc, .slice sA sn sc, .slice fA fn fc, .slice pA pn pc] 26)
  have X0' := Box.new w m.guest ⟨rA, rn, rc, sA, sn, sc, fA, fn, fc, pA, pn, pc⟩ 26
  have L0' : w.heap.size < (w.alloc (.cells #[.int .i64 m.guest, .slice rA rn rc, .slice sA sn sc, .slice fA fn fc, .slice pA pn pc] 26)).heap.size := by simp
  have T := Lib.hid T0'
  have XM := Lib.hid X0'
  have LM := Lib.hid L0'
  clear T0' X0' L0'
  obtain ⟨c1_0, c1_1, c1_2, c1_3, c1_4⟩ := XM.out
  try dsimp only at c1_0 c1_1 c1_2 c1_3 c1_4
  go_enter Try.func3, Try.ntmps3
  try dsimp only [List.append]
  clear c1_0 c1_1 c1_2 c1_3 c1_4
  obtain ⟨c2_0, c2_1, c2_2, c2_3, c2_4⟩ := XM.out
  try dsimp only at c2_0 c2_1 c2_2 c2_3 c2_4
  go_wp2_with fail
  generalize (w.alloc (.cells #[.int .i64 m.guest, .slice rA rn rc, .slice sA sn sc, .slice fA fn fc, .slice pA pn pc] 26)) = W3 at *
  refine (Ka.out _ T.out).mono ?_
  rintro e w4 ⟨v, rfl, hF, hb⟩
  clear c2_0 c2_1 c2_2 c2_3 c2_4
  have T' := Lib.hid (below_next T.out hb)
  have XM' := Lib.hid (XM.out.keep hb LM.out)
  have LM' := Lib.hid (Nat.lt_of_lt_of_le LM.out hb.size)
  clear T XM LM hb
  have T := T'
  have XM := XM'
  have LM := LM'
  clear T' XM' LM'
  have hx := Box.new w4 za.guest v 26
  have b1 := below1 w4 (.cells #[.int .i64 za.guest, .slice v.rA v.rn v.rc, .slice v.sA v.sn v.sc, .slice v.fA v.fn v.fc, .slice v.pA v.pn v.pc] 26)
  have hi2 := hF.imgR.next b1
  have hlt : w4.heap.size < (w4.alloc (.cells #[.int .i64 za.guest, .slice v.rA v.rn v.rc, .slice v.sA v.sn v.sc, .slice v.fA v.fn v.fc, .slice v.pA v.pn v.pc] 26)).heap.size := by simp
  have T' := Lib.hid (below_next T.out b1)
  have XM' := Lib.hid (XM.out.keep b1 LM.out)
  have LM' := Lib.hid (Nat.lt_of_lt_of_le LM.out b1.size)
  clear T XM LM b1
  have T := T'
  have XM := XM'
  have LM := LM'
  clear T' XM' LM'
  obtain ⟨arA, arn, arc, asA, asn, asc, afA, afn, afc, apA, apn, apc⟩ := v
  have Ia := Lib.hid hi2
  have Xa := Lib.hid hx
  have La := Lib.hid hlt
  dsimp only [imgV] at Ia Xa La T XM LM ⊢
  clear hF hx hi2 hlt
  obtain ⟨c5_0, c5_1, c5_2, c5_3, c5_4⟩ := XM.out
  try dsimp only at c5_0 c5_1 c5_2 c5_3 c5_4
  go_wp2_with fail
  generalize (w4.alloc (.cells #[.int .i64 za.guest, .slice arA arn arc, .slice asA asn asc, .slice afA afn afc, .slice apA apn apc] 26)) = W6 at *
  refine (Kb.out _ T.out).mono ?_
  rintro e w7 ⟨v, rfl, hF, hb⟩
  clear c5_0 c5_1 c5_2 c5_3 c5_4
  have T' := Lib.hid (below_next T.out hb)
  have XM' := Lib.hid (XM.out.keep hb LM.out)
  have LM' := Lib.hid (Nat.lt_of_lt_of_le LM.out hb.size)
  have Xa' := Lib.hid (Xa.out.keep hb La.out)
  have La' := Lib.hid (Nat.lt_of_lt_of_le La.out hb.size)
  have Ia' := Lib.hid (Ia.out.next hb)
  clear T XM LM Xa La Ia hb
  have T := T'
  have XM := XM'
  have LM := LM'
  have Xa := Xa'
  have La := La'
  have Ia := Ia'
  clear T' XM' LM' Xa' La' Ia'
  have hx := Box.new w7 zb.guest v 26
  have b1 := below1 w7 (.cells #[.int .i64 zb.guest, .slice v.rA v.rn v.rc, .slice v.sA v.sn v.sc, .slice v.fA v.fn v.fc, .slice v.pA v.pn v.pc] 26)
  have hi2 := hF.imgR.next b1
  have hlt : w7.heap.size < (w7.alloc (.cells #[.int .i64 zb.guest, .slice v.rA v.rn v.rc, .slice v.sA v.sn v.sc, .slice v.fA v.fn v.fc, .slice v.pA v.pn v.pc] 26)).heap.size := by simp
  have T' := Lib.hid (below_next T.out b1)
  have XM' := Lib.hid (XM.out.keep b1 LM.out)
  have LM' := Lib.hid (Nat.lt_of_lt_of_le LM.out b1.size)
  have Xa' := Lib.hid (Xa.out.keep b1 La.out)
  have La' := Lib.hid (Nat.lt_of_lt_of_le La.out b1.size)
  have Ia' := Lib.hid (Ia.out.next b1)
  clear T XM LM Xa La Ia b1
  have T := T'
  have XM := XM'
  have LM := LM'
  have Xa := Xa'
  have La := La'
  have Ia := Ia'
  clear T' XM' LM' Xa' La' Ia'
  obtain ⟨brA, brn, brc, bsA, bsn, bsc, bfA, bfn, bfc, bpA, bpn, bpc⟩ := v
  have Ib := Lib.hid hi2
  have Xb := Lib.hid hx
  have Lb := Lib.hid hlt
  dsimp only [imgV] at Ib Xb Lb T XM LM Xa La Ia ⊢
  clear hF hx hi2 hlt
  obtain ⟨c8_0, c8_1, c8_2, c8_3, c8_4⟩ := XM.out
  try dsimp only at c8_0 c8_1 c8_2 c8_3 c8_4
  go_wp2_with fail
  generalize (w7.alloc (.cells #[.int .i64 zb.guest, .slice brA brn brc, .slice bsA bsn bsc, .slice bfA bfn bfc, .slice bpA bpn bpc] 26)) = W9 at *
  refine (Kc.out _ T.out).mono ?_
  rintro e w10 ⟨v, rfl, hF, hb⟩
  clear c8_0 c8_1 c8_2 c8_3 c8_4
  have T' := Lib.hid (below_next T.out hb)
  have XM' := Lib.hid (XM.out.keep hb LM.out)
  have LM' := Lib.hid (Nat.lt_of_lt_of_le LM.out hb.size)
  have Xa' := Lib.hid (Xa.out.keep hb La.out)
  have La' := Lib.hid (Nat.lt_of_lt_of_le La.out hb.size)
  have Ia' := Lib.hid (Ia.out.next hb)
  have Xb' := Lib.hid (Xb.out.keep hb Lb.out)
  have Lb' := Lib.hid (Nat.lt_of_lt_of_le Lb.out hb.size)
  have Ib' := Lib.hid (Ib.out.next hb)
  clear T XM LM Xa La Ia Xb Lb Ib hb
  have T := T'
  have XM := XM'
  have LM := LM'
  have Xa := Xa'
  have La := La'
  have Ia := Ia'
  have Xb := Xb'
  have Lb := Lb'
  have Ib := Ib'
  clear T' XM' LM' Xa' La' Ia' Xb' Lb' Ib'
  have hx := Box.new w10 zc.guest v 26
  have b1 := below1 w10 (.cells #[.int .i64 zc.guest, .slice v.rA v.rn v.rc, .slice v.sA v.sn v.sc, .slice v.fA v.fn v.fc, .slice v.pA v.pn v.pc] 26)
  have hi2 := hF.imgR.next b1
  have hlt : w10.heap.size < (w10.alloc (.cells #[.int .i64 zc.guest, .slice v.rA v.rn v.rc, .slice v.sA v.sn v.sc, .slice v.fA v.fn v.fc, .slice v.pA v.pn v.pc] 26)).heap.size := by simp
  have T' := Lib.hid (below_next T.out b1)
  have XM' := Lib.hid (XM.out.keep b1 LM.out)
  have LM' := Lib.hid (Nat.lt_of_lt_of_le LM.out b1.size)
  have Xa' := Lib.hid (Xa.out.keep b1 La.out)
  have La' := Lib.hid (Nat.lt_of_lt_of_le La.out b1.size)
  have Ia' := Lib.hid (Ia.out.next b1)
  have Xb' := Lib.hid (Xb.out.keep b1 Lb.out)
  have Lb' := Lib.hid (Nat.lt_of_lt_of_le Lb.out b1.size)
  have Ib' := Lib.hid (Ib.out.next b1)
  clear T XM LM Xa La Ia Xb Lb Ib b1
  have T := T'
  have XM := XM'
  have LM := LM'
  have Xa := Xa'
  have La := La'
  have Ia := Ia'
  have Xb := Xb'
  have Lb := Lb'
  have Ib := Ib'
  clear T' XM' LM' Xa' La' Ia' Xb' Lb' Ib'
  obtain ⟨crA, crn, crc, csA, csn, csc, cfA, cfn, cfc, cpA, cpn, cpc⟩ := v
  have Ic := Lib.hid hi2
  have Xc := Lib.hid hx
  have Lc := Lib.hid hlt
  dsimp only [imgV] at Ic Xc Lc T XM LM Xa La Ia Xb Lb Ib ⊢
  clear hF hx hi2 hlt
  obtain ⟨c11_0, c11_1, c11_2, c11_3, c11_4⟩ := XM.out
  try dsimp only at c11_0 c11_1 c11_2 c11_3 c11_4
  go_wp2_with fail
  generalize (w10.alloc (.cells #[.int .i64 zc.guest, .slice crA crn crc, .slice csA csn csc, .slice cfA cfn cfc, .slice cpA cpn cpc] 26)) = W12 at *
  refine (Kx.out _ T.out).mono ?_
  rintro e w13 ⟨v, rfl, hF, hb⟩
  clear c11_0 c11_1 c11_2 c11_3 c11_4
  have T' := Lib.hid (below_next T.out hb)
  have XM' := Lib.hid (XM.out.keep hb LM.out)
  have LM' := Lib.hid (Nat.lt_of_lt_of_le LM.out hb.size)
  have Xa' := Lib.hid (Xa.out.keep hb La.out)
  have La' := Lib.hid (Nat.lt_of_lt_of_le La.out hb.size)
  have Ia' := Lib.hid (Ia.out.next hb)
  have Xb' := Lib.hid (Xb.out.keep hb Lb.out)
  have Lb' := Lib.hid (Nat.lt_of_lt_of_le Lb.out hb.size)
  have Ib' := Lib.hid (Ib.out.next hb)
  have Xc' := Lib.hid (Xc.out.keep hb Lc.out)
  have Lc' := Lib.hid (Nat.lt_of_lt_of_le Lc.out hb.size)
  have Ic' := Lib.hid (Ic.out.next hb)
  clear T XM LM Xa La Ia Xb Lb Ib Xc Lc Ic hb
  have T := T'
  have XM := XM'
  have LM := LM'
  have Xa := Xa'
  have La := La'
  have Ia := Ia'
  have Xb := Xb'
  have Lb := Lb'
  have Ib := Ib'
  have Xc := Xc'
  have Lc := Lc'
  have Ic := Ic'
  clear T' XM' LM' Xa' La' Ia' Xb' Lb' Ib' Xc' Lc' Ic'
  have hx := Box.new w13 za.guest v 26
  have b1 := below1 w13 (.cells #[.int .i64 za.guest, .slice v.rA v.rn v.rc, .slice v.sA v.sn v.sc, .slice v.fA v.fn v.fc, .slice v.pA v.pn v.pc] 26)
  have hi2 := hF.imgR.next b1
  have hlt : w13.heap.size < (w13.alloc (.cells #[.int .i64 za.guest, .slice v.rA v.rn v.rc, .slice v.sA v.sn v.sc, .slice v.fA v.fn v.fc, .slice v.pA v.pn v.pc] 26)).heap.size := by simp
  have T' := Lib.hid (below_next T.out b1)
  have XM' := Lib.hid (XM.out.keep b1 LM.out)
  have LM' := Lib.hid (Nat.lt_of_lt_of_le LM.out b1.size)
  have Xa' := Lib.hid (Xa.out.keep b1 La.out)
  have La' := Lib.hid (Nat.lt_of_lt_of_le La.out b1.size)
  have Ia' := Lib.hid (Ia.out.next b1)
  have Xb' := Lib.hid (Xb.out.keep b1 Lb.out)
  have Lb' := Lib.hid (Nat.lt_of_lt_of_le Lb.out b1.size)
  have Ib' := Lib.hid (Ib.out.next b1)
  have Xc' := Lib.hid (Xc.out.keep b1 Lc.out)
  have Lc' := Lib.hid (Nat.lt_of_lt_of_le Lc.out b1.size)
  have Ic' := Lib.hid (Ic.out.next b1)
  clear T XM LM Xa La Ia Xb Lb Ib Xc Lc Ic b1
  have T := T'
  have XM := XM'
  have LM := LM'
  have Xa := Xa'
  have La := La'
  have Ia := Ia'
  have Xb := Xb'
  have Lb := Lb'
  have Ib := Ib'
  have Xc := Xc'
  have Lc := Lc'
  have Ic := Ic'
  clear T' XM' LM' Xa' La' Ia' Xb' Lb' Ib' Xc' Lc' Ic'
  obtain ⟨xrA, xrn, xrc, xsA, xsn, xsc, xfA, xfn, xfc, xpA, xpn, xpc⟩ := v
  have Ix := Lib.hid hi2
  have Xx := Lib.hid hx
  have Lx := Lib.hid hlt
  dsimp only [imgV] at Ix Xx Lx T XM LM Xa La Ia Xb Lb Ib Xc Lc Ic ⊢
  clear hF hx hi2 hlt
  obtain ⟨c14_0, c14_1, c14_2, c14_3, c14_4⟩ := XM.out
  try dsimp only at c14_0 c14_1 c14_2 c14_3 c14_4
  go_wp2_with fail
  generalize (w13.alloc (.cells #[.int .i64 za.guest, .slice xrA xrn xrc, .slice xsA xsn xsc, .slice xfA xfn xfc, .slice xpA xpn xpc] 26)) = W15 at *
  refine (Ky.out _ T.out).mono ?_
  rintro e w16 ⟨v, rfl, hF, hb⟩
  clear c14_0 c14_1 c14_2 c14_3 c14_4
  have T' := Lib.hid (below_next T.out hb)
  have XM' := Lib.hid (XM.out.keep hb LM.out)
  have LM' := Lib.hid (Nat.lt_of_lt_of_le LM.out hb.size)
  have Xa' := Lib.hid (Xa.out.keep hb La.out)
  have La' := Lib.hid (Nat.lt_of_lt_of_le La.out hb.size)
  have Ia' := Lib.hid (Ia.out.next hb)
  have Xb' := Lib.hid (Xb.out.keep hb Lb.out)
  have Lb' := Lib.hid (Nat.lt_of_lt_of_le Lb.out hb.size)
  have Ib' := Lib.hid (Ib.out.next hb)
  have Xc' := Lib.hid (Xc.out.keep hb Lc.out)
  have Lc' := Lib.hid (Nat.lt_of_lt_of_le Lc.out hb.size)
  have Ic' := Lib.hid (Ic.out.next hb)
  have Xx' := Lib.hid (Xx.out.keep hb Lx.out)
  have Lx' := Lib.hid (Nat.lt_of_lt_of_le Lx.out hb.size)
  have Ix' := Lib.hid (Ix.out.next hb)
  clear T XM LM Xa La Ia Xb Lb Ib Xc Lc Ic Xx Lx Ix hb
  have T := T'
  have XM := XM'
  have LM := LM'
  have Xa := Xa'
  have La := La'
  have Ia := Ia'
  have Xb := Xb'
  have Lb := Lb'
  have Ib := Ib'
  have Xc := Xc'
  have Lc := Lc'
  have Ic := Ic'
  have Xx := Xx'
  have Lx := Lx'
  have Ix := Ix'
  clear T' XM' LM' Xa' La' Ia' Xb' Lb' Ib' Xc' Lc' Ic' Xx' Lx' Ix'
  have hx := Box.new w16 zb.guest v 26
  have b1 := below1 w16 (.cells #[.int .i64 zb.guest, .slice v.rA v.rn v.rc, .slice v.sA v.sn v.sc, .slice v.fA v.fn v.fc, .slice v.pA v.pn v.pc] 26)
  have hi2 := hF.imgR.next b1
  have hlt : w16.heap.size < (w16.alloc (.cells #[.int .i64 zb.guest, .slice v.rA v.rn v.rc, .slice v.sA v.sn v.sc, .slice v.fA v.fn v.fc, .slice v.pA v.pn v.pc] 26)).heap.size := by simp
  have T' := Lib.hid (below_next T.out b1)
  have XM' := Lib.hid (XM.out.keep b1 LM.out)
  have LM' := Lib.hid (Nat.lt_of_lt_of_le LM.out b1.size)
  have Xa' := Lib.hid (Xa.out.keep b1 La.out)
  have La' := Lib.hid (Nat.lt_of_lt_of_le La.out b1.size)
  have Ia' := Lib.hid (Ia.out.next b1)
  have Xb' := Lib.hid (Xb.out.keep b1 Lb.out)
  have Lb' := Lib.hid (Nat.lt_of_lt_of_le Lb.out b1.size)
  have Ib' := Lib.hid (Ib.out.next b1)
  have Xc' := Lib.hid (Xc.out.keep b1 Lc.out)
  have Lc' := Lib.hid (Nat.lt_of_lt_of_le Lc.out b1.size)
  have Ic' := Lib.hid (Ic.out.next b1)
  have Xx' := Lib.hid (Xx.out.keep b1 Lx.out)
  have Lx' := Lib.hid (Nat.lt_of_lt_of_le Lx.out b1.size)
  have Ix' := Lib.hid (Ix.out.next b1)
  clear T XM LM Xa La Ia Xb Lb Ib Xc Lc Ic Xx Lx Ix b1
  have T := T'
  have XM := XM'
  have LM := LM'
  have Xa := Xa'
  have La := La'
  have Ia := Ia'
  have Xb := Xb'
  have Lb := Lb'
  have Ib := Ib'
  have Xc := Xc'
  have Lc := Lc'
  have Ic := Ic'
  have Xx := Xx'
  have Lx := Lx'
  have Ix := Ix'
  clear T' XM' LM' Xa' La' Ia' Xb' Lb' Ib' Xc' Lc' Ic' Xx' Lx' Ix'
  obtain ⟨yrA, yrn, yrc, ysA, ysn, ysc, yfA, yfn, yfc, ypA, ypn, ypc⟩ := v
  have Iy := Lib.hid hi2
  have Xy := Lib.hid hx
  have Ly := Lib.hid hlt
  dsimp only [imgV] at Iy Xy Ly T XM LM Xa La Ia Xb Lb Ib Xc Lc Ic Xx Lx Ix ⊢
  clear hF hx hi2 hlt
  obtain ⟨c17_0, c17_1, c17_2, c17_3, c17_4⟩ := XM.out
  try dsimp only at c17_0 c17_1 c17_2 c17_3 c17_4
  go_wp2_with fail
  generalize (w16.alloc (.cells #[.int .i64 zb.guest, .slice yrA yrn yrc, .slice ysA ysn ysc, .slice yfA yfn yfc, .slice ypA ypn ypc] 26)) = W18 at *
  refine (Kz.out _ T.out).mono ?_
  rintro e w19 ⟨v, rfl, hF, hb⟩
  clear c17_0 c17_1 c17_2 c17_3 c17_4
  have T' := Lib.hid (below_next T.out hb)
  have XM' := Lib.hid (XM.out.keep hb LM.out)
  have LM' := Lib.hid (Nat.lt_of_lt_of_le LM.out hb.size)
  have Xa' := Lib.hid (Xa.out.keep hb La.out)
  have La' := Lib.hid (Nat.lt_of_lt_of_le La.out hb.size)
  have Ia' := Lib.hid (Ia.out.next hb)
  have Xb' := Lib.hid (Xb.out.keep hb Lb.out)
  have Lb' := Lib.hid (Nat.lt_of_lt_of_le Lb.out hb.size)
  have Ib' := Lib.hid (Ib.out.next hb)
  have Xc' := Lib.hid (Xc.out.keep hb Lc.out)
  have Lc' := Lib.hid (Nat.lt_of_lt_of_le Lc.out hb.size)
  have Ic' := Lib.hid (Ic.out.next hb)
  have Xx' := Lib.hid (Xx.out.keep hb Lx.out)
  have Lx' := Lib.hid (Nat.lt_of_lt_of_le Lx.out hb.size)
  have Ix' := Lib.hid (Ix.out.next hb)
  have Xy' := Lib.hid (Xy.out.keep hb Ly.out)
  have Ly' := Lib.hid (Nat.lt_of_lt_of_le Ly.out hb.size)
  have Iy' := Lib.hid (Iy.out.next hb)
  clear T XM LM Xa La Ia Xb Lb Ib Xc Lc Ic Xx Lx Ix Xy Ly Iy hb
  have T := T'
  have XM := XM'
  have LM := LM'
  have Xa := Xa'
  have La := La'
  have Ia := Ia'
  have Xb := Xb'
  have Lb := Lb'
  have Ib := Ib'
  have Xc := Xc'
  have Lc := Lc'
  have Ic := Ic'
  have Xx := Xx'
  have Lx := Lx'
  have Ix := Ix'
  have Xy := Xy'
  have Ly := Ly'
  have Iy := Iy'
  clear T' XM' LM' Xa' La' Ia' Xb' Lb' Ib' Xc' Lc' Ic' Xx' Lx' Ix' Xy' Ly' Iy'
  have hx := Box.new w19 zc.guest v 26
  have b1 := below1 w19 (.cells #[.int .i64 zc.guest, .slice v.rA v.rn v.rc, .slice v.sA v.sn v.sc, .slice v.fA v.fn v.fc, .slice v.pA v.pn v.pc] 26)
  have hi2 := hF.imgR.next b1
  have hlt : w19.heap.size < (w19.alloc (.cells #[.int .i64 zc.guest, .slice v.rA v.rn v.rc, .slice v.sA v.sn v.sc, .slice v.fA v.fn v.fc, .slice v.pA v.pn v.pc] 26)).heap.size := by simp
  have T' := Lib.hid (below_next T.out b1)
  have XM' := Lib.hid (XM.out.keep b1 LM.out)
  have LM' := Lib.hid (Nat.lt_of_lt_of_le LM.out b1.size)
  have Xa' := Lib.hid (Xa.out.keep b1 La.out)
  have La' := Lib.hid (Nat.lt_of_lt_of_le La.out b1.size)
  have Ia' := Lib.hid (Ia.out.next b1)
  have Xb' := Lib.hid (Xb.out.keep b1 Lb.out)
  have Lb' := Lib.hid (Nat.lt_of_lt_of_le Lb.out b1.size)
  have Ib' := Lib.hid (Ib.out.next b1)
  have Xc' := Lib.hid (Xc.out.keep b1 Lc.out)
  have Lc' := Lib.hid (Nat.lt_of_lt_of_le Lc.out b1.size)
  have Ic' := Lib.hid (Ic.out.next b1)
  have Xx' := Lib.hid (Xx.out.keep b1 Lx.out)
  have Lx' := Lib.hid (Nat.lt_of_lt_of_le Lx.out b1.size)
  have Ix' := Lib.hid (Ix.out.next b1)
  have Xy' := Lib.hid (Xy.out.keep b1 Ly.out)
  have Ly' := Lib.hid (Nat.lt_of_lt_of_le Ly.out b1.size)
  have Iy' := Lib.hid (Iy.out.next b1)
  clear T XM LM Xa La Ia Xb Lb Ib Xc Lc Ic Xx Lx Ix Xy Ly Iy b1
  have T := T'
  have XM := XM'
  have LM := LM'
  have Xa := Xa'
  have La := La'
  have Ia := Ia'
  have Xb := Xb'
  have Lb := Lb'
  have Ib := Ib'
  have Xc := Xc'
  have Lc := Lc'
  have Ic := Ic'
  have Xx := Xx'
  have Lx := Lx'
  have Ix := Ix'
  have Xy := Xy'
  have Ly := Ly'
  have Iy := Iy'
  clear T' XM' LM' Xa' La' Ia' Xb' Lb' Ib' Xc' Lc' Ic' Xx' Lx' Ix' Xy' Ly' Iy'
  obtain ⟨zrA, zrn, zrc, zsA, zsn, zsc, zfA, zfn, zfc, zpA, zpn, zpc⟩ := v
  have Iz := Lib.hid hi2
  have Xz := Lib.hid hx
  have Lz := Lib.hid hlt
  dsimp only [imgV] at Iz Xz Lz T XM LM Xa La Ia Xb Lb Ib Xc Lc Ic Xx Lx Ix Xy Ly Iy ⊢
  clear hF hx hi2 hlt
  clear XM LM
  go_wp2_with fail
  generalize (w19.alloc (.cells #[.int .i64 zc.guest, .slice zrA zrn zrc, .slice zsA zsn zsc, .slice zfA zfn zfc, .slice zpA zpn zpc] 26)) = W20 at *
  refine (snapsBegun_any _).mono ?_
  rintro e w21 ⟨rfl, hb⟩
  have T' := Lib.hid (below_next T.out hb)
  have Xa' := Lib.hid (Xa.out.keep hb La.out)
  have La' := Lib.hid (Nat.lt_of_lt_of_le La.out hb.size)
  have Ia' := Lib.hid (Ia.out.next hb)
  have Xb' := Lib.hid (Xb.out.keep hb Lb.out)
  have Lb' := Lib.hid (Nat.lt_of_lt_of_le Lb.out hb.size)
  have Ib' := Lib.hid (Ib.out.next hb)
  have Xc' := Lib.hid (Xc.out.keep hb Lc.out)
  have Lc' := Lib.hid (Nat.lt_of_lt_of_le Lc.out hb.size)
  have Ic' := Lib.hid (Ic.out.next hb)
  have Xx' := Lib.hid (Xx.out.keep hb Lx.out)
  have Lx' := Lib.hid (Nat.lt_of_lt_of_le Lx.out hb.size)
  have Ix' := Lib.hid (Ix.out.next hb)
  have Xy' := Lib.hid (Xy.out.keep hb Ly.out)
  have Ly' := Lib.hid (Nat.lt_of_lt_of_le Ly.out hb.size)
  have Iy' := Lib.hid (Iy.out.next hb)
  have Xz' := Lib.hid (Xz.out.keep hb Lz.out)
  have Lz' := Lib.hid (Nat.lt_of_lt_of_le Lz.out hb.size)
  have Iz' := Lib.hid (Iz.out.next hb)
  clear T Xa La Ia Xb Lb Ib Xc Lc Ic Xx Lx Ix Xy Ly Iy Xz Lz Iz hb
  have T := T'
  have Xa := Xa'
  have La := La'
  have Ia := Ia'
  have Xb := Xb'
  have Lb := Lb'
  have Ib := Ib'
  have Xc := Xc'
  have Lc := Lc'
  have Ic := Ic'
  have Xx := Xx'
  have Lx := Lx'
  have Ix := Ix'
  have Xy := Xy'
  have Ly := Ly'
  have Iy := Iy'
  have Xz := Xz'
  have Lz := Lz'
  have Iz := Iz'
  clear T' Xa' La' Ia' Xb' Lb' Ib' Xc' Lc' Ic' Xx' Lx' Ix' Xy' Ly' Iy' Xz' Lz' Iz'
  obtain ⟨c22_0, c22_1, c22_2, c22_3, c22_4⟩ := Xa.out
  try dsimp only at c22_0 c22_1 c22_2 c22_3 c22_4
  obtain ⟨c23_0, c23_1, c23_2, c23_3, c23_4⟩ := Xx.out
  try dsimp only at c23_0 c23_1 c23_2 c23_3 c23_4
  go_wp2_with fail
  refine (sameImg_any _ _ za _ Ia.out Ix.out).mono ?_
  rintro e w24 ⟨rfl, hb⟩
  clear c22_0 c22_1 c22_2 c22_3 c22_4 c23_0 c23_1 c23_2 c23_3 c23_4
  have T' := Lib.hid (below_next T.out hb)
  have Xa' := Lib.hid (Xa.out.keep hb La.out)
  have La' := Lib.hid (Nat.lt_of_lt_of_le La.out hb.size)
  have Ia' := Lib.hid (Ia.out.next hb)
  have Xb' := Lib.hid (Xb.out.keep hb Lb.out)
  have Lb' := Lib.hid (Nat.lt_of_lt_of_le Lb.out hb.size)
  have Ib' := Lib.hid (Ib.out.next hb)
  have Xc' := Lib.hid (Xc.out.keep hb Lc.out)
  have Lc' := Lib.hid (Nat.lt_of_lt_of_le Lc.out hb.size)
  have Ic' := Lib.hid (Ic.out.next hb)
  have Xx' := Lib.hid (Xx.out.keep hb Lx.out)
  have Lx' := Lib.hid (Nat.lt_of_lt_of_le Lx.out hb.size)
  have Ix' := Lib.hid (Ix.out.next hb)
  have Xy' := Lib.hid (Xy.out.keep hb Ly.out)
  have Ly' := Lib.hid (Nat.lt_of_lt_of_le Ly.out hb.size)
  have Iy' := Lib.hid (Iy.out.next hb)
  have Xz' := Lib.hid (Xz.out.keep hb Lz.out)
  have Lz' := Lib.hid (Nat.lt_of_lt_of_le Lz.out hb.size)
  have Iz' := Lib.hid (Iz.out.next hb)
  clear T Xa La Ia Xb Lb Ib Xc Lc Ic Xx Lx Ix Xy Ly Iy Xz Lz Iz hb
  have T := T'
  have Xa := Xa'
  have La := La'
  have Ia := Ia'
  have Xb := Xb'
  have Lb := Lb'
  have Ib := Ib'
  have Xc := Xc'
  have Lc := Lc'
  have Ic := Ic'
  have Xx := Xx'
  have Lx := Lx'
  have Ix := Ix'
  have Xy := Xy'
  have Ly := Ly'
  have Iy := Iy'
  have Xz := Xz'
  have Lz := Lz'
  have Iz := Iz'
  clear T' Xa' La' Ia' Xb' Lb' Ib' Xc' Lc' Ic' Xx' Lx' Ix' Xy' Ly' Iy' Xz' Lz' Iz'
  obtain ⟨c25_0, c25_1, c25_2, c25_3, c25_4⟩ := Xb.out
  try dsimp only at c25_0 c25_1 c25_2 c25_3 c25_4
  obtain ⟨c26_0, c26_1, c26_2, c26_3, c26_4⟩ := Xy.out
  try dsimp only at c26_0 c26_1 c26_2 c26_3 c26_4
  go_wp2_with fail
  refine (sameImg_any _ _ zb _ Ib.out Iy.out).mono ?_
  rintro e w27 ⟨rfl, hb⟩
  clear c25_0 c25_1 c25_2 c25_3 c25_4 c26_0 c26_1 c26_2 c26_3 c26_4
  have T' := Lib.hid (below_next T.out hb)
  have Xa' := Lib.hid (Xa.out.keep hb La.out)
  have La' := Lib.hid (Nat.lt_of_lt_of_le La.out hb.size)
  have Ia' := Lib.hid (Ia.out.next hb)
  have Xb' := Lib.hid (Xb.out.keep hb Lb.out)
  have Lb' := Lib.hid (Nat.lt_of_lt_of_le Lb.out hb.size)
  have Ib' := Lib.hid (Ib.out.next hb)
  have Xc' := Lib.hid (Xc.out.keep hb Lc.out)
  have Lc' := Lib.hid (Nat.lt_of_lt_of_le Lc.out hb.size)
  have Ic' := Lib.hid (Ic.out.next hb)
  have Xx' := Lib.hid (Xx.out.keep hb Lx.out)
  have Lx' := Lib.hid (Nat.lt_of_lt_of_le Lx.out hb.size)
  have Ix' := Lib.hid (Ix.out.next hb)
  have Xy' := Lib.hid (Xy.out.keep hb Ly.out)
  have Ly' := Lib.hid (Nat.lt_of_lt_of_le Ly.out hb.size)
  have Iy' := Lib.hid (Iy.out.next hb)
  have Xz' := Lib.hid (Xz.out.keep hb Lz.out)
  have Lz' := Lib.hid (Nat.lt_of_lt_of_le Lz.out hb.size)
  have Iz' := Lib.hid (Iz.out.next hb)
  clear T Xa La Ia Xb Lb Ib Xc Lc Ic Xx Lx Ix Xy Ly Iy Xz Lz Iz hb
  have T := T'
  have Xa := Xa'
  have La := La'
  have Ia := Ia'
  have Xb := Xb'
  have Lb := Lb'
  have Ib := Ib'
  have Xc := Xc'
  have Lc := Lc'
  have Ic := Ic'
  have Xx := Xx'
  have Lx := Lx'
  have Ix := Ix'
  have Xy := Xy'
  have Ly := Ly'
  have Iy := Iy'
  have Xz := Xz'
  have Lz := Lz'
  have Iz := Iz'
  clear T' Xa' La' Ia' Xb' Lb' Ib' Xc' Lc' Ic' Xx' Lx' Ix' Xy' Ly' Iy' Xz' Lz' Iz'
  obtain ⟨c28_0, c28_1, c28_2, c28_3, c28_4⟩ := Xc.out
  try dsimp only at c28_0 c28_1 c28_2 c28_3 c28_4
  obtain ⟨c29_0, c29_1, c29_2, c29_3, c29_4⟩ := Xz.out
  try dsimp only at c29_0 c29_1 c29_2 c29_3 c29_4
  go_wp2_with fail
  refine (sameImg_any _ _ zc _ Ic.out Iz.out).mono ?_
  rintro e w30 ⟨rfl, hb⟩
  clear c28_0 c28_1 c28_2 c28_3 c28_4 c29_0 c29_1 c29_2 c29_3 c29_4
  have T' := Lib.hid (below_next T.out hb)
  have Xa' := Lib.hid (Xa.out.keep hb La.out)
  have La' := Lib.hid (Nat.lt_of_lt_of_le La.out hb.size)
  have Ia' := Lib.hid (Ia.out.next hb)
  have Xb' := Lib.hid (Xb.out.keep hb Lb.out)
  have Lb' := Lib.hid (Nat.lt_of_lt_of_le Lb.out hb.size)
  have Ib' := Lib.hid (Ib.out.next hb)
  have Xc' := Lib.hid (Xc.out.keep hb Lc.out)
  have Lc' := Lib.hid (Nat.lt_of_lt_of_le Lc.out hb.size)
  have Ic' := Lib.hid (Ic.out.next hb)
  have Xx' := Lib.hid (Xx.out.keep hb Lx.out)
  have Lx' := Lib.hid (Nat.lt_of_lt_of_le Lx.out hb.size)
  have Ix' := Lib.hid (Ix.out.next hb)
  have Xy' := Lib.hid (Xy.out.keep hb Ly.out)
  have Ly' := Lib.hid (Nat.lt_of_lt_of_le Ly.out hb.size)
  have Iy' := Lib.hid (Iy.out.next hb)
  have Xz' := Lib.hid (Xz.out.keep hb Lz.out)
  have Lz' := Lib.hid (Nat.lt_of_lt_of_le Lz.out hb.size)
  have Iz' := Lib.hid (Iz.out.next hb)
  clear T Xa La Ia Xb Lb Ib Xc Lc Ic Xx Lx Ix Xy Ly Iy Xz Lz Iz hb
  have T := T'
  have Xa := Xa'
  have La := La'
  have Ia := Ia'
  have Xb := Xb'
  have Lb := Lb'
  have Ib := Ib'
  have Xc := Xc'
  have Lc := Lc'
  have Ic := Ic'
  have Xx := Xx'
  have Lx := Lx'
  have Ix := Ix'
  have Xy := Xy'
  have Ly := Ly'
  have Iy := Iy'
  have Xz := Xz'
  have Lz := Lz'
  have Iz := Iz'
  clear T' Xa' La' Ia' Xb' Lb' Ib' Xc' Lc' Ic' Xx' Lx' Ix' Xy' Ly' Iy' Xz' Lz' Iz'
  go_wp2_with fail
  go_ret
  exact ⟨rfl, T.out⟩
end Go.Proofs.Ytfilnnjanhjbeaa
