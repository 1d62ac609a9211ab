/- The law WritesSets. Conditions: the image is read below the heap's size. (Printed by gen_wsets.py.) -/
import Derived.Test.YtpboapeoejdipaaWBegun
import Derived.Test.YtpboapeoejdipaaSameImg
import Derived.Test.YtpboapeoejdipaaRPut
namespace Go.Proofs.Ytpboapeoejdipaa
open Go.RowKit Sl
set_option maxRecDepth 100000 in
set_option maxHeartbeats 8000000 in
theorem law_writesSets (v : IV) (m : Img) (n : Int) (w : World) (h : ImgR w w.heap.size v m) :
    Calls Try.prog 4 #[.agg #[.int .i64 m.guest, .slice v.rA v.rn v.rc, .slice v.sA v.sn v.sc, .slice v.fA v.fn v.fc, .slice v.pA v.pn v.pc], .int .i64 n] w fun e w' => e = .returned (.bool true) ∧ Below w.heap.size w w' := by
  have Kb' := fun W (hb : Below w.heap.size w W) => wipe_any v m n W (h.next hb) (fun x => set_hw rfl (by decide) x)
  have Kc' := fun W (hb : Below w.heap.size w W) => punch_any v m n W (h.next hb) (fun x => set_hw rfl (by decide) x)
  have Kd' := fun W (hb : Below w.heap.size w W) => wipeOf_any v m n W (h.next hb)
  have Ke' := fun W (hb : Below w.heap.size w W) => punchOf_any v m n W (h.next hb)
  generalize setI m n (-1) = zb at *
  generalize setE m n (-1) = eb at *
  generalize setI m n 0 = zc at *
  generalize setE m n 0 = ec at *
  obtain ⟨rA, rn, rc, sA, sn, sc, fA, fn, fc, pA, pn, pc⟩ := v
  dsimp only [imgV] at Kb' Kc' Kd' Ke' ⊢
  have Kb := Lib.hid Kb'
  have Kc := Lib.hid Kc'
  have Kd := Lib.hid Kd'
  have Ke := Lib.hid Ke'
  clear Kb' Kc' Kd' Ke' h
  have T0' := below1 w (.cells #[.int .i64 m.guest, .slice rA rn rc, .slice sA sn sc, .slice fA fn fc, .slice pA pn pc] 26)
  have X0' := Box.new w m.guest ⟨rA, rn, rc, sA, sn, sc, fA, fn, fc, pA, pn, pc⟩ 26
  have L0' : w.heap.size < (w.alloc (.cells #[.int .i64 m.guest, .slice rA rn rc, .slice sA sn sc, .slice fA fn fc, .slice pA pn pc] 26)).heap.size := by simp
  have T := Lib.hid T0'
  have XM := Lib.hid X0'
  have LM := Lib.hid L0'
  clear T0' X0' L0'
  obtain ⟨c1_0, c1_1, c1_2, c1_3, c1_4⟩ := XM.out
  try dsimp only at c1_0 c1_1 c1_2 c1_3 c1_4
  go_enter Try.func4, Try.ntmps4
  clear c1_0 c1_1 c1_2 c1_3 c1_4
  obtain ⟨c2_0, c2_1, c2_2, c2_3, c2_4⟩ := XM.out
  try dsimp only at c2_0 c2_1 c2_2 c2_3 c2_4
  go_wp2_with fail
  generalize (w.alloc (.cells #[.int .i64 m.guest, .slice rA rn rc, .slice sA sn sc, .slice fA fn fc, .slice pA pn pc] 26)) = W3 at *
  refine (Kb.out _ T.out).mono ?_
  rintro e w4 ⟨v, rfl, hF, hb⟩
  clear c2_0 c2_1 c2_2 c2_3 c2_4
  have T' := Lib.hid (below_next T.out hb)
  have XM' := Lib.hid (XM.out.keep hb LM.out)
  have LM' := Lib.hid (Nat.lt_of_lt_of_le LM.out hb.size)
  clear T XM LM hb
  have T := T'
  have XM := XM'
  have LM := LM'
  clear T' XM' LM'
  have hx := Box.new w4 zb.guest v 26
  have b1 := below1 w4 (.cells #[.int .i64 zb.guest, .slice v.rA v.rn v.rc, .slice v.sA v.sn v.sc, .slice v.fA v.fn v.fc, .slice v.pA v.pn v.pc] 26)
  have hi2 := hF.imgR.next b1
  have hlt : w4.heap.size < (w4.alloc (.cells #[.int .i64 zb.guest, .slice v.rA v.rn v.rc, .slice v.sA v.sn v.sc, .slice v.fA v.fn v.fc, .slice v.pA v.pn v.pc] 26)).heap.size := by simp
  have T' := Lib.hid (below_next T.out b1)
  have XM' := Lib.hid (XM.out.keep b1 LM.out)
  have LM' := Lib.hid (Nat.lt_of_lt_of_le LM.out b1.size)
  clear T XM LM b1
  have T := T'
  have XM := XM'
  have LM := LM'
  clear T' XM' LM'
  obtain ⟨brA, brn, brc, bsA, bsn, bsc, bfA, bfn, bfc, bpA, bpn, bpc⟩ := v
  have Ib := Lib.hid hi2
  have Xb := Lib.hid hx
  have Lb := Lib.hid hlt
  dsimp only [imgV] at Ib Xb Lb T XM LM ⊢
  clear hF hx hi2 hlt
  clear Kb
  obtain ⟨c5_0, c5_1, c5_2, c5_3, c5_4⟩ := XM.out
  try dsimp only at c5_0 c5_1 c5_2 c5_3 c5_4
  go_wp2_with fail
  generalize (w4.alloc (.cells #[.int .i64 zb.guest, .slice brA brn brc, .slice bsA bsn bsc, .slice bfA bfn bfc, .slice bpA bpn bpc] 26)) = W6 at *
  refine (Kc.out _ T.out).mono ?_
  rintro e w7 ⟨v, rfl, hF, hb⟩
  clear c5_0 c5_1 c5_2 c5_3 c5_4
  have T' := Lib.hid (below_next T.out hb)
  have XM' := Lib.hid (XM.out.keep hb LM.out)
  have LM' := Lib.hid (Nat.lt_of_lt_of_le LM.out hb.size)
  have Xb' := Lib.hid (Xb.out.keep hb Lb.out)
  have Lb' := Lib.hid (Nat.lt_of_lt_of_le Lb.out hb.size)
  have Ib' := Lib.hid (Ib.out.next hb)
  clear T XM LM Xb Lb Ib hb
  have T := T'
  have XM := XM'
  have LM := LM'
  have Xb := Xb'
  have Lb := Lb'
  have Ib := Ib'
  clear T' XM' LM' Xb' Lb' Ib'
  have hx := Box.new w7 zc.guest v 26
  have b1 := below1 w7 (.cells #[.int .i64 zc.guest, .slice v.rA v.rn v.rc, .slice v.sA v.sn v.sc, .slice v.fA v.fn v.fc, .slice v.pA v.pn v.pc] 26)
  have hi2 := hF.imgR.next b1
  have hlt : w7.heap.size < (w7.alloc (.cells #[.int .i64 zc.guest, .slice v.rA v.rn v.rc, .slice v.sA v.sn v.sc, .slice v.fA v.fn v.fc, .slice v.pA v.pn v.pc] 26)).heap.size := by simp
  have T' := Lib.hid (below_next T.out b1)
  have XM' := Lib.hid (XM.out.keep b1 LM.out)
  have LM' := Lib.hid (Nat.lt_of_lt_of_le LM.out b1.size)
  have Xb' := Lib.hid (Xb.out.keep b1 Lb.out)
  have Lb' := Lib.hid (Nat.lt_of_lt_of_le Lb.out b1.size)
  have Ib' := Lib.hid (Ib.out.next b1)
  clear T XM LM Xb Lb Ib b1
  have T := T'
  have XM := XM'
  have LM := LM'
  have Xb := Xb'
  have Lb := Lb'
  have Ib := Ib'
  clear T' XM' LM' Xb' Lb' Ib'
  obtain ⟨crA, crn, crc, csA, csn, csc, cfA, cfn, cfc, cpA, cpn, cpc⟩ := v
  have Ic := Lib.hid hi2
  have Xc := Lib.hid hx
  have Lc := Lib.hid hlt
  dsimp only [imgV] at Ic Xc Lc T XM LM Xb Lb Ib ⊢
  clear hF hx hi2 hlt
  clear Kc
  obtain ⟨c8_0, c8_1, c8_2, c8_3, c8_4⟩ := XM.out
  try dsimp only at c8_0 c8_1 c8_2 c8_3 c8_4
  go_wp2_with fail
  generalize (w7.alloc (.cells #[.int .i64 zc.guest, .slice crA crn crc, .slice csA csn csc, .slice cfA cfn cfc, .slice cpA cpn cpc] 26)) = W9 at *
  refine (Kd.out _ T.out).mono ?_
  rintro e w10 ⟨v, rfl, hF, hb⟩
  clear c8_0 c8_1 c8_2 c8_3 c8_4
  have T' := Lib.hid (below_next T.out hb)
  have XM' := Lib.hid (XM.out.keep hb LM.out)
  have LM' := Lib.hid (Nat.lt_of_lt_of_le LM.out hb.size)
  have Xb' := Lib.hid (Xb.out.keep hb Lb.out)
  have Lb' := Lib.hid (Nat.lt_of_lt_of_le Lb.out hb.size)
  have Ib' := Lib.hid (Ib.out.next hb)
  have Xc' := Lib.hid (Xc.out.keep hb Lc.out)
  have Lc' := Lib.hid (Nat.lt_of_lt_of_le Lc.out hb.size)
  have Ic' := Lib.hid (Ic.out.next hb)
  clear T XM LM Xb Lb Ib Xc Lc Ic hb
  have T := T'
  have XM := XM'
  have LM := LM'
  have Xb := Xb'
  have Lb := Lb'
  have Ib := Ib'
  have Xc := Xc'
  have Lc := Lc'
  have Ic := Ic'
  clear T' XM' LM' Xb' Lb' Ib' Xc' Lc' Ic'
  have hx := Box.new w10 zb.guest v 26
  have b1 := below1 w10 (.cells #[.int .i64 zb.guest, .slice v.rA v.rn v.rc, .slice v.sA v.sn v.sc, .slice v.fA v.fn v.fc, .slice v.pA v.pn v.pc] 26)
  have hi2 := hF.imgR.next b1
  have hlt : w10.heap.size < (w10.alloc (.cells #[.int .i64 zb.guest, .slice v.rA v.rn v.rc, .slice v.sA v.sn v.sc, .slice v.fA v.fn v.fc, .slice v.pA v.pn v.pc] 26)).heap.size := by simp
  have T' := Lib.hid (below_next T.out b1)
  have XM' := Lib.hid (XM.out.keep b1 LM.out)
  have LM' := Lib.hid (Nat.lt_of_lt_of_le LM.out b1.size)
  have Xb' := Lib.hid (Xb.out.keep b1 Lb.out)
  have Lb' := Lib.hid (Nat.lt_of_lt_of_le Lb.out b1.size)
  have Ib' := Lib.hid (Ib.out.next b1)
  have Xc' := Lib.hid (Xc.out.keep b1 Lc.out)
  have Lc' := Lib.hid (Nat.lt_of_lt_of_le Lc.out b1.size)
  have Ic' := Lib.hid (Ic.out.next b1)
  clear T XM LM Xb Lb Ib Xc Lc Ic b1
  have T := T'
  have XM := XM'
  have LM := LM'
  have Xb := Xb'
  have Lb := Lb'
  have Ib := Ib'
  have Xc := Xc'
  have Lc := Lc'
  have Ic := Ic'
  clear T' XM' LM' Xb' Lb' Ib' Xc' Lc' Ic'
  obtain ⟨drA, drn, drc, dsA, dsn, dsc, dfA, dfn, dfc, dpA, dpn, dpc⟩ := v
  have Id := Lib.hid hi2
  have Xd := Lib.hid hx
  have Ld := Lib.hid hlt
  dsimp only [imgV] at Id Xd Ld T XM LM Xb Lb Ib Xc Lc Ic ⊢
  clear hF hx hi2 hlt
  clear Kd
  obtain ⟨c11_0, c11_1, c11_2, c11_3, c11_4⟩ := XM.out
  try dsimp only at c11_0 c11_1 c11_2 c11_3 c11_4
  go_wp2_with fail
  generalize (w10.alloc (.cells #[.int .i64 zb.guest, .slice drA drn drc, .slice dsA dsn dsc, .slice dfA dfn dfc, .slice dpA dpn dpc] 26)) = W12 at *
  refine (Ke.out _ T.out).mono ?_
  rintro e w13 ⟨v, rfl, hF, hb⟩
  clear c11_0 c11_1 c11_2 c11_3 c11_4
  have T' := Lib.hid (below_next T.out hb)
  have XM' := Lib.hid (XM.out.keep hb LM.out)
  have LM' := Lib.hid (Nat.lt_of_lt_of_le LM.out hb.size)
  have Xb' := Lib.hid (Xb.out.keep hb Lb.out)
  have Lb' := Lib.hid (Nat.lt_of_lt_of_le Lb.out hb.size)
  have Ib' := Lib.hid (Ib.out.next hb)
  have Xc' := Lib.hid (Xc.out.keep hb Lc.out)
  have Lc' := Lib.hid (Nat.lt_of_lt_of_le Lc.out hb.size)
  have Ic' := Lib.hid (Ic.out.next hb)
  have Xd' := Lib.hid (Xd.out.keep hb Ld.out)
  have Ld' := Lib.hid (Nat.lt_of_lt_of_le Ld.out hb.size)
  have Id' := Lib.hid (Id.out.next hb)
  clear T XM LM Xb Lb Ib Xc Lc Ic Xd Ld Id hb
  have T := T'
  have XM := XM'
  have LM := LM'
  have Xb := Xb'
  have Lb := Lb'
  have Ib := Ib'
  have Xc := Xc'
  have Lc := Lc'
  have Ic := Ic'
  have Xd := Xd'
  have Ld := Ld'
  have Id := Id'
  clear T' XM' LM' Xb' Lb' Ib' Xc' Lc' Ic' Xd' Ld' Id'
  have hx := Box.new w13 zc.guest v 26
  have b1 := below1 w13 (.cells #[.int .i64 zc.guest, .slice v.rA v.rn v.rc, .slice v.sA v.sn v.sc, .slice v.fA v.fn v.fc, .slice v.pA v.pn v.pc] 26)
  have hi2 := hF.imgR.next b1
  have hlt : w13.heap.size < (w13.alloc (.cells #[.int .i64 zc.guest, .slice v.rA v.rn v.rc, .slice v.sA v.sn v.sc, .slice v.fA v.fn v.fc, .slice v.pA v.pn v.pc] 26)).heap.size := by simp
  have T' := Lib.hid (below_next T.out b1)
  have XM' := Lib.hid (XM.out.keep b1 LM.out)
  have LM' := Lib.hid (Nat.lt_of_lt_of_le LM.out b1.size)
  have Xb' := Lib.hid (Xb.out.keep b1 Lb.out)
  have Lb' := Lib.hid (Nat.lt_of_lt_of_le Lb.out b1.size)
  have Ib' := Lib.hid (Ib.out.next b1)
  have Xc' := Lib.hid (Xc.out.keep b1 Lc.out)
  have Lc' := Lib.hid (Nat.lt_of_lt_of_le Lc.out b1.size)
  have Ic' := Lib.hid (Ic.out.next b1)
  have Xd' := Lib.hid (Xd.out.keep b1 Ld.out)
  have Ld' := Lib.hid (Nat.lt_of_lt_of_le Ld.out b1.size)
  have Id' := Lib.hid (Id.out.next b1)
  clear T XM LM Xb Lb Ib Xc Lc Ic Xd Ld Id b1
  have T := T'
  have XM := XM'
  have LM := LM'
  have Xb := Xb'
  have Lb := Lb'
  have Ib := Ib'
  have Xc := Xc'
  have Lc := Lc'
  have Ic := Ic'
  have Xd := Xd'
  have Ld := Ld'
  have Id := Id'
  clear T' XM' LM' Xb' Lb' Ib' Xc' Lc' Ic' Xd' Ld' Id'
  obtain ⟨erA, ern, erc, esA, esn, esc, efA, efn, efc, epA, epn, epc⟩ := v
  have Ie := Lib.hid hi2
  have Xe := Lib.hid hx
  have Le := Lib.hid hlt
  dsimp only [imgV] at Ie Xe Le T XM LM Xb Lb Ib Xc Lc Ic Xd Ld Id ⊢
  clear hF hx hi2 hlt
  clear Ke
  go_wp2_with fail
  generalize (w13.alloc (.cells #[.int .i64 zc.guest, .slice erA ern erc, .slice esA esn esc, .slice efA efn efc, .slice epA epn epc] 26)) = W14 at *
  refine (writesBegun_any _).mono ?_
  rintro e w15 ⟨rfl, hb⟩
  have T' := Lib.hid (below_next T.out hb)
  have XM' := Lib.hid (XM.out.keep hb LM.out)
  have LM' := Lib.hid (Nat.lt_of_lt_of_le LM.out hb.size)
  have Xb' := Lib.hid (Xb.out.keep hb Lb.out)
  have Lb' := Lib.hid (Nat.lt_of_lt_of_le Lb.out hb.size)
  have Ib' := Lib.hid (Ib.out.next hb)
  have Xc' := Lib.hid (Xc.out.keep hb Lc.out)
  have Lc' := Lib.hid (Nat.lt_of_lt_of_le Lc.out hb.size)
  have Ic' := Lib.hid (Ic.out.next hb)
  have Xd' := Lib.hid (Xd.out.keep hb Ld.out)
  have Ld' := Lib.hid (Nat.lt_of_lt_of_le Ld.out hb.size)
  have Id' := Lib.hid (Id.out.next hb)
  have Xe' := Lib.hid (Xe.out.keep hb Le.out)
  have Le' := Lib.hid (Nat.lt_of_lt_of_le Le.out hb.size)
  have Ie' := Lib.hid (Ie.out.next hb)
  clear T XM LM Xb Lb Ib Xc Lc Ic Xd Ld Id Xe Le Ie hb
  have T := T'
  have XM := XM'
  have LM := LM'
  have Xb := Xb'
  have Lb := Lb'
  have Ib := Ib'
  have Xc := Xc'
  have Lc := Lc'
  have Ic := Ic'
  have Xd := Xd'
  have Ld := Ld'
  have Id := Id'
  have Xe := Xe'
  have Le := Le'
  have Ie := Ie'
  clear T' XM' LM' Xb' Lb' Ib' Xc' Lc' Ic' Xd' Ld' Id' Xe' Le' Ie'
  obtain ⟨c16_0, c16_1, c16_2, c16_3, c16_4⟩ := Xb.out
  try dsimp only at c16_0 c16_1 c16_2 c16_3 c16_4
  obtain ⟨c17_0, c17_1, c17_2, c17_3, c17_4⟩ := Xd.out
  try dsimp only at c17_0 c17_1 c17_2 c17_3 c17_4
  go_wp2_with fail
  refine (sameImg_any _ _ zb _ Ib.out Id.out).mono ?_
  rintro e w18 ⟨rfl, hb⟩
  clear c16_0 c16_1 c16_2 c16_3 c16_4 c17_0 c17_1 c17_2 c17_3 c17_4
  have T' := Lib.hid (below_next T.out hb)
  have XM' := Lib.hid (XM.out.keep hb LM.out)
  have LM' := Lib.hid (Nat.lt_of_lt_of_le LM.out hb.size)
  have Xb' := Lib.hid (Xb.out.keep hb Lb.out)
  have Lb' := Lib.hid (Nat.lt_of_lt_of_le Lb.out hb.size)
  have Ib' := Lib.hid (Ib.out.next hb)
  have Xc' := Lib.hid (Xc.out.keep hb Lc.out)
  have Lc' := Lib.hid (Nat.lt_of_lt_of_le Lc.out hb.size)
  have Ic' := Lib.hid (Ic.out.next hb)
  have Xd' := Lib.hid (Xd.out.keep hb Ld.out)
  have Ld' := Lib.hid (Nat.lt_of_lt_of_le Ld.out hb.size)
  have Id' := Lib.hid (Id.out.next hb)
  have Xe' := Lib.hid (Xe.out.keep hb Le.out)
  have Le' := Lib.hid (Nat.lt_of_lt_of_le Le.out hb.size)
  have Ie' := Lib.hid (Ie.out.next hb)
  clear T XM LM Xb Lb Ib Xc Lc Ic Xd Ld Id Xe Le Ie hb
  have T := T'
  have XM := XM'
  have LM := LM'
  have Xb := Xb'
  have Lb := Lb'
  have Ib := Ib'
  have Xc := Xc'
  have Lc := Lc'
  have Ic := Ic'
  have Xd := Xd'
  have Ld := Ld'
  have Id := Id'
  have Xe := Xe'
  have Le := Le'
  have Ie := Ie'
  clear T' XM' LM' Xb' Lb' Ib' Xc' Lc' Ic' Xd' Ld' Id' Xe' Le' Ie'
  obtain ⟨c19_0, c19_1, c19_2, c19_3, c19_4⟩ := Xc.out
  try dsimp only at c19_0 c19_1 c19_2 c19_3 c19_4
  obtain ⟨c20_0, c20_1, c20_2, c20_3, c20_4⟩ := Xe.out
  try dsimp only at c20_0 c20_1 c20_2 c20_3 c20_4
  go_wp2_with fail
  refine (sameImg_any _ _ zc _ Ic.out Ie.out).mono ?_
  rintro e w21 ⟨rfl, hb⟩
  clear c19_0 c19_1 c19_2 c19_3 c19_4 c20_0 c20_1 c20_2 c20_3 c20_4
  have T' := Lib.hid (below_next T.out hb)
  have XM' := Lib.hid (XM.out.keep hb LM.out)
  have LM' := Lib.hid (Nat.lt_of_lt_of_le LM.out hb.size)
  have Xb' := Lib.hid (Xb.out.keep hb Lb.out)
  have Lb' := Lib.hid (Nat.lt_of_lt_of_le Lb.out hb.size)
  have Ib' := Lib.hid (Ib.out.next hb)
  have Xc' := Lib.hid (Xc.out.keep hb Lc.out)
  have Lc' := Lib.hid (Nat.lt_of_lt_of_le Lc.out hb.size)
  have Ic' := Lib.hid (Ic.out.next hb)
  have Xd' := Lib.hid (Xd.out.keep hb Ld.out)
  have Ld' := Lib.hid (Nat.lt_of_lt_of_le Ld.out hb.size)
  have Id' := Lib.hid (Id.out.next hb)
  have Xe' := Lib.hid (Xe.out.keep hb Le.out)
  have Le' := Lib.hid (Nat.lt_of_lt_of_le Le.out hb.size)
  have Ie' := Lib.hid (Ie.out.next hb)
  clear T XM LM Xb Lb Ib Xc Lc Ic Xd Ld Id Xe Le Ie hb
  have T := T'
  have XM := XM'
  have LM := LM'
  have Xb := Xb'
  have Lb := Lb'
  have Ib := Ib'
  have Xc := Xc'
  have Lc := Lc'
  have Ic := Ic'
  have Xd := Xd'
  have Ld := Ld'
  have Id := Id'
  have Xe := Xe'
  have Le := Le'
  have Ie := Ie'
  clear T' XM' LM' Xb' Lb' Ib' Xc' Lc' Ic' Xd' Ld' Id' Xe' Le' Ie'
  go_wp2_with fail
  go_ret
  exact ⟨rfl, T.out⟩
end Go.Proofs.Ytpboapeoejdipaa
