/- The texts WResizes, WritesResizesProof in one. Conditions: as each says. -/
import Derived.Test.YtpboapeoejdipaaWBegun
import Derived.Test.YtpboapeoejdipaaSameImg
import Derived.Test.YtpboapeoejdipaaRResizes
import Derived.Test.YtpboapeoejdipaaRowA
import Derived.SizedLaws
-- WResizes: The law WritesResizes. Conditions: the image is read below the heap's size. (Printed by gen_wsets.py.)
namespace Go.Proofs.Ytpboapeoejdipaa
open Go.RowKit Sl
set_option maxRecDepth 100000 in
set_option maxHeartbeats 8000000 in
theorem law_writesResizes (v : IV) (m : Img) (g : Int) (w : World) (h : ImgR w w.heap.size v m) :
    Calls Try.prog 5 #[.agg #[.int .i64 m.guest, .slice v.rA v.rn v.rc, .slice v.sA v.sn v.sc, .slice v.fA v.fn v.fc, .slice v.pA v.pn v.pc], .int .i64 g] w fun e w' => e = .returned (.bool true) ∧ Below w.heap.size w w' := by
  have Kb' := fun W (hb : Below w.heap.size w W) => resize_any v m g W (h.next hb) (fun x => resize_hw x)
  have Kd' := fun W (hb : Below w.heap.size w W) => resizeOf_any v m g W (h.next hb)
  generalize resizeI m g = zb at *
  generalize resizeE m g = eb at *
  obtain ⟨rA, rn, rc, sA, sn, sc, fA, fn, fc, pA, pn, pc⟩ := v
  dsimp only [imgV] at Kb' Kd' ⊢
  have Kb := Lib.hid Kb'
  have Kd := Lib.hid Kd'
  clear Kb' Kd' h
  have T0' := below1 w (.cells #[.int .i64 m.guest, .slice rA rn rc, .slice sA sn sc, .slice fA fn fc, .slice pA pn pc] 26)
  have X0' := Box.new w m.guest ⟨rA, rn, rc, sA, sn, sc, fA, fn, fc, pA, pn, pc⟩ 26
  have L0' : w.heap.size < (w.alloc (.cells #[.int .i64 m.guest, .slice rA rn rc, .slice sA sn sc, .slice fA fn fc, .slice pA pn pc] 26)).heap.size := by simp
  have T := Lib.hid T0'
  have XM := Lib.hid X0'
  have LM := Lib.hid L0'
  clear T0' X0' L0'
  obtain ⟨c1_0, c1_1, c1_2, c1_3, c1_4⟩ := XM.out
  try dsimp only at c1_0 c1_1 c1_2 c1_3 c1_4
  go_enter Try.func5, Try.ntmps5
  clear c1_0 c1_1 c1_2 c1_3 c1_4
  obtain ⟨c2_0, c2_1, c2_2, c2_3, c2_4⟩ := XM.out
  try dsimp only at c2_0 c2_1 c2_2 c2_3 c2_4
  go_wp2_with fail
  generalize (w.alloc (.cells #[.int .i64 m.guest, .slice rA rn rc, .slice sA sn sc, .slice fA fn fc, .slice pA pn pc] 26)) = W3 at *
  refine (Kb.out _ T.out).mono ?_
  rintro e w4 ⟨v, rfl, hF, hb⟩
  clear c2_0 c2_1 c2_2 c2_3 c2_4
  have T' := Lib.hid (below_next T.out hb)
  have XM' := Lib.hid (XM.out.keep hb LM.out)
  have LM' := Lib.hid (Nat.lt_of_lt_of_le LM.out hb.size)
  clear T XM LM hb
  have T := T'
  have XM := XM'
  have LM := LM'
  clear T' XM' LM'
  have hx := Box.new w4 zb.guest v 26
  have b1 := below1 w4 (.cells #[.int .i64 zb.guest, .slice v.rA v.rn v.rc, .slice v.sA v.sn v.sc, .slice v.fA v.fn v.fc, .slice v.pA v.pn v.pc] 26)
  have hi2 := hF.imgR.next b1
  have hlt : w4.heap.size < (w4.alloc (.cells #[.int .i64 zb.guest, .slice v.rA v.rn v.rc, .slice v.sA v.sn v.sc, .slice v.fA v.fn v.fc, .slice v.pA v.pn v.pc] 26)).heap.size := by simp
  have T' := Lib.hid (below_next T.out b1)
  have XM' := Lib.hid (XM.out.keep b1 LM.out)
  have LM' := Lib.hid (Nat.lt_of_lt_of_le LM.out b1.size)
  clear T XM LM b1
  have T := T'
  have XM := XM'
  have LM := LM'
  clear T' XM' LM'
  obtain ⟨brA, brn, brc, bsA, bsn, bsc, bfA, bfn, bfc, bpA, bpn, bpc⟩ := v
  have Ib := Lib.hid hi2
  have Xb := Lib.hid hx
  have Lb := Lib.hid hlt
  dsimp only [imgV] at Ib Xb Lb T XM LM ⊢
  clear hF hx hi2 hlt
  clear Kb
  obtain ⟨c5_0, c5_1, c5_2, c5_3, c5_4⟩ := XM.out
  try dsimp only at c5_0 c5_1 c5_2 c5_3 c5_4
  go_wp2_with fail
  generalize (w4.alloc (.cells #[.int .i64 zb.guest, .slice brA brn brc, .slice bsA bsn bsc, .slice bfA bfn bfc, .slice bpA bpn bpc] 26)) = W6 at *
  refine (Kd.out _ T.out).mono ?_
  rintro e w7 ⟨v, rfl, hF, hb⟩
  clear c5_0 c5_1 c5_2 c5_3 c5_4
  have T' := Lib.hid (below_next T.out hb)
  have XM' := Lib.hid (XM.out.keep hb LM.out)
  have LM' := Lib.hid (Nat.lt_of_lt_of_le LM.out hb.size)
  have Xb' := Lib.hid (Xb.out.keep hb Lb.out)
  have Lb' := Lib.hid (Nat.lt_of_lt_of_le Lb.out hb.size)
  have Ib' := Lib.hid (Ib.out.next hb)
  clear T XM LM Xb Lb Ib hb
  have T := T'
  have XM := XM'
  have LM := LM'
  have Xb := Xb'
  have Lb := Lb'
  have Ib := Ib'
  clear T' XM' LM' Xb' Lb' Ib'
  have hx := Box.new w7 zb.guest v 26
  have b1 := below1 w7 (.cells #[.int .i64 zb.guest, .slice v.rA v.rn v.rc, .slice v.sA v.sn v.sc, .slice v.fA v.fn v.fc, .slice v.pA v.pn v.pc] 26)
  have hi2 := hF.imgR.next b1
  have hlt : w7.heap.size < (w7.alloc (.cells #[.int .i64 zb.guest, .slice v.rA v.rn v.rc, .slice v.sA v.sn v.sc, .slice v.fA v.fn v.fc, .slice v.pA v.pn v.pc] 26)).heap.size := by simp
  have T' := Lib.hid (below_next T.out b1)
  have XM' := Lib.hid (XM.out.keep b1 LM.out)
  have LM' := Lib.hid (Nat.lt_of_lt_of_le LM.out b1.size)
  have Xb' := Lib.hid (Xb.out.keep b1 Lb.out)
  have Lb' := Lib.hid (Nat.lt_of_lt_of_le Lb.out b1.size)
  have Ib' := Lib.hid (Ib.out.next b1)
  clear T XM LM Xb Lb Ib b1
  have T := T'
  have XM := XM'
  have LM := LM'
  have Xb := Xb'
  have Lb := Lb'
  have Ib := Ib'
  clear T' XM' LM' Xb' Lb' Ib'
  obtain ⟨drA, drn, drc, dsA, dsn, dsc, dfA, dfn, dfc, dpA, dpn, dpc⟩ := v
  have Id := Lib.hid hi2
  have Xd := Lib.hid hx
  have Ld := Lib.hid hlt
  dsimp only [imgV] at Id Xd Ld T XM LM Xb Lb Ib ⊢
  clear hF hx hi2 hlt
  clear Kd
  go_wp2_with fail
  generalize (w7.alloc (.cells #[.int .i64 zb.guest, .slice drA drn drc, .slice dsA dsn dsc, .slice dfA dfn dfc, .slice dpA dpn dpc] 26)) = W8 at *
  refine (writesBegun_any _).mono ?_
  rintro e w9 ⟨rfl, hb⟩
  have T' := Lib.hid (below_next T.out hb)
  have XM' := Lib.hid (XM.out.keep hb LM.out)
  have LM' := Lib.hid (Nat.lt_of_lt_of_le LM.out hb.size)
  have Xb' := Lib.hid (Xb.out.keep hb Lb.out)
  have Lb' := Lib.hid (Nat.lt_of_lt_of_le Lb.out hb.size)
  have Ib' := Lib.hid (Ib.out.next hb)
  have Xd' := Lib.hid (Xd.out.keep hb Ld.out)
  have Ld' := Lib.hid (Nat.lt_of_lt_of_le Ld.out hb.size)
  have Id' := Lib.hid (Id.out.next hb)
  clear T XM LM Xb Lb Ib Xd Ld Id hb
  have T := T'
  have XM := XM'
  have LM := LM'
  have Xb := Xb'
  have Lb := Lb'
  have Ib := Ib'
  have Xd := Xd'
  have Ld := Ld'
  have Id := Id'
  clear T' XM' LM' Xb' Lb' Ib' Xd' Ld' Id'
  obtain ⟨c10_0, c10_1, c10_2, c10_3, c10_4⟩ := Xb.out
  try dsimp only at c10_0 c10_1 c10_2 c10_3 c10_4
  obtain ⟨c11_0, c11_1, c11_2, c11_3, c11_4⟩ := Xd.out
  try dsimp only at c11_0 c11_1 c11_2 c11_3 c11_4
  go_wp2_with fail
  refine (sameImg_any _ _ zb _ Ib.out Id.out).mono ?_
  rintro e w12 ⟨rfl, hb⟩
  clear c10_0 c10_1 c10_2 c10_3 c10_4 c11_0 c11_1 c11_2 c11_3 c11_4
  have T' := Lib.hid (below_next T.out hb)
  have XM' := Lib.hid (XM.out.keep hb LM.out)
  have LM' := Lib.hid (Nat.lt_of_lt_of_le LM.out hb.size)
  have Xb' := Lib.hid (Xb.out.keep hb Lb.out)
  have Lb' := Lib.hid (Nat.lt_of_lt_of_le Lb.out hb.size)
  have Ib' := Lib.hid (Ib.out.next hb)
  have Xd' := Lib.hid (Xd.out.keep hb Ld.out)
  have Ld' := Lib.hid (Nat.lt_of_lt_of_le Ld.out hb.size)
  have Id' := Lib.hid (Id.out.next hb)
  clear T XM LM Xb Lb Ib Xd Ld Id hb
  have T := T'
  have XM := XM'
  have LM := LM'
  have Xb := Xb'
  have Lb := Lb'
  have Ib := Ib'
  have Xd := Xd'
  have Ld := Ld'
  have Id := Id'
  clear T' XM' LM' Xb' Lb' Ib' Xd' Ld' Id'
  go_wp2_with fail
  go_ret
  exact ⟨rfl, T.out⟩
end Go.Proofs.Ytpboapeoejdipaa
-- WritesResizesProof: WritesResizes: for every input the law answers true, and each argument reads behind the call as it read before. No conditions.
namespace Go.Proofs.Ytpboapeoejdipaa
open Go.ChangeShapes Go.WideShapes Go.ChangeAt Go.RowKit Sl

set_option maxRecDepth 100000 in
theorem writesResizes_lifted (os : Os) (started : os.Started) (H : Type) (enc : TypeId × Value → H) :
    ReturnsInHanded {} Try.checked os 5 .any (Rows.writesResizesSpec.pre6 enc Try.prog Try.f5 Rows.writesResizesRow.domain false) (Rows.writesResizesSpec.post enc Try.prog Try.f5 false true false false) := by
  refine returnsInHanded_of_change_sized (C := Try.checked) Try.own started (by kernel_rfl) Try.func5
    (ChangeSpec.witness6 (enc := enc) (C := Try.checked) false ⟨#[], #[.agg #[.int .i64 0, .slice none 0 0, .slice none 0 0, .slice none 0 0, .slice none 0 0], .int .i64 0], []⟩ 8 (by kernel_rfl) (by kernel_rfl) (by kernel_rfl) (by kernel_rfl)) ?_
  intro W base args ds gs before hval0 hW hcnd hsz0 _
  have hsz : (DataW.weightsEach Try.prog (Try.f5.params.toList ++ Rows.writesResizesSpec.plain.varTypes Try.prog) (ds ++ gs)).all (· ≤ reachBytes) = true := hsz0
  have hW' := hW
  obtain ⟨p, q, hA0, hV, rfl, hfz, hnd⟩ := hW
  have hA : DataW.TrodAll enc Try.prog W 0 (fun _ => true) true Try.f5.params.toList args.toList ds p := hA0
  have hval : ∀ (j : Nat) t v, Try.f5.params[j]? = some t → args[j]? = some v → Value.okWide Try.prog W .any base t v := hval0
  rw [Try.params5] at hA hsz hval
  obtain ⟨rfl, rfl⟩ := trodVars_none hV
  obtain ⟨v0, vs0, d0, ds0, p0, q0, hargs, rfl, rfl, h0, r0⟩ := trodAll_cons hA
  obtain ⟨v1, vs1, d1, ds1, p1, q1, rfl, rfl, rfl, h1, r1⟩ := trodAll_cons r0
  obtain ⟨rfl, rfl, rfl⟩ := trodAll_nil r1
  have hargs := args_of hargs
  subst hargs
  obtain ⟨u0, m0, rfl, hr0⟩ := op_image (hval 0 26 v0 rfl rfl) h0 (fun n hn => weight_at hsz (j := 0) rfl rfl n hn)
  obtain ⟨x1, rfl, b1⟩ := op_int (hval 1 3 v1 rfl rfl) h1 (fun n hn => weight_at hsz (j := 1) rfl rfl n hn)
  clear hval hval0 hsz hsz0 hA0
  refine (law_writesResizes u0 m0 x1 W hr0).mono fun e W' ⟨he, hb⟩ => ?_
  subst he
  exact ⟨_, rfl, law_post rfl rfl (by rw [Try.params5]; exact of_decide_eq_true (by kernel_rfl)) hW' rfl hb⟩

theorem writesResizes_holds : Rows.WritesResizesSaid :=
  OpenClaim.holds_of_wide 5 Try.f5 rfl rfl rfl rfl rfl rfl rfl ⟨rfl, rfl, rfl, rfl, rfl⟩ rfl rfl rfl rfl rfl (by kernel_rfl) Try.func5 (by kernel_rfl)
    (of_decide_eq_true (by kernel_rfl)) (by unfold Func.isWrapper; rw [if_neg (of_decide_eq_false (by kernel_rfl))]; exact ⟨rfl, rfl⟩)
    (fun os started H enc _ => writesResizes_lifted os started H enc)
#print axioms writesResizes_holds
end Go.Proofs.Ytpboapeoejdipaa
