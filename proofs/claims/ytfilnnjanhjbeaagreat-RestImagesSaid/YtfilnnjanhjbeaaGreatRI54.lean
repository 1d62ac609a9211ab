/- Texts of the proof of restImages_holds: RestImagesProof. Conditions: as each text says. -/
import Derived.Test.YtfilnnjanhjbeaaGreatRI52
import Derived.Test.YtfilnnjanhjbeaaGreatRI53
import Derived.SizedLaws
namespace Go.Proofs.YtfilnnjanhjbeaaGreat
open Go.ChangeShapes Go.WideShapes Go.ChangeAt Go.RowKit Sl
set_option maxRecDepth 100000 in
theorem restImages_lifted (os : Os) (started : os.Started) (H : Type) (enc : TypeId × Value → H) :
    ReturnsInHanded {} Tryz.checked os 3 .any (Rows.restImagesSpec.pre6 enc Tryz.prog Tryz.f3 Rows.restImagesRow.domain false) (Rows.restImagesSpec.post enc Tryz.prog Tryz.f3 false true false false) := by
  refine returnsInHanded_of_change_sized (C := Tryz.checked) Tryz.own started (by kernel_rfl) Tryz.func3
    (ChangeSpec.witness6 (enc := enc) (C := Tryz.checked) false ⟨#[], #[.agg #[.int .i64 0, .slice none 0 0, .slice none 0 0, .slice none 0 0, .slice none 0 0], .int .i64 0, .string ByteArray.empty, .string ByteArray.empty], []⟩ 8 (by kernel_rfl) (by kernel_rfl) (by kernel_rfl) (by kernel_rfl)) ?_
  intro W base args ds gs before hval0 hW hcnd hsz0 _
  have hsz : (DataW.weightsEach Tryz.prog (Tryz.f3.params.toList ++ Rows.restImagesSpec.plain.varTypes Tryz.prog) (ds ++ gs)).all (· ≤ reachBytes) = true := hsz0
  have hW' := hW
  obtain ⟨p, q, hA0, hV, rfl, hfz, hnd⟩ := hW
  have hA : DataW.TrodAll enc Tryz.prog W 0 (fun _ => true) true Tryz.f3.params.toList args.toList ds p := hA0
  have hval : ∀ (j : Nat) t v, Tryz.f3.params[j]? = some t → args[j]? = some v → Value.okWide Tryz.prog W .any base t v := hval0
  rw [Tryz.params3] at hA hsz hval
  obtain ⟨rfl, rfl⟩ := trodVars_none hV
  obtain ⟨v0, vs0, d0, ds0, p0, q0, hargs, rfl, rfl, h0, r0⟩ := trodAll_cons hA
  obtain ⟨v1, vs1, d1, ds1, p1, q1, rfl, rfl, rfl, h1, r1⟩ := trodAll_cons r0
  obtain ⟨v2, vs2, d2, ds2, p2, q2, rfl, rfl, rfl, h2, r2⟩ := trodAll_cons r1
  obtain ⟨v3, vs3, d3, ds3, p3, q3, rfl, rfl, rfl, h3, r3⟩ := trodAll_cons r2
  obtain ⟨rfl, rfl, rfl⟩ := trodAll_nil r3
  have hargs := args_of hargs
  subst hargs
  obtain ⟨u0, m0, rfl, hr0⟩ := op_image (hval 0 26 v0 rfl rfl) h0 (fun n hn => weight_at hsz (j := 0) rfl rfl n hn)
  obtain ⟨x1, rfl, b1⟩ := op_int (hval 1 3 v1 rfl rfl) h1 (fun n hn => weight_at hsz (j := 1) rfl rfl n hn)
  obtain ⟨s2, rfl, b2⟩ := op_string (hval 2 9 v2 rfl rfl) h2 (fun n hn => weight_at hsz (j := 2) rfl rfl n hn)
  obtain ⟨s3, rfl, b3⟩ := op_string (hval 3 9 v3 rfl rfl) h3 (fun n hn => weight_at hsz (j := 3) rfl rfl n hn)
  clear hval hval0 hsz hsz0 hA0
  refine (law_restImages u0 m0 x1 s2 s3 W hr0 (by omega)).mono fun e W' ⟨he, hb⟩ => ?_
  subst he
  exact ⟨_, rfl, law_post rfl rfl (by rw [Tryz.params3]; exact of_decide_eq_true (by kernel_rfl)) hW' rfl hb⟩
theorem restImages_holds : Rows.RestImagesSaid :=
  OpenClaim.holds_of_wide 3 Tryz.f3 rfl rfl rfl rfl rfl rfl rfl ⟨rfl, rfl, rfl, rfl, rfl⟩ rfl rfl rfl rfl rfl (by kernel_rfl) Tryz.func3 (by kernel_rfl)
    (of_decide_eq_true (by kernel_rfl)) (by unfold Func.isWrapper; rw [if_neg (of_decide_eq_false (by kernel_rfl))]; exact ⟨rfl, rfl⟩)
    (fun os started H enc _ => restImages_lifted os started H enc)
#print axioms restImages_holds
end Go.Proofs.YtfilnnjanhjbeaaGreat
