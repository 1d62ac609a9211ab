/- SnapsBack: for every input the law answers true, and each argument reads behind the call as it read before. No conditions. -/
import Derived.Test.YtfilnnjanhjbeaaSnBack
import Derived.Test.YtfilnnjanhjbeaaRowA
import Derived.SizedLaws
namespace Go.Proofs.Ytfilnnjanhjbeaa
open Go.ChangeShapes Go.WideShapes Go.ChangeAt Go.RowKit Sl

set_option maxRecDepth 100000 in
theorem snapsBack_lifted (os : Os) (started : os.Started) (H : Type) (enc : TypeId × Value → H) :
    ReturnsInHanded {} Try.checked os 6 .any (Rows.snapsBackSpec.pre6 enc Try.prog Try.f6 Rows.snapsBackRow.domain false) (Rows.snapsBackSpec.post enc Try.prog Try.f6 false true false false) := by
  refine returnsInHanded_of_change_sized (C := Try.checked) Try.own started (by kernel_rfl) Try.func6
    (ChangeSpec.witness6 (enc := enc) (C := Try.checked) false ⟨#[], #[.agg #[.int .i64 0, .slice none 0 0, .slice none 0 0, .slice none 0 0, .slice none 0 0], .string ByteArray.empty, .int .i64 0, .string ByteArray.empty], []⟩ 8 (by kernel_rfl) (by kernel_rfl) (by kernel_rfl) (by kernel_rfl)) ?_
  intro W base args ds gs before hval0 hW hcnd hsz0 _
  have hsz : (DataW.weightsEach Try.prog (Try.f6.params.toList ++ Rows.snapsBackSpec.plain.varTypes Try.prog) (ds ++ gs)).all (· ≤ reachBytes) = true := hsz0
  have hW' := hW
  obtain ⟨p, q, hA0, hV, rfl, hfz, hnd⟩ := hW
  have hA : DataW.TrodAll enc Try.prog W 0 (fun _ => true) true Try.f6.params.toList args.toList ds p := hA0
  have hval : ∀ (j : Nat) t v, Try.f6.params[j]? = some t → args[j]? = some v → Value.okWide Try.prog W .any base t v := hval0
  rw [Try.params6] at hA hsz hval
  obtain ⟨rfl, rfl⟩ := trodVars_none hV
  obtain ⟨v0, vs0, d0, ds0, p0, q0, hargs, rfl, rfl, h0, r0⟩ := trodAll_cons hA
  obtain ⟨v1, vs1, d1, ds1, p1, q1, rfl, rfl, rfl, h1, r1⟩ := trodAll_cons r0
  obtain ⟨v2, vs2, d2, ds2, p2, q2, rfl, rfl, rfl, h2, r2⟩ := trodAll_cons r1
  obtain ⟨v3, vs3, d3, ds3, p3, q3, rfl, rfl, rfl, h3, r3⟩ := trodAll_cons r2
  obtain ⟨rfl, rfl, rfl⟩ := trodAll_nil r3
  have hargs := args_of hargs
  subst hargs
  obtain ⟨u0, m0, rfl, hr0⟩ := op_image (hval 0 26 v0 rfl rfl) h0 (fun n hn => weight_at hsz (j := 0) rfl rfl n hn)
  obtain ⟨s1, rfl, b1⟩ := op_string (hval 1 9 v1 rfl rfl) h1 (fun n hn => weight_at hsz (j := 1) rfl rfl n hn)
  obtain ⟨x2, rfl, b2⟩ := op_int (hval 2 3 v2 rfl rfl) h2 (fun n hn => weight_at hsz (j := 2) rfl rfl n hn)
  obtain ⟨s3, rfl, b3⟩ := op_string (hval 3 9 v3 rfl rfl) h3 (fun n hn => weight_at hsz (j := 3) rfl rfl n hn)
  clear hval hval0 hsz hsz0 hA0
  refine (law_snapsBack u0 m0 s1 x2 s3 W hr0 (by omega)).mono fun e W' ⟨he, hb⟩ => ?_
  subst he
  exact ⟨_, rfl, law_post rfl rfl (by rw [Try.params6]; exact of_decide_eq_true (by kernel_rfl)) hW' rfl hb⟩

theorem snapsBack_holds : Rows.SnapsBackSaid :=
  OpenClaim.holds_of_wide 6 Try.f6 rfl rfl rfl rfl rfl rfl rfl ⟨rfl, rfl, rfl, rfl, rfl⟩ rfl rfl rfl rfl rfl (by kernel_rfl) Try.func6 (by kernel_rfl)
    (of_decide_eq_true (by kernel_rfl)) (by unfold Func.isWrapper; rw [if_neg (of_decide_eq_false (by kernel_rfl))]; exact ⟨rfl, rfl⟩)
    (fun os started H enc _ => snapsBack_lifted os started H enc)
#print axioms snapsBack_holds
end Go.Proofs.Ytfilnnjanhjbeaa
