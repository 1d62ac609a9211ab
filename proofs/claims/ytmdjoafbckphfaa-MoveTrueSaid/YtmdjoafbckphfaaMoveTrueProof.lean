/- MoveTrue: for every input the law answers true, and each argument reads behind the call as it read before. No conditions. -/
import Derived.Test.YtmdjoafbckphfaaMovTrue
import Derived.Test.YtmdjoafbckphfaaRowA
import Derived.SizedLaws
namespace Go.Proofs.Ytmdjoafbckphfaa
open Go.ChangeShapes Go.WideShapes Go.ChangeAt Go.RowKit Sl

set_option maxRecDepth 100000 in
theorem moveTrue_lifted (os : Os) (started : os.Started) (H : Type) (enc : TypeId × Value → H) :
    ReturnsInHanded {} Try.checked os 7 .any (Rows.moveTrueSpec.pre6 enc Try.prog Try.f7 Rows.moveTrueRow.domain false) (Rows.moveTrueSpec.post enc Try.prog Try.f7 false true false false) := by
  refine returnsInHanded_of_change_sized (C := Try.checked) Try.own started (by kernel_rfl) Try.func7
    (ChangeSpec.witness6 (enc := enc) (C := Try.checked) false ⟨#[], #[.slice none 0 0, .agg #[.int .i64 0, .slice none 0 0, .slice none 0 0, .slice none 0 0, .slice none 0 0], .string ByteArray.empty], []⟩ 8 (by kernel_rfl) (by kernel_rfl) (by kernel_rfl) (by kernel_rfl)) ?_
  intro W base args ds gs before hval0 hW hcnd hsz0 _
  have hsz : (DataW.weightsEach Try.prog (Try.f7.params.toList ++ Rows.moveTrueSpec.plain.varTypes Try.prog) (ds ++ gs)).all (· ≤ reachBytes) = true := hsz0
  have hW' := hW
  obtain ⟨p, q, hA0, hV, rfl, hfz, hnd⟩ := hW
  have hA : DataW.TrodAll enc Try.prog W 0 (fun _ => true) true Try.f7.params.toList args.toList ds p := hA0
  have hval : ∀ (j : Nat) t v, Try.f7.params[j]? = some t → args[j]? = some v → Value.okWide Try.prog W .any base t v := hval0
  rw [Try.params7] at hA hsz hval
  obtain ⟨rfl, rfl⟩ := trodVars_none hV
  obtain ⟨v0, vs0, d0, ds0, p0, q0, hargs, rfl, rfl, h0, r0⟩ := trodAll_cons hA
  obtain ⟨v1, vs1, d1, ds1, p1, q1, rfl, rfl, rfl, h1, r1⟩ := trodAll_cons r0
  obtain ⟨v2, vs2, d2, ds2, p2, q2, rfl, rfl, rfl, h2, r2⟩ := trodAll_cons r1
  obtain ⟨rfl, rfl, rfl⟩ := trodAll_nil r2
  have hargs := args_of hargs
  subst hargs
  obtain ⟨A0, n0, c0, l0, rfl, hn0, hc0, hr0⟩ := op_strs (hval 0 22 v0 rfl rfl) h0 (fun n hn => weight_at hsz (j := 0) rfl rfl n hn)
  obtain ⟨u1, m1, rfl, hr1⟩ := op_image (hval 1 27 v1 rfl rfl) h1 (fun n hn => weight_at hsz (j := 1) rfl rfl n hn)
  obtain ⟨s2, rfl, b2⟩ := op_string (hval 2 9 v2 rfl rfl) h2 (fun n hn => weight_at hsz (j := 2) rfl rfl n hn)
  clear hval hval0 hsz hsz0 hA0
  refine (law_moveTrue A0 n0 c0 l0 u1 m1 s2 W hr0 (by omega) hr1).mono fun e W' ⟨he, hb⟩ => ?_
  subst he
  exact ⟨_, rfl, law_post rfl rfl (by rw [Try.params7]; exact of_decide_eq_true (by kernel_rfl)) hW' rfl hb⟩

theorem moveTrue_holds : Rows.MoveTrueSaid :=
  OpenClaim.holds_of_wide 7 Try.f7 rfl rfl rfl rfl rfl rfl rfl ⟨rfl, rfl, rfl, rfl, rfl⟩ rfl rfl rfl rfl rfl (by kernel_rfl) Try.func7 (by kernel_rfl)
    (of_decide_eq_true (by kernel_rfl)) (by unfold Func.isWrapper; rw [if_neg (of_decide_eq_false (by kernel_rfl))]; exact ⟨rfl, rfl⟩)
    (fun os started H enc _ => moveTrue_lifted os started H enc)
#print axioms moveTrue_holds
end Go.Proofs.Ytmdjoafbckphfaa
