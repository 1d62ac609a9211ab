/- EntryTrue: for every input the law answers true, and each argument reads behind the call as it read before. No conditions. -/
import Derived.Test.YtiodlalfmeeemaaEntryTrue
import Derived.Test.YtiodlalfmeeemaaRow2
import Derived.SizedLaws
namespace Go.Proofs.Ytiodlalfmeeemaa
open Go.ChangeShapes Go.WideShapes Go.ChangeAt Go.RowKit Sl

set_option maxRecDepth 100000 in
theorem entryTrue_lifted (os : Os) (started : os.Started) (H : Type) (enc : TypeId × Value → H) :
    ReturnsInHanded {} Try.checked os 11 .any (Rows.entryTrueSpec.pre6 enc Try.prog Try.f11 Rows.entryTrueRow.domain false) (Rows.entryTrueSpec.post enc Try.prog Try.f11 false true false false) := by
  refine returnsInHanded_of_change_sized (C := Try.checked) Try.own started (by kernel_rfl) Try.func11
    (ChangeSpec.witness6 (enc := enc) (C := Try.checked) false ⟨#[], #[.slice none 0 0, .int .i64 0, .int .i64 0, .int .i64 0, .int .i64 0, .int .i64 0], []⟩ 8 (by kernel_rfl) (by kernel_rfl) (by kernel_rfl) (by kernel_rfl)) ?_
  intro W base args ds gs before hval0 hW hcnd hsz0 _
  have hsz : (DataW.weightsEach Try.prog (Try.f11.params.toList ++ Rows.entryTrueSpec.plain.varTypes Try.prog) (ds ++ gs)).all (· ≤ reachBytes) = true := hsz0
  have hW' := hW
  obtain ⟨p, q, hA0, hV, rfl, hfz, hnd⟩ := hW
  have hA : DataW.TrodAll enc Try.prog W 0 (fun _ => true) true Try.f11.params.toList args.toList ds p := hA0
  have hval : ∀ (j : Nat) t v, Try.f11.params[j]? = some t → args[j]? = some v → Value.okWide Try.prog W .any base t v := hval0
  rw [Try.params11] at hA hsz hval
  obtain ⟨rfl, rfl⟩ := trodVars_none hV
  obtain ⟨v0, vs0, d0, ds0, p0, q0, hargs, rfl, rfl, h0, r0⟩ := trodAll_cons hA
  obtain ⟨v1, vs1, d1, ds1, p1, q1, rfl, rfl, rfl, h1, r1⟩ := trodAll_cons r0
  obtain ⟨v2, vs2, d2, ds2, p2, q2, rfl, rfl, rfl, h2, r2⟩ := trodAll_cons r1
  obtain ⟨v3, vs3, d3, ds3, p3, q3, rfl, rfl, rfl, h3, r3⟩ := trodAll_cons r2
  obtain ⟨v4, vs4, d4, ds4, p4, q4, rfl, rfl, rfl, h4, r4⟩ := trodAll_cons r3
  obtain ⟨v5, vs5, d5, ds5, p5, q5, rfl, rfl, rfl, h5, r5⟩ := trodAll_cons r4
  obtain ⟨rfl, rfl, rfl⟩ := trodAll_nil r5
  have hargs := args_of hargs
  subst hargs
  obtain ⟨A0, n0, c0, l0, rfl, hn0, hc0, hr0, hz0⟩ := op_ints (hval 0 22 v0 rfl rfl) h0 (fun n hn => weight_at hsz (j := 0) rfl rfl n hn)
  obtain ⟨x1, rfl, b1⟩ := op_int (hval 1 3 v1 rfl rfl) h1 (fun n hn => weight_at hsz (j := 1) rfl rfl n hn)
  obtain ⟨x2, rfl, b2⟩ := op_int (hval 2 3 v2 rfl rfl) h2 (fun n hn => weight_at hsz (j := 2) rfl rfl n hn)
  obtain ⟨x3, rfl, b3⟩ := op_int (hval 3 3 v3 rfl rfl) h3 (fun n hn => weight_at hsz (j := 3) rfl rfl n hn)
  obtain ⟨x4, rfl, b4⟩ := op_int (hval 4 3 v4 rfl rfl) h4 (fun n hn => weight_at hsz (j := 4) rfl rfl n hn)
  obtain ⟨x5, rfl, b5⟩ := op_int (hval 5 3 v5 rfl rfl) h5 (fun n hn => weight_at hsz (j := 5) rfl rfl n hn)
  clear hval hval0 hsz hsz0 hA0
  refine (law_entryTrue A0 n0 c0 l0 x1 x2 x3 x4 x5 W hr0 hn0 (by omega) (by have := b3.1; omega) (by have := b3.2; omega)).mono fun e W' ⟨he, hb⟩ => ?_
  subst he
  exact ⟨_, rfl, law_post rfl rfl (by rw [Try.params11]; exact of_decide_eq_true (by kernel_rfl)) hW' rfl hb⟩

theorem entryTrue_holds : Rows.EntryTrueSaid :=
  OpenClaim.holds_of_wide 11 Try.f11 rfl rfl rfl rfl rfl rfl rfl ⟨rfl, rfl, rfl, rfl, rfl⟩ rfl rfl rfl rfl rfl (by kernel_rfl) Try.func11 (by kernel_rfl)
    (of_decide_eq_true (by kernel_rfl)) (by unfold Func.isWrapper; rw [if_neg (of_decide_eq_false (by kernel_rfl))]; exact ⟨rfl, rfl⟩)
    (fun os started H enc _ => entryTrue_lifted os started H enc)
#print axioms entryTrue_holds
end Go.Proofs.Ytiodlalfmeeemaa
