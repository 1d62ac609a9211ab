/- The texts StkCommits, StackCommitsProof in one. Conditions: as each says. -/
import Derived.Test.YtmdjoafbckphfaaGreatStkD
import Derived.Test.YtmdjoafbckphfaaGreatStkBeg
import Derived.Test.YtmdjoafbckphfaaGreatStkE
import Derived.Test.YtmdjoafbckphfaaGreatRowA
import Derived.SizedLaws
-- StkCommits: The law StackCommits. Conditions: the stack is read below the heap's size. (Printed by gen_stkgreat.py.)
namespace Go.Proofs.YtmdjoafbckphfaaGreat
open Go.RowKit Sl
set_option maxRecDepth 100000 in
set_option maxHeartbeats 4000000 in
theorem law_stackCommits (A : Option Addr) (n c : Nat) (l : List ByteArray) (v : IV) (m : Img) (w : World) (h : StkR w A n c v ⟨l, m⟩) :
    Calls Tryz.prog 4 #[stkV A n c m v] w fun e w' => e = .returned (.bool true) ∧ Below w.heap.size w w' := by
  have Ka' := fun W (hb : Below w.heap.size w W) => scommit_any A n c l v m W (h.next hb)
  have Kb' := fun W (hb : Below w.heap.size w W) => rscommit_any A n c l v m W (h.next hb)
  have IM := Lib.hid h
  generalize commitE ⟨l, m⟩ = ec at *
  generalize commitV ⟨l, m⟩ = zc at *
  obtain ⟨rA, rn, rc, sA, sn, sc, fA, fn, fc, pA, pn, pc⟩ := v
  dsimp only [stkV] at Ka' Kb' ⊢
  have Ka := Lib.hid Ka'
  have Kb := Lib.hid Kb'
  clear Ka' Kb' h
  have T0' := below1 w (.cells #[.slice A n c, .int .i64 m.guest, .slice rA rn rc, .slice sA sn sc, .slice fA fn fc, .slice pA pn pc] 29)
  have X0' := BoxS.new w A n c m.guest ⟨rA, rn, rc, sA, sn, sc, fA, fn, fc, pA, pn, pc⟩ 29
  have L0' : w.heap.size < (w.alloc (.cells #[.slice A n c, .int .i64 m.guest, .slice rA rn rc, .slice sA sn sc, .slice fA fn fc, .slice pA pn pc] 29)).heap.size := by simp
  have IM' := Lib.hid (IM.out.next T0')
  have T := Lib.hid T0'
  have XSm := Lib.hid X0'
  have Lm := Lib.hid L0'
  clear T0' X0' L0' IM
  have IM := IM'
  clear IM'
  obtain ⟨c1_0, c1_1, c1_2, c1_3, c1_4, c1_5⟩ := XSm.out
  try dsimp only at c1_0 c1_1 c1_2 c1_3 c1_4 c1_5
  go_enter Tryz.func4, Tryz.ntmps4
  try dsimp only [List.append]
  clear c1_0 c1_1 c1_2 c1_3 c1_4 c1_5
  obtain ⟨c2_0, c2_1, c2_2, c2_3, c2_4, c2_5⟩ := XSm.out
  try dsimp only at c2_0 c2_1 c2_2 c2_3 c2_4 c2_5
  go_wp2_with fail
  generalize (w.alloc (.cells #[.slice A n c, .int .i64 m.guest, .slice rA rn rc, .slice sA sn sc, .slice fA fn fc, .slice pA pn pc] 29)) = W3 at *
  refine (Ka.out _ T.out).mono ?_
  rintro e w4 ⟨dA, dn, dc, v, rfl, hF, hb⟩
  clear c2_0 c2_1 c2_2 c2_3 c2_4 c2_5
  have T' := Lib.hid (below_next T.out hb)
  have XSm' := Lib.hid (XSm.out.keep hb Lm.out)
  have Lm' := Lib.hid (Nat.lt_of_lt_of_le Lm.out hb.size)
  have IM' := Lib.hid (IM.out.next hb)
  clear T XSm Lm IM hb
  have T := T'
  have XSm := XSm'
  have Lm := Lm'
  have IM := IM'
  clear T' XSm' Lm' IM'
  have hx := BoxS.new w4 dA dn dc zc.top.guest v 29
  have b1 := below1 w4 (.cells #[.slice dA dn dc, .int .i64 zc.top.guest, .slice v.rA v.rn v.rc, .slice v.sA v.sn v.sc, .slice v.fA v.fn v.fc, .slice v.pA v.pn v.pc] 29)
  have hi2 := StkR.next hF b1
  have hlt : w4.heap.size < (w4.alloc (.cells #[.slice dA dn dc, .int .i64 zc.top.guest, .slice v.rA v.rn v.rc, .slice v.sA v.sn v.sc, .slice v.fA v.fn v.fc, .slice v.pA v.pn v.pc] 29)).heap.size := by simp
  have T' := Lib.hid (below_next T.out b1)
  have XSm' := Lib.hid (XSm.out.keep b1 Lm.out)
  have Lm' := Lib.hid (Nat.lt_of_lt_of_le Lm.out b1.size)
  have IM' := Lib.hid (IM.out.next b1)
  clear T XSm Lm IM b1
  have T := T'
  have XSm := XSm'
  have Lm := Lm'
  have IM := IM'
  clear T' XSm' Lm' IM'
  obtain ⟨drA, drn, drc, dsA, dsn, dsc, dfA, dfn, dfc, dpA, dpn, dpc⟩ := v
  have Id := Lib.hid hi2
  have XSd := Lib.hid hx
  have Ld := Lib.hid hlt
  dsimp only [stkV] at Id XSd Ld T XSm Lm IM ⊢
  clear hF hx hi2 hlt
  obtain ⟨c5_0, c5_1, c5_2, c5_3, c5_4, c5_5⟩ := XSm.out
  try dsimp only at c5_0 c5_1 c5_2 c5_3 c5_4 c5_5
  go_wp2_with fail
  generalize (w4.alloc (.cells #[.slice dA dn dc, .int .i64 zc.top.guest, .slice drA drn drc, .slice dsA dsn dsc, .slice dfA dfn dfc, .slice dpA dpn dpc] 29)) = W6 at *
  refine (Kb.out _ T.out).mono ?_
  rintro e w7 ⟨eA, en, ec, v, rfl, hF, hb⟩
  clear c5_0 c5_1 c5_2 c5_3 c5_4 c5_5
  have T' := Lib.hid (below_next T.out hb)
  have XSm' := Lib.hid (XSm.out.keep hb Lm.out)
  have Lm' := Lib.hid (Nat.lt_of_lt_of_le Lm.out hb.size)
  have IM' := Lib.hid (IM.out.next hb)
  have XSd' := Lib.hid (XSd.out.keep hb Ld.out)
  have Ld' := Lib.hid (Nat.lt_of_lt_of_le Ld.out hb.size)
  have Id' := Lib.hid (Id.out.next hb)
  clear T XSm Lm IM XSd Ld Id hb
  have T := T'
  have XSm := XSm'
  have Lm := Lm'
  have IM := IM'
  have XSd := XSd'
  have Ld := Ld'
  have Id := Id'
  clear T' XSm' Lm' IM' XSd' Ld' Id'
  have hx := BoxS.new w7 eA en ec zc.top.guest v 29
  have b1 := below1 w7 (.cells #[.slice eA en ec, .int .i64 zc.top.guest, .slice v.rA v.rn v.rc, .slice v.sA v.sn v.sc, .slice v.fA v.fn v.fc, .slice v.pA v.pn v.pc] 29)
  have hi2 := StkR.next hF b1
  have hlt : w7.heap.size < (w7.alloc (.cells #[.slice eA en ec, .int .i64 zc.top.guest, .slice v.rA v.rn v.rc, .slice v.sA v.sn v.sc, .slice v.fA v.fn v.fc, .slice v.pA v.pn v.pc] 29)).heap.size := by simp
  have T' := Lib.hid (below_next T.out b1)
  have XSm' := Lib.hid (XSm.out.keep b1 Lm.out)
  have Lm' := Lib.hid (Nat.lt_of_lt_of_le Lm.out b1.size)
  have IM' := Lib.hid (IM.out.next b1)
  have XSd' := Lib.hid (XSd.out.keep b1 Ld.out)
  have Ld' := Lib.hid (Nat.lt_of_lt_of_le Ld.out b1.size)
  have Id' := Lib.hid (Id.out.next b1)
  clear T XSm Lm IM XSd Ld Id b1
  have T := T'
  have XSm := XSm'
  have Lm := Lm'
  have IM := IM'
  have XSd := XSd'
  have Ld := Ld'
  have Id := Id'
  clear T' XSm' Lm' IM' XSd' Ld' Id'
  obtain ⟨erA, ern, erc, esA, esn, esc, efA, efn, efc, epA, epn, epc⟩ := v
  have Ie := Lib.hid hi2
  have XSe := Lib.hid hx
  have Le := Lib.hid hlt
  dsimp only [stkV] at Ie XSe Le T XSm Lm IM XSd Ld Id ⊢
  clear hF hx hi2 hlt
  go_wp2_with fail
  generalize (w7.alloc (.cells #[.slice eA en ec, .int .i64 zc.top.guest, .slice erA ern erc, .slice esA esn esc, .slice efA efn efc, .slice epA epn epc] 29)) = W8 at *
  refine (stackBegun_any _).mono ?_
  rintro e w9 ⟨rfl, hb⟩
  have T' := Lib.hid (below_next T.out hb)
  have XSm' := Lib.hid (XSm.out.keep hb Lm.out)
  have Lm' := Lib.hid (Nat.lt_of_lt_of_le Lm.out hb.size)
  have IM' := Lib.hid (IM.out.next hb)
  have XSd' := Lib.hid (XSd.out.keep hb Ld.out)
  have Ld' := Lib.hid (Nat.lt_of_lt_of_le Ld.out hb.size)
  have Id' := Lib.hid (Id.out.next hb)
  have XSe' := Lib.hid (XSe.out.keep hb Le.out)
  have Le' := Lib.hid (Nat.lt_of_lt_of_le Le.out hb.size)
  have Ie' := Lib.hid (Ie.out.next hb)
  clear T XSm Lm IM XSd Ld Id XSe Le Ie hb
  have T := T'
  have XSm := XSm'
  have Lm := Lm'
  have IM := IM'
  have XSd := XSd'
  have Ld := Ld'
  have Id := Id'
  have XSe := XSe'
  have Le := Le'
  have Ie := Ie'
  clear T' XSm' Lm' IM' XSd' Ld' Id' XSe' Le' Ie'
  obtain ⟨c10_0, c10_1, c10_2, c10_3, c10_4, c10_5⟩ := XSd.out
  try dsimp only at c10_0 c10_1 c10_2 c10_3 c10_4 c10_5
  obtain ⟨c11_0, c11_1, c11_2, c11_3, c11_4, c11_5⟩ := XSe.out
  try dsimp only at c11_0 c11_1 c11_2 c11_3 c11_4 c11_5
  go_wp2_with fail
  refine (sameStk_any _ _ _ _ _ _ _ _ zc _ Id.out Ie.out).mono ?_
  rintro e w12 ⟨rfl, hb⟩
  clear c10_0 c10_1 c10_2 c10_3 c10_4 c10_5 c11_0 c11_1 c11_2 c11_3 c11_4 c11_5
  have T' := Lib.hid (below_next T.out hb)
  have XSm' := Lib.hid (XSm.out.keep hb Lm.out)
  have Lm' := Lib.hid (Nat.lt_of_lt_of_le Lm.out hb.size)
  have IM' := Lib.hid (IM.out.next hb)
  have XSd' := Lib.hid (XSd.out.keep hb Ld.out)
  have Ld' := Lib.hid (Nat.lt_of_lt_of_le Ld.out hb.size)
  have Id' := Lib.hid (Id.out.next hb)
  have XSe' := Lib.hid (XSe.out.keep hb Le.out)
  have Le' := Lib.hid (Nat.lt_of_lt_of_le Le.out hb.size)
  have Ie' := Lib.hid (Ie.out.next hb)
  clear T XSm Lm IM XSd Ld Id XSe Le Ie hb
  have T := T'
  have XSm := XSm'
  have Lm := Lm'
  have IM := IM'
  have XSd := XSd'
  have Ld := Ld'
  have Id := Id'
  have XSe := XSe'
  have Le := Le'
  have Ie := Ie'
  clear T' XSm' Lm' IM' XSd' Ld' Id' XSe' Le' Ie'
  go_wp2_with fail
  go_ret
  exact ⟨rfl, T.out⟩
end Go.Proofs.YtmdjoafbckphfaaGreat
-- StackCommitsProof: StackCommits: for every input the law answers true, and each argument reads behind the call as it read before. No conditions.
namespace Go.Proofs.YtmdjoafbckphfaaGreat
open Go.ChangeShapes Go.WideShapes Go.ChangeAt Go.RowKit Sl

set_option maxRecDepth 100000 in
theorem stackCommits_lifted (os : Os) (started : os.Started) (H : Type) (enc : TypeId × Value → H) :
    ReturnsInHanded {} Tryz.checked os 4 .any (Rows.stackCommitsSpec.pre6 enc Tryz.prog Tryz.f4 Rows.stackCommitsRow.domain false) (Rows.stackCommitsSpec.post enc Tryz.prog Tryz.f4 false true false false) := by
  refine returnsInHanded_of_change_sized (C := Tryz.checked) Tryz.own started (by kernel_rfl) Tryz.func4
    (ChangeSpec.witness6 (enc := enc) (C := Tryz.checked) false ⟨#[], #[.agg #[.slice none 0 0, .int .i64 0, .slice none 0 0, .slice none 0 0, .slice none 0 0, .slice none 0 0]], []⟩ 8 (by kernel_rfl) (by kernel_rfl) (by kernel_rfl) (by kernel_rfl)) ?_
  intro W base args ds gs before hval0 hW hcnd hsz0 _
  have hsz : (DataW.weightsEach Tryz.prog (Tryz.f4.params.toList ++ Rows.stackCommitsSpec.plain.varTypes Tryz.prog) (ds ++ gs)).all (· ≤ reachBytes) = true := hsz0
  have hW' := hW
  obtain ⟨p, q, hA0, hV, rfl, hfz, hnd⟩ := hW
  have hA : DataW.TrodAll enc Tryz.prog W 0 (fun _ => true) true Tryz.f4.params.toList args.toList ds p := hA0
  have hval : ∀ (j : Nat) t v, Tryz.f4.params[j]? = some t → args[j]? = some v → Value.okWide Tryz.prog W .any base t v := hval0
  rw [Tryz.params4] at hA hsz hval
  obtain ⟨rfl, rfl⟩ := trodVars_none hV
  obtain ⟨v0, vs0, d0, ds0, p0, q0, hargs, rfl, rfl, h0, r0⟩ := trodAll_cons hA
  obtain ⟨rfl, rfl, rfl⟩ := trodAll_nil r0
  have hargs := args_of hargs
  subst hargs
  obtain ⟨A0, n0, c0, l0, u0, m0, rfl, hn0, hc0, hb0, hr0⟩ := op_stack (hval 0 29 v0 rfl rfl) h0 (fun n hn => weight_at hsz (j := 0) rfl rfl n hn)
  clear hval hval0 hsz hsz0 hA0
  refine (law_stackCommits A0 n0 c0 l0 u0 m0 W ⟨hb0, by omega, hr0⟩).mono fun e W' ⟨he, hb⟩ => ?_
  subst he
  exact ⟨_, rfl, law_post rfl rfl (by rw [Tryz.params4]; exact of_decide_eq_true (by kernel_rfl)) hW' rfl hb⟩

theorem stackCommits_holds : Rows.StackCommitsSaid :=
  OpenClaim.holds_of_wide 4 Tryz.f4 rfl rfl rfl rfl rfl rfl rfl ⟨rfl, rfl, rfl, rfl, rfl⟩ rfl rfl rfl rfl rfl (by kernel_rfl) Tryz.func4 (by kernel_rfl)
    (of_decide_eq_true (by kernel_rfl)) (by unfold Func.isWrapper; rw [if_neg (of_decide_eq_false (by kernel_rfl))]; exact ⟨rfl, rfl⟩)
    (fun os started H enc _ => stackCommits_lifted os started H enc)
#print axioms stackCommits_holds
end Go.Proofs.YtmdjoafbckphfaaGreat
