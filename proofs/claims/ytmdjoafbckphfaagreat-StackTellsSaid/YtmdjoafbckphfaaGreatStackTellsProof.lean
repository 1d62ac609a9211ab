/- The texts StkTells, StackTellsProof in one. Conditions: as each says. -/
import Derived.Test.YtmdjoafbckphfaaGreatStkD
import Derived.Test.YtmdjoafbckphfaaGreatStkBeg
import Derived.Test.YtmdjoafbckphfaaGreatStkE
import Derived.Test.YtmdjoafbckphfaaGreatRowA
import Derived.SizedLaws
-- StkTells: The law StackTells. Conditions: the stack is read below the heap's size. (Printed by gen_stkgreat.py.)
namespace Go.Proofs.YtmdjoafbckphfaaGreat
open Go.RowKit Sl
set_option maxRecDepth 100000 in
set_option maxHeartbeats 4000000 in
theorem law_stackTells (A : Option Addr) (n c : Nat) (l : List ByteArray) (v : IV) (m : Img) (x : Int) (pg : ByteArray) (w : World) (h : StkR w A n c v ⟨l, m⟩) :
    Calls Tryz.prog 3 #[stkV A n c m v, .int .i64 x, .string pg] w fun e w' => e = .returned (.bool true) ∧ Below w.heap.size w w' := by
  have Kr' := fun W (hb : Below w.heap.size w W) => sread_any A n c l v m x W (h.next hb)
  have Kw' := fun W (hb : Below w.heap.size w W) => swrite_any A n c l v m x pg W (h.next hb)
  have Ke' := fun W (hb : Below w.heap.size w W) => rserr_any A n c l v m x W (h.next hb)
  have Ks' : errS ⟨l, m⟩ x = 0 → ∀ W, Below w.heap.size w W → Calls Tryz.prog 9 #[stkV A n c m v, .int .i64 x] W fun e w' => e = .returned (.string (readS ⟨l, m⟩ x)) ∧ Below W.heap.size W w' := fun he W hb => by
    obtain ⟨hc, hl⟩ := errS_is he
    obtain ⟨hm, h0, hg⟩ := look_is hl
    obtain ⟨k, rfl⟩ := Int.eq_ofNat_of_zero_le h0
    have e1 : readS ⟨l, m⟩ (k : Nat) = pageS ⟨l, m⟩ k := by unfold readS; rw [if_pos he, Int.toNat_natCast]
    rw [e1]
    exact rsread_any A n c l v m k W (h.next hb) hm hg
  have Kq' := fun W (hb : Below w.heap.size w W) => rswrite_any A n c l v m x pg W (h.next hb)
  have Kc' := fun W (hb : Below w.heap.size w W) => stcheck_any A n c l v m W (h.next hb)
  have Kd' := fun W (hb : Below w.heap.size w W) => rstcheck_any A n c l v m W (h.next hb)
  have N0 : errS ⟨l, m⟩ x ≠ 0 → readS ⟨l, m⟩ x = { data := #[] } := fun he => by unfold readS; rw [if_neg he]; rfl
  have IM := Lib.hid h
  generalize readS ⟨l, m⟩ x = p at *
  generalize errS ⟨l, m⟩ x = er at *
  generalize writeSE ⟨l, m⟩ x pg = ew at *
  generalize writeSV ⟨l, m⟩ x pg = zw at *
  generalize checkS ⟨l, m⟩ = ck at *
  have Ce : er = 0 ∨ (er == 0) = false := by
    by_cases hh : er = 0
    · exact .inl hh
    · right; simpa using hh
  obtain ⟨rA, rn, rc, sA, sn, sc, fA, fn, fc, pA, pn, pc⟩ := v
  dsimp only [stkV] at Kr' Kw' Ke' Ks' Kq' Kc' Kd' ⊢
  have Kr := Lib.hid Kr'
  have Kw := Lib.hid Kw'
  have Ke := Lib.hid Ke'
  have Ks := Lib.hid Ks'
  have Kq := Lib.hid Kq'
  have Kc := Lib.hid Kc'
  have Kd := Lib.hid Kd'
  have NN := Lib.hid N0
  clear Kr' Kw' Ke' Ks' Kq' Kc' Kd' h N0
  have T0' := below1 w (.cells #[.slice A n c, .int .i64 m.guest, .slice rA rn rc, .slice sA sn sc, .slice fA fn fc, .slice pA pn pc] 29)
  have X0' := BoxS.new w A n c m.guest ⟨rA, rn, rc, sA, sn, sc, fA, fn, fc, pA, pn, pc⟩ 29
  have L0' : w.heap.size < (w.alloc (.cells #[.slice A n c, .int .i64 m.guest, .slice rA rn rc, .slice sA sn sc, .slice fA fn fc, .slice pA pn pc] 29)).heap.size := by simp
  have IM' := Lib.hid (IM.out.next T0')
  have T := Lib.hid T0'
  have XSm := Lib.hid X0'
  have Lm := Lib.hid L0'
  clear T0' X0' L0' IM
  have IM := IM'
  clear IM'
  obtain ⟨c1_0, c1_1, c1_2, c1_3, c1_4, c1_5⟩ := XSm.out
  try dsimp only at c1_0 c1_1 c1_2 c1_3 c1_4 c1_5
  go_enter Tryz.func3, Tryz.ntmps3
  try dsimp only [List.append]
  go_wp2_with fail
  generalize (w.alloc (.cells #[.slice A n c, .int .i64 m.guest, .slice rA rn rc, .slice sA sn sc, .slice fA fn fc, .slice pA pn pc] 29)) = W2 at *
  refine (Kr.out _ T.out).mono ?_
  rintro e w3 ⟨rfl, hb⟩
  clear c1_0 c1_1 c1_2 c1_3 c1_4 c1_5
  have T' := Lib.hid (below_next T.out hb)
  have XSm' := Lib.hid (XSm.out.keep hb Lm.out)
  have Lm' := Lib.hid (Nat.lt_of_lt_of_le Lm.out hb.size)
  have IM' := Lib.hid (IM.out.next hb)
  clear T XSm Lm IM hb
  have T := T'
  have XSm := XSm'
  have Lm := Lm'
  have IM := IM'
  clear T' XSm' Lm' IM'
  obtain ⟨c4_0, c4_1, c4_2, c4_3, c4_4, c4_5⟩ := XSm.out
  try dsimp only at c4_0 c4_1 c4_2 c4_3 c4_4 c4_5
  go_wp2_with fail
  refine (Kw.out _ T.out).mono ?_
  rintro e w5 ⟨dA, dn, dc, v, rfl, hF, hb⟩
  clear c4_0 c4_1 c4_2 c4_3 c4_4 c4_5
  have T' := Lib.hid (below_next T.out hb)
  have XSm' := Lib.hid (XSm.out.keep hb Lm.out)
  have Lm' := Lib.hid (Nat.lt_of_lt_of_le Lm.out hb.size)
  have IM' := Lib.hid (IM.out.next hb)
  clear T XSm Lm IM hb
  have T := T'
  have XSm := XSm'
  have Lm := Lm'
  have IM := IM'
  clear T' XSm' Lm' IM'
  have hx := BoxS.new w5 dA dn dc zw.top.guest v 29
  have b1 := below1 w5 (.cells #[.slice dA dn dc, .int .i64 zw.top.guest, .slice v.rA v.rn v.rc, .slice v.sA v.sn v.sc, .slice v.fA v.fn v.fc, .slice v.pA v.pn v.pc] 29)
  have hi2 := StkR.next hF b1
  have hlt : w5.heap.size < (w5.alloc (.cells #[.slice dA dn dc, .int .i64 zw.top.guest, .slice v.rA v.rn v.rc, .slice v.sA v.sn v.sc, .slice v.fA v.fn v.fc, .slice v.pA v.pn v.pc] 29)).heap.size := by simp
  have T' := Lib.hid (below_next T.out b1)
  have XSm' := Lib.hid (XSm.out.keep b1 Lm.out)
  have Lm' := Lib.hid (Nat.lt_of_lt_of_le Lm.out b1.size)
  have IM' := Lib.hid (IM.out.next b1)
  clear T XSm Lm IM b1
  have T := T'
  have XSm := XSm'
  have Lm := Lm'
  have IM := IM'
  clear T' XSm' Lm' IM'
  obtain ⟨drA, drn, drc, dsA, dsn, dsc, dfA, dfn, dfc, dpA, dpn, dpc⟩ := v
  have Id := Lib.hid hi2
  have XSd := Lib.hid hx
  have Ld := Lib.hid hlt
  dsimp only [stkV] at Id XSd Ld T XSm Lm IM ⊢
  clear hF hx hi2 hlt
  obtain ⟨c6_0, c6_1, c6_2, c6_3, c6_4, c6_5⟩ := XSm.out
  try dsimp only at c6_0 c6_1 c6_2 c6_3 c6_4 c6_5
  go_wp2_with fail
  generalize (w5.alloc (.cells #[.slice dA dn dc, .int .i64 zw.top.guest, .slice drA drn drc, .slice dsA dsn dsc, .slice dfA dfn dfc, .slice dpA dpn dpc] 29)) = W7 at *
  refine (Ke.out _ T.out).mono ?_
  rintro e w8 ⟨rfl, hb⟩
  clear c6_0 c6_1 c6_2 c6_3 c6_4 c6_5
  have T' := Lib.hid (below_next T.out hb)
  have XSm' := Lib.hid (XSm.out.keep hb Lm.out)
  have Lm' := Lib.hid (Nat.lt_of_lt_of_le Lm.out hb.size)
  have IM' := Lib.hid (IM.out.next hb)
  have XSd' := Lib.hid (XSd.out.keep hb Ld.out)
  have Ld' := Lib.hid (Nat.lt_of_lt_of_le Ld.out hb.size)
  have Id' := Lib.hid (Id.out.next hb)
  clear T XSm Lm IM XSd Ld Id hb
  have T := T'
  have XSm := XSm'
  have Lm := Lm'
  have IM := IM'
  have XSd := XSd'
  have Ld := Ld'
  have Id := Id'
  clear T' XSm' Lm' IM' XSd' Ld' Id'
  rcases Ce with h0 | h0
  · subst h0
    obtain ⟨c9_0, c9_1, c9_2, c9_3, c9_4, c9_5⟩ := XSm.out
    try dsimp only at c9_0 c9_1 c9_2 c9_3 c9_4 c9_5
    go_wp2_with fail
    refine (Ks.out trivial _ T.out).mono ?_
    rintro e w10 ⟨rfl, hb⟩
    clear c9_0 c9_1 c9_2 c9_3 c9_4 c9_5
    have T' := Lib.hid (below_next T.out hb)
    have XSm' := Lib.hid (XSm.out.keep hb Lm.out)
    have Lm' := Lib.hid (Nat.lt_of_lt_of_le Lm.out hb.size)
    have IM' := Lib.hid (IM.out.next hb)
    have XSd' := Lib.hid (XSd.out.keep hb Ld.out)
    have Ld' := Lib.hid (Nat.lt_of_lt_of_le Ld.out hb.size)
    have Id' := Lib.hid (Id.out.next hb)
    clear T XSm Lm IM XSd Ld Id hb
    have T := T'
    have XSm := XSm'
    have Lm := Lm'
    have IM := IM'
    have XSd := XSd'
    have Ld := Ld'
    have Id := Id'
    clear T' XSm' Lm' IM' XSd' Ld' Id'
    obtain ⟨c11_0, c11_1, c11_2, c11_3, c11_4, c11_5⟩ := XSm.out
    try dsimp only at c11_0 c11_1 c11_2 c11_3 c11_4 c11_5
    go_wp2_with fail
    refine (Kq.out _ T.out).mono ?_
    rintro e w12 ⟨eA, en, ec, v, rfl, hF, hb⟩
    clear c11_0 c11_1 c11_2 c11_3 c11_4 c11_5
    have T' := Lib.hid (below_next T.out hb)
    have XSm' := Lib.hid (XSm.out.keep hb Lm.out)
    have Lm' := Lib.hid (Nat.lt_of_lt_of_le Lm.out hb.size)
    have IM' := Lib.hid (IM.out.next hb)
    have XSd' := Lib.hid (XSd.out.keep hb Ld.out)
    have Ld' := Lib.hid (Nat.lt_of_lt_of_le Ld.out hb.size)
    have Id' := Lib.hid (Id.out.next hb)
    clear T XSm Lm IM XSd Ld Id hb
    have T := T'
    have XSm := XSm'
    have Lm := Lm'
    have IM := IM'
    have XSd := XSd'
    have Ld := Ld'
    have Id := Id'
    clear T' XSm' Lm' IM' XSd' Ld' Id'
    have hx := BoxS.new w12 eA en ec zw.top.guest v 29
    have b1 := below1 w12 (.cells #[.slice eA en ec, .int .i64 zw.top.guest, .slice v.rA v.rn v.rc, .slice v.sA v.sn v.sc, .slice v.fA v.fn v.fc, .slice v.pA v.pn v.pc] 29)
    have hi2 := StkR.next hF b1
    have hlt : w12.heap.size < (w12.alloc (.cells #[.slice eA en ec, .int .i64 zw.top.guest, .slice v.rA v.rn v.rc, .slice v.sA v.sn v.sc, .slice v.fA v.fn v.fc, .slice v.pA v.pn v.pc] 29)).heap.size := by simp
    have T' := Lib.hid (below_next T.out b1)
    have XSm' := Lib.hid (XSm.out.keep b1 Lm.out)
    have Lm' := Lib.hid (Nat.lt_of_lt_of_le Lm.out b1.size)
    have IM' := Lib.hid (IM.out.next b1)
    have XSd' := Lib.hid (XSd.out.keep b1 Ld.out)
    have Ld' := Lib.hid (Nat.lt_of_lt_of_le Ld.out b1.size)
    have Id' := Lib.hid (Id.out.next b1)
    clear T XSm Lm IM XSd Ld Id b1
    have T := T'
    have XSm := XSm'
    have Lm := Lm'
    have IM := IM'
    have XSd := XSd'
    have Ld := Ld'
    have Id := Id'
    clear T' XSm' Lm' IM' XSd' Ld' Id'
    obtain ⟨erA, ern, erc, esA, esn, esc, efA, efn, efc, epA, epn, epc⟩ := v
    have Ie := Lib.hid hi2
    have XSe := Lib.hid hx
    have Le := Lib.hid hlt
    dsimp only [stkV] at Ie XSe Le T XSm Lm IM XSd Ld Id ⊢
    clear hF hx hi2 hlt
    go_wp2_with fail
    generalize (w12.alloc (.cells #[.slice eA en ec, .int .i64 zw.top.guest, .slice erA ern erc, .slice esA esn esc, .slice efA efn efc, .slice epA epn epc] 29)) = W13 at *
    have HBd : Hid (Below W13.heap.size W13 W13.drew) := Lib.hid (Below.refl _ _).drew
    have MV := Lib.hid (fun (W' : World) (hb : Below W13.heap.size W13 W') => (show W'.cell? ⟨w.heap.size, 0, none⟩ = some (.slice A n c) ∧ W'.cell? ⟨w.heap.size, 1, none⟩ = some (.int .i64 m.guest) ∧ W'.cell? ⟨w.heap.size, 2, none⟩ = some (.slice rA rn rc) ∧ W'.cell? ⟨w.heap.size, 3, none⟩ = some (.slice sA sn sc) ∧ W'.cell? ⟨w.heap.size, 4, none⟩ = some (.slice fA fn fc) ∧ W'.cell? ⟨w.heap.size, 5, none⟩ = some (.slice pA pn pc) ∧ W'.cell? ⟨w5.heap.size, 0, none⟩ = some (.slice dA dn dc) ∧ W'.cell? ⟨w5.heap.size, 1, none⟩ = some (.int .i64 zw.top.guest) ∧ W'.cell? ⟨w5.heap.size, 2, none⟩ = some (.slice drA drn drc) ∧ W'.cell? ⟨w5.heap.size, 3, none⟩ = some (.slice dsA dsn dsc) ∧ W'.cell? ⟨w5.heap.size, 4, none⟩ = some (.slice dfA dfn dfc) ∧ W'.cell? ⟨w5.heap.size, 5, none⟩ = some (.slice dpA dpn dpc) ∧ W'.cell? ⟨w12.heap.size, 0, none⟩ = some (.slice eA en ec) ∧ W'.cell? ⟨w12.heap.size, 1, none⟩ = some (.int .i64 zw.top.guest) ∧ W'.cell? ⟨w12.heap.size, 2, none⟩ = some (.slice erA ern erc) ∧ W'.cell? ⟨w12.heap.size, 3, none⟩ = some (.slice esA esn esc) ∧ W'.cell? ⟨w12.heap.size, 4, none⟩ = some (.slice efA efn efc) ∧ W'.cell? ⟨w12.heap.size, 5, none⟩ = some (.slice epA epn epc) ∧ Below W13.heap.size W13 W' from by
      obtain ⟨a0, a1, a2, a3, a4, a5⟩ := XSm.out.keep hb Lm.out
      obtain ⟨b0, b1, b2, b3, b4, b5⟩ := XSd.out.keep hb Ld.out
      obtain ⟨d0, d1, d2, d3, d4, d5⟩ := XSe.out.keep hb Le.out
      exact ⟨a0, a1, a2, a3, a4, a5, b0, b1, b2, b3, b4, b5, d0, d1, d2, d3, d4, d5, hb⟩))
    have T0 := T.out
    have ID := Id.out
    have IE := Ie.out
    go_region_held3 (fun W' => W'.cell? ⟨w.heap.size, 0, none⟩ = some (.slice A n c) ∧ W'.cell? ⟨w.heap.size, 1, none⟩ = some (.int .i64 m.guest) ∧ W'.cell? ⟨w.heap.size, 2, none⟩ = some (.slice rA rn rc) ∧ W'.cell? ⟨w.heap.size, 3, none⟩ = some (.slice sA sn sc) ∧ W'.cell? ⟨w.heap.size, 4, none⟩ = some (.slice fA fn fc) ∧ W'.cell? ⟨w.heap.size, 5, none⟩ = some (.slice pA pn pc) ∧ W'.cell? ⟨w5.heap.size, 0, none⟩ = some (.slice dA dn dc) ∧ W'.cell? ⟨w5.heap.size, 1, none⟩ = some (.int .i64 zw.top.guest) ∧ W'.cell? ⟨w5.heap.size, 2, none⟩ = some (.slice drA drn drc) ∧ W'.cell? ⟨w5.heap.size, 3, none⟩ = some (.slice dsA dsn dsc) ∧ W'.cell? ⟨w5.heap.size, 4, none⟩ = some (.slice dfA dfn dfc) ∧ W'.cell? ⟨w5.heap.size, 5, none⟩ = some (.slice dpA dpn dpc) ∧ W'.cell? ⟨w12.heap.size, 0, none⟩ = some (.slice eA en ec) ∧ W'.cell? ⟨w12.heap.size, 1, none⟩ = some (.int .i64 zw.top.guest) ∧ W'.cell? ⟨w12.heap.size, 2, none⟩ = some (.slice erA ern erc) ∧ W'.cell? ⟨w12.heap.size, 3, none⟩ = some (.slice esA esn esc) ∧ W'.cell? ⟨w12.heap.size, 4, none⟩ = some (.slice efA efn efc) ∧ W'.cell? ⟨w12.heap.size, 5, none⟩ = some (.slice epA epn epc) ∧ Below W13.heap.size W13 W')
      (first | exact MV.out _ (below_next (below_next (below_next (below_next HBd.out hb1) hb2) hb3) hb4) | exact MV.out _ (below_next (below_next (below_next HBd.out hb1) hb2) hb3) | exact MV.out _ (below_next (below_next HBd.out hb1) hb2) | exact MV.out _ (below_next HBd.out hb1) | exact MV.out _ HBd.out)
      (first | (go_at_call 11; refine (stackBegun_any _).mono ?_; rintro e w51 ⟨rfl, hb1⟩) | (go_at_call 12; refine (Kc.out _ (below_next T0 (below_next HBd.out hb1))).mono ?_; rintro e w52 ⟨rfl, hb2⟩) | (go_at_call 13; refine (Kd.out _ (below_next T0 (below_next (below_next HBd.out hb1) hb2))).mono ?_; rintro e w53 ⟨rfl, hb3⟩) | (go_at_call 14; refine (sameStk_any _ _ _ _ _ _ _ _ zw _ (ID.next (below_next (below_next (below_next HBd.out hb1) hb2) hb3)) (IE.next (below_next (below_next (below_next HBd.out hb1) hb2) hb3))).mono ?_; rintro e w54 ⟨rfl, hb4⟩))
    go_wp2_with fail
    go_ret
    exact ⟨rfl, below_next (below_next (below_next (below_next (below_next T0 HBd.out) hb1) hb2) hb3) hb4⟩
  · have e1 := NN.out (by simpa using h0)
    subst e1
    obtain ⟨c9_0, c9_1, c9_2, c9_3, c9_4, c9_5⟩ := XSm.out
    try dsimp only at c9_0 c9_1 c9_2 c9_3 c9_4 c9_5
    clear c9_0 c9_1 c9_2 c9_3 c9_4 c9_5
    obtain ⟨c10_0, c10_1, c10_2, c10_3, c10_4, c10_5⟩ := XSm.out
    try dsimp only at c10_0 c10_1 c10_2 c10_3 c10_4 c10_5
    go_wp2_with fail
    refine (Kq.out _ T.out).mono ?_
    rintro e w11 ⟨eA, en, ec, v, rfl, hF, hb⟩
    clear c10_0 c10_1 c10_2 c10_3 c10_4 c10_5
    have T' := Lib.hid (below_next T.out hb)
    have XSm' := Lib.hid (XSm.out.keep hb Lm.out)
    have Lm' := Lib.hid (Nat.lt_of_lt_of_le Lm.out hb.size)
    have IM' := Lib.hid (IM.out.next hb)
    have XSd' := Lib.hid (XSd.out.keep hb Ld.out)
    have Ld' := Lib.hid (Nat.lt_of_lt_of_le Ld.out hb.size)
    have Id' := Lib.hid (Id.out.next hb)
    clear T XSm Lm IM XSd Ld Id hb
    have T := T'
    have XSm := XSm'
    have Lm := Lm'
    have IM := IM'
    have XSd := XSd'
    have Ld := Ld'
    have Id := Id'
    clear T' XSm' Lm' IM' XSd' Ld' Id'
    have hx := BoxS.new w11 eA en ec zw.top.guest v 29
    have b1 := below1 w11 (.cells #[.slice eA en ec, .int .i64 zw.top.guest, .slice v.rA v.rn v.rc, .slice v.sA v.sn v.sc, .slice v.fA v.fn v.fc, .slice v.pA v.pn v.pc] 29)
    have hi2 := StkR.next hF b1
    have hlt : w11.heap.size < (w11.alloc (.cells #[.slice eA en ec, .int .i64 zw.top.guest, .slice v.rA v.rn v.rc, .slice v.sA v.sn v.sc, .slice v.fA v.fn v.fc, .slice v.pA v.pn v.pc] 29)).heap.size := by simp
    have T' := Lib.hid (below_next T.out b1)
    have XSm' := Lib.hid (XSm.out.keep b1 Lm.out)
    have Lm' := Lib.hid (Nat.lt_of_lt_of_le Lm.out b1.size)
    have IM' := Lib.hid (IM.out.next b1)
    have XSd' := Lib.hid (XSd.out.keep b1 Ld.out)
    have Ld' := Lib.hid (Nat.lt_of_lt_of_le Ld.out b1.size)
    have Id' := Lib.hid (Id.out.next b1)
    clear T XSm Lm IM XSd Ld Id b1
    have T := T'
    have XSm := XSm'
    have Lm := Lm'
    have IM := IM'
    have XSd := XSd'
    have Ld := Ld'
    have Id := Id'
    clear T' XSm' Lm' IM' XSd' Ld' Id'
    obtain ⟨erA, ern, erc, esA, esn, esc, efA, efn, efc, epA, epn, epc⟩ := v
    have Ie := Lib.hid hi2
    have XSe := Lib.hid hx
    have Le := Lib.hid hlt
    dsimp only [stkV] at Ie XSe Le T XSm Lm IM XSd Ld Id ⊢
    clear hF hx hi2 hlt
    go_wp2_with fail
    generalize (w11.alloc (.cells #[.slice eA en ec, .int .i64 zw.top.guest, .slice erA ern erc, .slice esA esn esc, .slice efA efn efc, .slice epA epn epc] 29)) = W12 at *
    have HBd : Hid (Below W12.heap.size W12 W12.drew) := Lib.hid (Below.refl _ _).drew
    have MV := Lib.hid (fun (W' : World) (hb : Below W12.heap.size W12 W') => (show W'.cell? ⟨w.heap.size, 0, none⟩ = some (.slice A n c) ∧ W'.cell? ⟨w.heap.size, 1, none⟩ = some (.int .i64 m.guest) ∧ W'.cell? ⟨w.heap.size, 2, none⟩ = some (.slice rA rn rc) ∧ W'.cell? ⟨w.heap.size, 3, none⟩ = some (.slice sA sn sc) ∧ W'.cell? ⟨w.heap.size, 4, none⟩ = some (.slice fA fn fc) ∧ W'.cell? ⟨w.heap.size, 5, none⟩ = some (.slice pA pn pc) ∧ W'.cell? ⟨w5.heap.size, 0, none⟩ = some (.slice dA dn dc) ∧ W'.cell? ⟨w5.heap.size, 1, none⟩ = some (.int .i64 zw.top.guest) ∧ W'.cell? ⟨w5.heap.size, 2, none⟩ = some (.slice drA drn drc) ∧ W'.cell? ⟨w5.heap.size, 3, none⟩ = some (.slice dsA dsn dsc) ∧ W'.cell? ⟨w5.heap.size, 4, none⟩ = some (.slice dfA dfn dfc) ∧ W'.cell? ⟨w5.heap.size, 5, none⟩ = some (.slice dpA dpn dpc) ∧ W'.cell? ⟨w11.heap.size, 0, none⟩ = some (.slice eA en ec) ∧ W'.cell? ⟨w11.heap.size, 1, none⟩ = some (.int .i64 zw.top.guest) ∧ W'.cell? ⟨w11.heap.size, 2, none⟩ = some (.slice erA ern erc) ∧ W'.cell? ⟨w11.heap.size, 3, none⟩ = some (.slice esA esn esc) ∧ W'.cell? ⟨w11.heap.size, 4, none⟩ = some (.slice efA efn efc) ∧ W'.cell? ⟨w11.heap.size, 5, none⟩ = some (.slice epA epn epc) ∧ Below W12.heap.size W12 W' from by
      obtain ⟨a0, a1, a2, a3, a4, a5⟩ := XSm.out.keep hb Lm.out
      obtain ⟨b0, b1, b2, b3, b4, b5⟩ := XSd.out.keep hb Ld.out
      obtain ⟨d0, d1, d2, d3, d4, d5⟩ := XSe.out.keep hb Le.out
      exact ⟨a0, a1, a2, a3, a4, a5, b0, b1, b2, b3, b4, b5, d0, d1, d2, d3, d4, d5, hb⟩))
    have T0 := T.out
    have ID := Id.out
    have IE := Ie.out
    go_region_held3 (fun W' => W'.cell? ⟨w.heap.size, 0, none⟩ = some (.slice A n c) ∧ W'.cell? ⟨w.heap.size, 1, none⟩ = some (.int .i64 m.guest) ∧ W'.cell? ⟨w.heap.size, 2, none⟩ = some (.slice rA rn rc) ∧ W'.cell? ⟨w.heap.size, 3, none⟩ = some (.slice sA sn sc) ∧ W'.cell? ⟨w.heap.size, 4, none⟩ = some (.slice fA fn fc) ∧ W'.cell? ⟨w.heap.size, 5, none⟩ = some (.slice pA pn pc) ∧ W'.cell? ⟨w5.heap.size, 0, none⟩ = some (.slice dA dn dc) ∧ W'.cell? ⟨w5.heap.size, 1, none⟩ = some (.int .i64 zw.top.guest) ∧ W'.cell? ⟨w5.heap.size, 2, none⟩ = some (.slice drA drn drc) ∧ W'.cell? ⟨w5.heap.size, 3, none⟩ = some (.slice dsA dsn dsc) ∧ W'.cell? ⟨w5.heap.size, 4, none⟩ = some (.slice dfA dfn dfc) ∧ W'.cell? ⟨w5.heap.size, 5, none⟩ = some (.slice dpA dpn dpc) ∧ W'.cell? ⟨w11.heap.size, 0, none⟩ = some (.slice eA en ec) ∧ W'.cell? ⟨w11.heap.size, 1, none⟩ = some (.int .i64 zw.top.guest) ∧ W'.cell? ⟨w11.heap.size, 2, none⟩ = some (.slice erA ern erc) ∧ W'.cell? ⟨w11.heap.size, 3, none⟩ = some (.slice esA esn esc) ∧ W'.cell? ⟨w11.heap.size, 4, none⟩ = some (.slice efA efn efc) ∧ W'.cell? ⟨w11.heap.size, 5, none⟩ = some (.slice epA epn epc) ∧ Below W12.heap.size W12 W')
      (first | exact MV.out _ (below_next (below_next (below_next (below_next HBd.out hb1) hb2) hb3) hb4) | exact MV.out _ (below_next (below_next (below_next HBd.out hb1) hb2) hb3) | exact MV.out _ (below_next (below_next HBd.out hb1) hb2) | exact MV.out _ (below_next HBd.out hb1) | exact MV.out _ HBd.out)
      (first | (go_at_call 11; refine (stackBegun_any _).mono ?_; rintro e w51 ⟨rfl, hb1⟩) | (go_at_call 12; refine (Kc.out _ (below_next T0 (below_next HBd.out hb1))).mono ?_; rintro e w52 ⟨rfl, hb2⟩) | (go_at_call 13; refine (Kd.out _ (below_next T0 (below_next (below_next HBd.out hb1) hb2))).mono ?_; rintro e w53 ⟨rfl, hb3⟩) | (go_at_call 14; refine (sameStk_any _ _ _ _ _ _ _ _ zw _ (ID.next (below_next (below_next (below_next HBd.out hb1) hb2) hb3)) (IE.next (below_next (below_next (below_next HBd.out hb1) hb2) hb3))).mono ?_; rintro e w54 ⟨rfl, hb4⟩))
    go_wp2_with fail
    go_ret
    exact ⟨rfl, below_next (below_next (below_next (below_next (below_next T0 HBd.out) hb1) hb2) hb3) hb4⟩
end Go.Proofs.YtmdjoafbckphfaaGreat
-- StackTellsProof: StackTells: for every input the law answers true, and each argument reads behind the call as it read before. No conditions.
namespace Go.Proofs.YtmdjoafbckphfaaGreat
open Go.ChangeShapes Go.WideShapes Go.ChangeAt Go.RowKit Sl

set_option maxRecDepth 100000 in
theorem stackTells_lifted (os : Os) (started : os.Started) (H : Type) (enc : TypeId × Value → H) :
    ReturnsInHanded {} Tryz.checked os 3 .any (Rows.stackTellsSpec.pre6 enc Tryz.prog Tryz.f3 Rows.stackTellsRow.domain false) (Rows.stackTellsSpec.post enc Tryz.prog Tryz.f3 false true false false) := by
  refine returnsInHanded_of_change_sized (C := Tryz.checked) Tryz.own started (by kernel_rfl) Tryz.func3
    (ChangeSpec.witness6 (enc := enc) (C := Tryz.checked) false ⟨#[], #[.agg #[.slice none 0 0, .int .i64 0, .slice none 0 0, .slice none 0 0, .slice none 0 0, .slice none 0 0], .int .i64 0, .string ByteArray.empty], []⟩ 8 (by kernel_rfl) (by kernel_rfl) (by kernel_rfl) (by kernel_rfl)) ?_
  intro W base args ds gs before hval0 hW hcnd hsz0 _
  have hsz : (DataW.weightsEach Tryz.prog (Tryz.f3.params.toList ++ Rows.stackTellsSpec.plain.varTypes Tryz.prog) (ds ++ gs)).all (· ≤ reachBytes) = true := hsz0
  have hW' := hW
  obtain ⟨p, q, hA0, hV, rfl, hfz, hnd⟩ := hW
  have hA : DataW.TrodAll enc Tryz.prog W 0 (fun _ => true) true Tryz.f3.params.toList args.toList ds p := hA0
  have hval : ∀ (j : Nat) t v, Tryz.f3.params[j]? = some t → args[j]? = some v → Value.okWide Tryz.prog W .any base t v := hval0
  rw [Tryz.params3] at hA hsz hval
  obtain ⟨rfl, rfl⟩ := trodVars_none hV
  obtain ⟨v0, vs0, d0, ds0, p0, q0, hargs, rfl, rfl, h0, r0⟩ := trodAll_cons hA
  obtain ⟨v1, vs1, d1, ds1, p1, q1, rfl, rfl, rfl, h1, r1⟩ := trodAll_cons r0
  obtain ⟨v2, vs2, d2, ds2, p2, q2, rfl, rfl, rfl, h2, r2⟩ := trodAll_cons r1
  obtain ⟨rfl, rfl, rfl⟩ := trodAll_nil r2
  have hargs := args_of hargs
  subst hargs
  obtain ⟨A0, n0, c0, l0, u0, m0, rfl, hn0, hc0, hb0, hr0⟩ := op_stack (hval 0 29 v0 rfl rfl) h0 (fun n hn => weight_at hsz (j := 0) rfl rfl n hn)
  obtain ⟨x1, rfl, b1⟩ := op_int (hval 1 3 v1 rfl rfl) h1 (fun n hn => weight_at hsz (j := 1) rfl rfl n hn)
  obtain ⟨s2, rfl, b2⟩ := op_string (hval 2 9 v2 rfl rfl) h2 (fun n hn => weight_at hsz (j := 2) rfl rfl n hn)
  clear hval hval0 hsz hsz0 hA0
  refine (law_stackTells A0 n0 c0 l0 u0 m0 x1 s2 W ⟨hb0, by omega, hr0⟩).mono fun e W' ⟨he, hb⟩ => ?_
  subst he
  exact ⟨_, rfl, law_post rfl rfl (by rw [Tryz.params3]; exact of_decide_eq_true (by kernel_rfl)) hW' rfl hb⟩

theorem stackTells_holds : Rows.StackTellsSaid :=
  OpenClaim.holds_of_wide 3 Tryz.f3 rfl rfl rfl rfl rfl rfl rfl ⟨rfl, rfl, rfl, rfl, rfl⟩ rfl rfl rfl rfl rfl (by kernel_rfl) Tryz.func3 (by kernel_rfl)
    (of_decide_eq_true (by kernel_rfl)) (by unfold Func.isWrapper; rw [if_neg (of_decide_eq_false (by kernel_rfl))]; exact ⟨rfl, rfl⟩)
    (fun os started H enc _ => stackTells_lifted os started H enc)
#print axioms stackTells_holds
end Go.Proofs.YtmdjoafbckphfaaGreat
