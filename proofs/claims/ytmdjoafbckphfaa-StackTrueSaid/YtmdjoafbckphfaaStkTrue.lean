/- The law StackTrue. Conditions: the stack is read below the heap's size. (Printed by gen_stklaws.py.) -/
import Derived.Test.YtmdjoafbckphfaaStkD
import Derived.Test.YtmdjoafbckphfaaStkBeg
namespace Go.Proofs.Ytmdjoafbckphfaa
open Go.RowKit Sl
set_option maxRecDepth 100000 in
set_option maxHeartbeats 4000000 in
theorem law_stackTrue (A : Option Addr) (n c : Nat) (l : List ByteArray) (v : IV) (m : Img) (x : Int) (pg : ByteArray) (k : Int) (w : World) (h : StkR w A n c v ⟨l, m⟩) :
    Calls Try.prog 3 #[stkV A n c m v, .int .i64 x, .string pg, .int .i64 k] w fun e w' => e = .returned (.bool true) ∧ Below w.heap.size w w' := by
  have Kr' := fun W (hb : Below w.heap.size w W) => sread_any A n c l v m k W (h.next hb)
  have Kw' := fun W (hb : Below w.heap.size w W) => swrite_any A n c l v m x pg W (h.next hb)
  have Kc' := fun W (hb : Below w.heap.size w W) => scommit_any A n c l v m W (h.next hb)
  have Uw' := fun hh => stk_write (s := ⟨l, m⟩) (n := x) (k := k) (p := pg) hh
  have Uc' : commitE ⟨l, m⟩ = 0 → checkS (commitV ⟨l, m⟩) = 0 ∧ errS (commitV ⟨l, m⟩) k = errS ⟨l, m⟩ k ∧ readS (commitV ⟨l, m⟩) k = readS ⟨l, m⟩ k ∧ commitE (commitV ⟨l, m⟩) = 0 ∧ commitV (commitV ⟨l, m⟩) = commitV ⟨l, m⟩ := fun hh => by
    obtain ⟨a1, a2, a3, a4, a5⟩ := stk_commit hh
    exact ⟨a1, a2 k, a3 k, a4, a5⟩
  have IM := Lib.hid h
  generalize writeSE ⟨l, m⟩ x pg = ew at *
  generalize commitE ⟨l, m⟩ = ec at *
  generalize writeSV ⟨l, m⟩ x pg = zw at *
  generalize commitV ⟨l, m⟩ = zc at *
  generalize readS ⟨l, m⟩ k = was at *
  generalize errS ⟨l, m⟩ k = es at *
  have Yx' := fun A n c v W (hi : StkR W A n c v zw) => sreadG A n c v zw x W hi
  have Yk' := fun A n c v W (hi : StkR W A n c v zw) => sreadG A n c v zw k W hi
  have Ck' := fun A n c v W (hi : StkR W A n c v zc) => sreadG A n c v zc k W hi
  have Cc' := fun A n c v W (hi : StkR W A n c v zc) => scommitG A n c v zc W hi
  have Ch' := fun A n c v W (hi : StkR W A n c v zc) => stcheckG A n c v zc W hi
  have Cw : ew = 0 ∨ (ew == 0) = false ∧ (ew != 0) = true := by
    by_cases hh : ew = 0
    · exact .inl hh
    · right; simpa using hh
  have Cq : ec = 0 ∨ (ec != 0) = true := by
    by_cases hh : ec = 0
    · exact .inl hh
    · right; simpa using hh
  obtain ⟨rA, rn, rc, sA, sn, sc, fA, fn, fc, pA, pn, pc⟩ := v
  dsimp only [stkV] at Kr' Kw' Kc' Yx' Yk' Ck' Cc' Ch' ⊢
  have Kr := Lib.hid Kr'
  have Kw := Lib.hid Kw'
  have Kc := Lib.hid Kc'
  have Uw := Lib.hid Uw'
  have Uc := Lib.hid Uc'
  have Yx := Lib.hid Yx'
  have Yk := Lib.hid Yk'
  have Ck := Lib.hid Ck'
  have Cc := Lib.hid Cc'
  have Ch := Lib.hid Ch'
  clear Kr' Kw' Kc' Uw' Uc' Yx' Yk' Ck' Cc' Ch' h
  have T0' := below1 w (.cells #[.slice A n c, .int .i64 m.guest, .slice rA rn rc, .slice sA sn sc, .slice fA fn fc, .slice pA pn pc] 29)
  have X0' := BoxS.new w A n c m.guest ⟨rA, rn, rc, sA, sn, sc, fA, fn, fc, pA, pn, pc⟩ 29
  have L0' : w.heap.size < (w.alloc (.cells #[.slice A n c, .int .i64 m.guest, .slice rA rn rc, .slice sA sn sc, .slice fA fn fc, .slice pA pn pc] 29)).heap.size := by simp
  have IM' := Lib.hid (IM.out.next T0')
  have T := Lib.hid T0'
  have XSm := Lib.hid X0'
  have Lm := Lib.hid L0'
  clear T0' X0' L0' IM
  have IM := IM'
  clear IM'
  obtain ⟨c1_0, c1_1, c1_2, c1_3, c1_4, c1_5⟩ := XSm.out
  try dsimp only at c1_0 c1_1 c1_2 c1_3 c1_4 c1_5
  go_enter Try.func3, Try.ntmps3
  try dsimp only [List.append]
  go_wp2_with fail
  generalize (w.alloc (.cells #[.slice A n c, .int .i64 m.guest, .slice rA rn rc, .slice sA sn sc, .slice fA fn fc, .slice pA pn pc] 29)) = W2 at *
  refine (Kr.out _ T.out).mono ?_
  rintro e w3 ⟨rfl, hb⟩
  clear c1_0 c1_1 c1_2 c1_3 c1_4 c1_5
  have T' := Lib.hid (below_next T.out hb)
  have XSm' := Lib.hid (XSm.out.keep hb Lm.out)
  have Lm' := Lib.hid (Nat.lt_of_lt_of_le Lm.out hb.size)
  have IM' := Lib.hid (IM.out.next hb)
  clear T XSm Lm IM hb
  have T := T'
  have XSm := XSm'
  have Lm := Lm'
  have IM := IM'
  clear T' XSm' Lm' IM'
  obtain ⟨c4_0, c4_1, c4_2, c4_3, c4_4, c4_5⟩ := XSm.out
  try dsimp only at c4_0 c4_1 c4_2 c4_3 c4_4 c4_5
  go_wp2_with fail
  refine (Kw.out _ T.out).mono ?_
  rintro e w5 ⟨dA, dn, dc, v, rfl, hF, hb⟩
  clear c4_0 c4_1 c4_2 c4_3 c4_4 c4_5
  have T' := Lib.hid (below_next T.out hb)
  have XSm' := Lib.hid (XSm.out.keep hb Lm.out)
  have Lm' := Lib.hid (Nat.lt_of_lt_of_le Lm.out hb.size)
  have IM' := Lib.hid (IM.out.next hb)
  clear T XSm Lm IM hb
  have T := T'
  have XSm := XSm'
  have Lm := Lm'
  have IM := IM'
  clear T' XSm' Lm' IM'
  have hx := BoxS.new w5 dA dn dc zw.top.guest v 29
  have b1 := below1 w5 (.cells #[.slice dA dn dc, .int .i64 zw.top.guest, .slice v.rA v.rn v.rc, .slice v.sA v.sn v.sc, .slice v.fA v.fn v.fc, .slice v.pA v.pn v.pc] 29)
  have hi2 := StkR.next hF b1
  have hlt : w5.heap.size < (w5.alloc (.cells #[.slice dA dn dc, .int .i64 zw.top.guest, .slice v.rA v.rn v.rc, .slice v.sA v.sn v.sc, .slice v.fA v.fn v.fc, .slice v.pA v.pn v.pc] 29)).heap.size := by simp
  have T' := Lib.hid (below_next T.out b1)
  have XSm' := Lib.hid (XSm.out.keep b1 Lm.out)
  have Lm' := Lib.hid (Nat.lt_of_lt_of_le Lm.out b1.size)
  have IM' := Lib.hid (IM.out.next b1)
  clear T XSm Lm IM b1
  have T := T'
  have XSm := XSm'
  have Lm := Lm'
  have IM := IM'
  clear T' XSm' Lm' IM'
  obtain ⟨drA, drn, drc, dsA, dsn, dsc, dfA, dfn, dfc, dpA, dpn, dpc⟩ := v
  have Id := Lib.hid hi2
  have XSd := Lib.hid hx
  have Ld := Lib.hid hlt
  dsimp only [stkV] at Id XSd Ld T XSm Lm IM ⊢
  clear hF hx hi2 hlt
  rcases Cw with h0 | ⟨h0, h00⟩
  · subst h0
    obtain ⟨u0, u1, u2, u3, u4⟩ := Uw.out rfl
    try dsimp only at u0
    rw [u1, u2] at Yx
    rw [u3] at Yk
    have Kp := Lib.hid (fun W A2 n2 c2 v2 (hi : StkR W A2 n2 c2 v2 zw) A n c v (h2 : StkR W A n c v ⟨l, m⟩) => samePages_any A2 A n2 n c2 c zw.base l W hi.base.1 h2.base.1 hi.cap h2.cap)
    rw [u0] at Kp
    have e1 : (decide (l = l)) = true := decide_eq_true rfl
    rw [e1] at Kp
    clear Uw u0 u1 u2 u3 e1
    obtain ⟨c6_0, c6_1, c6_2, c6_3, c6_4, c6_5⟩ := XSd.out
    try dsimp only at c6_0 c6_1 c6_2 c6_3 c6_4 c6_5
    go_wp2_with fail
    generalize (w5.alloc (.cells #[.slice dA dn dc, .int .i64 zw.top.guest, .slice drA drn drc, .slice dsA dsn dsc, .slice dfA dfn dfc, .slice dpA dpn dpc] 29)) = W7 at *
    refine (Yx.out _ _ _ _ _ Id.out).mono ?_
    rintro e w8 ⟨rfl, hb⟩
    clear c6_0 c6_1 c6_2 c6_3 c6_4 c6_5
    have T' := Lib.hid (below_next T.out hb)
    have XSm' := Lib.hid (XSm.out.keep hb Lm.out)
    have Lm' := Lib.hid (Nat.lt_of_lt_of_le Lm.out hb.size)
    have IM' := Lib.hid (IM.out.next hb)
    have XSd' := Lib.hid (XSd.out.keep hb Ld.out)
    have Ld' := Lib.hid (Nat.lt_of_lt_of_le Ld.out hb.size)
    have Id' := Lib.hid (Id.out.next hb)
    clear T XSm Lm IM XSd Ld Id hb
    have T := T'
    have XSm := XSm'
    have Lm := Lm'
    have IM := IM'
    have XSd := XSd'
    have Ld := Ld'
    have Id := Id'
    clear T' XSm' Lm' IM' XSd' Ld' Id'
    have Ck0 : k = x ∨ k ≠ x := Classical.em _
    rcases Ck0 with hk | hk
    · subst hk
      obtain ⟨c9_0, c9_1, c9_2, c9_3, c9_4, c9_5⟩ := XSd.out
      try dsimp only at c9_0 c9_1 c9_2 c9_3 c9_4 c9_5
      go_wp2_with fail
      refine (Yk.out _ _ _ _ _ Id.out).mono ?_
      rintro e w10 ⟨rfl, hb⟩
      clear c9_0 c9_1 c9_2 c9_3 c9_4 c9_5
      have T' := Lib.hid (below_next T.out hb)
      have XSm' := Lib.hid (XSm.out.keep hb Lm.out)
      have Lm' := Lib.hid (Nat.lt_of_lt_of_le Lm.out hb.size)
      have IM' := Lib.hid (IM.out.next hb)
      have XSd' := Lib.hid (XSd.out.keep hb Ld.out)
      have Ld' := Lib.hid (Nat.lt_of_lt_of_le Ld.out hb.size)
      have Id' := Lib.hid (Id.out.next hb)
      clear T XSm Lm IM XSd Ld Id hb
      have T := T'
      have XSm := XSm'
      have Lm := Lm'
      have IM := IM'
      have XSd := XSd'
      have Ld := Ld'
      have Id := Id'
      clear T' XSm' Lm' IM' XSd' Ld' Id'
      obtain ⟨c11_0, c11_1, c11_2, c11_3, c11_4, c11_5⟩ := XSd.out
      try dsimp only at c11_0 c11_1 c11_2 c11_3 c11_4 c11_5
      obtain ⟨c12_0, c12_1, c12_2, c12_3, c12_4, c12_5⟩ := XSm.out
      try dsimp only at c12_0 c12_1 c12_2 c12_3 c12_4 c12_5
      go_wp2_with fail
      refine (Kp.out _ _ _ _ _ Id.out _ _ _ _ IM.out).mono ?_
      rintro e w13 ⟨rfl, hb⟩
      clear c11_0 c11_1 c11_2 c11_3 c11_4 c11_5 c12_0 c12_1 c12_2 c12_3 c12_4 c12_5
      have T' := Lib.hid (below_next T.out hb)
      have XSm' := Lib.hid (XSm.out.keep hb Lm.out)
      have Lm' := Lib.hid (Nat.lt_of_lt_of_le Lm.out hb.size)
      have IM' := Lib.hid (IM.out.next hb)
      have XSd' := Lib.hid (XSd.out.keep hb Ld.out)
      have Ld' := Lib.hid (Nat.lt_of_lt_of_le Ld.out hb.size)
      have Id' := Lib.hid (Id.out.next hb)
      clear T XSm Lm IM XSd Ld Id hb
      have T := T'
      have XSm := XSm'
      have Lm := Lm'
      have IM := IM'
      have XSd := XSd'
      have Ld := Ld'
      have Id := Id'
      clear T' XSm' Lm' IM' XSd' Ld' Id'
      obtain ⟨c14_0, c14_1, c14_2, c14_3, c14_4, c14_5⟩ := XSm.out
      try dsimp only at c14_0 c14_1 c14_2 c14_3 c14_4 c14_5
      clear c14_0 c14_1 c14_2 c14_3 c14_4 c14_5
      obtain ⟨c15_0, c15_1, c15_2, c15_3, c15_4, c15_5⟩ := XSm.out
      try dsimp only at c15_0 c15_1 c15_2 c15_3 c15_4 c15_5
      go_wp2_with fail
      refine (Kc.out _ T.out).mono ?_
      rintro e w16 ⟨eA, en, ec, v, rfl, hF, hb⟩
      clear c15_0 c15_1 c15_2 c15_3 c15_4 c15_5
      have T' := Lib.hid (below_next T.out hb)
      have XSm' := Lib.hid (XSm.out.keep hb Lm.out)
      have Lm' := Lib.hid (Nat.lt_of_lt_of_le Lm.out hb.size)
      have IM' := Lib.hid (IM.out.next hb)
      have XSd' := Lib.hid (XSd.out.keep hb Ld.out)
      have Ld' := Lib.hid (Nat.lt_of_lt_of_le Ld.out hb.size)
      have Id' := Lib.hid (Id.out.next hb)
      clear T XSm Lm IM XSd Ld Id hb
      have T := T'
      have XSm := XSm'
      have Lm := Lm'
      have IM := IM'
      have XSd := XSd'
      have Ld := Ld'
      have Id := Id'
      clear T' XSm' Lm' IM' XSd' Ld' Id'
      have hx := BoxS.new w16 eA en ec zc.top.guest v 29
      have b1 := below1 w16 (.cells #[.slice eA en ec, .int .i64 zc.top.guest, .slice v.rA v.rn v.rc, .slice v.sA v.sn v.sc, .slice v.fA v.fn v.fc, .slice v.pA v.pn v.pc] 29)
      have hi2 := StkR.next hF b1
      have hlt : w16.heap.size < (w16.alloc (.cells #[.slice eA en ec, .int .i64 zc.top.guest, .slice v.rA v.rn v.rc, .slice v.sA v.sn v.sc, .slice v.fA v.fn v.fc, .slice v.pA v.pn v.pc] 29)).heap.size := by simp
      have T' := Lib.hid (below_next T.out b1)
      have XSm' := Lib.hid (XSm.out.keep b1 Lm.out)
      have Lm' := Lib.hid (Nat.lt_of_lt_of_le Lm.out b1.size)
      have IM' := Lib.hid (IM.out.next b1)
      have XSd' := Lib.hid (XSd.out.keep b1 Ld.out)
      have Ld' := Lib.hid (Nat.lt_of_lt_of_le Ld.out b1.size)
      have Id' := Lib.hid (Id.out.next b1)
      clear T XSm Lm IM XSd Ld Id b1
      have T := T'
      have XSm := XSm'
      have Lm := Lm'
      have IM := IM'
      have XSd := XSd'
      have Ld := Ld'
      have Id := Id'
      clear T' XSm' Lm' IM' XSd' Ld' Id'
      obtain ⟨erA, ern, erc, esA, esn, esc, efA, efn, efc, epA, epn, epc⟩ := v
      have Ie := Lib.hid hi2
      have XSe := Lib.hid hx
      have Le := Lib.hid hlt
      dsimp only [stkV] at Ie XSe Le T XSm Lm IM XSd Ld Id ⊢
      clear hF hx hi2 hlt
      rcases Cq with h1 | h1
      · subst h1
        obtain ⟨u1, u2, u3, u4, u5⟩ := Uc.out rfl
        rw [u1] at Ch
        rw [u2, u3] at Ck
        rw [u4, u5] at Cc
        clear Uc u1 u2 u3 u4 u5
        obtain ⟨c17_0, c17_1, c17_2, c17_3, c17_4, c17_5⟩ := XSe.out
        try dsimp only at c17_0 c17_1 c17_2 c17_3 c17_4 c17_5
        go_wp2_with fail
        generalize (w16.alloc (.cells #[.slice eA en ec, .int .i64 zc.top.guest, .slice erA ern erc, .slice esA esn esc, .slice efA efn efc, .slice epA epn epc] 29)) = W18 at *
        refine (Ck.out _ _ _ _ _ Ie.out).mono ?_
        rintro e w19 ⟨rfl, hb⟩
        clear c17_0 c17_1 c17_2 c17_3 c17_4 c17_5
        have T' := Lib.hid (below_next T.out hb)
        have XSm' := Lib.hid (XSm.out.keep hb Lm.out)
        have Lm' := Lib.hid (Nat.lt_of_lt_of_le Lm.out hb.size)
        have IM' := Lib.hid (IM.out.next hb)
        have XSd' := Lib.hid (XSd.out.keep hb Ld.out)
        have Ld' := Lib.hid (Nat.lt_of_lt_of_le Ld.out hb.size)
        have Id' := Lib.hid (Id.out.next hb)
        have XSe' := Lib.hid (XSe.out.keep hb Le.out)
        have Le' := Lib.hid (Nat.lt_of_lt_of_le Le.out hb.size)
        have Ie' := Lib.hid (Ie.out.next hb)
        clear T XSm Lm IM XSd Ld Id XSe Le Ie hb
        have T := T'
        have XSm := XSm'
        have Lm := Lm'
        have IM := IM'
        have XSd := XSd'
        have Ld := Ld'
        have Id := Id'
        have XSe := XSe'
        have Le := Le'
        have Ie := Ie'
        clear T' XSm' Lm' IM' XSd' Ld' Id' XSe' Le' Ie'
        obtain ⟨c20_0, c20_1, c20_2, c20_3, c20_4, c20_5⟩ := XSe.out
        try dsimp only at c20_0 c20_1 c20_2 c20_3 c20_4 c20_5
        go_wp2_with fail
        refine (Cc.out _ _ _ _ _ Ie.out).mono ?_
        rintro e w21 ⟨qA, qn, qc, v, rfl, hF, hb⟩
        clear c20_0 c20_1 c20_2 c20_3 c20_4 c20_5
        have T' := Lib.hid (below_next T.out hb)
        have XSm' := Lib.hid (XSm.out.keep hb Lm.out)
        have Lm' := Lib.hid (Nat.lt_of_lt_of_le Lm.out hb.size)
        have IM' := Lib.hid (IM.out.next hb)
        have XSd' := Lib.hid (XSd.out.keep hb Ld.out)
        have Ld' := Lib.hid (Nat.lt_of_lt_of_le Ld.out hb.size)
        have Id' := Lib.hid (Id.out.next hb)
        have XSe' := Lib.hid (XSe.out.keep hb Le.out)
        have Le' := Lib.hid (Nat.lt_of_lt_of_le Le.out hb.size)
        have Ie' := Lib.hid (Ie.out.next hb)
        clear T XSm Lm IM XSd Ld Id XSe Le Ie hb
        have T := T'
        have XSm := XSm'
        have Lm := Lm'
        have IM := IM'
        have XSd := XSd'
        have Ld := Ld'
        have Id := Id'
        have XSe := XSe'
        have Le := Le'
        have Ie := Ie'
        clear T' XSm' Lm' IM' XSd' Ld' Id' XSe' Le' Ie'
        have hx := BoxS.new w21 qA qn qc zc.top.guest v 29
        have b1 := below1 w21 (.cells #[.slice qA qn qc, .int .i64 zc.top.guest, .slice v.rA v.rn v.rc, .slice v.sA v.sn v.sc, .slice v.fA v.fn v.fc, .slice v.pA v.pn v.pc] 29)
        have hi2 := StkR.next hF b1
        have hlt : w21.heap.size < (w21.alloc (.cells #[.slice qA qn qc, .int .i64 zc.top.guest, .slice v.rA v.rn v.rc, .slice v.sA v.sn v.sc, .slice v.fA v.fn v.fc, .slice v.pA v.pn v.pc] 29)).heap.size := by simp
        have T' := Lib.hid (below_next T.out b1)
        have XSm' := Lib.hid (XSm.out.keep b1 Lm.out)
        have Lm' := Lib.hid (Nat.lt_of_lt_of_le Lm.out b1.size)
        have IM' := Lib.hid (IM.out.next b1)
        have XSd' := Lib.hid (XSd.out.keep b1 Ld.out)
        have Ld' := Lib.hid (Nat.lt_of_lt_of_le Ld.out b1.size)
        have Id' := Lib.hid (Id.out.next b1)
        have XSe' := Lib.hid (XSe.out.keep b1 Le.out)
        have Le' := Lib.hid (Nat.lt_of_lt_of_le Le.out b1.size)
        have Ie' := Lib.hid (Ie.out.next b1)
        clear T XSm Lm IM XSd Ld Id XSe Le Ie b1
        have T := T'
        have XSm := XSm'
        have Lm := Lm'
        have IM := IM'
        have XSd := XSd'
        have Ld := Ld'
        have Id := Id'
        have XSe := XSe'
        have Le := Le'
        have Ie := Ie'
        clear T' XSm' Lm' IM' XSd' Ld' Id' XSe' Le' Ie'
        obtain ⟨qrA, qrn, qrc, qsA, qsn, qsc, qfA, qfn, qfc, qpA, qpn, qpc⟩ := v
        have Iq := Lib.hid hi2
        have XSq := Lib.hid hx
        have Lq := Lib.hid hlt
        dsimp only [stkV] at Iq XSq Lq T XSm Lm IM XSd Ld Id XSe Le Ie ⊢
        clear hF hx hi2 hlt
        go_wp2_with fail
        generalize (w21.alloc (.cells #[.slice qA qn qc, .int .i64 zc.top.guest, .slice qrA qrn qrc, .slice qsA qsn qsc, .slice qfA qfn qfc, .slice qpA qpn qpc] 29)) = W22 at *
        refine (stackBegun_any _).mono ?_
        rintro e w23 ⟨rfl, hb⟩
        have T' := Lib.hid (below_next T.out hb)
        have XSm' := Lib.hid (XSm.out.keep hb Lm.out)
        have Lm' := Lib.hid (Nat.lt_of_lt_of_le Lm.out hb.size)
        have IM' := Lib.hid (IM.out.next hb)
        have XSd' := Lib.hid (XSd.out.keep hb Ld.out)
        have Ld' := Lib.hid (Nat.lt_of_lt_of_le Ld.out hb.size)
        have Id' := Lib.hid (Id.out.next hb)
        have XSe' := Lib.hid (XSe.out.keep hb Le.out)
        have Le' := Lib.hid (Nat.lt_of_lt_of_le Le.out hb.size)
        have Ie' := Lib.hid (Ie.out.next hb)
        have XSq' := Lib.hid (XSq.out.keep hb Lq.out)
        have Lq' := Lib.hid (Nat.lt_of_lt_of_le Lq.out hb.size)
        have Iq' := Lib.hid (Iq.out.next hb)
        clear T XSm Lm IM XSd Ld Id XSe Le Ie XSq Lq Iq hb
        have T := T'
        have XSm := XSm'
        have Lm := Lm'
        have IM := IM'
        have XSd := XSd'
        have Ld := Ld'
        have Id := Id'
        have XSe := XSe'
        have Le := Le'
        have Ie := Ie'
        have XSq := XSq'
        have Lq := Lq'
        have Iq := Iq'
        clear T' XSm' Lm' IM' XSd' Ld' Id' XSe' Le' Ie' XSq' Lq' Iq'
        obtain ⟨c24_0, c24_1, c24_2, c24_3, c24_4, c24_5⟩ := XSe.out
        try dsimp only at c24_0 c24_1 c24_2 c24_3 c24_4 c24_5
        go_wp2_with fail
        refine (Ch.out _ _ _ _ _ Ie.out).mono ?_
        rintro e w25 ⟨rfl, hb⟩
        clear c24_0 c24_1 c24_2 c24_3 c24_4 c24_5
        have T' := Lib.hid (below_next T.out hb)
        have XSm' := Lib.hid (XSm.out.keep hb Lm.out)
        have Lm' := Lib.hid (Nat.lt_of_lt_of_le Lm.out hb.size)
        have IM' := Lib.hid (IM.out.next hb)
        have XSd' := Lib.hid (XSd.out.keep hb Ld.out)
        have Ld' := Lib.hid (Nat.lt_of_lt_of_le Ld.out hb.size)
        have Id' := Lib.hid (Id.out.next hb)
        have XSe' := Lib.hid (XSe.out.keep hb Le.out)
        have Le' := Lib.hid (Nat.lt_of_lt_of_le Le.out hb.size)
        have Ie' := Lib.hid (Ie.out.next hb)
        have XSq' := Lib.hid (XSq.out.keep hb Lq.out)
        have Lq' := Lib.hid (Nat.lt_of_lt_of_le Lq.out hb.size)
        have Iq' := Lib.hid (Iq.out.next hb)
        clear T XSm Lm IM XSd Ld Id XSe Le Ie XSq Lq Iq hb
        have T := T'
        have XSm := XSm'
        have Lm := Lm'
        have IM := IM'
        have XSd := XSd'
        have Ld := Ld'
        have Id := Id'
        have XSe := XSe'
        have Le := Le'
        have Ie := Ie'
        have XSq := XSq'
        have Lq := Lq'
        have Iq := Iq'
        clear T' XSm' Lm' IM' XSd' Ld' Id' XSe' Le' Ie' XSq' Lq' Iq'
        obtain ⟨c26_0, c26_1, c26_2, c26_3, c26_4, c26_5⟩ := XSe.out
        try dsimp only at c26_0 c26_1 c26_2 c26_3 c26_4 c26_5
        obtain ⟨c27_0, c27_1, c27_2, c27_3, c27_4, c27_5⟩ := XSq.out
        try dsimp only at c27_0 c27_1 c27_2 c27_3 c27_4 c27_5
        go_wp2_with fail
        refine (sameStk_any _ _ _ _ _ _ _ _ zc _ Ie.out Iq.out).mono ?_
        rintro e w28 ⟨rfl, hb⟩
        clear c26_0 c26_1 c26_2 c26_3 c26_4 c26_5 c27_0 c27_1 c27_2 c27_3 c27_4 c27_5
        have T' := Lib.hid (below_next T.out hb)
        have XSm' := Lib.hid (XSm.out.keep hb Lm.out)
        have Lm' := Lib.hid (Nat.lt_of_lt_of_le Lm.out hb.size)
        have IM' := Lib.hid (IM.out.next hb)
        have XSd' := Lib.hid (XSd.out.keep hb Ld.out)
        have Ld' := Lib.hid (Nat.lt_of_lt_of_le Ld.out hb.size)
        have Id' := Lib.hid (Id.out.next hb)
        have XSe' := Lib.hid (XSe.out.keep hb Le.out)
        have Le' := Lib.hid (Nat.lt_of_lt_of_le Le.out hb.size)
        have Ie' := Lib.hid (Ie.out.next hb)
        have XSq' := Lib.hid (XSq.out.keep hb Lq.out)
        have Lq' := Lib.hid (Nat.lt_of_lt_of_le Lq.out hb.size)
        have Iq' := Lib.hid (Iq.out.next hb)
        clear T XSm Lm IM XSd Ld Id XSe Le Ie XSq Lq Iq hb
        have T := T'
        have XSm := XSm'
        have Lm := Lm'
        have IM := IM'
        have XSd := XSd'
        have Ld := Ld'
        have Id := Id'
        have XSe := XSe'
        have Le := Le'
        have Ie := Ie'
        have XSq := XSq'
        have Lq := Lq'
        have Iq := Iq'
        clear T' XSm' Lm' IM' XSd' Ld' Id' XSe' Le' Ie' XSq' Lq' Iq'
        go_wp2_with fail
        go_ret
        exact ⟨rfl, T.out⟩
      · go_wp2_with fail
        generalize (w16.alloc (.cells #[.slice eA en ec, .int .i64 zc.top.guest, .slice erA ern erc, .slice esA esn esc, .slice efA efn efc, .slice epA epn epc] 29)) = W17 at *
        refine (stackBegun_any _).mono ?_
        rintro e w18 ⟨rfl, hb⟩
        have T' := Lib.hid (below_next T.out hb)
        have XSm' := Lib.hid (XSm.out.keep hb Lm.out)
        have Lm' := Lib.hid (Nat.lt_of_lt_of_le Lm.out hb.size)
        have IM' := Lib.hid (IM.out.next hb)
        have XSd' := Lib.hid (XSd.out.keep hb Ld.out)
        have Ld' := Lib.hid (Nat.lt_of_lt_of_le Ld.out hb.size)
        have Id' := Lib.hid (Id.out.next hb)
        have XSe' := Lib.hid (XSe.out.keep hb Le.out)
        have Le' := Lib.hid (Nat.lt_of_lt_of_le Le.out hb.size)
        have Ie' := Lib.hid (Ie.out.next hb)
        clear T XSm Lm IM XSd Ld Id XSe Le Ie hb
        have T := T'
        have XSm := XSm'
        have Lm := Lm'
        have IM := IM'
        have XSd := XSd'
        have Ld := Ld'
        have Id := Id'
        have XSe := XSe'
        have Le := Le'
        have Ie := Ie'
        clear T' XSm' Lm' IM' XSd' Ld' Id' XSe' Le' Ie'
        go_wp2_with fail
        go_ret
        exact ⟨rfl, T.out⟩
    · have u4 := u4 hk
      have hkb : (k == x) = false := by simpa using hk
      have hkn : (k != x) = true := by simpa using hk
      rw [u4] at Yk
      clear u4 hk
      obtain ⟨c9_0, c9_1, c9_2, c9_3, c9_4, c9_5⟩ := XSd.out
      try dsimp only at c9_0 c9_1 c9_2 c9_3 c9_4 c9_5
      go_wp2_with fail
      refine (Yk.out _ _ _ _ _ Id.out).mono ?_
      rintro e w10 ⟨rfl, hb⟩
      clear c9_0 c9_1 c9_2 c9_3 c9_4 c9_5
      have T' := Lib.hid (below_next T.out hb)
      have XSm' := Lib.hid (XSm.out.keep hb Lm.out)
      have Lm' := Lib.hid (Nat.lt_of_lt_of_le Lm.out hb.size)
      have IM' := Lib.hid (IM.out.next hb)
      have XSd' := Lib.hid (XSd.out.keep hb Ld.out)
      have Ld' := Lib.hid (Nat.lt_of_lt_of_le Ld.out hb.size)
      have Id' := Lib.hid (Id.out.next hb)
      clear T XSm Lm IM XSd Ld Id hb
      have T := T'
      have XSm := XSm'
      have Lm := Lm'
      have IM := IM'
      have XSd := XSd'
      have Ld := Ld'
      have Id := Id'
      clear T' XSm' Lm' IM' XSd' Ld' Id'
      obtain ⟨c11_0, c11_1, c11_2, c11_3, c11_4, c11_5⟩ := XSd.out
      try dsimp only at c11_0 c11_1 c11_2 c11_3 c11_4 c11_5
      obtain ⟨c12_0, c12_1, c12_2, c12_3, c12_4, c12_5⟩ := XSm.out
      try dsimp only at c12_0 c12_1 c12_2 c12_3 c12_4 c12_5
      go_wp2_with fail
      refine (Kp.out _ _ _ _ _ Id.out _ _ _ _ IM.out).mono ?_
      rintro e w13 ⟨rfl, hb⟩
      clear c11_0 c11_1 c11_2 c11_3 c11_4 c11_5 c12_0 c12_1 c12_2 c12_3 c12_4 c12_5
      have T' := Lib.hid (below_next T.out hb)
      have XSm' := Lib.hid (XSm.out.keep hb Lm.out)
      have Lm' := Lib.hid (Nat.lt_of_lt_of_le Lm.out hb.size)
      have IM' := Lib.hid (IM.out.next hb)
      have XSd' := Lib.hid (XSd.out.keep hb Ld.out)
      have Ld' := Lib.hid (Nat.lt_of_lt_of_le Ld.out hb.size)
      have Id' := Lib.hid (Id.out.next hb)
      clear T XSm Lm IM XSd Ld Id hb
      have T := T'
      have XSm := XSm'
      have Lm := Lm'
      have IM := IM'
      have XSd := XSd'
      have Ld := Ld'
      have Id := Id'
      clear T' XSm' Lm' IM' XSd' Ld' Id'
      obtain ⟨c14_0, c14_1, c14_2, c14_3, c14_4, c14_5⟩ := XSm.out
      try dsimp only at c14_0 c14_1 c14_2 c14_3 c14_4 c14_5
      clear c14_0 c14_1 c14_2 c14_3 c14_4 c14_5
      obtain ⟨c15_0, c15_1, c15_2, c15_3, c15_4, c15_5⟩ := XSm.out
      try dsimp only at c15_0 c15_1 c15_2 c15_3 c15_4 c15_5
      go_wp2_with fail
      refine (Kc.out _ T.out).mono ?_
      rintro e w16 ⟨eA, en, ec, v, rfl, hF, hb⟩
      clear c15_0 c15_1 c15_2 c15_3 c15_4 c15_5
      have T' := Lib.hid (below_next T.out hb)
      have XSm' := Lib.hid (XSm.out.keep hb Lm.out)
      have Lm' := Lib.hid (Nat.lt_of_lt_of_le Lm.out hb.size)
      have IM' := Lib.hid (IM.out.next hb)
      have XSd' := Lib.hid (XSd.out.keep hb Ld.out)
      have Ld' := Lib.hid (Nat.lt_of_lt_of_le Ld.out hb.size)
      have Id' := Lib.hid (Id.out.next hb)
      clear T XSm Lm IM XSd Ld Id hb
      have T := T'
      have XSm := XSm'
      have Lm := Lm'
      have IM := IM'
      have XSd := XSd'
      have Ld := Ld'
      have Id := Id'
      clear T' XSm' Lm' IM' XSd' Ld' Id'
      have hx := BoxS.new w16 eA en ec zc.top.guest v 29
      have b1 := below1 w16 (.cells #[.slice eA en ec, .int .i64 zc.top.guest, .slice v.rA v.rn v.rc, .slice v.sA v.sn v.sc, .slice v.fA v.fn v.fc, .slice v.pA v.pn v.pc] 29)
      have hi2 := StkR.next hF b1
      have hlt : w16.heap.size < (w16.alloc (.cells #[.slice eA en ec, .int .i64 zc.top.guest, .slice v.rA v.rn v.rc, .slice v.sA v.sn v.sc, .slice v.fA v.fn v.fc, .slice v.pA v.pn v.pc] 29)).heap.size := by simp
      have T' := Lib.hid (below_next T.out b1)
      have XSm' := Lib.hid (XSm.out.keep b1 Lm.out)
      have Lm' := Lib.hid (Nat.lt_of_lt_of_le Lm.out b1.size)
      have IM' := Lib.hid (IM.out.next b1)
      have XSd' := Lib.hid (XSd.out.keep b1 Ld.out)
      have Ld' := Lib.hid (Nat.lt_of_lt_of_le Ld.out b1.size)
      have Id' := Lib.hid (Id.out.next b1)
      clear T XSm Lm IM XSd Ld Id b1
      have T := T'
      have XSm := XSm'
      have Lm := Lm'
      have IM := IM'
      have XSd := XSd'
      have Ld := Ld'
      have Id := Id'
      clear T' XSm' Lm' IM' XSd' Ld' Id'
      obtain ⟨erA, ern, erc, esA, esn, esc, efA, efn, efc, epA, epn, epc⟩ := v
      have Ie := Lib.hid hi2
      have XSe := Lib.hid hx
      have Le := Lib.hid hlt
      dsimp only [stkV] at Ie XSe Le T XSm Lm IM XSd Ld Id ⊢
      clear hF hx hi2 hlt
      rcases Cq with h1 | h1
      · subst h1
        obtain ⟨u1, u2, u3, u4, u5⟩ := Uc.out rfl
        rw [u1] at Ch
        rw [u2, u3] at Ck
        rw [u4, u5] at Cc
        clear Uc u1 u2 u3 u4 u5
        obtain ⟨c17_0, c17_1, c17_2, c17_3, c17_4, c17_5⟩ := XSe.out
        try dsimp only at c17_0 c17_1 c17_2 c17_3 c17_4 c17_5
        go_wp2_with fail
        generalize (w16.alloc (.cells #[.slice eA en ec, .int .i64 zc.top.guest, .slice erA ern erc, .slice esA esn esc, .slice efA efn efc, .slice epA epn epc] 29)) = W18 at *
        refine (Ck.out _ _ _ _ _ Ie.out).mono ?_
        rintro e w19 ⟨rfl, hb⟩
        clear c17_0 c17_1 c17_2 c17_3 c17_4 c17_5
        have T' := Lib.hid (below_next T.out hb)
        have XSm' := Lib.hid (XSm.out.keep hb Lm.out)
        have Lm' := Lib.hid (Nat.lt_of_lt_of_le Lm.out hb.size)
        have IM' := Lib.hid (IM.out.next hb)
        have XSd' := Lib.hid (XSd.out.keep hb Ld.out)
        have Ld' := Lib.hid (Nat.lt_of_lt_of_le Ld.out hb.size)
        have Id' := Lib.hid (Id.out.next hb)
        have XSe' := Lib.hid (XSe.out.keep hb Le.out)
        have Le' := Lib.hid (Nat.lt_of_lt_of_le Le.out hb.size)
        have Ie' := Lib.hid (Ie.out.next hb)
        clear T XSm Lm IM XSd Ld Id XSe Le Ie hb
        have T := T'
        have XSm := XSm'
        have Lm := Lm'
        have IM := IM'
        have XSd := XSd'
        have Ld := Ld'
        have Id := Id'
        have XSe := XSe'
        have Le := Le'
        have Ie := Ie'
        clear T' XSm' Lm' IM' XSd' Ld' Id' XSe' Le' Ie'
        obtain ⟨c20_0, c20_1, c20_2, c20_3, c20_4, c20_5⟩ := XSe.out
        try dsimp only at c20_0 c20_1 c20_2 c20_3 c20_4 c20_5
        go_wp2_with fail
        refine (Cc.out _ _ _ _ _ Ie.out).mono ?_
        rintro e w21 ⟨qA, qn, qc, v, rfl, hF, hb⟩
        clear c20_0 c20_1 c20_2 c20_3 c20_4 c20_5
        have T' := Lib.hid (below_next T.out hb)
        have XSm' := Lib.hid (XSm.out.keep hb Lm.out)
        have Lm' := Lib.hid (Nat.lt_of_lt_of_le Lm.out hb.size)
        have IM' := Lib.hid (IM.out.next hb)
        have XSd' := Lib.hid (XSd.out.keep hb Ld.out)
        have Ld' := Lib.hid (Nat.lt_of_lt_of_le Ld.out hb.size)
        have Id' := Lib.hid (Id.out.next hb)
        have XSe' := Lib.hid (XSe.out.keep hb Le.out)
        have Le' := Lib.hid (Nat.lt_of_lt_of_le Le.out hb.size)
        have Ie' := Lib.hid (Ie.out.next hb)
        clear T XSm Lm IM XSd Ld Id XSe Le Ie hb
        have T := T'
        have XSm := XSm'
        have Lm := Lm'
        have IM := IM'
        have XSd := XSd'
        have Ld := Ld'
        have Id := Id'
        have XSe := XSe'
        have Le := Le'
        have Ie := Ie'
        clear T' XSm' Lm' IM' XSd' Ld' Id' XSe' Le' Ie'
        have hx := BoxS.new w21 qA qn qc zc.top.guest v 29
        have b1 := below1 w21 (.cells #[.slice qA qn qc, .int .i64 zc.top.guest, .slice v.rA v.rn v.rc, .slice v.sA v.sn v.sc, .slice v.fA v.fn v.fc, .slice v.pA v.pn v.pc] 29)
        have hi2 := StkR.next hF b1
        have hlt : w21.heap.size < (w21.alloc (.cells #[.slice qA qn qc, .int .i64 zc.top.guest, .slice v.rA v.rn v.rc, .slice v.sA v.sn v.sc, .slice v.fA v.fn v.fc, .slice v.pA v.pn v.pc] 29)).heap.size := by simp
        have T' := Lib.hid (below_next T.out b1)
        have XSm' := Lib.hid (XSm.out.keep b1 Lm.out)
        have Lm' := Lib.hid (Nat.lt_of_lt_of_le Lm.out b1.size)
        have IM' := Lib.hid (IM.out.next b1)
        have XSd' := Lib.hid (XSd.out.keep b1 Ld.out)
        have Ld' := Lib.hid (Nat.lt_of_lt_of_le Ld.out b1.size)
        have Id' := Lib.hid (Id.out.next b1)
        have XSe' := Lib.hid (XSe.out.keep b1 Le.out)
        have Le' := Lib.hid (Nat.lt_of_lt_of_le Le.out b1.size)
        have Ie' := Lib.hid (Ie.out.next b1)
        clear T XSm Lm IM XSd Ld Id XSe Le Ie b1
        have T := T'
        have XSm := XSm'
        have Lm := Lm'
        have IM := IM'
        have XSd := XSd'
        have Ld := Ld'
        have Id := Id'
        have XSe := XSe'
        have Le := Le'
        have Ie := Ie'
        clear T' XSm' Lm' IM' XSd' Ld' Id' XSe' Le' Ie'
        obtain ⟨qrA, qrn, qrc, qsA, qsn, qsc, qfA, qfn, qfc, qpA, qpn, qpc⟩ := v
        have Iq := Lib.hid hi2
        have XSq := Lib.hid hx
        have Lq := Lib.hid hlt
        dsimp only [stkV] at Iq XSq Lq T XSm Lm IM XSd Ld Id XSe Le Ie ⊢
        clear hF hx hi2 hlt
        go_wp2_with fail
        generalize (w21.alloc (.cells #[.slice qA qn qc, .int .i64 zc.top.guest, .slice qrA qrn qrc, .slice qsA qsn qsc, .slice qfA qfn qfc, .slice qpA qpn qpc] 29)) = W22 at *
        refine (stackBegun_any _).mono ?_
        rintro e w23 ⟨rfl, hb⟩
        have T' := Lib.hid (below_next T.out hb)
        have XSm' := Lib.hid (XSm.out.keep hb Lm.out)
        have Lm' := Lib.hid (Nat.lt_of_lt_of_le Lm.out hb.size)
        have IM' := Lib.hid (IM.out.next hb)
        have XSd' := Lib.hid (XSd.out.keep hb Ld.out)
        have Ld' := Lib.hid (Nat.lt_of_lt_of_le Ld.out hb.size)
        have Id' := Lib.hid (Id.out.next hb)
        have XSe' := Lib.hid (XSe.out.keep hb Le.out)
        have Le' := Lib.hid (Nat.lt_of_lt_of_le Le.out hb.size)
        have Ie' := Lib.hid (Ie.out.next hb)
        have XSq' := Lib.hid (XSq.out.keep hb Lq.out)
        have Lq' := Lib.hid (Nat.lt_of_lt_of_le Lq.out hb.size)
        have Iq' := Lib.hid (Iq.out.next hb)
        clear T XSm Lm IM XSd Ld Id XSe Le Ie XSq Lq Iq hb
        have T := T'
        have XSm := XSm'
        have Lm := Lm'
        have IM := IM'
        have XSd := XSd'
        have Ld := Ld'
        have Id := Id'
        have XSe := XSe'
        have Le := Le'
        have Ie := Ie'
        have XSq := XSq'
        have Lq := Lq'
        have Iq := Iq'
        clear T' XSm' Lm' IM' XSd' Ld' Id' XSe' Le' Ie' XSq' Lq' Iq'
        obtain ⟨c24_0, c24_1, c24_2, c24_3, c24_4, c24_5⟩ := XSe.out
        try dsimp only at c24_0 c24_1 c24_2 c24_3 c24_4 c24_5
        go_wp2_with fail
        refine (Ch.out _ _ _ _ _ Ie.out).mono ?_
        rintro e w25 ⟨rfl, hb⟩
        clear c24_0 c24_1 c24_2 c24_3 c24_4 c24_5
        have T' := Lib.hid (below_next T.out hb)
        have XSm' := Lib.hid (XSm.out.keep hb Lm.out)
        have Lm' := Lib.hid (Nat.lt_of_lt_of_le Lm.out hb.size)
        have IM' := Lib.hid (IM.out.next hb)
        have XSd' := Lib.hid (XSd.out.keep hb Ld.out)
        have Ld' := Lib.hid (Nat.lt_of_lt_of_le Ld.out hb.size)
        have Id' := Lib.hid (Id.out.next hb)
        have XSe' := Lib.hid (XSe.out.keep hb Le.out)
        have Le' := Lib.hid (Nat.lt_of_lt_of_le Le.out hb.size)
        have Ie' := Lib.hid (Ie.out.next hb)
        have XSq' := Lib.hid (XSq.out.keep hb Lq.out)
        have Lq' := Lib.hid (Nat.lt_of_lt_of_le Lq.out hb.size)
        have Iq' := Lib.hid (Iq.out.next hb)
        clear T XSm Lm IM XSd Ld Id XSe Le Ie XSq Lq Iq hb
        have T := T'
        have XSm := XSm'
        have Lm := Lm'
        have IM := IM'
        have XSd := XSd'
        have Ld := Ld'
        have Id := Id'
        have XSe := XSe'
        have Le := Le'
        have Ie := Ie'
        have XSq := XSq'
        have Lq := Lq'
        have Iq := Iq'
        clear T' XSm' Lm' IM' XSd' Ld' Id' XSe' Le' Ie' XSq' Lq' Iq'
        obtain ⟨c26_0, c26_1, c26_2, c26_3, c26_4, c26_5⟩ := XSe.out
        try dsimp only at c26_0 c26_1 c26_2 c26_3 c26_4 c26_5
        obtain ⟨c27_0, c27_1, c27_2, c27_3, c27_4, c27_5⟩ := XSq.out
        try dsimp only at c27_0 c27_1 c27_2 c27_3 c27_4 c27_5
        go_wp2_with fail
        refine (sameStk_any _ _ _ _ _ _ _ _ zc _ Ie.out Iq.out).mono ?_
        rintro e w28 ⟨rfl, hb⟩
        clear c26_0 c26_1 c26_2 c26_3 c26_4 c26_5 c27_0 c27_1 c27_2 c27_3 c27_4 c27_5
        have T' := Lib.hid (below_next T.out hb)
        have XSm' := Lib.hid (XSm.out.keep hb Lm.out)
        have Lm' := Lib.hid (Nat.lt_of_lt_of_le Lm.out hb.size)
        have IM' := Lib.hid (IM.out.next hb)
        have XSd' := Lib.hid (XSd.out.keep hb Ld.out)
        have Ld' := Lib.hid (Nat.lt_of_lt_of_le Ld.out hb.size)
        have Id' := Lib.hid (Id.out.next hb)
        have XSe' := Lib.hid (XSe.out.keep hb Le.out)
        have Le' := Lib.hid (Nat.lt_of_lt_of_le Le.out hb.size)
        have Ie' := Lib.hid (Ie.out.next hb)
        have XSq' := Lib.hid (XSq.out.keep hb Lq.out)
        have Lq' := Lib.hid (Nat.lt_of_lt_of_le Lq.out hb.size)
        have Iq' := Lib.hid (Iq.out.next hb)
        clear T XSm Lm IM XSd Ld Id XSe Le Ie XSq Lq Iq hb
        have T := T'
        have XSm := XSm'
        have Lm := Lm'
        have IM := IM'
        have XSd := XSd'
        have Ld := Ld'
        have Id := Id'
        have XSe := XSe'
        have Le := Le'
        have Ie := Ie'
        have XSq := XSq'
        have Lq := Lq'
        have Iq := Iq'
        clear T' XSm' Lm' IM' XSd' Ld' Id' XSe' Le' Ie' XSq' Lq' Iq'
        go_wp2_with fail
        go_ret
        exact ⟨rfl, T.out⟩
      · go_wp2_with fail
        generalize (w16.alloc (.cells #[.slice eA en ec, .int .i64 zc.top.guest, .slice erA ern erc, .slice esA esn esc, .slice efA efn efc, .slice epA epn epc] 29)) = W17 at *
        refine (stackBegun_any _).mono ?_
        rintro e w18 ⟨rfl, hb⟩
        have T' := Lib.hid (below_next T.out hb)
        have XSm' := Lib.hid (XSm.out.keep hb Lm.out)
        have Lm' := Lib.hid (Nat.lt_of_lt_of_le Lm.out hb.size)
        have IM' := Lib.hid (IM.out.next hb)
        have XSd' := Lib.hid (XSd.out.keep hb Ld.out)
        have Ld' := Lib.hid (Nat.lt_of_lt_of_le Ld.out hb.size)
        have Id' := Lib.hid (Id.out.next hb)
        have XSe' := Lib.hid (XSe.out.keep hb Le.out)
        have Le' := Lib.hid (Nat.lt_of_lt_of_le Le.out hb.size)
        have Ie' := Lib.hid (Ie.out.next hb)
        clear T XSm Lm IM XSd Ld Id XSe Le Ie hb
        have T := T'
        have XSm := XSm'
        have Lm := Lm'
        have IM := IM'
        have XSd := XSd'
        have Ld := Ld'
        have Id := Id'
        have XSe := XSe'
        have Le := Le'
        have Ie := Ie'
        clear T' XSm' Lm' IM' XSd' Ld' Id' XSe' Le' Ie'
        go_wp2_with fail
        go_ret
        exact ⟨rfl, T.out⟩
  · obtain ⟨c6_0, c6_1, c6_2, c6_3, c6_4, c6_5⟩ := XSm.out
    try dsimp only at c6_0 c6_1 c6_2 c6_3 c6_4 c6_5
    go_wp2_with fail
    generalize (w5.alloc (.cells #[.slice dA dn dc, .int .i64 zw.top.guest, .slice drA drn drc, .slice dsA dsn dsc, .slice dfA dfn dfc, .slice dpA dpn dpc] 29)) = W7 at *
    refine (Kc.out _ T.out).mono ?_
    rintro e w8 ⟨eA, en, ec, v, rfl, hF, hb⟩
    clear c6_0 c6_1 c6_2 c6_3 c6_4 c6_5
    have T' := Lib.hid (below_next T.out hb)
    have XSm' := Lib.hid (XSm.out.keep hb Lm.out)
    have Lm' := Lib.hid (Nat.lt_of_lt_of_le Lm.out hb.size)
    have IM' := Lib.hid (IM.out.next hb)
    have XSd' := Lib.hid (XSd.out.keep hb Ld.out)
    have Ld' := Lib.hid (Nat.lt_of_lt_of_le Ld.out hb.size)
    have Id' := Lib.hid (Id.out.next hb)
    clear T XSm Lm IM XSd Ld Id hb
    have T := T'
    have XSm := XSm'
    have Lm := Lm'
    have IM := IM'
    have XSd := XSd'
    have Ld := Ld'
    have Id := Id'
    clear T' XSm' Lm' IM' XSd' Ld' Id'
    have hx := BoxS.new w8 eA en ec zc.top.guest v 29
    have b1 := below1 w8 (.cells #[.slice eA en ec, .int .i64 zc.top.guest, .slice v.rA v.rn v.rc, .slice v.sA v.sn v.sc, .slice v.fA v.fn v.fc, .slice v.pA v.pn v.pc] 29)
    have hi2 := StkR.next hF b1
    have hlt : w8.heap.size < (w8.alloc (.cells #[.slice eA en ec, .int .i64 zc.top.guest, .slice v.rA v.rn v.rc, .slice v.sA v.sn v.sc, .slice v.fA v.fn v.fc, .slice v.pA v.pn v.pc] 29)).heap.size := by simp
    have T' := Lib.hid (below_next T.out b1)
    have XSm' := Lib.hid (XSm.out.keep b1 Lm.out)
    have Lm' := Lib.hid (Nat.lt_of_lt_of_le Lm.out b1.size)
    have IM' := Lib.hid (IM.out.next b1)
    have XSd' := Lib.hid (XSd.out.keep b1 Ld.out)
    have Ld' := Lib.hid (Nat.lt_of_lt_of_le Ld.out b1.size)
    have Id' := Lib.hid (Id.out.next b1)
    clear T XSm Lm IM XSd Ld Id b1
    have T := T'
    have XSm := XSm'
    have Lm := Lm'
    have IM := IM'
    have XSd := XSd'
    have Ld := Ld'
    have Id := Id'
    clear T' XSm' Lm' IM' XSd' Ld' Id'
    obtain ⟨erA, ern, erc, esA, esn, esc, efA, efn, efc, epA, epn, epc⟩ := v
    have Ie := Lib.hid hi2
    have XSe := Lib.hid hx
    have Le := Lib.hid hlt
    dsimp only [stkV] at Ie XSe Le T XSm Lm IM XSd Ld Id ⊢
    clear hF hx hi2 hlt
    rcases Cq with h1 | h1
    · subst h1
      obtain ⟨u1, u2, u3, u4, u5⟩ := Uc.out rfl
      rw [u1] at Ch
      rw [u2, u3] at Ck
      rw [u4, u5] at Cc
      clear Uc u1 u2 u3 u4 u5
      obtain ⟨c9_0, c9_1, c9_2, c9_3, c9_4, c9_5⟩ := XSe.out
      try dsimp only at c9_0 c9_1 c9_2 c9_3 c9_4 c9_5
      go_wp2_with fail
      generalize (w8.alloc (.cells #[.slice eA en ec, .int .i64 zc.top.guest, .slice erA ern erc, .slice esA esn esc, .slice efA efn efc, .slice epA epn epc] 29)) = W10 at *
      refine (Ck.out _ _ _ _ _ Ie.out).mono ?_
      rintro e w11 ⟨rfl, hb⟩
      clear c9_0 c9_1 c9_2 c9_3 c9_4 c9_5
      have T' := Lib.hid (below_next T.out hb)
      have XSm' := Lib.hid (XSm.out.keep hb Lm.out)
      have Lm' := Lib.hid (Nat.lt_of_lt_of_le Lm.out hb.size)
      have IM' := Lib.hid (IM.out.next hb)
      have XSd' := Lib.hid (XSd.out.keep hb Ld.out)
      have Ld' := Lib.hid (Nat.lt_of_lt_of_le Ld.out hb.size)
      have Id' := Lib.hid (Id.out.next hb)
      have XSe' := Lib.hid (XSe.out.keep hb Le.out)
      have Le' := Lib.hid (Nat.lt_of_lt_of_le Le.out hb.size)
      have Ie' := Lib.hid (Ie.out.next hb)
      clear T XSm Lm IM XSd Ld Id XSe Le Ie hb
      have T := T'
      have XSm := XSm'
      have Lm := Lm'
      have IM := IM'
      have XSd := XSd'
      have Ld := Ld'
      have Id := Id'
      have XSe := XSe'
      have Le := Le'
      have Ie := Ie'
      clear T' XSm' Lm' IM' XSd' Ld' Id' XSe' Le' Ie'
      obtain ⟨c12_0, c12_1, c12_2, c12_3, c12_4, c12_5⟩ := XSe.out
      try dsimp only at c12_0 c12_1 c12_2 c12_3 c12_4 c12_5
      go_wp2_with fail
      refine (Cc.out _ _ _ _ _ Ie.out).mono ?_
      rintro e w13 ⟨qA, qn, qc, v, rfl, hF, hb⟩
      clear c12_0 c12_1 c12_2 c12_3 c12_4 c12_5
      have T' := Lib.hid (below_next T.out hb)
      have XSm' := Lib.hid (XSm.out.keep hb Lm.out)
      have Lm' := Lib.hid (Nat.lt_of_lt_of_le Lm.out hb.size)
      have IM' := Lib.hid (IM.out.next hb)
      have XSd' := Lib.hid (XSd.out.keep hb Ld.out)
      have Ld' := Lib.hid (Nat.lt_of_lt_of_le Ld.out hb.size)
      have Id' := Lib.hid (Id.out.next hb)
      have XSe' := Lib.hid (XSe.out.keep hb Le.out)
      have Le' := Lib.hid (Nat.lt_of_lt_of_le Le.out hb.size)
      have Ie' := Lib.hid (Ie.out.next hb)
      clear T XSm Lm IM XSd Ld Id XSe Le Ie hb
      have T := T'
      have XSm := XSm'
      have Lm := Lm'
      have IM := IM'
      have XSd := XSd'
      have Ld := Ld'
      have Id := Id'
      have XSe := XSe'
      have Le := Le'
      have Ie := Ie'
      clear T' XSm' Lm' IM' XSd' Ld' Id' XSe' Le' Ie'
      have hx := BoxS.new w13 qA qn qc zc.top.guest v 29
      have b1 := below1 w13 (.cells #[.slice qA qn qc, .int .i64 zc.top.guest, .slice v.rA v.rn v.rc, .slice v.sA v.sn v.sc, .slice v.fA v.fn v.fc, .slice v.pA v.pn v.pc] 29)
      have hi2 := StkR.next hF b1
      have hlt : w13.heap.size < (w13.alloc (.cells #[.slice qA qn qc, .int .i64 zc.top.guest, .slice v.rA v.rn v.rc, .slice v.sA v.sn v.sc, .slice v.fA v.fn v.fc, .slice v.pA v.pn v.pc] 29)).heap.size := by simp
      have T' := Lib.hid (below_next T.out b1)
      have XSm' := Lib.hid (XSm.out.keep b1 Lm.out)
      have Lm' := Lib.hid (Nat.lt_of_lt_of_le Lm.out b1.size)
      have IM' := Lib.hid (IM.out.next b1)
      have XSd' := Lib.hid (XSd.out.keep b1 Ld.out)
      have Ld' := Lib.hid (Nat.lt_of_lt_of_le Ld.out b1.size)
      have Id' := Lib.hid (Id.out.next b1)
      have XSe' := Lib.hid (XSe.out.keep b1 Le.out)
      have Le' := Lib.hid (Nat.lt_of_lt_of_le Le.out b1.size)
      have Ie' := Lib.hid (Ie.out.next b1)
      clear T XSm Lm IM XSd Ld Id XSe Le Ie b1
      have T := T'
      have XSm := XSm'
      have Lm := Lm'
      have IM := IM'
      have XSd := XSd'
      have Ld := Ld'
      have Id := Id'
      have XSe := XSe'
      have Le := Le'
      have Ie := Ie'
      clear T' XSm' Lm' IM' XSd' Ld' Id' XSe' Le' Ie'
      obtain ⟨qrA, qrn, qrc, qsA, qsn, qsc, qfA, qfn, qfc, qpA, qpn, qpc⟩ := v
      have Iq := Lib.hid hi2
      have XSq := Lib.hid hx
      have Lq := Lib.hid hlt
      dsimp only [stkV] at Iq XSq Lq T XSm Lm IM XSd Ld Id XSe Le Ie ⊢
      clear hF hx hi2 hlt
      go_wp2_with fail
      generalize (w13.alloc (.cells #[.slice qA qn qc, .int .i64 zc.top.guest, .slice qrA qrn qrc, .slice qsA qsn qsc, .slice qfA qfn qfc, .slice qpA qpn qpc] 29)) = W14 at *
      refine (stackBegun_any _).mono ?_
      rintro e w15 ⟨rfl, hb⟩
      have T' := Lib.hid (below_next T.out hb)
      have XSm' := Lib.hid (XSm.out.keep hb Lm.out)
      have Lm' := Lib.hid (Nat.lt_of_lt_of_le Lm.out hb.size)
      have IM' := Lib.hid (IM.out.next hb)
      have XSd' := Lib.hid (XSd.out.keep hb Ld.out)
      have Ld' := Lib.hid (Nat.lt_of_lt_of_le Ld.out hb.size)
      have Id' := Lib.hid (Id.out.next hb)
      have XSe' := Lib.hid (XSe.out.keep hb Le.out)
      have Le' := Lib.hid (Nat.lt_of_lt_of_le Le.out hb.size)
      have Ie' := Lib.hid (Ie.out.next hb)
      have XSq' := Lib.hid (XSq.out.keep hb Lq.out)
      have Lq' := Lib.hid (Nat.lt_of_lt_of_le Lq.out hb.size)
      have Iq' := Lib.hid (Iq.out.next hb)
      clear T XSm Lm IM XSd Ld Id XSe Le Ie XSq Lq Iq hb
      have T := T'
      have XSm := XSm'
      have Lm := Lm'
      have IM := IM'
      have XSd := XSd'
      have Ld := Ld'
      have Id := Id'
      have XSe := XSe'
      have Le := Le'
      have Ie := Ie'
      have XSq := XSq'
      have Lq := Lq'
      have Iq := Iq'
      clear T' XSm' Lm' IM' XSd' Ld' Id' XSe' Le' Ie' XSq' Lq' Iq'
      obtain ⟨c16_0, c16_1, c16_2, c16_3, c16_4, c16_5⟩ := XSe.out
      try dsimp only at c16_0 c16_1 c16_2 c16_3 c16_4 c16_5
      go_wp2_with fail
      refine (Ch.out _ _ _ _ _ Ie.out).mono ?_
      rintro e w17 ⟨rfl, hb⟩
      clear c16_0 c16_1 c16_2 c16_3 c16_4 c16_5
      have T' := Lib.hid (below_next T.out hb)
      have XSm' := Lib.hid (XSm.out.keep hb Lm.out)
      have Lm' := Lib.hid (Nat.lt_of_lt_of_le Lm.out hb.size)
      have IM' := Lib.hid (IM.out.next hb)
      have XSd' := Lib.hid (XSd.out.keep hb Ld.out)
      have Ld' := Lib.hid (Nat.lt_of_lt_of_le Ld.out hb.size)
      have Id' := Lib.hid (Id.out.next hb)
      have XSe' := Lib.hid (XSe.out.keep hb Le.out)
      have Le' := Lib.hid (Nat.lt_of_lt_of_le Le.out hb.size)
      have Ie' := Lib.hid (Ie.out.next hb)
      have XSq' := Lib.hid (XSq.out.keep hb Lq.out)
      have Lq' := Lib.hid (Nat.lt_of_lt_of_le Lq.out hb.size)
      have Iq' := Lib.hid (Iq.out.next hb)
      clear T XSm Lm IM XSd Ld Id XSe Le Ie XSq Lq Iq hb
      have T := T'
      have XSm := XSm'
      have Lm := Lm'
      have IM := IM'
      have XSd := XSd'
      have Ld := Ld'
      have Id := Id'
      have XSe := XSe'
      have Le := Le'
      have Ie := Ie'
      have XSq := XSq'
      have Lq := Lq'
      have Iq := Iq'
      clear T' XSm' Lm' IM' XSd' Ld' Id' XSe' Le' Ie' XSq' Lq' Iq'
      obtain ⟨c18_0, c18_1, c18_2, c18_3, c18_4, c18_5⟩ := XSe.out
      try dsimp only at c18_0 c18_1 c18_2 c18_3 c18_4 c18_5
      obtain ⟨c19_0, c19_1, c19_2, c19_3, c19_4, c19_5⟩ := XSq.out
      try dsimp only at c19_0 c19_1 c19_2 c19_3 c19_4 c19_5
      go_wp2_with fail
      refine (sameStk_any _ _ _ _ _ _ _ _ zc _ Ie.out Iq.out).mono ?_
      rintro e w20 ⟨rfl, hb⟩
      clear c18_0 c18_1 c18_2 c18_3 c18_4 c18_5 c19_0 c19_1 c19_2 c19_3 c19_4 c19_5
      have T' := Lib.hid (below_next T.out hb)
      have XSm' := Lib.hid (XSm.out.keep hb Lm.out)
      have Lm' := Lib.hid (Nat.lt_of_lt_of_le Lm.out hb.size)
      have IM' := Lib.hid (IM.out.next hb)
      have XSd' := Lib.hid (XSd.out.keep hb Ld.out)
      have Ld' := Lib.hid (Nat.lt_of_lt_of_le Ld.out hb.size)
      have Id' := Lib.hid (Id.out.next hb)
      have XSe' := Lib.hid (XSe.out.keep hb Le.out)
      have Le' := Lib.hid (Nat.lt_of_lt_of_le Le.out hb.size)
      have Ie' := Lib.hid (Ie.out.next hb)
      have XSq' := Lib.hid (XSq.out.keep hb Lq.out)
      have Lq' := Lib.hid (Nat.lt_of_lt_of_le Lq.out hb.size)
      have Iq' := Lib.hid (Iq.out.next hb)
      clear T XSm Lm IM XSd Ld Id XSe Le Ie XSq Lq Iq hb
      have T := T'
      have XSm := XSm'
      have Lm := Lm'
      have IM := IM'
      have XSd := XSd'
      have Ld := Ld'
      have Id := Id'
      have XSe := XSe'
      have Le := Le'
      have Ie := Ie'
      have XSq := XSq'
      have Lq := Lq'
      have Iq := Iq'
      clear T' XSm' Lm' IM' XSd' Ld' Id' XSe' Le' Ie' XSq' Lq' Iq'
      go_wp2_with fail
      go_ret
      exact ⟨rfl, T.out⟩
    · go_wp2_with fail
      generalize (w8.alloc (.cells #[.slice eA en ec, .int .i64 zc.top.guest, .slice erA ern erc, .slice esA esn esc, .slice efA efn efc, .slice epA epn epc] 29)) = W9 at *
      refine (stackBegun_any _).mono ?_
      rintro e w10 ⟨rfl, hb⟩
      have T' := Lib.hid (below_next T.out hb)
      have XSm' := Lib.hid (XSm.out.keep hb Lm.out)
      have Lm' := Lib.hid (Nat.lt_of_lt_of_le Lm.out hb.size)
      have IM' := Lib.hid (IM.out.next hb)
      have XSd' := Lib.hid (XSd.out.keep hb Ld.out)
      have Ld' := Lib.hid (Nat.lt_of_lt_of_le Ld.out hb.size)
      have Id' := Lib.hid (Id.out.next hb)
      have XSe' := Lib.hid (XSe.out.keep hb Le.out)
      have Le' := Lib.hid (Nat.lt_of_lt_of_le Le.out hb.size)
      have Ie' := Lib.hid (Ie.out.next hb)
      clear T XSm Lm IM XSd Ld Id XSe Le Ie hb
      have T := T'
      have XSm := XSm'
      have Lm := Lm'
      have IM := IM'
      have XSd := XSd'
      have Ld := Ld'
      have Id := Id'
      have XSe := XSe'
      have Le := Le'
      have Ie := Ie'
      clear T' XSm' Lm' IM' XSd' Ld' Id' XSe' Le' Ie'
      go_wp2_with fail
      go_ret
      exact ⟨rfl, T.out⟩
end Go.Proofs.Ytmdjoafbckphfaa
