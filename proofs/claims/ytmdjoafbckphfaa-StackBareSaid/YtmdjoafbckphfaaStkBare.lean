/- The law StackBare. Conditions: the stack is read below the heap's size. (Printed by gen_stklaws.py.) -/
import Derived.Test.YtmdjoafbckphfaaStkD
import Derived.Test.YtmdjoafbckphfaaStkBeg
import Derived.Test.YtmdjoafbckphfaaMovA
namespace Go.Proofs.Ytmdjoafbckphfaa
open Go.RowKit Sl
theorem bare_top {w : World} {A : Option Addr} {n c : Nat} {v : IV} {s : Stk} (h : StkR w A n c v s) : StkR w none 0 0 v ⟨[], s.top⟩ := ⟨StrsR.none_, by decide, h.top⟩
set_option maxRecDepth 100000 in
set_option maxHeartbeats 4000000 in
theorem law_stackBare (A : Option Addr) (n c : Nat) (l : List ByteArray) (v : IV) (m : Img) (x : Int) (w : World) (h : StkR w A n c v ⟨l, m⟩) :
    Calls Try.prog 4 #[stkV A n c m v, .int .i64 x] w fun e w' => e = .returned (.bool true) ∧ Below w.heap.size w w' := by
  have Kr' := fun W (hb : Below w.heap.size w W) => sread_any A n c l v m x W (h.next hb)
  have Kb' := fun W (hb : Below w.heap.size w W) => sread_any none 0 0 [] v m x W (bare_top (h.next hb))
  have Kt' := fun W (hb : Below w.heap.size w W) => tread_any v m x W (h.next hb).top
  have Kl' := fun W (hb : Below w.heap.size w W) => tlook_any v m x W (h.next hb).top
  have Ku' := fun W => mup_any none 0 0 [] W StrsR.none_ (by decide)
  have Kz' := fun v W (hi : ImgR W W.heap.size v (freshI 0)) => resize_any v (freshI 0) (n : Nat) W hi (fun y => resize_hw y)
  have Kx' := fun W (hb : Below w.heap.size w W) v (hi : ImgR W W.heap.size v (freshI (n : Nat))) => sread_any A n c l v (freshI (n : Nat)) x W ⟨(h.next hb).base, h.cap, hi⟩
  have Kf' := fun W (hb : Below w.heap.size w W) => fread_any A n c l x W (h.next hb).base h.cap
  have U' := fun hh => stk_bare (s := ⟨l, m⟩) (n := x) hh
  have hln := h.base.len
  have hcap := h.cap
  dsimp only at U' hln
  rw [hln] at U'
  rw [up_nil, show pagesErr [] = 0 from rfl] at Ku'
  generalize readS ⟨l, m⟩ x = p at *
  generalize errS ⟨l, m⟩ x = e0 at *
  generalize readS ⟨[], m⟩ x = q at *
  generalize errS ⟨[], m⟩ x = f at *
  generalize readV m x = t at *
  generalize lookE m x = g at *
  generalize lookN m x = kk at *
  generalize readS ⟨l, freshI (n : Nat)⟩ x = bb at *
  generalize errS ⟨l, freshI (n : Nat)⟩ x = oo at *
  generalize flatReadV l x = cc at *
  generalize flatReadE l x = rr at *
  have Ce : e0 = 0 ∨ (e0 != 0) = true := by
    by_cases hh : e0 = 0
    · exact .inl hh
    · right; simpa using hh
  have g0 : (freshI 0).guest = 0 := rfl
  have gn : (freshI (n : Nat)).guest = (n : Nat) := rfl
  generalize freshI 0 = z0 at *
  generalize freshI (n : Nat) = zn at *
  obtain ⟨rA, rn, rc, sA, sn, sc, fA, fn, fc, pA, pn, pc⟩ := v
  dsimp only [stkV, imgV] at Kr' Kb' Kt' Kl' Ku' Kz' Kx' Kf' ⊢
  have Kr := Lib.hid Kr'
  have Kb := Lib.hid Kb'
  have Kt := Lib.hid Kt'
  have Kl := Lib.hid Kl'
  have Ku := Lib.hid Ku'
  have Kz := Lib.hid Kz'
  have Kx := Lib.hid Kx'
  have Kf := Lib.hid Kf'
  have U := Lib.hid U'
  have IM := Lib.hid h
  have GG := Lib.hid (And.intro g0 gn)
  clear Kr' Kb' Kt' Kl' Ku' Kz' Kx' Kf' U' h g0 gn hln
  have T0' := below1 w (.cells #[.slice A n c, .int .i64 m.guest, .slice rA rn rc, .slice sA sn sc, .slice fA fn fc, .slice pA pn pc] 29)
  have X0' := BoxS.new w A n c m.guest ⟨rA, rn, rc, sA, sn, sc, fA, fn, fc, pA, pn, pc⟩ 29
  have L0' : w.heap.size < (w.alloc (.cells #[.slice A n c, .int .i64 m.guest, .slice rA rn rc, .slice sA sn sc, .slice fA fn fc, .slice pA pn pc] 29)).heap.size := by simp
  have IM' := Lib.hid (IM.out.next T0')
  have T := Lib.hid T0'
  have XSm := Lib.hid X0'
  have Lm := Lib.hid L0'
  clear T0' X0' L0' IM
  have IM := IM'
  clear IM'
  obtain ⟨c1_0, c1_1, c1_2, c1_3, c1_4, c1_5⟩ := XSm.out
  try dsimp only at c1_0 c1_1 c1_2 c1_3 c1_4 c1_5
  go_enter Try.func4, Try.ntmps4
  try dsimp only [List.append]
  go_wp2_with fail
  generalize (w.alloc (.cells #[.slice A n c, .int .i64 m.guest, .slice rA rn rc, .slice sA sn sc, .slice fA fn fc, .slice pA pn pc] 29)) = W2 at *
  refine (Kr.out _ T.out).mono ?_
  rintro e w3 ⟨rfl, hb⟩
  clear c1_0 c1_1 c1_2 c1_3 c1_4 c1_5
  have T' := Lib.hid (below_next T.out hb)
  have XSm' := Lib.hid (XSm.out.keep hb Lm.out)
  have Lm' := Lib.hid (Nat.lt_of_lt_of_le Lm.out hb.size)
  have IM' := Lib.hid (IM.out.next hb)
  clear T XSm Lm IM hb
  have T := T'
  have XSm := XSm'
  have Lm := Lm'
  have IM := IM'
  clear T' XSm' Lm' IM'
  obtain ⟨c4_0, c4_1, c4_2, c4_3, c4_4, c4_5⟩ := XSm.out
  try dsimp only at c4_0 c4_1 c4_2 c4_3 c4_4 c4_5
  go_wp2_with fail
  refine (Kb.out _ T.out).mono ?_
  rintro e w5 ⟨rfl, hb⟩
  clear c4_0 c4_1 c4_2 c4_3 c4_4 c4_5
  have T' := Lib.hid (below_next T.out hb)
  have XSm' := Lib.hid (XSm.out.keep hb Lm.out)
  have Lm' := Lib.hid (Nat.lt_of_lt_of_le Lm.out hb.size)
  have IM' := Lib.hid (IM.out.next hb)
  clear T XSm Lm IM hb
  have T := T'
  have XSm := XSm'
  have Lm := Lm'
  have IM := IM'
  clear T' XSm' Lm' IM'
  obtain ⟨c6_0, c6_1, c6_2, c6_3, c6_4, c6_5⟩ := XSm.out
  try dsimp only at c6_0 c6_1 c6_2 c6_3 c6_4 c6_5
  go_wp2_with fail
  refine (Kt.out _ T.out).mono ?_
  rintro e w7 ⟨rfl, hb⟩
  clear c6_0 c6_1 c6_2 c6_3 c6_4 c6_5
  have T' := Lib.hid (below_next T.out hb)
  have XSm' := Lib.hid (XSm.out.keep hb Lm.out)
  have Lm' := Lib.hid (Nat.lt_of_lt_of_le Lm.out hb.size)
  have IM' := Lib.hid (IM.out.next hb)
  clear T XSm Lm IM hb
  have T := T'
  have XSm := XSm'
  have Lm := Lm'
  have IM := IM'
  clear T' XSm' Lm' IM'
  obtain ⟨c8_0, c8_1, c8_2, c8_3, c8_4, c8_5⟩ := XSm.out
  try dsimp only at c8_0 c8_1 c8_2 c8_3 c8_4 c8_5
  go_wp2_with fail
  refine (Kl.out _ T.out).mono ?_
  rintro e w9 ⟨rfl, hb⟩
  clear c8_0 c8_1 c8_2 c8_3 c8_4 c8_5
  have T' := Lib.hid (below_next T.out hb)
  have XSm' := Lib.hid (XSm.out.keep hb Lm.out)
  have Lm' := Lib.hid (Nat.lt_of_lt_of_le Lm.out hb.size)
  have IM' := Lib.hid (IM.out.next hb)
  clear T XSm Lm IM hb
  have T := T'
  have XSm := XSm'
  have Lm := Lm'
  have IM := IM'
  clear T' XSm' Lm' IM'
  rcases Ce with h0 | h0
  · subst h0
    obtain ⟨rfl, rfl, rfl, u4, u5, u6, rfl, rfl⟩ := U.out rfl
    rw [u5, u6] at Kz
    have U4 := Lib.hid u4
    clear U u4 u5 u6
    have Ck0 : kk = 0 ∨ kk ≠ 0 := Classical.em _
    rcases Ck0 with hk | hk
    · subst hk
      clear U4
      go_wp2_with fail
      refine (Ku.out _).mono ?_
      rintro e w10 ⟨v, rfl, hF, hb⟩
      have T' := Lib.hid (below_next T.out hb)
      have XSm' := Lib.hid (XSm.out.keep hb Lm.out)
      have Lm' := Lib.hid (Nat.lt_of_lt_of_le Lm.out hb.size)
      have IM' := Lib.hid (IM.out.next hb)
      clear T XSm Lm IM hb
      have T := T'
      have XSm := XSm'
      have Lm := Lm'
      have IM := IM'
      clear T' XSm' Lm' IM'
      have hx := Box.new w10 z0.guest v 27
      have b1 := below1 w10 (.cells #[.int .i64 z0.guest, .slice v.rA v.rn v.rc, .slice v.sA v.sn v.sc, .slice v.fA v.fn v.fc, .slice v.pA v.pn v.pc] 27)
      have hi2 := hF.imgR.next b1
      have hlt : w10.heap.size < (w10.alloc (.cells #[.int .i64 z0.guest, .slice v.rA v.rn v.rc, .slice v.sA v.sn v.sc, .slice v.fA v.fn v.fc, .slice v.pA v.pn v.pc] 27)).heap.size := by simp
      have T' := Lib.hid (below_next T.out b1)
      have XSm' := Lib.hid (XSm.out.keep b1 Lm.out)
      have Lm' := Lib.hid (Nat.lt_of_lt_of_le Lm.out b1.size)
      have IM' := Lib.hid (IM.out.next b1)
      clear T XSm Lm IM b1
      have T := T'
      have XSm := XSm'
      have Lm := Lm'
      have IM := IM'
      clear T' XSm' Lm' IM'
      obtain ⟨arA, arn, arc, asA, asn, asc, afA, afn, afc, apA, apn, apc⟩ := v
      have Ia := Lib.hid hi2
      have Xa := Lib.hid hx
      have La := Lib.hid hlt
      dsimp only [imgV] at Ia Xa La T XSm Lm IM ⊢
      clear hF hx hi2 hlt
      obtain ⟨c11_0, c11_1, c11_2, c11_3, c11_4⟩ := Xa.out
      try dsimp only at c11_0 c11_1 c11_2 c11_3 c11_4
      obtain ⟨c12_0, c12_1, c12_2, c12_3, c12_4, c12_5⟩ := XSm.out
      try dsimp only at c12_0 c12_1 c12_2 c12_3 c12_4 c12_5
      clear c11_0 c11_1 c11_2 c11_3 c11_4 c12_0 c12_1 c12_2 c12_3 c12_4 c12_5
      obtain ⟨c13_0, c13_1, c13_2, c13_3, c13_4⟩ := Xa.out
      try dsimp only at c13_0 c13_1 c13_2 c13_3 c13_4
      obtain ⟨c14_0, c14_1, c14_2, c14_3, c14_4, c14_5⟩ := XSm.out
      try dsimp only at c14_0 c14_1 c14_2 c14_3 c14_4 c14_5
      go_wp2_with fail
      generalize (w10.alloc (.cells #[.int .i64 z0.guest, .slice arA arn arc, .slice asA asn asc, .slice afA afn afc, .slice apA apn apc] 27)) = W15 at *
      refine (Kz.out _ _ Ia.out).mono ?_
      rintro e w16 ⟨v, rfl, hF, hb⟩
      clear c13_0 c13_1 c13_2 c13_3 c13_4 c14_0 c14_1 c14_2 c14_3 c14_4 c14_5
      have T' := Lib.hid (below_next T.out hb)
      have XSm' := Lib.hid (XSm.out.keep hb Lm.out)
      have Lm' := Lib.hid (Nat.lt_of_lt_of_le Lm.out hb.size)
      have IM' := Lib.hid (IM.out.next hb)
      have Xa' := Lib.hid (Xa.out.keep hb La.out)
      have La' := Lib.hid (Nat.lt_of_lt_of_le La.out hb.size)
      have Ia' := Lib.hid (Ia.out.next hb)
      clear T XSm Lm IM Xa La Ia hb
      have T := T'
      have XSm := XSm'
      have Lm := Lm'
      have IM := IM'
      have Xa := Xa'
      have La := La'
      have Ia := Ia'
      clear T' XSm' Lm' IM' Xa' La' Ia'
      have hx := Box.new w16 zn.guest v 27
      have b1 := below1 w16 (.cells #[.int .i64 zn.guest, .slice v.rA v.rn v.rc, .slice v.sA v.sn v.sc, .slice v.fA v.fn v.fc, .slice v.pA v.pn v.pc] 27)
      have hi2 := hF.imgR.next b1
      have hlt : w16.heap.size < (w16.alloc (.cells #[.int .i64 zn.guest, .slice v.rA v.rn v.rc, .slice v.sA v.sn v.sc, .slice v.fA v.fn v.fc, .slice v.pA v.pn v.pc] 27)).heap.size := by simp
      have T' := Lib.hid (below_next T.out b1)
      have XSm' := Lib.hid (XSm.out.keep b1 Lm.out)
      have Lm' := Lib.hid (Nat.lt_of_lt_of_le Lm.out b1.size)
      have IM' := Lib.hid (IM.out.next b1)
      have Xa' := Lib.hid (Xa.out.keep b1 La.out)
      have La' := Lib.hid (Nat.lt_of_lt_of_le La.out b1.size)
      have Ia' := Lib.hid (Ia.out.next b1)
      clear T XSm Lm IM Xa La Ia b1
      have T := T'
      have XSm := XSm'
      have Lm := Lm'
      have IM := IM'
      have Xa := Xa'
      have La := La'
      have Ia := Ia'
      clear T' XSm' Lm' IM' Xa' La' Ia'
      obtain ⟨brA, brn, brc, bsA, bsn, bsc, bfA, bfn, bfc, bpA, bpn, bpc⟩ := v
      have Ib := Lib.hid hi2
      have Xb := Lib.hid hx
      have Lb := Lib.hid hlt
      dsimp only [imgV] at Ib Xb Lb T XSm Lm IM Xa La Ia ⊢
      clear hF hx hi2 hlt
      obtain ⟨c17_0, c17_1, c17_2, c17_3, c17_4, c17_5⟩ := XSm.out
      try dsimp only at c17_0 c17_1 c17_2 c17_3 c17_4 c17_5
      obtain ⟨c18_0, c18_1, c18_2, c18_3, c18_4⟩ := Xb.out
      try dsimp only at c18_0 c18_1 c18_2 c18_3 c18_4
      go_wp2_with fail
      generalize (w16.alloc (.cells #[.int .i64 zn.guest, .slice brA brn brc, .slice bsA bsn bsc, .slice bfA bfn bfc, .slice bpA bpn bpc] 27)) = W19 at *
      refine (Kx.out _ T.out _ Ib.out).mono ?_
      rintro e w20 ⟨rfl, hb⟩
      clear c17_0 c17_1 c17_2 c17_3 c17_4 c17_5 c18_0 c18_1 c18_2 c18_3 c18_4
      have T' := Lib.hid (below_next T.out hb)
      have XSm' := Lib.hid (XSm.out.keep hb Lm.out)
      have Lm' := Lib.hid (Nat.lt_of_lt_of_le Lm.out hb.size)
      have IM' := Lib.hid (IM.out.next hb)
      have Xa' := Lib.hid (Xa.out.keep hb La.out)
      have La' := Lib.hid (Nat.lt_of_lt_of_le La.out hb.size)
      have Ia' := Lib.hid (Ia.out.next hb)
      have Xb' := Lib.hid (Xb.out.keep hb Lb.out)
      have Lb' := Lib.hid (Nat.lt_of_lt_of_le Lb.out hb.size)
      have Ib' := Lib.hid (Ib.out.next hb)
      clear T XSm Lm IM Xa La Ia Xb Lb Ib hb
      have T := T'
      have XSm := XSm'
      have Lm := Lm'
      have IM := IM'
      have Xa := Xa'
      have La := La'
      have Ia := Ia'
      have Xb := Xb'
      have Lb := Lb'
      have Ib := Ib'
      clear T' XSm' Lm' IM' Xa' La' Ia' Xb' Lb' Ib'
      obtain ⟨c21_0, c21_1, c21_2, c21_3, c21_4, c21_5⟩ := XSm.out
      try dsimp only at c21_0 c21_1 c21_2 c21_3 c21_4 c21_5
      go_wp2_with fail
      refine (Kf.out _ T.out).mono ?_
      rintro e w22 ⟨rfl, rfl⟩
      clear c21_0 c21_1 c21_2 c21_3 c21_4 c21_5
      go_wp2_with fail
      refine (stackBegun_any _).mono ?_
      rintro e w23 ⟨rfl, hb⟩
      have T' := Lib.hid (below_next T.out hb)
      have XSm' := Lib.hid (XSm.out.keep hb Lm.out)
      have Lm' := Lib.hid (Nat.lt_of_lt_of_le Lm.out hb.size)
      have IM' := Lib.hid (IM.out.next hb)
      have Xa' := Lib.hid (Xa.out.keep hb La.out)
      have La' := Lib.hid (Nat.lt_of_lt_of_le La.out hb.size)
      have Ia' := Lib.hid (Ia.out.next hb)
      have Xb' := Lib.hid (Xb.out.keep hb Lb.out)
      have Lb' := Lib.hid (Nat.lt_of_lt_of_le Lb.out hb.size)
      have Ib' := Lib.hid (Ib.out.next hb)
      clear T XSm Lm IM Xa La Ia Xb Lb Ib hb
      have T := T'
      have XSm := XSm'
      have Lm := Lm'
      have IM := IM'
      have Xa := Xa'
      have La := La'
      have Ia := Ia'
      have Xb := Xb'
      have Lb := Lb'
      have Ib := Ib'
      clear T' XSm' Lm' IM' Xa' La' Ia' Xb' Lb' Ib'
      go_wp2_with fail
      go_ret
      exact ⟨rfl, T.out⟩
    · have e4 := U4.out hk
      subst e4
      have hkn : (kk != 0) = true := by simpa using hk
      clear U4
      go_wp2_with fail
      refine (Ku.out _).mono ?_
      rintro e w10 ⟨v, rfl, hF, hb⟩
      have T' := Lib.hid (below_next T.out hb)
      have XSm' := Lib.hid (XSm.out.keep hb Lm.out)
      have Lm' := Lib.hid (Nat.lt_of_lt_of_le Lm.out hb.size)
      have IM' := Lib.hid (IM.out.next hb)
      clear T XSm Lm IM hb
      have T := T'
      have XSm := XSm'
      have Lm := Lm'
      have IM := IM'
      clear T' XSm' Lm' IM'
      have hx := Box.new w10 z0.guest v 27
      have b1 := below1 w10 (.cells #[.int .i64 z0.guest, .slice v.rA v.rn v.rc, .slice v.sA v.sn v.sc, .slice v.fA v.fn v.fc, .slice v.pA v.pn v.pc] 27)
      have hi2 := hF.imgR.next b1
      have hlt : w10.heap.size < (w10.alloc (.cells #[.int .i64 z0.guest, .slice v.rA v.rn v.rc, .slice v.sA v.sn v.sc, .slice v.fA v.fn v.fc, .slice v.pA v.pn v.pc] 27)).heap.size := by simp
      have T' := Lib.hid (below_next T.out b1)
      have XSm' := Lib.hid (XSm.out.keep b1 Lm.out)
      have Lm' := Lib.hid (Nat.lt_of_lt_of_le Lm.out b1.size)
      have IM' := Lib.hid (IM.out.next b1)
      clear T XSm Lm IM b1
      have T := T'
      have XSm := XSm'
      have Lm := Lm'
      have IM := IM'
      clear T' XSm' Lm' IM'
      obtain ⟨arA, arn, arc, asA, asn, asc, afA, afn, afc, apA, apn, apc⟩ := v
      have Ia := Lib.hid hi2
      have Xa := Lib.hid hx
      have La := Lib.hid hlt
      dsimp only [imgV] at Ia Xa La T XSm Lm IM ⊢
      clear hF hx hi2 hlt
      obtain ⟨c11_0, c11_1, c11_2, c11_3, c11_4⟩ := Xa.out
      try dsimp only at c11_0 c11_1 c11_2 c11_3 c11_4
      obtain ⟨c12_0, c12_1, c12_2, c12_3, c12_4, c12_5⟩ := XSm.out
      try dsimp only at c12_0 c12_1 c12_2 c12_3 c12_4 c12_5
      clear c11_0 c11_1 c11_2 c11_3 c11_4 c12_0 c12_1 c12_2 c12_3 c12_4 c12_5
      obtain ⟨c13_0, c13_1, c13_2, c13_3, c13_4⟩ := Xa.out
      try dsimp only at c13_0 c13_1 c13_2 c13_3 c13_4
      obtain ⟨c14_0, c14_1, c14_2, c14_3, c14_4, c14_5⟩ := XSm.out
      try dsimp only at c14_0 c14_1 c14_2 c14_3 c14_4 c14_5
      go_wp2_with fail
      generalize (w10.alloc (.cells #[.int .i64 z0.guest, .slice arA arn arc, .slice asA asn asc, .slice afA afn afc, .slice apA apn apc] 27)) = W15 at *
      refine (Kz.out _ _ Ia.out).mono ?_
      rintro e w16 ⟨v, rfl, hF, hb⟩
      clear c13_0 c13_1 c13_2 c13_3 c13_4 c14_0 c14_1 c14_2 c14_3 c14_4 c14_5
      have T' := Lib.hid (below_next T.out hb)
      have XSm' := Lib.hid (XSm.out.keep hb Lm.out)
      have Lm' := Lib.hid (Nat.lt_of_lt_of_le Lm.out hb.size)
      have IM' := Lib.hid (IM.out.next hb)
      have Xa' := Lib.hid (Xa.out.keep hb La.out)
      have La' := Lib.hid (Nat.lt_of_lt_of_le La.out hb.size)
      have Ia' := Lib.hid (Ia.out.next hb)
      clear T XSm Lm IM Xa La Ia hb
      have T := T'
      have XSm := XSm'
      have Lm := Lm'
      have IM := IM'
      have Xa := Xa'
      have La := La'
      have Ia := Ia'
      clear T' XSm' Lm' IM' Xa' La' Ia'
      have hx := Box.new w16 zn.guest v 27
      have b1 := below1 w16 (.cells #[.int .i64 zn.guest, .slice v.rA v.rn v.rc, .slice v.sA v.sn v.sc, .slice v.fA v.fn v.fc, .slice v.pA v.pn v.pc] 27)
      have hi2 := hF.imgR.next b1
      have hlt : w16.heap.size < (w16.alloc (.cells #[.int .i64 zn.guest, .slice v.rA v.rn v.rc, .slice v.sA v.sn v.sc, .slice v.fA v.fn v.fc, .slice v.pA v.pn v.pc] 27)).heap.size := by simp
      have T' := Lib.hid (below_next T.out b1)
      have XSm' := Lib.hid (XSm.out.keep b1 Lm.out)
      have Lm' := Lib.hid (Nat.lt_of_lt_of_le Lm.out b1.size)
      have IM' := Lib.hid (IM.out.next b1)
      have Xa' := Lib.hid (Xa.out.keep b1 La.out)
      have La' := Lib.hid (Nat.lt_of_lt_of_le La.out b1.size)
      have Ia' := Lib.hid (Ia.out.next b1)
      clear T XSm Lm IM Xa La Ia b1
      have T := T'
      have XSm := XSm'
      have Lm := Lm'
      have IM := IM'
      have Xa := Xa'
      have La := La'
      have Ia := Ia'
      clear T' XSm' Lm' IM' Xa' La' Ia'
      obtain ⟨brA, brn, brc, bsA, bsn, bsc, bfA, bfn, bfc, bpA, bpn, bpc⟩ := v
      have Ib := Lib.hid hi2
      have Xb := Lib.hid hx
      have Lb := Lib.hid hlt
      dsimp only [imgV] at Ib Xb Lb T XSm Lm IM Xa La Ia ⊢
      clear hF hx hi2 hlt
      obtain ⟨c17_0, c17_1, c17_2, c17_3, c17_4, c17_5⟩ := XSm.out
      try dsimp only at c17_0 c17_1 c17_2 c17_3 c17_4 c17_5
      obtain ⟨c18_0, c18_1, c18_2, c18_3, c18_4⟩ := Xb.out
      try dsimp only at c18_0 c18_1 c18_2 c18_3 c18_4
      go_wp2_with fail
      generalize (w16.alloc (.cells #[.int .i64 zn.guest, .slice brA brn brc, .slice bsA bsn bsc, .slice bfA bfn bfc, .slice bpA bpn bpc] 27)) = W19 at *
      refine (Kx.out _ T.out _ Ib.out).mono ?_
      rintro e w20 ⟨rfl, hb⟩
      clear c17_0 c17_1 c17_2 c17_3 c17_4 c17_5 c18_0 c18_1 c18_2 c18_3 c18_4
      have T' := Lib.hid (below_next T.out hb)
      have XSm' := Lib.hid (XSm.out.keep hb Lm.out)
      have Lm' := Lib.hid (Nat.lt_of_lt_of_le Lm.out hb.size)
      have IM' := Lib.hid (IM.out.next hb)
      have Xa' := Lib.hid (Xa.out.keep hb La.out)
      have La' := Lib.hid (Nat.lt_of_lt_of_le La.out hb.size)
      have Ia' := Lib.hid (Ia.out.next hb)
      have Xb' := Lib.hid (Xb.out.keep hb Lb.out)
      have Lb' := Lib.hid (Nat.lt_of_lt_of_le Lb.out hb.size)
      have Ib' := Lib.hid (Ib.out.next hb)
      clear T XSm Lm IM Xa La Ia Xb Lb Ib hb
      have T := T'
      have XSm := XSm'
      have Lm := Lm'
      have IM := IM'
      have Xa := Xa'
      have La := La'
      have Ia := Ia'
      have Xb := Xb'
      have Lb := Lb'
      have Ib := Ib'
      clear T' XSm' Lm' IM' Xa' La' Ia' Xb' Lb' Ib'
      obtain ⟨c21_0, c21_1, c21_2, c21_3, c21_4, c21_5⟩ := XSm.out
      try dsimp only at c21_0 c21_1 c21_2 c21_3 c21_4 c21_5
      go_wp2_with fail
      refine (Kf.out _ T.out).mono ?_
      rintro e w22 ⟨rfl, rfl⟩
      clear c21_0 c21_1 c21_2 c21_3 c21_4 c21_5
      go_wp2_with fail
      refine (stackBegun_any _).mono ?_
      rintro e w23 ⟨rfl, hb⟩
      have T' := Lib.hid (below_next T.out hb)
      have XSm' := Lib.hid (XSm.out.keep hb Lm.out)
      have Lm' := Lib.hid (Nat.lt_of_lt_of_le Lm.out hb.size)
      have IM' := Lib.hid (IM.out.next hb)
      have Xa' := Lib.hid (Xa.out.keep hb La.out)
      have La' := Lib.hid (Nat.lt_of_lt_of_le La.out hb.size)
      have Ia' := Lib.hid (Ia.out.next hb)
      have Xb' := Lib.hid (Xb.out.keep hb Lb.out)
      have Lb' := Lib.hid (Nat.lt_of_lt_of_le Lb.out hb.size)
      have Ib' := Lib.hid (Ib.out.next hb)
      clear T XSm Lm IM Xa La Ia Xb Lb Ib hb
      have T := T'
      have XSm := XSm'
      have Lm := Lm'
      have IM := IM'
      have Xa := Xa'
      have La := La'
      have Ia := Ia'
      have Xb := Xb'
      have Lb := Lb'
      have Ib := Ib'
      clear T' XSm' Lm' IM' Xa' La' Ia' Xb' Lb' Ib'
      go_wp2_with fail
      go_ret
      exact ⟨rfl, T.out⟩
  · go_wp2_with fail
    refine (stackBegun_any _).mono ?_
    rintro e w10 ⟨rfl, hb⟩
    have T' := Lib.hid (below_next T.out hb)
    have XSm' := Lib.hid (XSm.out.keep hb Lm.out)
    have Lm' := Lib.hid (Nat.lt_of_lt_of_le Lm.out hb.size)
    have IM' := Lib.hid (IM.out.next hb)
    clear T XSm Lm IM hb
    have T := T'
    have XSm := XSm'
    have Lm := Lm'
    have IM := IM'
    clear T' XSm' Lm' IM'
    go_wp2_with fail
    go_ret
    exact ⟨rfl, T.out⟩
end Go.Proofs.Ytmdjoafbckphfaa
