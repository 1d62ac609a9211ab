/- The law MoveTrue. Conditions: what is handed in is read below the heap's size. (Printed by gen_movlaws.py.) -/
import Derived.Test.YtmdjoafbckphfaaMovBeg
import Derived.Test.YtmdjoafbckphfaaWPast
import Derived.Test.YtmdjoafbckphfaaSameImg
namespace Go.Proofs.Ytmdjoafbckphfaa
open Go.RowKit Sl
theorem allM_len16b (m : Img) : (allM m).length ≤ 16 := by
  by_cases h : checkErr m = 0
  · exact (pagesErr_len (allM_facts h).1).1
  · rw [allM_no h]; exact Nat.zero_le _
set_option maxRecDepth 100000 in
set_option maxHeartbeats 8000000 in
theorem law_moveTrue (A : Option Addr) (n c : Nat) (l : List ByteArray) (v : IV) (m : Img) (name : ByteArray) (w : World) (hl : StrsR w w.heap.size A n l) (hc : n ≤ 4611686018427387903) (h : ImgR w w.heap.size v m) :
    Calls Try.prog 7 #[.slice A n c, .agg #[.int .i64 m.guest, .slice v.rA v.rn v.rc, .slice v.sA v.sn v.sc, .slice v.fA v.fn v.fc, .slice v.pA v.pn v.pc], .string name] w fun e w' => e = .returned (.bool true) ∧ Below w.heap.size w w' := by
  have Ku' := fun W (hb : Below w.heap.size w W) => mup_any A n c l W (hl.next hb) hc
  have Kd' := fun v W (hi : ImgR W W.heap.size v (upI l)) => down_any v (upI l) W hi
  have Kc' := fun v W (hi : ImgR W W.heap.size v (upI l)) => tcheck_any v (upI l) W hi
  have Fu' := fun hh => up_down (l := l) hh
  have Kp' := fun W (hb : Below w.heap.size w W) => mpack_any v m W (h.next hb)
  have Ka' := fun W (hb : Below w.heap.size w W) => tAll_any v m W (h.next hb)
  have Ko' := fun W (hb : Below w.heap.size w W) => tPast_any v m name W (h.next hb)
  have KU' := fun W (hb : Below w.heap.size w W) => used_any v.sA v.sn v.sc m.slots W (h.next hb).slots h.scap.1
  have KN' := fun v W (hi : ImgR W W.heap.size v (packI m)) => tAll_any v (packI m) W hi
  have KO' := fun v W (hi : ImgR W W.heap.size v (packI m)) => tPast_any v (packI m) name W hi
  have KP' := fun v W (hi : ImgR W W.heap.size v (packI m)) => mpack_any v (packI m) W hi
  have KC' := fun v W (hi : ImgR W W.heap.size v (packI m)) => tcheck_any v (packI m) W hi
  have Fp' := fun hh => pack_true (m := m) hh name
  have E1 := allM_len16b m
  have E2 := pastV_len m name
  generalize packI (packI m) = zq at *
  generalize pastE (packI m) name = pe2 at *
  generalize pastV (packI m) name = pv2 at *
  generalize allM (packI m) = al2 at *
  generalize checkErr (packI m) = ck2 at *
  generalize packI m = zp at *
  generalize pastE m name = pe at *
  generalize pastV m name = pv at *
  generalize allM m = al at *
  generalize usedN m.slots = us at *
  generalize used m.slots = un at *
  generalize slotsErr m.slots = se at *
  generalize checkErr m = ep at *
  generalize checkErr (upI l) = cu at *
  generalize downE (upI l) = de at *
  generalize downV (upI l) = dv at *
  generalize upI l = zu at *
  have HL := Lib.hid hl
  have EL : pagesErr l = 0 → l.length ≤ 16 := fun hh => (pagesErr_len hh).1
  generalize pagesErr l = eu at *
  have Ceu : eu = 0 ∨ (eu == 0) = false := by
    by_cases hh : eu = 0
    · exact .inl hh
    · right; simpa using hh
  have Cep : ep = 0 ∨ (ep != 0) = true := by
    by_cases hh : ep = 0
    · exact .inl hh
    · right; simpa using hh
  have hU : zp.slots.length = un + 1 → us = (un : Nat) → (zp.slots.length : Int) = us + 1 := fun h1 h2 => by omega
  obtain ⟨rA, rn, rc, sA, sn, sc, fA, fn, fc, pA, pn, pc⟩ := v
  dsimp only [imgV] at Ku' Kd' Kc' Kp' Ka' Ko' KU' KN' KO' KP' KC' ⊢
  have Ku := Lib.hid Ku'
  have Kd := Lib.hid Kd'
  have Kc := Lib.hid Kc'
  have Fu := Lib.hid Fu'
  have Kp := Lib.hid Kp'
  have Ka := Lib.hid Ka'
  have Ko := Lib.hid Ko'
  have KU := Lib.hid KU'
  have KN := Lib.hid KN'
  have KO := Lib.hid KO'
  have KP := Lib.hid KP'
  have KC := Lib.hid KC'
  have Fp := Lib.hid Fp'
  clear Ku' Kd' Kc' Fu' Kp' Ka' Ko' KU' KN' KO' KP' KC' Fp' h hl
  have T0' := below1 w (.cells #[.int .i64 m.guest, .slice rA rn rc, .slice sA sn sc, .slice fA fn fc, .slice pA pn pc] 27)
  have X0' := Box.new w m.guest ⟨rA, rn, rc, sA, sn, sc, fA, fn, fc, pA, pn, pc⟩ 27
  have L0' : w.heap.size < (w.alloc (.cells #[.int .i64 m.guest, .slice rA rn rc, .slice sA sn sc, .slice fA fn fc, .slice pA pn pc] 27)).heap.size := by simp
  have T := Lib.hid T0'
  have XM := Lib.hid X0'
  have LM := Lib.hid L0'
  clear T0' X0' L0'
  have RL := Lib.hid (HL.out.next T.out)
  obtain ⟨c1_0, c1_1, c1_2, c1_3, c1_4⟩ := XM.out
  try dsimp only at c1_0 c1_1 c1_2 c1_3 c1_4
  go_enter Try.func7, Try.ntmps7
  try dsimp only [List.append]
  clear c1_0 c1_1 c1_2 c1_3 c1_4
  obtain ⟨c2_0, c2_1, c2_2, c2_3, c2_4⟩ := XM.out
  try dsimp only at c2_0 c2_1 c2_2 c2_3 c2_4
  go_wp2_with fail
  generalize (w.alloc (.cells #[.int .i64 m.guest, .slice rA rn rc, .slice sA sn sc, .slice fA fn fc, .slice pA pn pc] 27)) = W3 at *
  refine (Ku.out _ T.out).mono ?_
  rintro e w4 ⟨v, rfl, hF, hb⟩
  clear c2_0 c2_1 c2_2 c2_3 c2_4
  have T' := Lib.hid (below_next T.out hb)
  have XM' := Lib.hid (XM.out.keep hb LM.out)
  have LM' := Lib.hid (Nat.lt_of_lt_of_le LM.out hb.size)
  have RL' := Lib.hid (RL.out.next hb)
  clear T XM LM RL hb
  have T := T'
  have XM := XM'
  have LM := LM'
  have RL := RL'
  clear T' XM' LM' RL'
  have hx := Box.new w4 zu.guest v 27
  have b1 := below1 w4 (.cells #[.int .i64 zu.guest, .slice v.rA v.rn v.rc, .slice v.sA v.sn v.sc, .slice v.fA v.fn v.fc, .slice v.pA v.pn v.pc] 27)
  have hi2 := hF.imgR.next b1
  have hlt : w4.heap.size < (w4.alloc (.cells #[.int .i64 zu.guest, .slice v.rA v.rn v.rc, .slice v.sA v.sn v.sc, .slice v.fA v.fn v.fc, .slice v.pA v.pn v.pc] 27)).heap.size := by simp
  have T' := Lib.hid (below_next T.out b1)
  have XM' := Lib.hid (XM.out.keep b1 LM.out)
  have LM' := Lib.hid (Nat.lt_of_lt_of_le LM.out b1.size)
  have RL' := Lib.hid (RL.out.next b1)
  clear T XM LM RL b1
  have T := T'
  have XM := XM'
  have LM := LM'
  have RL := RL'
  clear T' XM' LM' RL'
  obtain ⟨arA, arn, arc, asA, asn, asc, afA, afn, afc, apA, apn, apc⟩ := v
  have Ia := Lib.hid hi2
  have Xa := Lib.hid hx
  have La := Lib.hid hlt
  dsimp only [imgV] at Ia Xa La T XM LM RL ⊢
  clear hF hx hi2 hlt
  rcases Ceu with h0 | h0
  · subst h0
    obtain ⟨u1, u2, u3⟩ := Fu.out rfl
    subst u1 u2 u3
    have EL2 := EL (by trivial)
    clear EL Fu
    obtain ⟨c5_0, c5_1, c5_2, c5_3, c5_4⟩ := Xa.out
    try dsimp only at c5_0 c5_1 c5_2 c5_3 c5_4
    go_wp2_with fail
    generalize (w4.alloc (.cells #[.int .i64 zu.guest, .slice arA arn arc, .slice asA asn asc, .slice afA afn afc, .slice apA apn apc] 27)) = W6 at *
    refine (Kd.out _ _ Ia.out).mono ?_
    rintro e w7 ⟨Ad, nd, cd, rfl, ho, hb, hnc, hcm⟩
    clear c5_0 c5_1 c5_2 c5_3 c5_4
    have T' := Lib.hid (below_next T.out hb)
    have XM' := Lib.hid (XM.out.keep hb LM.out)
    have LM' := Lib.hid (Nat.lt_of_lt_of_le LM.out hb.size)
    have RL' := Lib.hid (RL.out.next hb)
    have Xa' := Lib.hid (Xa.out.keep hb La.out)
    have La' := Lib.hid (Nat.lt_of_lt_of_le La.out hb.size)
    have Ia' := Lib.hid (Ia.out.next hb)
    clear T XM LM RL Xa La Ia hb
    have T := T'
    have XM := XM'
    have LM := LM'
    have RL := RL'
    have Xa := Xa'
    have La := La'
    have Ia := Ia'
    clear T' XM' LM' RL' Xa' La' Ia'
    have hr := own_strsW ho EL2
    clear ho hnc hcm
    have Rd := Lib.hid hr.2
    have hnd := hr.1
    clear hr
    go_wp2_with fail
    refine (samePages_any Ad A _ _ cd c _ _ _ Rd.out RL.out.1 hnd hc).mono ?_
    rintro e w8 ⟨rfl, hb⟩
    have T' := Lib.hid (below_next T.out hb)
    have XM' := Lib.hid (XM.out.keep hb LM.out)
    have LM' := Lib.hid (Nat.lt_of_lt_of_le LM.out hb.size)
    have RL' := Lib.hid (RL.out.next hb)
    have Xa' := Lib.hid (Xa.out.keep hb La.out)
    have La' := Lib.hid (Nat.lt_of_lt_of_le La.out hb.size)
    have Ia' := Lib.hid (Ia.out.next hb)
    have Rd' := Lib.hid (Rd.out.next hb)
    clear T XM LM RL Xa La Ia Rd hb
    have T := T'
    have XM := XM'
    have LM := LM'
    have RL := RL'
    have Xa := Xa'
    have La := La'
    have Ia := Ia'
    have Rd := Rd'
    clear T' XM' LM' RL' Xa' La' Ia' Rd'
    simp only [decide_true]
    obtain ⟨c9_0, c9_1, c9_2, c9_3, c9_4⟩ := Xa.out
    try dsimp only at c9_0 c9_1 c9_2 c9_3 c9_4
    go_wp2_with fail
    refine (Kc.out _ _ Ia.out).mono ?_
    rintro e w10 ⟨rfl, hb⟩
    clear c9_0 c9_1 c9_2 c9_3 c9_4
    have T' := Lib.hid (below_next T.out hb)
    have XM' := Lib.hid (XM.out.keep hb LM.out)
    have LM' := Lib.hid (Nat.lt_of_lt_of_le LM.out hb.size)
    have RL' := Lib.hid (RL.out.next hb)
    have Xa' := Lib.hid (Xa.out.keep hb La.out)
    have La' := Lib.hid (Nat.lt_of_lt_of_le La.out hb.size)
    have Ia' := Lib.hid (Ia.out.next hb)
    have Rd' := Lib.hid (Rd.out.next hb)
    clear T XM LM RL Xa La Ia Rd hb
    have T := T'
    have XM := XM'
    have LM := LM'
    have RL := RL'
    have Xa := Xa'
    have La := La'
    have Ia := Ia'
    have Rd := Rd'
    clear T' XM' LM' RL' Xa' La' Ia' Rd'
    obtain ⟨c11_0, c11_1, c11_2, c11_3, c11_4⟩ := XM.out
    try dsimp only at c11_0 c11_1 c11_2 c11_3 c11_4
    clear c11_0 c11_1 c11_2 c11_3 c11_4
    obtain ⟨c12_0, c12_1, c12_2, c12_3, c12_4⟩ := XM.out
    try dsimp only at c12_0 c12_1 c12_2 c12_3 c12_4
    go_wp2_with fail
    refine (Kp.out _ T.out).mono ?_
    rintro e w13 ⟨v, rfl, hF, hb⟩
    clear c12_0 c12_1 c12_2 c12_3 c12_4
    have T' := Lib.hid (below_next T.out hb)
    have XM' := Lib.hid (XM.out.keep hb LM.out)
    have LM' := Lib.hid (Nat.lt_of_lt_of_le LM.out hb.size)
    have RL' := Lib.hid (RL.out.next hb)
    have Xa' := Lib.hid (Xa.out.keep hb La.out)
    have La' := Lib.hid (Nat.lt_of_lt_of_le La.out hb.size)
    have Ia' := Lib.hid (Ia.out.next hb)
    have Rd' := Lib.hid (Rd.out.next hb)
    clear T XM LM RL Xa La Ia Rd hb
    have T := T'
    have XM := XM'
    have LM := LM'
    have RL := RL'
    have Xa := Xa'
    have La := La'
    have Ia := Ia'
    have Rd := Rd'
    clear T' XM' LM' RL' Xa' La' Ia' Rd'
    have hx := Box.new w13 zp.guest v 27
    have b1 := below1 w13 (.cells #[.int .i64 zp.guest, .slice v.rA v.rn v.rc, .slice v.sA v.sn v.sc, .slice v.fA v.fn v.fc, .slice v.pA v.pn v.pc] 27)
    have hi2 := hF.imgR.next b1
    have hlt : w13.heap.size < (w13.alloc (.cells #[.int .i64 zp.guest, .slice v.rA v.rn v.rc, .slice v.sA v.sn v.sc, .slice v.fA v.fn v.fc, .slice v.pA v.pn v.pc] 27)).heap.size := by simp
    have T' := Lib.hid (below_next T.out b1)
    have XM' := Lib.hid (XM.out.keep b1 LM.out)
    have LM' := Lib.hid (Nat.lt_of_lt_of_le LM.out b1.size)
    have RL' := Lib.hid (RL.out.next b1)
    have Xa' := Lib.hid (Xa.out.keep b1 La.out)
    have La' := Lib.hid (Nat.lt_of_lt_of_le La.out b1.size)
    have Ia' := Lib.hid (Ia.out.next b1)
    have Rd' := Lib.hid (Rd.out.next b1)
    clear T XM LM RL Xa La Ia Rd b1
    have T := T'
    have XM := XM'
    have LM := LM'
    have RL := RL'
    have Xa := Xa'
    have La := La'
    have Ia := Ia'
    have Rd := Rd'
    clear T' XM' LM' RL' Xa' La' Ia' Rd'
    obtain ⟨prA, prn, prc, psA, psn, psc, pfA, pfn, pfc, ppA, ppn, ppc⟩ := v
    have Ip := Lib.hid hi2
    have Xp := Lib.hid hx
    have Lp := Lib.hid hlt
    dsimp only [imgV] at Ip Xp Lp T XM LM RL Xa La Ia Rd ⊢
    clear hF hx hi2 hlt
    rcases Cep with h1 | h1
    · subst h1
      obtain ⟨f1, f2, f3, f4, f5, f6, f7, f8⟩ := Fp.out rfl
      have f7 := f7.symm
      subst f1 f2 f3 f4 f7 f8
      have f9 := hU f6 f5
      have FS := Lib.hid (And.intro f6 f9)
      clear Fp hU f5 f6 f9
      obtain ⟨c14_0, c14_1, c14_2, c14_3, c14_4⟩ := XM.out
      try dsimp only at c14_0 c14_1 c14_2 c14_3 c14_4
      go_wp2_with fail
      generalize (w13.alloc (.cells #[.int .i64 zp.guest, .slice prA prn prc, .slice psA psn psc, .slice pfA pfn pfc, .slice ppA ppn ppc] 27)) = W15 at *
      refine (Ka.out _ T.out).mono ?_
      rintro e w16 ⟨Ax, nx, cx, rfl, ho, hb, hnc, hcm⟩
      clear c14_0 c14_1 c14_2 c14_3 c14_4
      have T' := Lib.hid (below_next T.out hb)
      have XM' := Lib.hid (XM.out.keep hb LM.out)
      have LM' := Lib.hid (Nat.lt_of_lt_of_le LM.out hb.size)
      have RL' := Lib.hid (RL.out.next hb)
      have Xa' := Lib.hid (Xa.out.keep hb La.out)
      have La' := Lib.hid (Nat.lt_of_lt_of_le La.out hb.size)
      have Ia' := Lib.hid (Ia.out.next hb)
      have Rd' := Lib.hid (Rd.out.next hb)
      have Xp' := Lib.hid (Xp.out.keep hb Lp.out)
      have Lp' := Lib.hid (Nat.lt_of_lt_of_le Lp.out hb.size)
      have Ip' := Lib.hid (Ip.out.next hb)
      clear T XM LM RL Xa La Ia Rd Xp Lp Ip hb
      have T := T'
      have XM := XM'
      have LM := LM'
      have RL := RL'
      have Xa := Xa'
      have La := La'
      have Ia := Ia'
      have Rd := Rd'
      have Xp := Xp'
      have Lp := Lp'
      have Ip := Ip'
      clear T' XM' LM' RL' Xa' La' Ia' Rd' Xp' Lp' Ip'
      have hr := own_strsW ho E1
      clear ho hnc hcm
      have Rx := Lib.hid hr.2
      have hnx := hr.1
      clear hr
      obtain ⟨c17_0, c17_1, c17_2, c17_3, c17_4⟩ := Xp.out
      try dsimp only at c17_0 c17_1 c17_2 c17_3 c17_4
      go_wp2_with fail
      refine (KN.out _ _ Ip.out).mono ?_
      rintro e w18 ⟨Ay, ny, cy, rfl, ho, hb, hnc, hcm⟩
      clear c17_0 c17_1 c17_2 c17_3 c17_4
      have T' := Lib.hid (below_next T.out hb)
      have XM' := Lib.hid (XM.out.keep hb LM.out)
      have LM' := Lib.hid (Nat.lt_of_lt_of_le LM.out hb.size)
      have RL' := Lib.hid (RL.out.next hb)
      have Xa' := Lib.hid (Xa.out.keep hb La.out)
      have La' := Lib.hid (Nat.lt_of_lt_of_le La.out hb.size)
      have Ia' := Lib.hid (Ia.out.next hb)
      have Rd' := Lib.hid (Rd.out.next hb)
      have Xp' := Lib.hid (Xp.out.keep hb Lp.out)
      have Lp' := Lib.hid (Nat.lt_of_lt_of_le Lp.out hb.size)
      have Ip' := Lib.hid (Ip.out.next hb)
      have Rx' := Lib.hid (Rx.out.next hb)
      clear T XM LM RL Xa La Ia Rd Xp Lp Ip Rx hb
      have T := T'
      have XM := XM'
      have LM := LM'
      have RL := RL'
      have Xa := Xa'
      have La := La'
      have Ia := Ia'
      have Rd := Rd'
      have Xp := Xp'
      have Lp := Lp'
      have Ip := Ip'
      have Rx := Rx'
      clear T' XM' LM' RL' Xa' La' Ia' Rd' Xp' Lp' Ip' Rx'
      have hr := own_strsW ho E1
      clear ho hnc hcm
      have Ry := Lib.hid hr.2
      have hny := hr.1
      clear hr
      obtain ⟨c19_0, c19_1, c19_2, c19_3, c19_4⟩ := XM.out
      try dsimp only at c19_0 c19_1 c19_2 c19_3 c19_4
      go_wp2_with fail
      refine (Ko.out _ T.out).mono ?_
      rintro e w20 ⟨Ao, no, co, rfl, ho, hb, hnc, hcm⟩
      clear c19_0 c19_1 c19_2 c19_3 c19_4
      have T' := Lib.hid (below_next T.out hb)
      have XM' := Lib.hid (XM.out.keep hb LM.out)
      have LM' := Lib.hid (Nat.lt_of_lt_of_le LM.out hb.size)
      have RL' := Lib.hid (RL.out.next hb)
      have Xa' := Lib.hid (Xa.out.keep hb La.out)
      have La' := Lib.hid (Nat.lt_of_lt_of_le La.out hb.size)
      have Ia' := Lib.hid (Ia.out.next hb)
      have Rd' := Lib.hid (Rd.out.next hb)
      have Xp' := Lib.hid (Xp.out.keep hb Lp.out)
      have Lp' := Lib.hid (Nat.lt_of_lt_of_le Lp.out hb.size)
      have Ip' := Lib.hid (Ip.out.next hb)
      have Rx' := Lib.hid (Rx.out.next hb)
      have Ry' := Lib.hid (Ry.out.next hb)
      clear T XM LM RL Xa La Ia Rd Xp Lp Ip Rx Ry hb
      have T := T'
      have XM := XM'
      have LM := LM'
      have RL := RL'
      have Xa := Xa'
      have La := La'
      have Ia := Ia'
      have Rd := Rd'
      have Xp := Xp'
      have Lp := Lp'
      have Ip := Ip'
      have Rx := Rx'
      have Ry := Ry'
      clear T' XM' LM' RL' Xa' La' Ia' Rd' Xp' Lp' Ip' Rx' Ry'
      have hr := own_strsW ho E2
      clear ho hnc hcm
      have Ro := Lib.hid hr.2
      have hno := hr.1
      clear hr
      obtain ⟨c21_0, c21_1, c21_2, c21_3, c21_4⟩ := Xp.out
      try dsimp only at c21_0 c21_1 c21_2 c21_3 c21_4
      go_wp2_with fail
      refine (KO.out _ _ Ip.out).mono ?_
      rintro e w22 ⟨Aq, nq, cq, rfl, ho, hb, hnc, hcm⟩
      clear c21_0 c21_1 c21_2 c21_3 c21_4
      have T' := Lib.hid (below_next T.out hb)
      have XM' := Lib.hid (XM.out.keep hb LM.out)
      have LM' := Lib.hid (Nat.lt_of_lt_of_le LM.out hb.size)
      have RL' := Lib.hid (RL.out.next hb)
      have Xa' := Lib.hid (Xa.out.keep hb La.out)
      have La' := Lib.hid (Nat.lt_of_lt_of_le La.out hb.size)
      have Ia' := Lib.hid (Ia.out.next hb)
      have Rd' := Lib.hid (Rd.out.next hb)
      have Xp' := Lib.hid (Xp.out.keep hb Lp.out)
      have Lp' := Lib.hid (Nat.lt_of_lt_of_le Lp.out hb.size)
      have Ip' := Lib.hid (Ip.out.next hb)
      have Rx' := Lib.hid (Rx.out.next hb)
      have Ry' := Lib.hid (Ry.out.next hb)
      have Ro' := Lib.hid (Ro.out.next hb)
      clear T XM LM RL Xa La Ia Rd Xp Lp Ip Rx Ry Ro hb
      have T := T'
      have XM := XM'
      have LM := LM'
      have RL := RL'
      have Xa := Xa'
      have La := La'
      have Ia := Ia'
      have Rd := Rd'
      have Xp := Xp'
      have Lp := Lp'
      have Ip := Ip'
      have Rx := Rx'
      have Ry := Ry'
      have Ro := Ro'
      clear T' XM' LM' RL' Xa' La' Ia' Rd' Xp' Lp' Ip' Rx' Ry' Ro'
      have hr := own_strsW ho E2
      clear ho hnc hcm
      have Rq := Lib.hid hr.2
      have hnq := hr.1
      clear hr
      obtain ⟨c23_0, c23_1, c23_2, c23_3, c23_4⟩ := XM.out
      try dsimp only at c23_0 c23_1 c23_2 c23_3 c23_4
      go_wp2_with fail
      refine (KU.out _ T.out).mono ?_
      rintro e w24 ⟨rfl, hb⟩
      clear c23_0 c23_1 c23_2 c23_3 c23_4
      have T' := Lib.hid (below_next T.out hb)
      have XM' := Lib.hid (XM.out.keep hb LM.out)
      have LM' := Lib.hid (Nat.lt_of_lt_of_le LM.out hb.size)
      have RL' := Lib.hid (RL.out.next hb)
      have Xa' := Lib.hid (Xa.out.keep hb La.out)
      have La' := Lib.hid (Nat.lt_of_lt_of_le La.out hb.size)
      have Ia' := Lib.hid (Ia.out.next hb)
      have Rd' := Lib.hid (Rd.out.next hb)
      have Xp' := Lib.hid (Xp.out.keep hb Lp.out)
      have Lp' := Lib.hid (Nat.lt_of_lt_of_le Lp.out hb.size)
      have Ip' := Lib.hid (Ip.out.next hb)
      have Rx' := Lib.hid (Rx.out.next hb)
      have Ry' := Lib.hid (Ry.out.next hb)
      have Ro' := Lib.hid (Ro.out.next hb)
      have Rq' := Lib.hid (Rq.out.next hb)
      clear T XM LM RL Xa La Ia Rd Xp Lp Ip Rx Ry Ro Rq hb
      have T := T'
      have XM := XM'
      have LM := LM'
      have RL := RL'
      have Xa := Xa'
      have La := La'
      have Ia := Ia'
      have Rd := Rd'
      have Xp := Xp'
      have Lp := Lp'
      have Ip := Ip'
      have Rx := Rx'
      have Ry := Ry'
      have Ro := Ro'
      have Rq := Rq'
      clear T' XM' LM' RL' Xa' La' Ia' Rd' Xp' Lp' Ip' Rx' Ry' Ro' Rq'
      obtain ⟨c25_0, c25_1, c25_2, c25_3, c25_4⟩ := Xp.out
      try dsimp only at c25_0 c25_1 c25_2 c25_3 c25_4
      clear c25_0 c25_1 c25_2 c25_3 c25_4
      obtain ⟨c26_0, c26_1, c26_2, c26_3, c26_4⟩ := Xp.out
      try dsimp only at c26_0 c26_1 c26_2 c26_3 c26_4
      go_wp2_with fail
      refine (KP.out _ _ Ip.out).mono ?_
      rintro e w27 ⟨v, rfl, hF, hb⟩
      clear c26_0 c26_1 c26_2 c26_3 c26_4
      have T' := Lib.hid (below_next T.out hb)
      have XM' := Lib.hid (XM.out.keep hb LM.out)
      have LM' := Lib.hid (Nat.lt_of_lt_of_le LM.out hb.size)
      have RL' := Lib.hid (RL.out.next hb)
      have Xa' := Lib.hid (Xa.out.keep hb La.out)
      have La' := Lib.hid (Nat.lt_of_lt_of_le La.out hb.size)
      have Ia' := Lib.hid (Ia.out.next hb)
      have Rd' := Lib.hid (Rd.out.next hb)
      have Xp' := Lib.hid (Xp.out.keep hb Lp.out)
      have Lp' := Lib.hid (Nat.lt_of_lt_of_le Lp.out hb.size)
      have Ip' := Lib.hid (Ip.out.next hb)
      have Rx' := Lib.hid (Rx.out.next hb)
      have Ry' := Lib.hid (Ry.out.next hb)
      have Ro' := Lib.hid (Ro.out.next hb)
      have Rq' := Lib.hid (Rq.out.next hb)
      clear T XM LM RL Xa La Ia Rd Xp Lp Ip Rx Ry Ro Rq hb
      have T := T'
      have XM := XM'
      have LM := LM'
      have RL := RL'
      have Xa := Xa'
      have La := La'
      have Ia := Ia'
      have Rd := Rd'
      have Xp := Xp'
      have Lp := Lp'
      have Ip := Ip'
      have Rx := Rx'
      have Ry := Ry'
      have Ro := Ro'
      have Rq := Rq'
      clear T' XM' LM' RL' Xa' La' Ia' Rd' Xp' Lp' Ip' Rx' Ry' Ro' Rq'
      have hx := Box.new w27 zp.guest v 27
      have b1 := below1 w27 (.cells #[.int .i64 zp.guest, .slice v.rA v.rn v.rc, .slice v.sA v.sn v.sc, .slice v.fA v.fn v.fc, .slice v.pA v.pn v.pc] 27)
      have hi2 := hF.imgR.next b1
      have hlt : w27.heap.size < (w27.alloc (.cells #[.int .i64 zp.guest, .slice v.rA v.rn v.rc, .slice v.sA v.sn v.sc, .slice v.fA v.fn v.fc, .slice v.pA v.pn v.pc] 27)).heap.size := by simp
      have T' := Lib.hid (below_next T.out b1)
      have XM' := Lib.hid (XM.out.keep b1 LM.out)
      have LM' := Lib.hid (Nat.lt_of_lt_of_le LM.out b1.size)
      have RL' := Lib.hid (RL.out.next b1)
      have Xa' := Lib.hid (Xa.out.keep b1 La.out)
      have La' := Lib.hid (Nat.lt_of_lt_of_le La.out b1.size)
      have Ia' := Lib.hid (Ia.out.next b1)
      have Rd' := Lib.hid (Rd.out.next b1)
      have Xp' := Lib.hid (Xp.out.keep b1 Lp.out)
      have Lp' := Lib.hid (Nat.lt_of_lt_of_le Lp.out b1.size)
      have Ip' := Lib.hid (Ip.out.next b1)
      have Rx' := Lib.hid (Rx.out.next b1)
      have Ry' := Lib.hid (Ry.out.next b1)
      have Ro' := Lib.hid (Ro.out.next b1)
      have Rq' := Lib.hid (Rq.out.next b1)
      clear T XM LM RL Xa La Ia Rd Xp Lp Ip Rx Ry Ro Rq b1
      have T := T'
      have XM := XM'
      have LM := LM'
      have RL := RL'
      have Xa := Xa'
      have La := La'
      have Ia := Ia'
      have Rd := Rd'
      have Xp := Xp'
      have Lp := Lp'
      have Ip := Ip'
      have Rx := Rx'
      have Ry := Ry'
      have Ro := Ro'
      have Rq := Rq'
      clear T' XM' LM' RL' Xa' La' Ia' Rd' Xp' Lp' Ip' Rx' Ry' Ro' Rq'
      obtain ⟨rrA, rrn, rrc, rsA, rsn, rsc, rfA, rfn, rfc, rpA, rpn, rpc⟩ := v
      have Ir := Lib.hid hi2
      have Xr := Lib.hid hx
      have Lr := Lib.hid hlt
      dsimp only [imgV] at Ir Xr Lr T XM LM RL Xa La Ia Rd Xp Lp Ip Rx Ry Ro Rq ⊢
      clear hF hx hi2 hlt
      go_wp2_with fail
      generalize (w27.alloc (.cells #[.int .i64 zp.guest, .slice rrA rrn rrc, .slice rsA rsn rsc, .slice rfA rfn rfc, .slice rpA rpn rpc] 27)) = W28 at *
      refine (moveBegun_any _).mono ?_
      rintro e w29 ⟨rfl, hb⟩
      have T' := Lib.hid (below_next T.out hb)
      have XM' := Lib.hid (XM.out.keep hb LM.out)
      have LM' := Lib.hid (Nat.lt_of_lt_of_le LM.out hb.size)
      have RL' := Lib.hid (RL.out.next hb)
      have Xa' := Lib.hid (Xa.out.keep hb La.out)
      have La' := Lib.hid (Nat.lt_of_lt_of_le La.out hb.size)
      have Ia' := Lib.hid (Ia.out.next hb)
      have Rd' := Lib.hid (Rd.out.next hb)
      have Xp' := Lib.hid (Xp.out.keep hb Lp.out)
      have Lp' := Lib.hid (Nat.lt_of_lt_of_le Lp.out hb.size)
      have Ip' := Lib.hid (Ip.out.next hb)
      have Rx' := Lib.hid (Rx.out.next hb)
      have Ry' := Lib.hid (Ry.out.next hb)
      have Ro' := Lib.hid (Ro.out.next hb)
      have Rq' := Lib.hid (Rq.out.next hb)
      have Xr' := Lib.hid (Xr.out.keep hb Lr.out)
      have Lr' := Lib.hid (Nat.lt_of_lt_of_le Lr.out hb.size)
      have Ir' := Lib.hid (Ir.out.next hb)
      clear T XM LM RL Xa La Ia Rd Xp Lp Ip Rx Ry Ro Rq Xr Lr Ir hb
      have T := T'
      have XM := XM'
      have LM := LM'
      have RL := RL'
      have Xa := Xa'
      have La := La'
      have Ia := Ia'
      have Rd := Rd'
      have Xp := Xp'
      have Lp := Lp'
      have Ip := Ip'
      have Rx := Rx'
      have Ry := Ry'
      have Ro := Ro'
      have Rq := Rq'
      have Xr := Xr'
      have Lr := Lr'
      have Ir := Ir'
      clear T' XM' LM' RL' Xa' La' Ia' Rd' Xp' Lp' Ip' Rx' Ry' Ro' Rq' Xr' Lr' Ir'
      obtain ⟨c30_0, c30_1, c30_2, c30_3, c30_4⟩ := Xp.out
      try dsimp only at c30_0 c30_1 c30_2 c30_3 c30_4
      go_wp2_with fail
      refine (KC.out _ _ Ip.out).mono ?_
      rintro e w31 ⟨rfl, hb⟩
      clear c30_0 c30_1 c30_2 c30_3 c30_4
      have T' := Lib.hid (below_next T.out hb)
      have XM' := Lib.hid (XM.out.keep hb LM.out)
      have LM' := Lib.hid (Nat.lt_of_lt_of_le LM.out hb.size)
      have RL' := Lib.hid (RL.out.next hb)
      have Xa' := Lib.hid (Xa.out.keep hb La.out)
      have La' := Lib.hid (Nat.lt_of_lt_of_le La.out hb.size)
      have Ia' := Lib.hid (Ia.out.next hb)
      have Rd' := Lib.hid (Rd.out.next hb)
      have Xp' := Lib.hid (Xp.out.keep hb Lp.out)
      have Lp' := Lib.hid (Nat.lt_of_lt_of_le Lp.out hb.size)
      have Ip' := Lib.hid (Ip.out.next hb)
      have Rx' := Lib.hid (Rx.out.next hb)
      have Ry' := Lib.hid (Ry.out.next hb)
      have Ro' := Lib.hid (Ro.out.next hb)
      have Rq' := Lib.hid (Rq.out.next hb)
      have Xr' := Lib.hid (Xr.out.keep hb Lr.out)
      have Lr' := Lib.hid (Nat.lt_of_lt_of_le Lr.out hb.size)
      have Ir' := Lib.hid (Ir.out.next hb)
      clear T XM LM RL Xa La Ia Rd Xp Lp Ip Rx Ry Ro Rq Xr Lr Ir hb
      have T := T'
      have XM := XM'
      have LM := LM'
      have RL := RL'
      have Xa := Xa'
      have La := La'
      have Ia := Ia'
      have Rd := Rd'
      have Xp := Xp'
      have Lp := Lp'
      have Ip := Ip'
      have Rx := Rx'
      have Ry := Ry'
      have Ro := Ro'
      have Rq := Rq'
      have Xr := Xr'
      have Lr := Lr'
      have Ir := Ir'
      clear T' XM' LM' RL' Xa' La' Ia' Rd' Xp' Lp' Ip' Rx' Ry' Ro' Rq' Xr' Lr' Ir'
      go_wp2_with fail
      refine (samePages_any Ax Ay _ _ cx cy _ _ _ Rx.out Ry.out hnx hny).mono ?_
      rintro e w32 ⟨rfl, hb⟩
      have T' := Lib.hid (below_next T.out hb)
      have XM' := Lib.hid (XM.out.keep hb LM.out)
      have LM' := Lib.hid (Nat.lt_of_lt_of_le LM.out hb.size)
      have RL' := Lib.hid (RL.out.next hb)
      have Xa' := Lib.hid (Xa.out.keep hb La.out)
      have La' := Lib.hid (Nat.lt_of_lt_of_le La.out hb.size)
      have Ia' := Lib.hid (Ia.out.next hb)
      have Rd' := Lib.hid (Rd.out.next hb)
      have Xp' := Lib.hid (Xp.out.keep hb Lp.out)
      have Lp' := Lib.hid (Nat.lt_of_lt_of_le Lp.out hb.size)
      have Ip' := Lib.hid (Ip.out.next hb)
      have Rx' := Lib.hid (Rx.out.next hb)
      have Ry' := Lib.hid (Ry.out.next hb)
      have Ro' := Lib.hid (Ro.out.next hb)
      have Rq' := Lib.hid (Rq.out.next hb)
      have Xr' := Lib.hid (Xr.out.keep hb Lr.out)
      have Lr' := Lib.hid (Nat.lt_of_lt_of_le Lr.out hb.size)
      have Ir' := Lib.hid (Ir.out.next hb)
      clear T XM LM RL Xa La Ia Rd Xp Lp Ip Rx Ry Ro Rq Xr Lr Ir hb
      have T := T'
      have XM := XM'
      have LM := LM'
      have RL := RL'
      have Xa := Xa'
      have La := La'
      have Ia := Ia'
      have Rd := Rd'
      have Xp := Xp'
      have Lp := Lp'
      have Ip := Ip'
      have Rx := Rx'
      have Ry := Ry'
      have Ro := Ro'
      have Rq := Rq'
      have Xr := Xr'
      have Lr := Lr'
      have Ir := Ir'
      clear T' XM' LM' RL' Xa' La' Ia' Rd' Xp' Lp' Ip' Rx' Ry' Ro' Rq' Xr' Lr' Ir'
      simp only [decide_true]
      go_wp2_with fail
      refine (samePages_any Ao Aq _ _ co cq _ _ _ Ro.out Rq.out hno hnq).mono ?_
      rintro e w33 ⟨rfl, hb⟩
      have T' := Lib.hid (below_next T.out hb)
      have XM' := Lib.hid (XM.out.keep hb LM.out)
      have LM' := Lib.hid (Nat.lt_of_lt_of_le LM.out hb.size)
      have RL' := Lib.hid (RL.out.next hb)
      have Xa' := Lib.hid (Xa.out.keep hb La.out)
      have La' := Lib.hid (Nat.lt_of_lt_of_le La.out hb.size)
      have Ia' := Lib.hid (Ia.out.next hb)
      have Rd' := Lib.hid (Rd.out.next hb)
      have Xp' := Lib.hid (Xp.out.keep hb Lp.out)
      have Lp' := Lib.hid (Nat.lt_of_lt_of_le Lp.out hb.size)
      have Ip' := Lib.hid (Ip.out.next hb)
      have Rx' := Lib.hid (Rx.out.next hb)
      have Ry' := Lib.hid (Ry.out.next hb)
      have Ro' := Lib.hid (Ro.out.next hb)
      have Rq' := Lib.hid (Rq.out.next hb)
      have Xr' := Lib.hid (Xr.out.keep hb Lr.out)
      have Lr' := Lib.hid (Nat.lt_of_lt_of_le Lr.out hb.size)
      have Ir' := Lib.hid (Ir.out.next hb)
      clear T XM LM RL Xa La Ia Rd Xp Lp Ip Rx Ry Ro Rq Xr Lr Ir hb
      have T := T'
      have XM := XM'
      have LM := LM'
      have RL := RL'
      have Xa := Xa'
      have La := La'
      have Ia := Ia'
      have Rd := Rd'
      have Xp := Xp'
      have Lp := Lp'
      have Ip := Ip'
      have Rx := Rx'
      have Ry := Ry'
      have Ro := Ro'
      have Rq := Rq'
      have Xr := Xr'
      have Lr := Lr'
      have Ir := Ir'
      clear T' XM' LM' RL' Xa' La' Ia' Rd' Xp' Lp' Ip' Rx' Ry' Ro' Rq' Xr' Lr' Ir'
      simp only [decide_true]
      obtain ⟨g6, g9⟩ := FS.out
      have gsn : zp.slots.length = psn := Ip.out.slen
      rw [gsn] at g9
      have gcap : psn ≤ 4611686018427387903 := Ip.out.scap.1
      clear g6
      have gu : (((psn : Int)) == us + 1) = true := by simpa using g9
      obtain ⟨c34_0, c34_1, c34_2, c34_3, c34_4⟩ := Xp.out
      try dsimp only at c34_0 c34_1 c34_2 c34_3 c34_4
      obtain ⟨c35_0, c35_1, c35_2, c35_3, c35_4⟩ := Xr.out
      try dsimp only at c35_0 c35_1 c35_2 c35_3 c35_4
      go_wp2_with fail
      refine (sameImg_any _ _ zp _ Ip.out Ir.out).mono ?_
      rintro e w36 ⟨rfl, hb⟩
      clear c34_0 c34_1 c34_2 c34_3 c34_4 c35_0 c35_1 c35_2 c35_3 c35_4
      have T' := Lib.hid (below_next T.out hb)
      have XM' := Lib.hid (XM.out.keep hb LM.out)
      have LM' := Lib.hid (Nat.lt_of_lt_of_le LM.out hb.size)
      have RL' := Lib.hid (RL.out.next hb)
      have Xa' := Lib.hid (Xa.out.keep hb La.out)
      have La' := Lib.hid (Nat.lt_of_lt_of_le La.out hb.size)
      have Ia' := Lib.hid (Ia.out.next hb)
      have Rd' := Lib.hid (Rd.out.next hb)
      have Xp' := Lib.hid (Xp.out.keep hb Lp.out)
      have Lp' := Lib.hid (Nat.lt_of_lt_of_le Lp.out hb.size)
      have Ip' := Lib.hid (Ip.out.next hb)
      have Rx' := Lib.hid (Rx.out.next hb)
      have Ry' := Lib.hid (Ry.out.next hb)
      have Ro' := Lib.hid (Ro.out.next hb)
      have Rq' := Lib.hid (Rq.out.next hb)
      have Xr' := Lib.hid (Xr.out.keep hb Lr.out)
      have Lr' := Lib.hid (Nat.lt_of_lt_of_le Lr.out hb.size)
      have Ir' := Lib.hid (Ir.out.next hb)
      clear T XM LM RL Xa La Ia Rd Xp Lp Ip Rx Ry Ro Rq Xr Lr Ir hb
      have T := T'
      have XM := XM'
      have LM := LM'
      have RL := RL'
      have Xa := Xa'
      have La := La'
      have Ia := Ia'
      have Rd := Rd'
      have Xp := Xp'
      have Lp := Lp'
      have Ip := Ip'
      have Rx := Rx'
      have Ry := Ry'
      have Ro := Ro'
      have Rq := Rq'
      have Xr := Xr'
      have Lr := Lr'
      have Ir := Ir'
      clear T' XM' LM' RL' Xa' La' Ia' Rd' Xp' Lp' Ip' Rx' Ry' Ro' Rq' Xr' Lr' Ir'
      go_wp2_with fail
      go_ret
      exact ⟨rfl, T.out⟩
    · go_wp2_with fail
      generalize (w13.alloc (.cells #[.int .i64 zp.guest, .slice prA prn prc, .slice psA psn psc, .slice pfA pfn pfc, .slice ppA ppn ppc] 27)) = W14 at *
      refine (moveBegun_any _).mono ?_
      rintro e w15 ⟨rfl, hb⟩
      have T' := Lib.hid (below_next T.out hb)
      have XM' := Lib.hid (XM.out.keep hb LM.out)
      have LM' := Lib.hid (Nat.lt_of_lt_of_le LM.out hb.size)
      have RL' := Lib.hid (RL.out.next hb)
      have Xa' := Lib.hid (Xa.out.keep hb La.out)
      have La' := Lib.hid (Nat.lt_of_lt_of_le La.out hb.size)
      have Ia' := Lib.hid (Ia.out.next hb)
      have Rd' := Lib.hid (Rd.out.next hb)
      have Xp' := Lib.hid (Xp.out.keep hb Lp.out)
      have Lp' := Lib.hid (Nat.lt_of_lt_of_le Lp.out hb.size)
      have Ip' := Lib.hid (Ip.out.next hb)
      clear T XM LM RL Xa La Ia Rd Xp Lp Ip hb
      have T := T'
      have XM := XM'
      have LM := LM'
      have RL := RL'
      have Xa := Xa'
      have La := La'
      have Ia := Ia'
      have Rd := Rd'
      have Xp := Xp'
      have Lp := Lp'
      have Ip := Ip'
      clear T' XM' LM' RL' Xa' La' Ia' Rd' Xp' Lp' Ip'
      go_wp2_with fail
      go_ret
      exact ⟨rfl, T.out⟩
  · obtain ⟨c5_0, c5_1, c5_2, c5_3, c5_4⟩ := XM.out
    try dsimp only at c5_0 c5_1 c5_2 c5_3 c5_4
    clear c5_0 c5_1 c5_2 c5_3 c5_4
    obtain ⟨c6_0, c6_1, c6_2, c6_3, c6_4⟩ := XM.out
    try dsimp only at c6_0 c6_1 c6_2 c6_3 c6_4
    go_wp2_with fail
    generalize (w4.alloc (.cells #[.int .i64 zu.guest, .slice arA arn arc, .slice asA asn asc, .slice afA afn afc, .slice apA apn apc] 27)) = W7 at *
    refine (Kp.out _ T.out).mono ?_
    rintro e w8 ⟨v, rfl, hF, hb⟩
    clear c6_0 c6_1 c6_2 c6_3 c6_4
    have T' := Lib.hid (below_next T.out hb)
    have XM' := Lib.hid (XM.out.keep hb LM.out)
    have LM' := Lib.hid (Nat.lt_of_lt_of_le LM.out hb.size)
    have RL' := Lib.hid (RL.out.next hb)
    have Xa' := Lib.hid (Xa.out.keep hb La.out)
    have La' := Lib.hid (Nat.lt_of_lt_of_le La.out hb.size)
    have Ia' := Lib.hid (Ia.out.next hb)
    clear T XM LM RL Xa La Ia hb
    have T := T'
    have XM := XM'
    have LM := LM'
    have RL := RL'
    have Xa := Xa'
    have La := La'
    have Ia := Ia'
    clear T' XM' LM' RL' Xa' La' Ia'
    have hx := Box.new w8 zp.guest v 27
    have b1 := below1 w8 (.cells #[.int .i64 zp.guest, .slice v.rA v.rn v.rc, .slice v.sA v.sn v.sc, .slice v.fA v.fn v.fc, .slice v.pA v.pn v.pc] 27)
    have hi2 := hF.imgR.next b1
    have hlt : w8.heap.size < (w8.alloc (.cells #[.int .i64 zp.guest, .slice v.rA v.rn v.rc, .slice v.sA v.sn v.sc, .slice v.fA v.fn v.fc, .slice v.pA v.pn v.pc] 27)).heap.size := by simp
    have T' := Lib.hid (below_next T.out b1)
    have XM' := Lib.hid (XM.out.keep b1 LM.out)
    have LM' := Lib.hid (Nat.lt_of_lt_of_le LM.out b1.size)
    have RL' := Lib.hid (RL.out.next b1)
    have Xa' := Lib.hid (Xa.out.keep b1 La.out)
    have La' := Lib.hid (Nat.lt_of_lt_of_le La.out b1.size)
    have Ia' := Lib.hid (Ia.out.next b1)
    clear T XM LM RL Xa La Ia b1
    have T := T'
    have XM := XM'
    have LM := LM'
    have RL := RL'
    have Xa := Xa'
    have La := La'
    have Ia := Ia'
    clear T' XM' LM' RL' Xa' La' Ia'
    obtain ⟨prA, prn, prc, psA, psn, psc, pfA, pfn, pfc, ppA, ppn, ppc⟩ := v
    have Ip := Lib.hid hi2
    have Xp := Lib.hid hx
    have Lp := Lib.hid hlt
    dsimp only [imgV] at Ip Xp Lp T XM LM RL Xa La Ia ⊢
    clear hF hx hi2 hlt
    rcases Cep with h1 | h1
    · subst h1
      obtain ⟨f1, f2, f3, f4, f5, f6, f7, f8⟩ := Fp.out rfl
      have f7 := f7.symm
      subst f1 f2 f3 f4 f7 f8
      have f9 := hU f6 f5
      have FS := Lib.hid (And.intro f6 f9)
      clear Fp hU f5 f6 f9
      obtain ⟨c9_0, c9_1, c9_2, c9_3, c9_4⟩ := XM.out
      try dsimp only at c9_0 c9_1 c9_2 c9_3 c9_4
      go_wp2_with fail
      generalize (w8.alloc (.cells #[.int .i64 zp.guest, .slice prA prn prc, .slice psA psn psc, .slice pfA pfn pfc, .slice ppA ppn ppc] 27)) = W10 at *
      refine (Ka.out _ T.out).mono ?_
      rintro e w11 ⟨Ax, nx, cx, rfl, ho, hb, hnc, hcm⟩
      clear c9_0 c9_1 c9_2 c9_3 c9_4
      have T' := Lib.hid (below_next T.out hb)
      have XM' := Lib.hid (XM.out.keep hb LM.out)
      have LM' := Lib.hid (Nat.lt_of_lt_of_le LM.out hb.size)
      have RL' := Lib.hid (RL.out.next hb)
      have Xa' := Lib.hid (Xa.out.keep hb La.out)
      have La' := Lib.hid (Nat.lt_of_lt_of_le La.out hb.size)
      have Ia' := Lib.hid (Ia.out.next hb)
      have Xp' := Lib.hid (Xp.out.keep hb Lp.out)
      have Lp' := Lib.hid (Nat.lt_of_lt_of_le Lp.out hb.size)
      have Ip' := Lib.hid (Ip.out.next hb)
      clear T XM LM RL Xa La Ia Xp Lp Ip hb
      have T := T'
      have XM := XM'
      have LM := LM'
      have RL := RL'
      have Xa := Xa'
      have La := La'
      have Ia := Ia'
      have Xp := Xp'
      have Lp := Lp'
      have Ip := Ip'
      clear T' XM' LM' RL' Xa' La' Ia' Xp' Lp' Ip'
      have hr := own_strsW ho E1
      clear ho hnc hcm
      have Rx := Lib.hid hr.2
      have hnx := hr.1
      clear hr
      obtain ⟨c12_0, c12_1, c12_2, c12_3, c12_4⟩ := Xp.out
      try dsimp only at c12_0 c12_1 c12_2 c12_3 c12_4
      go_wp2_with fail
      refine (KN.out _ _ Ip.out).mono ?_
      rintro e w13 ⟨Ay, ny, cy, rfl, ho, hb, hnc, hcm⟩
      clear c12_0 c12_1 c12_2 c12_3 c12_4
      have T' := Lib.hid (below_next T.out hb)
      have XM' := Lib.hid (XM.out.keep hb LM.out)
      have LM' := Lib.hid (Nat.lt_of_lt_of_le LM.out hb.size)
      have RL' := Lib.hid (RL.out.next hb)
      have Xa' := Lib.hid (Xa.out.keep hb La.out)
      have La' := Lib.hid (Nat.lt_of_lt_of_le La.out hb.size)
      have Ia' := Lib.hid (Ia.out.next hb)
      have Xp' := Lib.hid (Xp.out.keep hb Lp.out)
      have Lp' := Lib.hid (Nat.lt_of_lt_of_le Lp.out hb.size)
      have Ip' := Lib.hid (Ip.out.next hb)
      have Rx' := Lib.hid (Rx.out.next hb)
      clear T XM LM RL Xa La Ia Xp Lp Ip Rx hb
      have T := T'
      have XM := XM'
      have LM := LM'
      have RL := RL'
      have Xa := Xa'
      have La := La'
      have Ia := Ia'
      have Xp := Xp'
      have Lp := Lp'
      have Ip := Ip'
      have Rx := Rx'
      clear T' XM' LM' RL' Xa' La' Ia' Xp' Lp' Ip' Rx'
      have hr := own_strsW ho E1
      clear ho hnc hcm
      have Ry := Lib.hid hr.2
      have hny := hr.1
      clear hr
      obtain ⟨c14_0, c14_1, c14_2, c14_3, c14_4⟩ := XM.out
      try dsimp only at c14_0 c14_1 c14_2 c14_3 c14_4
      go_wp2_with fail
      refine (Ko.out _ T.out).mono ?_
      rintro e w15 ⟨Ao, no, co, rfl, ho, hb, hnc, hcm⟩
      clear c14_0 c14_1 c14_2 c14_3 c14_4
      have T' := Lib.hid (below_next T.out hb)
      have XM' := Lib.hid (XM.out.keep hb LM.out)
      have LM' := Lib.hid (Nat.lt_of_lt_of_le LM.out hb.size)
      have RL' := Lib.hid (RL.out.next hb)
      have Xa' := Lib.hid (Xa.out.keep hb La.out)
      have La' := Lib.hid (Nat.lt_of_lt_of_le La.out hb.size)
      have Ia' := Lib.hid (Ia.out.next hb)
      have Xp' := Lib.hid (Xp.out.keep hb Lp.out)
      have Lp' := Lib.hid (Nat.lt_of_lt_of_le Lp.out hb.size)
      have Ip' := Lib.hid (Ip.out.next hb)
      have Rx' := Lib.hid (Rx.out.next hb)
      have Ry' := Lib.hid (Ry.out.next hb)
      clear T XM LM RL Xa La Ia Xp Lp Ip Rx Ry hb
      have T := T'
      have XM := XM'
      have LM := LM'
      have RL := RL'
      have Xa := Xa'
      have La := La'
      have Ia := Ia'
      have Xp := Xp'
      have Lp := Lp'
      have Ip := Ip'
      have Rx := Rx'
      have Ry := Ry'
      clear T' XM' LM' RL' Xa' La' Ia' Xp' Lp' Ip' Rx' Ry'
      have hr := own_strsW ho E2
      clear ho hnc hcm
      have Ro := Lib.hid hr.2
      have hno := hr.1
      clear hr
      obtain ⟨c16_0, c16_1, c16_2, c16_3, c16_4⟩ := Xp.out
      try dsimp only at c16_0 c16_1 c16_2 c16_3 c16_4
      go_wp2_with fail
      refine (KO.out _ _ Ip.out).mono ?_
      rintro e w17 ⟨Aq, nq, cq, rfl, ho, hb, hnc, hcm⟩
      clear c16_0 c16_1 c16_2 c16_3 c16_4
      have T' := Lib.hid (below_next T.out hb)
      have XM' := Lib.hid (XM.out.keep hb LM.out)
      have LM' := Lib.hid (Nat.lt_of_lt_of_le LM.out hb.size)
      have RL' := Lib.hid (RL.out.next hb)
      have Xa' := Lib.hid (Xa.out.keep hb La.out)
      have La' := Lib.hid (Nat.lt_of_lt_of_le La.out hb.size)
      have Ia' := Lib.hid (Ia.out.next hb)
      have Xp' := Lib.hid (Xp.out.keep hb Lp.out)
      have Lp' := Lib.hid (Nat.lt_of_lt_of_le Lp.out hb.size)
      have Ip' := Lib.hid (Ip.out.next hb)
      have Rx' := Lib.hid (Rx.out.next hb)
      have Ry' := Lib.hid (Ry.out.next hb)
      have Ro' := Lib.hid (Ro.out.next hb)
      clear T XM LM RL Xa La Ia Xp Lp Ip Rx Ry Ro hb
      have T := T'
      have XM := XM'
      have LM := LM'
      have RL := RL'
      have Xa := Xa'
      have La := La'
      have Ia := Ia'
      have Xp := Xp'
      have Lp := Lp'
      have Ip := Ip'
      have Rx := Rx'
      have Ry := Ry'
      have Ro := Ro'
      clear T' XM' LM' RL' Xa' La' Ia' Xp' Lp' Ip' Rx' Ry' Ro'
      have hr := own_strsW ho E2
      clear ho hnc hcm
      have Rq := Lib.hid hr.2
      have hnq := hr.1
      clear hr
      obtain ⟨c18_0, c18_1, c18_2, c18_3, c18_4⟩ := XM.out
      try dsimp only at c18_0 c18_1 c18_2 c18_3 c18_4
      go_wp2_with fail
      refine (KU.out _ T.out).mono ?_
      rintro e w19 ⟨rfl, hb⟩
      clear c18_0 c18_1 c18_2 c18_3 c18_4
      have T' := Lib.hid (below_next T.out hb)
      have XM' := Lib.hid (XM.out.keep hb LM.out)
      have LM' := Lib.hid (Nat.lt_of_lt_of_le LM.out hb.size)
      have RL' := Lib.hid (RL.out.next hb)
      have Xa' := Lib.hid (Xa.out.keep hb La.out)
      have La' := Lib.hid (Nat.lt_of_lt_of_le La.out hb.size)
      have Ia' := Lib.hid (Ia.out.next hb)
      have Xp' := Lib.hid (Xp.out.keep hb Lp.out)
      have Lp' := Lib.hid (Nat.lt_of_lt_of_le Lp.out hb.size)
      have Ip' := Lib.hid (Ip.out.next hb)
      have Rx' := Lib.hid (Rx.out.next hb)
      have Ry' := Lib.hid (Ry.out.next hb)
      have Ro' := Lib.hid (Ro.out.next hb)
      have Rq' := Lib.hid (Rq.out.next hb)
      clear T XM LM RL Xa La Ia Xp Lp Ip Rx Ry Ro Rq hb
      have T := T'
      have XM := XM'
      have LM := LM'
      have RL := RL'
      have Xa := Xa'
      have La := La'
      have Ia := Ia'
      have Xp := Xp'
      have Lp := Lp'
      have Ip := Ip'
      have Rx := Rx'
      have Ry := Ry'
      have Ro := Ro'
      have Rq := Rq'
      clear T' XM' LM' RL' Xa' La' Ia' Xp' Lp' Ip' Rx' Ry' Ro' Rq'
      obtain ⟨c20_0, c20_1, c20_2, c20_3, c20_4⟩ := Xp.out
      try dsimp only at c20_0 c20_1 c20_2 c20_3 c20_4
      clear c20_0 c20_1 c20_2 c20_3 c20_4
      obtain ⟨c21_0, c21_1, c21_2, c21_3, c21_4⟩ := Xp.out
      try dsimp only at c21_0 c21_1 c21_2 c21_3 c21_4
      go_wp2_with fail
      refine (KP.out _ _ Ip.out).mono ?_
      rintro e w22 ⟨v, rfl, hF, hb⟩
      clear c21_0 c21_1 c21_2 c21_3 c21_4
      have T' := Lib.hid (below_next T.out hb)
      have XM' := Lib.hid (XM.out.keep hb LM.out)
      have LM' := Lib.hid (Nat.lt_of_lt_of_le LM.out hb.size)
      have RL' := Lib.hid (RL.out.next hb)
      have Xa' := Lib.hid (Xa.out.keep hb La.out)
      have La' := Lib.hid (Nat.lt_of_lt_of_le La.out hb.size)
      have Ia' := Lib.hid (Ia.out.next hb)
      have Xp' := Lib.hid (Xp.out.keep hb Lp.out)
      have Lp' := Lib.hid (Nat.lt_of_lt_of_le Lp.out hb.size)
      have Ip' := Lib.hid (Ip.out.next hb)
      have Rx' := Lib.hid (Rx.out.next hb)
      have Ry' := Lib.hid (Ry.out.next hb)
      have Ro' := Lib.hid (Ro.out.next hb)
      have Rq' := Lib.hid (Rq.out.next hb)
      clear T XM LM RL Xa La Ia Xp Lp Ip Rx Ry Ro Rq hb
      have T := T'
      have XM := XM'
      have LM := LM'
      have RL := RL'
      have Xa := Xa'
      have La := La'
      have Ia := Ia'
      have Xp := Xp'
      have Lp := Lp'
      have Ip := Ip'
      have Rx := Rx'
      have Ry := Ry'
      have Ro := Ro'
      have Rq := Rq'
      clear T' XM' LM' RL' Xa' La' Ia' Xp' Lp' Ip' Rx' Ry' Ro' Rq'
      have hx := Box.new w22 zp.guest v 27
      have b1 := below1 w22 (.cells #[.int .i64 zp.guest, .slice v.rA v.rn v.rc, .slice v.sA v.sn v.sc, .slice v.fA v.fn v.fc, .slice v.pA v.pn v.pc] 27)
      have hi2 := hF.imgR.next b1
      have hlt : w22.heap.size < (w22.alloc (.cells #[.int .i64 zp.guest, .slice v.rA v.rn v.rc, .slice v.sA v.sn v.sc, .slice v.fA v.fn v.fc, .slice v.pA v.pn v.pc] 27)).heap.size := by simp
      have T' := Lib.hid (below_next T.out b1)
      have XM' := Lib.hid (XM.out.keep b1 LM.out)
      have LM' := Lib.hid (Nat.lt_of_lt_of_le LM.out b1.size)
      have RL' := Lib.hid (RL.out.next b1)
      have Xa' := Lib.hid (Xa.out.keep b1 La.out)
      have La' := Lib.hid (Nat.lt_of_lt_of_le La.out b1.size)
      have Ia' := Lib.hid (Ia.out.next b1)
      have Xp' := Lib.hid (Xp.out.keep b1 Lp.out)
      have Lp' := Lib.hid (Nat.lt_of_lt_of_le Lp.out b1.size)
      have Ip' := Lib.hid (Ip.out.next b1)
      have Rx' := Lib.hid (Rx.out.next b1)
      have Ry' := Lib.hid (Ry.out.next b1)
      have Ro' := Lib.hid (Ro.out.next b1)
      have Rq' := Lib.hid (Rq.out.next b1)
      clear T XM LM RL Xa La Ia Xp Lp Ip Rx Ry Ro Rq b1
      have T := T'
      have XM := XM'
      have LM := LM'
      have RL := RL'
      have Xa := Xa'
      have La := La'
      have Ia := Ia'
      have Xp := Xp'
      have Lp := Lp'
      have Ip := Ip'
      have Rx := Rx'
      have Ry := Ry'
      have Ro := Ro'
      have Rq := Rq'
      clear T' XM' LM' RL' Xa' La' Ia' Xp' Lp' Ip' Rx' Ry' Ro' Rq'
      obtain ⟨rrA, rrn, rrc, rsA, rsn, rsc, rfA, rfn, rfc, rpA, rpn, rpc⟩ := v
      have Ir := Lib.hid hi2
      have Xr := Lib.hid hx
      have Lr := Lib.hid hlt
      dsimp only [imgV] at Ir Xr Lr T XM LM RL Xa La Ia Xp Lp Ip Rx Ry Ro Rq ⊢
      clear hF hx hi2 hlt
      go_wp2_with fail
      generalize (w22.alloc (.cells #[.int .i64 zp.guest, .slice rrA rrn rrc, .slice rsA rsn rsc, .slice rfA rfn rfc, .slice rpA rpn rpc] 27)) = W23 at *
      refine (moveBegun_any _).mono ?_
      rintro e w24 ⟨rfl, hb⟩
      have T' := Lib.hid (below_next T.out hb)
      have XM' := Lib.hid (XM.out.keep hb LM.out)
      have LM' := Lib.hid (Nat.lt_of_lt_of_le LM.out hb.size)
      have RL' := Lib.hid (RL.out.next hb)
      have Xa' := Lib.hid (Xa.out.keep hb La.out)
      have La' := Lib.hid (Nat.lt_of_lt_of_le La.out hb.size)
      have Ia' := Lib.hid (Ia.out.next hb)
      have Xp' := Lib.hid (Xp.out.keep hb Lp.out)
      have Lp' := Lib.hid (Nat.lt_of_lt_of_le Lp.out hb.size)
      have Ip' := Lib.hid (Ip.out.next hb)
      have Rx' := Lib.hid (Rx.out.next hb)
      have Ry' := Lib.hid (Ry.out.next hb)
      have Ro' := Lib.hid (Ro.out.next hb)
      have Rq' := Lib.hid (Rq.out.next hb)
      have Xr' := Lib.hid (Xr.out.keep hb Lr.out)
      have Lr' := Lib.hid (Nat.lt_of_lt_of_le Lr.out hb.size)
      have Ir' := Lib.hid (Ir.out.next hb)
      clear T XM LM RL Xa La Ia Xp Lp Ip Rx Ry Ro Rq Xr Lr Ir hb
      have T := T'
      have XM := XM'
      have LM := LM'
      have RL := RL'
      have Xa := Xa'
      have La := La'
      have Ia := Ia'
      have Xp := Xp'
      have Lp := Lp'
      have Ip := Ip'
      have Rx := Rx'
      have Ry := Ry'
      have Ro := Ro'
      have Rq := Rq'
      have Xr := Xr'
      have Lr := Lr'
      have Ir := Ir'
      clear T' XM' LM' RL' Xa' La' Ia' Xp' Lp' Ip' Rx' Ry' Ro' Rq' Xr' Lr' Ir'
      obtain ⟨c25_0, c25_1, c25_2, c25_3, c25_4⟩ := Xp.out
      try dsimp only at c25_0 c25_1 c25_2 c25_3 c25_4
      go_wp2_with fail
      refine (KC.out _ _ Ip.out).mono ?_
      rintro e w26 ⟨rfl, hb⟩
      clear c25_0 c25_1 c25_2 c25_3 c25_4
      have T' := Lib.hid (below_next T.out hb)
      have XM' := Lib.hid (XM.out.keep hb LM.out)
      have LM' := Lib.hid (Nat.lt_of_lt_of_le LM.out hb.size)
      have RL' := Lib.hid (RL.out.next hb)
      have Xa' := Lib.hid (Xa.out.keep hb La.out)
      have La' := Lib.hid (Nat.lt_of_lt_of_le La.out hb.size)
      have Ia' := Lib.hid (Ia.out.next hb)
      have Xp' := Lib.hid (Xp.out.keep hb Lp.out)
      have Lp' := Lib.hid (Nat.lt_of_lt_of_le Lp.out hb.size)
      have Ip' := Lib.hid (Ip.out.next hb)
      have Rx' := Lib.hid (Rx.out.next hb)
      have Ry' := Lib.hid (Ry.out.next hb)
      have Ro' := Lib.hid (Ro.out.next hb)
      have Rq' := Lib.hid (Rq.out.next hb)
      have Xr' := Lib.hid (Xr.out.keep hb Lr.out)
      have Lr' := Lib.hid (Nat.lt_of_lt_of_le Lr.out hb.size)
      have Ir' := Lib.hid (Ir.out.next hb)
      clear T XM LM RL Xa La Ia Xp Lp Ip Rx Ry Ro Rq Xr Lr Ir hb
      have T := T'
      have XM := XM'
      have LM := LM'
      have RL := RL'
      have Xa := Xa'
      have La := La'
      have Ia := Ia'
      have Xp := Xp'
      have Lp := Lp'
      have Ip := Ip'
      have Rx := Rx'
      have Ry := Ry'
      have Ro := Ro'
      have Rq := Rq'
      have Xr := Xr'
      have Lr := Lr'
      have Ir := Ir'
      clear T' XM' LM' RL' Xa' La' Ia' Xp' Lp' Ip' Rx' Ry' Ro' Rq' Xr' Lr' Ir'
      go_wp2_with fail
      refine (samePages_any Ax Ay _ _ cx cy _ _ _ Rx.out Ry.out hnx hny).mono ?_
      rintro e w27 ⟨rfl, hb⟩
      have T' := Lib.hid (below_next T.out hb)
      have XM' := Lib.hid (XM.out.keep hb LM.out)
      have LM' := Lib.hid (Nat.lt_of_lt_of_le LM.out hb.size)
      have RL' := Lib.hid (RL.out.next hb)
      have Xa' := Lib.hid (Xa.out.keep hb La.out)
      have La' := Lib.hid (Nat.lt_of_lt_of_le La.out hb.size)
      have Ia' := Lib.hid (Ia.out.next hb)
      have Xp' := Lib.hid (Xp.out.keep hb Lp.out)
      have Lp' := Lib.hid (Nat.lt_of_lt_of_le Lp.out hb.size)
      have Ip' := Lib.hid (Ip.out.next hb)
      have Rx' := Lib.hid (Rx.out.next hb)
      have Ry' := Lib.hid (Ry.out.next hb)
      have Ro' := Lib.hid (Ro.out.next hb)
      have Rq' := Lib.hid (Rq.out.next hb)
      have Xr' := Lib.hid (Xr.out.keep hb Lr.out)
      have Lr' := Lib.hid (Nat.lt_of_lt_of_le Lr.out hb.size)
      have Ir' := Lib.hid (Ir.out.next hb)
      clear T XM LM RL Xa La Ia Xp Lp Ip Rx Ry Ro Rq Xr Lr Ir hb
      have T := T'
      have XM := XM'
      have LM := LM'
      have RL := RL'
      have Xa := Xa'
      have La := La'
      have Ia := Ia'
      have Xp := Xp'
      have Lp := Lp'
      have Ip := Ip'
      have Rx := Rx'
      have Ry := Ry'
      have Ro := Ro'
      have Rq := Rq'
      have Xr := Xr'
      have Lr := Lr'
      have Ir := Ir'
      clear T' XM' LM' RL' Xa' La' Ia' Xp' Lp' Ip' Rx' Ry' Ro' Rq' Xr' Lr' Ir'
      simp only [decide_true]
      go_wp2_with fail
      refine (samePages_any Ao Aq _ _ co cq _ _ _ Ro.out Rq.out hno hnq).mono ?_
      rintro e w28 ⟨rfl, hb⟩
      have T' := Lib.hid (below_next T.out hb)
      have XM' := Lib.hid (XM.out.keep hb LM.out)
      have LM' := Lib.hid (Nat.lt_of_lt_of_le LM.out hb.size)
      have RL' := Lib.hid (RL.out.next hb)
      have Xa' := Lib.hid (Xa.out.keep hb La.out)
      have La' := Lib.hid (Nat.lt_of_lt_of_le La.out hb.size)
      have Ia' := Lib.hid (Ia.out.next hb)
      have Xp' := Lib.hid (Xp.out.keep hb Lp.out)
      have Lp' := Lib.hid (Nat.lt_of_lt_of_le Lp.out hb.size)
      have Ip' := Lib.hid (Ip.out.next hb)
      have Rx' := Lib.hid (Rx.out.next hb)
      have Ry' := Lib.hid (Ry.out.next hb)
      have Ro' := Lib.hid (Ro.out.next hb)
      have Rq' := Lib.hid (Rq.out.next hb)
      have Xr' := Lib.hid (Xr.out.keep hb Lr.out)
      have Lr' := Lib.hid (Nat.lt_of_lt_of_le Lr.out hb.size)
      have Ir' := Lib.hid (Ir.out.next hb)
      clear T XM LM RL Xa La Ia Xp Lp Ip Rx Ry Ro Rq Xr Lr Ir hb
      have T := T'
      have XM := XM'
      have LM := LM'
      have RL := RL'
      have Xa := Xa'
      have La := La'
      have Ia := Ia'
      have Xp := Xp'
      have Lp := Lp'
      have Ip := Ip'
      have Rx := Rx'
      have Ry := Ry'
      have Ro := Ro'
      have Rq := Rq'
      have Xr := Xr'
      have Lr := Lr'
      have Ir := Ir'
      clear T' XM' LM' RL' Xa' La' Ia' Xp' Lp' Ip' Rx' Ry' Ro' Rq' Xr' Lr' Ir'
      simp only [decide_true]
      obtain ⟨g6, g9⟩ := FS.out
      have gsn : zp.slots.length = psn := Ip.out.slen
      rw [gsn] at g9
      have gcap : psn ≤ 4611686018427387903 := Ip.out.scap.1
      clear g6
      have gu : (((psn : Int)) == us + 1) = true := by simpa using g9
      obtain ⟨c29_0, c29_1, c29_2, c29_3, c29_4⟩ := Xp.out
      try dsimp only at c29_0 c29_1 c29_2 c29_3 c29_4
      obtain ⟨c30_0, c30_1, c30_2, c30_3, c30_4⟩ := Xr.out
      try dsimp only at c30_0 c30_1 c30_2 c30_3 c30_4
      go_wp2_with fail
      refine (sameImg_any _ _ zp _ Ip.out Ir.out).mono ?_
      rintro e w31 ⟨rfl, hb⟩
      clear c29_0 c29_1 c29_2 c29_3 c29_4 c30_0 c30_1 c30_2 c30_3 c30_4
      have T' := Lib.hid (below_next T.out hb)
      have XM' := Lib.hid (XM.out.keep hb LM.out)
      have LM' := Lib.hid (Nat.lt_of_lt_of_le LM.out hb.size)
      have RL' := Lib.hid (RL.out.next hb)
      have Xa' := Lib.hid (Xa.out.keep hb La.out)
      have La' := Lib.hid (Nat.lt_of_lt_of_le La.out hb.size)
      have Ia' := Lib.hid (Ia.out.next hb)
      have Xp' := Lib.hid (Xp.out.keep hb Lp.out)
      have Lp' := Lib.hid (Nat.lt_of_lt_of_le Lp.out hb.size)
      have Ip' := Lib.hid (Ip.out.next hb)
      have Rx' := Lib.hid (Rx.out.next hb)
      have Ry' := Lib.hid (Ry.out.next hb)
      have Ro' := Lib.hid (Ro.out.next hb)
      have Rq' := Lib.hid (Rq.out.next hb)
      have Xr' := Lib.hid (Xr.out.keep hb Lr.out)
      have Lr' := Lib.hid (Nat.lt_of_lt_of_le Lr.out hb.size)
      have Ir' := Lib.hid (Ir.out.next hb)
      clear T XM LM RL Xa La Ia Xp Lp Ip Rx Ry Ro Rq Xr Lr Ir hb
      have T := T'
      have XM := XM'
      have LM := LM'
      have RL := RL'
      have Xa := Xa'
      have La := La'
      have Ia := Ia'
      have Xp := Xp'
      have Lp := Lp'
      have Ip := Ip'
      have Rx := Rx'
      have Ry := Ry'
      have Ro := Ro'
      have Rq := Rq'
      have Xr := Xr'
      have Lr := Lr'
      have Ir := Ir'
      clear T' XM' LM' RL' Xa' La' Ia' Xp' Lp' Ip' Rx' Ry' Ro' Rq' Xr' Lr' Ir'
      go_wp2_with fail
      go_ret
      exact ⟨rfl, T.out⟩
    · go_wp2_with fail
      generalize (w8.alloc (.cells #[.int .i64 zp.guest, .slice prA prn prc, .slice psA psn psc, .slice pfA pfn pfc, .slice ppA ppn ppc] 27)) = W9 at *
      refine (moveBegun_any _).mono ?_
      rintro e w10 ⟨rfl, hb⟩
      have T' := Lib.hid (below_next T.out hb)
      have XM' := Lib.hid (XM.out.keep hb LM.out)
      have LM' := Lib.hid (Nat.lt_of_lt_of_le LM.out hb.size)
      have RL' := Lib.hid (RL.out.next hb)
      have Xa' := Lib.hid (Xa.out.keep hb La.out)
      have La' := Lib.hid (Nat.lt_of_lt_of_le La.out hb.size)
      have Ia' := Lib.hid (Ia.out.next hb)
      have Xp' := Lib.hid (Xp.out.keep hb Lp.out)
      have Lp' := Lib.hid (Nat.lt_of_lt_of_le Lp.out hb.size)
      have Ip' := Lib.hid (Ip.out.next hb)
      clear T XM LM RL Xa La Ia Xp Lp Ip hb
      have T := T'
      have XM := XM'
      have LM := LM'
      have RL := RL'
      have Xa := Xa'
      have La := La'
      have Ia := Ia'
      have Xp := Xp'
      have Lp := Lp'
      have Ip := Ip'
      clear T' XM' LM' RL' Xa' La' Ia' Xp' Lp' Ip'
      go_wp2_with fail
      go_ret
      exact ⟨rfl, T.out⟩
end Go.Proofs.Ytmdjoafbckphfaa
