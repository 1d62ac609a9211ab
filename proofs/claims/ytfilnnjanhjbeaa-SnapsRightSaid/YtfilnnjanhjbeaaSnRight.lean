/- The law SnapsRight. Conditions: what is handed in is read below the heap's size. (Printed by gen_snlaws.py.) -/
import Derived.Test.YtfilnnjanhjbeaaSnBegun
import Derived.Test.YtfilnnjanhjbeaaSameImg
import Derived.Test.YtfilnnjanhjbeaaSame
namespace Go.Proofs.Ytfilnnjanhjbeaa
open Go.RowKit Sl
set_option maxRecDepth 100000 in
set_option maxHeartbeats 8000000 in
theorem law_snapsRight (v : IV) (m : Img) (name : ByteArray) (w : World) (h : ImgR w w.heap.size v m) (hsz : name.size ≤ 4611686018427387903) :
    Calls Try.prog 4 #[.agg #[.int .i64 m.guest, .slice v.rA v.rn v.rc, .slice v.sA v.sn v.sc, .slice v.fA v.fn v.fc, .slice v.pA v.pn v.pc], .string name] w fun e w' => e = .returned (.bool true) ∧ Below w.heap.size w w' := by
  have Ka' := fun W (hb : Below w.heap.size w W) => create_any v m name W (h.next hb) hsz
  have Kb' := fun W (hb : Below w.heap.size w W) => revert_any v m name W (h.next hb)
  have Kc' := fun W (hb : Below w.heap.size w W) => delete_any v m name W (h.next hb)
  have KU' := fun W (hb : Below w.heap.size w W) => used_any v.sA v.sn v.sc m.slots W (h.next hb).slots h.scap.1
  have Fa' := fun hh => create_used (m := m) (name := name) hh
  have Fb' := fun hh => revert_used (m := m) (name := name) hh
  have Fc' := fun hh => delete_used (m := m) (name := name) hh
  generalize createI m name = za at *
  generalize revertI m name = zb at *
  generalize deleteI m name = zc at *
  generalize createE m name = ea at *
  generalize pastE m name = eb at *
  have Ua' := fun v W (hi : ImgR W W.heap.size v za) => used_any v.sA v.sn v.sc za.slots W hi.slots hi.scap.1
  have Qa' := fun v W (hi : ImgR W W.heap.size v za) => tcheck_any v za W hi
  generalize usedN za.slots = ua at *
  generalize slotsErr za.slots = sa at *
  generalize checkErr za = qa at *
  have Ub' := fun v W (hi : ImgR W W.heap.size v zb) => used_any v.sA v.sn v.sc zb.slots W hi.slots hi.scap.1
  have Qb' := fun v W (hi : ImgR W W.heap.size v zb) => tcheck_any v zb W hi
  generalize usedN zb.slots = ub at *
  generalize slotsErr zb.slots = sb at *
  generalize checkErr zb = qb at *
  have Uc' := fun v W (hi : ImgR W W.heap.size v zc) => used_any v.sA v.sn v.sc zc.slots W hi.slots hi.scap.1
  have Qc' := fun v W (hi : ImgR W W.heap.size v zc) => tcheck_any v zc W hi
  generalize usedN zc.slots = uc at *
  generalize slotsErr zc.slots = sc at *
  generalize checkErr zc = qc at *
  generalize usedN m.slots = us at *
  generalize slotsErr m.slots = se at *
  have Cea : ea = 0 ∨ ((ea == 0) = false ∧ (ea != 0) = true) := by
    by_cases hh : ea = 0
    · exact .inl hh
    · right; simpa using hh
  have Ceb : eb = 0 ∨ ((eb == 0) = false ∧ (eb != 0) = true) := by
    by_cases hh : eb = 0
    · exact .inl hh
    · right; simpa using hh
  obtain ⟨rA, rn, rc, sA, sn, sc, fA, fn, fc, pA, pn, pc⟩ := v
  dsimp only [imgV] at Ka' Kb' Kc' KU' Ua' Ub' Uc' Qa' Qb' Qc' ⊢
  have Ka := Lib.hid Ka'
  have Kb := Lib.hid Kb'
  have Kc := Lib.hid Kc'
  have KU := Lib.hid KU'
  have Fa := Lib.hid Fa'
  have Fb := Lib.hid Fb'
  have Fc := Lib.hid Fc'
  have Ua := Lib.hid Ua'
  have Ub := Lib.hid Ub'
  have Uc := Lib.hid Uc'
  have Qa := Lib.hid Qa'
  have Qb := Lib.hid Qb'
  have Qc := Lib.hid Qc'
  clear Ka' Kb' Kc' KU' Fa' Fb' Fc' Ua' Ub' Uc' Qa' Qb' Qc' h
  have T0' := below1 w (.cells #[.int .i64 m.guest, .slice rA rn rc, .slice sA sn sc, .slice fA fn fc, .slice pA pn pc] 26)
  have X0' := Box.new w m.guest ⟨rA, rn, rc, sA, sn, sc, fA, fn, fc, pA, pn, pc⟩ 26
  have L0' : w.heap.size < (w.alloc (.cells #[.int .i64 m.guest, .slice rA rn rc, .slice sA sn sc, .slice fA fn fc, .slice pA pn pc] 26)).heap.size := by simp
  have T := Lib.hid T0'
  have XM := Lib.hid X0'
  have LM := Lib.hid L0'
  clear T0' X0' L0'
  obtain ⟨c1_0, c1_1, c1_2, c1_3, c1_4⟩ := XM.out
  try dsimp only at c1_0 c1_1 c1_2 c1_3 c1_4
  go_enter Try.func4, Try.ntmps4
  try dsimp only [List.append]
  clear c1_0 c1_1 c1_2 c1_3 c1_4
  obtain ⟨c2_0, c2_1, c2_2, c2_3, c2_4⟩ := XM.out
  try dsimp only at c2_0 c2_1 c2_2 c2_3 c2_4
  go_wp2_with fail
  generalize (w.alloc (.cells #[.int .i64 m.guest, .slice rA rn rc, .slice sA sn sc, .slice fA fn fc, .slice pA pn pc] 26)) = W3 at *
  refine (Ka.out _ T.out).mono ?_
  rintro e w4 ⟨v, rfl, hF, hb⟩
  clear c2_0 c2_1 c2_2 c2_3 c2_4
  have T' := Lib.hid (below_next T.out hb)
  have XM' := Lib.hid (XM.out.keep hb LM.out)
  have LM' := Lib.hid (Nat.lt_of_lt_of_le LM.out hb.size)
  clear T XM LM hb
  have T := T'
  have XM := XM'
  have LM := LM'
  clear T' XM' LM'
  have hx := Box.new w4 za.guest v 26
  have b1 := below1 w4 (.cells #[.int .i64 za.guest, .slice v.rA v.rn v.rc, .slice v.sA v.sn v.sc, .slice v.fA v.fn v.fc, .slice v.pA v.pn v.pc] 26)
  have hi2 := hF.imgR.next b1
  have hlt : w4.heap.size < (w4.alloc (.cells #[.int .i64 za.guest, .slice v.rA v.rn v.rc, .slice v.sA v.sn v.sc, .slice v.fA v.fn v.fc, .slice v.pA v.pn v.pc] 26)).heap.size := by simp
  have T' := Lib.hid (below_next T.out b1)
  have XM' := Lib.hid (XM.out.keep b1 LM.out)
  have LM' := Lib.hid (Nat.lt_of_lt_of_le LM.out b1.size)
  clear T XM LM b1
  have T := T'
  have XM := XM'
  have LM := LM'
  clear T' XM' LM'
  obtain ⟨arA, arn, arc, asA, asn, asc, afA, afn, afc, apA, apn, apc⟩ := v
  have Ia := Lib.hid hi2
  have Xa := Lib.hid hx
  have La := Lib.hid hlt
  dsimp only [imgV] at Ia Xa La T XM LM ⊢
  clear hF hx hi2 hlt
  obtain ⟨c5_0, c5_1, c5_2, c5_3, c5_4⟩ := XM.out
  try dsimp only at c5_0 c5_1 c5_2 c5_3 c5_4
  go_wp2_with fail
  generalize (w4.alloc (.cells #[.int .i64 za.guest, .slice arA arn arc, .slice asA asn asc, .slice afA afn afc, .slice apA apn apc] 26)) = W6 at *
  refine (Kb.out _ T.out).mono ?_
  rintro e w7 ⟨v, rfl, hF, hb⟩
  clear c5_0 c5_1 c5_2 c5_3 c5_4
  have T' := Lib.hid (below_next T.out hb)
  have XM' := Lib.hid (XM.out.keep hb LM.out)
  have LM' := Lib.hid (Nat.lt_of_lt_of_le LM.out hb.size)
  have Xa' := Lib.hid (Xa.out.keep hb La.out)
  have La' := Lib.hid (Nat.lt_of_lt_of_le La.out hb.size)
  have Ia' := Lib.hid (Ia.out.next hb)
  clear T XM LM Xa La Ia hb
  have T := T'
  have XM := XM'
  have LM := LM'
  have Xa := Xa'
  have La := La'
  have Ia := Ia'
  clear T' XM' LM' Xa' La' Ia'
  have hx := Box.new w7 zb.guest v 26
  have b1 := below1 w7 (.cells #[.int .i64 zb.guest, .slice v.rA v.rn v.rc, .slice v.sA v.sn v.sc, .slice v.fA v.fn v.fc, .slice v.pA v.pn v.pc] 26)
  have hi2 := hF.imgR.next b1
  have hlt : w7.heap.size < (w7.alloc (.cells #[.int .i64 zb.guest, .slice v.rA v.rn v.rc, .slice v.sA v.sn v.sc, .slice v.fA v.fn v.fc, .slice v.pA v.pn v.pc] 26)).heap.size := by simp
  have T' := Lib.hid (below_next T.out b1)
  have XM' := Lib.hid (XM.out.keep b1 LM.out)
  have LM' := Lib.hid (Nat.lt_of_lt_of_le LM.out b1.size)
  have Xa' := Lib.hid (Xa.out.keep b1 La.out)
  have La' := Lib.hid (Nat.lt_of_lt_of_le La.out b1.size)
  have Ia' := Lib.hid (Ia.out.next b1)
  clear T XM LM Xa La Ia b1
  have T := T'
  have XM := XM'
  have LM := LM'
  have Xa := Xa'
  have La := La'
  have Ia := Ia'
  clear T' XM' LM' Xa' La' Ia'
  obtain ⟨brA, brn, brc, bsA, bsn, bsc, bfA, bfn, bfc, bpA, bpn, bpc⟩ := v
  have Ib := Lib.hid hi2
  have Xb := Lib.hid hx
  have Lb := Lib.hid hlt
  dsimp only [imgV] at Ib Xb Lb T XM LM Xa La Ia ⊢
  clear hF hx hi2 hlt
  obtain ⟨c8_0, c8_1, c8_2, c8_3, c8_4⟩ := XM.out
  try dsimp only at c8_0 c8_1 c8_2 c8_3 c8_4
  go_wp2_with fail
  generalize (w7.alloc (.cells #[.int .i64 zb.guest, .slice brA brn brc, .slice bsA bsn bsc, .slice bfA bfn bfc, .slice bpA bpn bpc] 26)) = W9 at *
  refine (Kc.out _ T.out).mono ?_
  rintro e w10 ⟨v, rfl, hF, hb⟩
  clear c8_0 c8_1 c8_2 c8_3 c8_4
  have T' := Lib.hid (below_next T.out hb)
  have XM' := Lib.hid (XM.out.keep hb LM.out)
  have LM' := Lib.hid (Nat.lt_of_lt_of_le LM.out hb.size)
  have Xa' := Lib.hid (Xa.out.keep hb La.out)
  have La' := Lib.hid (Nat.lt_of_lt_of_le La.out hb.size)
  have Ia' := Lib.hid (Ia.out.next hb)
  have Xb' := Lib.hid (Xb.out.keep hb Lb.out)
  have Lb' := Lib.hid (Nat.lt_of_lt_of_le Lb.out hb.size)
  have Ib' := Lib.hid (Ib.out.next hb)
  clear T XM LM Xa La Ia Xb Lb Ib hb
  have T := T'
  have XM := XM'
  have LM := LM'
  have Xa := Xa'
  have La := La'
  have Ia := Ia'
  have Xb := Xb'
  have Lb := Lb'
  have Ib := Ib'
  clear T' XM' LM' Xa' La' Ia' Xb' Lb' Ib'
  have hx := Box.new w10 zc.guest v 26
  have b1 := below1 w10 (.cells #[.int .i64 zc.guest, .slice v.rA v.rn v.rc, .slice v.sA v.sn v.sc, .slice v.fA v.fn v.fc, .slice v.pA v.pn v.pc] 26)
  have hi2 := hF.imgR.next b1
  have hlt : w10.heap.size < (w10.alloc (.cells #[.int .i64 zc.guest, .slice v.rA v.rn v.rc, .slice v.sA v.sn v.sc, .slice v.fA v.fn v.fc, .slice v.pA v.pn v.pc] 26)).heap.size := by simp
  have T' := Lib.hid (below_next T.out b1)
  have XM' := Lib.hid (XM.out.keep b1 LM.out)
  have LM' := Lib.hid (Nat.lt_of_lt_of_le LM.out b1.size)
  have Xa' := Lib.hid (Xa.out.keep b1 La.out)
  have La' := Lib.hid (Nat.lt_of_lt_of_le La.out b1.size)
  have Ia' := Lib.hid (Ia.out.next b1)
  have Xb' := Lib.hid (Xb.out.keep b1 Lb.out)
  have Lb' := Lib.hid (Nat.lt_of_lt_of_le Lb.out b1.size)
  have Ib' := Lib.hid (Ib.out.next b1)
  clear T XM LM Xa La Ia Xb Lb Ib b1
  have T := T'
  have XM := XM'
  have LM := LM'
  have Xa := Xa'
  have La := La'
  have Ia := Ia'
  have Xb := Xb'
  have Lb := Lb'
  have Ib := Ib'
  clear T' XM' LM' Xa' La' Ia' Xb' Lb' Ib'
  obtain ⟨crA, crn, crc, csA, csn, csc, cfA, cfn, cfc, cpA, cpn, cpc⟩ := v
  have Ic := Lib.hid hi2
  have Xc := Lib.hid hx
  have Lc := Lib.hid hlt
  dsimp only [imgV] at Ic Xc Lc T XM LM Xa La Ia Xb Lb Ib ⊢
  clear hF hx hi2 hlt
  obtain ⟨c11_0, c11_1, c11_2, c11_3, c11_4⟩ := XM.out
  try dsimp only at c11_0 c11_1 c11_2 c11_3 c11_4
  go_wp2_with fail
  generalize (w10.alloc (.cells #[.int .i64 zc.guest, .slice crA crn crc, .slice csA csn csc, .slice cfA cfn cfc, .slice cpA cpn cpc] 26)) = W12 at *
  refine (KU.out _ T.out).mono ?_
  rintro e w13 ⟨rfl, hb⟩
  clear c11_0 c11_1 c11_2 c11_3 c11_4
  have T' := Lib.hid (below_next T.out hb)
  have XM' := Lib.hid (XM.out.keep hb LM.out)
  have LM' := Lib.hid (Nat.lt_of_lt_of_le LM.out hb.size)
  have Xa' := Lib.hid (Xa.out.keep hb La.out)
  have La' := Lib.hid (Nat.lt_of_lt_of_le La.out hb.size)
  have Ia' := Lib.hid (Ia.out.next hb)
  have Xb' := Lib.hid (Xb.out.keep hb Lb.out)
  have Lb' := Lib.hid (Nat.lt_of_lt_of_le Lb.out hb.size)
  have Ib' := Lib.hid (Ib.out.next hb)
  have Xc' := Lib.hid (Xc.out.keep hb Lc.out)
  have Lc' := Lib.hid (Nat.lt_of_lt_of_le Lc.out hb.size)
  have Ic' := Lib.hid (Ic.out.next hb)
  clear T XM LM Xa La Ia Xb Lb Ib Xc Lc Ic hb
  have T := T'
  have XM := XM'
  have LM := LM'
  have Xa := Xa'
  have La := La'
  have Ia := Ia'
  have Xb := Xb'
  have Lb := Lb'
  have Ib := Ib'
  have Xc := Xc'
  have Lc := Lc'
  have Ic := Ic'
  clear T' XM' LM' Xa' La' Ia' Xb' Lb' Ib' Xc' Lc' Ic'
  clear XM LM
  rcases Cea with h0 | h0
  · subst h0
    obtain ⟨f1, f2, f3, f4⟩ := Fa.out (by trivial)
    subst f1 f3
    try subst f2
    clear Fa
    have f4 := f4.symm
    subst f4
    obtain ⟨c14_0, c14_1, c14_2, c14_3, c14_4⟩ := Xa.out
    try dsimp only at c14_0 c14_1 c14_2 c14_3 c14_4
    go_wp2_with fail
    refine (Ua.out _ _ Ia.out).mono ?_
    rintro e w15 ⟨rfl, hb⟩
    clear c14_0 c14_1 c14_2 c14_3 c14_4
    have T' := Lib.hid (below_next T.out hb)
    have Xa' := Lib.hid (Xa.out.keep hb La.out)
    have La' := Lib.hid (Nat.lt_of_lt_of_le La.out hb.size)
    have Ia' := Lib.hid (Ia.out.next hb)
    have Xb' := Lib.hid (Xb.out.keep hb Lb.out)
    have Lb' := Lib.hid (Nat.lt_of_lt_of_le Lb.out hb.size)
    have Ib' := Lib.hid (Ib.out.next hb)
    have Xc' := Lib.hid (Xc.out.keep hb Lc.out)
    have Lc' := Lib.hid (Nat.lt_of_lt_of_le Lc.out hb.size)
    have Ic' := Lib.hid (Ic.out.next hb)
    clear T Xa La Ia Xb Lb Ib Xc Lc Ic hb
    have T := T'
    have Xa := Xa'
    have La := La'
    have Ia := Ia'
    have Xb := Xb'
    have Lb := Lb'
    have Ib := Ib'
    have Xc := Xc'
    have Lc := Lc'
    have Ic := Ic'
    clear T' Xa' La' Ia' Xb' Lb' Ib' Xc' Lc' Ic'
    obtain ⟨c16_0, c16_1, c16_2, c16_3, c16_4⟩ := Xa.out
    try dsimp only at c16_0 c16_1 c16_2 c16_3 c16_4
    go_wp2_with fail
    refine (Qa.out _ _ Ia.out).mono ?_
    rintro e w17 ⟨rfl, hb⟩
    clear c16_0 c16_1 c16_2 c16_3 c16_4
    have T' := Lib.hid (below_next T.out hb)
    have Xa' := Lib.hid (Xa.out.keep hb La.out)
    have La' := Lib.hid (Nat.lt_of_lt_of_le La.out hb.size)
    have Ia' := Lib.hid (Ia.out.next hb)
    have Xb' := Lib.hid (Xb.out.keep hb Lb.out)
    have Lb' := Lib.hid (Nat.lt_of_lt_of_le Lb.out hb.size)
    have Ib' := Lib.hid (Ib.out.next hb)
    have Xc' := Lib.hid (Xc.out.keep hb Lc.out)
    have Lc' := Lib.hid (Nat.lt_of_lt_of_le Lc.out hb.size)
    have Ic' := Lib.hid (Ic.out.next hb)
    clear T Xa La Ia Xb Lb Ib Xc Lc Ic hb
    have T := T'
    have Xa := Xa'
    have La := La'
    have Ia := Ia'
    have Xb := Xb'
    have Lb := Lb'
    have Ib := Ib'
    have Xc := Xc'
    have Lc := Lc'
    have Ic := Ic'
    clear T' Xa' La' Ia' Xb' Lb' Ib' Xc' Lc' Ic'
    rcases Ceb with h1 | h1
    · subst h1
      obtain ⟨f1, f2, f3, f4⟩ := Fb.out (by trivial)
      subst f1 f3
      try subst f2
      clear Fb
      have gb1 : decide (us < ub) = false := by simpa using f4
      have gb2 : decide (ub ≤ us) = true := by simpa using f4
      have gb3 : ¬ us < ub := by omega
      obtain ⟨c18_0, c18_1, c18_2, c18_3, c18_4⟩ := Xb.out
      try dsimp only at c18_0 c18_1 c18_2 c18_3 c18_4
      go_wp2_with fail
      refine (Ub.out _ _ Ib.out).mono ?_
      rintro e w19 ⟨rfl, hb⟩
      clear c18_0 c18_1 c18_2 c18_3 c18_4
      have T' := Lib.hid (below_next T.out hb)
      have Xa' := Lib.hid (Xa.out.keep hb La.out)
      have La' := Lib.hid (Nat.lt_of_lt_of_le La.out hb.size)
      have Ia' := Lib.hid (Ia.out.next hb)
      have Xb' := Lib.hid (Xb.out.keep hb Lb.out)
      have Lb' := Lib.hid (Nat.lt_of_lt_of_le Lb.out hb.size)
      have Ib' := Lib.hid (Ib.out.next hb)
      have Xc' := Lib.hid (Xc.out.keep hb Lc.out)
      have Lc' := Lib.hid (Nat.lt_of_lt_of_le Lc.out hb.size)
      have Ic' := Lib.hid (Ic.out.next hb)
      clear T Xa La Ia Xb Lb Ib Xc Lc Ic hb
      have T := T'
      have Xa := Xa'
      have La := La'
      have Ia := Ia'
      have Xb := Xb'
      have Lb := Lb'
      have Ib := Ib'
      have Xc := Xc'
      have Lc := Lc'
      have Ic := Ic'
      clear T' Xa' La' Ia' Xb' Lb' Ib' Xc' Lc' Ic'
      obtain ⟨c20_0, c20_1, c20_2, c20_3, c20_4⟩ := Xb.out
      try dsimp only at c20_0 c20_1 c20_2 c20_3 c20_4
      go_wp2_with fail
      refine (Qb.out _ _ Ib.out).mono ?_
      rintro e w21 ⟨rfl, hb⟩
      clear c20_0 c20_1 c20_2 c20_3 c20_4
      have T' := Lib.hid (below_next T.out hb)
      have Xa' := Lib.hid (Xa.out.keep hb La.out)
      have La' := Lib.hid (Nat.lt_of_lt_of_le La.out hb.size)
      have Ia' := Lib.hid (Ia.out.next hb)
      have Xb' := Lib.hid (Xb.out.keep hb Lb.out)
      have Lb' := Lib.hid (Nat.lt_of_lt_of_le Lb.out hb.size)
      have Ib' := Lib.hid (Ib.out.next hb)
      have Xc' := Lib.hid (Xc.out.keep hb Lc.out)
      have Lc' := Lib.hid (Nat.lt_of_lt_of_le Lc.out hb.size)
      have Ic' := Lib.hid (Ic.out.next hb)
      clear T Xa La Ia Xb Lb Ib Xc Lc Ic hb
      have T := T'
      have Xa := Xa'
      have La := La'
      have Ia := Ia'
      have Xb := Xb'
      have Lb := Lb'
      have Ib := Ib'
      have Xc := Xc'
      have Lc := Lc'
      have Ic := Ic'
      clear T' Xa' La' Ia' Xb' Lb' Ib' Xc' Lc' Ic'
      obtain ⟨f1, f2, f3, f4⟩ := Fc.out (by trivial)
      subst f1 f3
      try subst f2
      clear Fc
      have gc1 : decide (us < uc) = false := by simpa using f4
      have gc2 : decide (uc ≤ us) = true := by simpa using f4
      have gc3 : ¬ us < uc := by omega
      obtain ⟨c22_0, c22_1, c22_2, c22_3, c22_4⟩ := Xc.out
      try dsimp only at c22_0 c22_1 c22_2 c22_3 c22_4
      go_wp2_with fail
      refine (Uc.out _ _ Ic.out).mono ?_
      rintro e w23 ⟨rfl, hb⟩
      clear c22_0 c22_1 c22_2 c22_3 c22_4
      have T' := Lib.hid (below_next T.out hb)
      have Xa' := Lib.hid (Xa.out.keep hb La.out)
      have La' := Lib.hid (Nat.lt_of_lt_of_le La.out hb.size)
      have Ia' := Lib.hid (Ia.out.next hb)
      have Xb' := Lib.hid (Xb.out.keep hb Lb.out)
      have Lb' := Lib.hid (Nat.lt_of_lt_of_le Lb.out hb.size)
      have Ib' := Lib.hid (Ib.out.next hb)
      have Xc' := Lib.hid (Xc.out.keep hb Lc.out)
      have Lc' := Lib.hid (Nat.lt_of_lt_of_le Lc.out hb.size)
      have Ic' := Lib.hid (Ic.out.next hb)
      clear T Xa La Ia Xb Lb Ib Xc Lc Ic hb
      have T := T'
      have Xa := Xa'
      have La := La'
      have Ia := Ia'
      have Xb := Xb'
      have Lb := Lb'
      have Ib := Ib'
      have Xc := Xc'
      have Lc := Lc'
      have Ic := Ic'
      clear T' Xa' La' Ia' Xb' Lb' Ib' Xc' Lc' Ic'
      go_wp2_with fail
      refine (snapsBegun_any _).mono ?_
      rintro e w24 ⟨rfl, hb⟩
      have T' := Lib.hid (below_next T.out hb)
      have Xa' := Lib.hid (Xa.out.keep hb La.out)
      have La' := Lib.hid (Nat.lt_of_lt_of_le La.out hb.size)
      have Ia' := Lib.hid (Ia.out.next hb)
      have Xb' := Lib.hid (Xb.out.keep hb Lb.out)
      have Lb' := Lib.hid (Nat.lt_of_lt_of_le Lb.out hb.size)
      have Ib' := Lib.hid (Ib.out.next hb)
      have Xc' := Lib.hid (Xc.out.keep hb Lc.out)
      have Lc' := Lib.hid (Nat.lt_of_lt_of_le Lc.out hb.size)
      have Ic' := Lib.hid (Ic.out.next hb)
      clear T Xa La Ia Xb Lb Ib Xc Lc Ic hb
      have T := T'
      have Xa := Xa'
      have La := La'
      have Ia := Ia'
      have Xb := Xb'
      have Lb := Lb'
      have Ib := Ib'
      have Xc := Xc'
      have Lc := Lc'
      have Ic := Ic'
      clear T' Xa' La' Ia' Xb' Lb' Ib' Xc' Lc' Ic'
      obtain ⟨c25_0, c25_1, c25_2, c25_3, c25_4⟩ := Xc.out
      try dsimp only at c25_0 c25_1 c25_2 c25_3 c25_4
      go_wp2_with fail
      refine (Qc.out _ _ Ic.out).mono ?_
      rintro e w26 ⟨rfl, hb⟩
      clear c25_0 c25_1 c25_2 c25_3 c25_4
      have T' := Lib.hid (below_next T.out hb)
      have Xa' := Lib.hid (Xa.out.keep hb La.out)
      have La' := Lib.hid (Nat.lt_of_lt_of_le La.out hb.size)
      have Ia' := Lib.hid (Ia.out.next hb)
      have Xb' := Lib.hid (Xb.out.keep hb Lb.out)
      have Lb' := Lib.hid (Nat.lt_of_lt_of_le Lb.out hb.size)
      have Ib' := Lib.hid (Ib.out.next hb)
      have Xc' := Lib.hid (Xc.out.keep hb Lc.out)
      have Lc' := Lib.hid (Nat.lt_of_lt_of_le Lc.out hb.size)
      have Ic' := Lib.hid (Ic.out.next hb)
      clear T Xa La Ia Xb Lb Ib Xc Lc Ic hb
      have T := T'
      have Xa := Xa'
      have La := La'
      have Ia := Ia'
      have Xb := Xb'
      have Lb := Lb'
      have Ib := Ib'
      have Xc := Xc'
      have Lc := Lc'
      have Ic := Ic'
      clear T' Xa' La' Ia' Xb' Lb' Ib' Xc' Lc' Ic'
      go_wp2_with fail
      go_ret
      exact ⟨rfl, T.out⟩
    · obtain ⟨h1, h2⟩ := h1
      clear Fb Fc
      go_wp2_with fail
      refine (snapsBegun_any _).mono ?_
      rintro e w18 ⟨rfl, hb⟩
      have T' := Lib.hid (below_next T.out hb)
      have Xa' := Lib.hid (Xa.out.keep hb La.out)
      have La' := Lib.hid (Nat.lt_of_lt_of_le La.out hb.size)
      have Ia' := Lib.hid (Ia.out.next hb)
      have Xb' := Lib.hid (Xb.out.keep hb Lb.out)
      have Lb' := Lib.hid (Nat.lt_of_lt_of_le Lb.out hb.size)
      have Ib' := Lib.hid (Ib.out.next hb)
      have Xc' := Lib.hid (Xc.out.keep hb Lc.out)
      have Lc' := Lib.hid (Nat.lt_of_lt_of_le Lc.out hb.size)
      have Ic' := Lib.hid (Ic.out.next hb)
      clear T Xa La Ia Xb Lb Ib Xc Lc Ic hb
      have T := T'
      have Xa := Xa'
      have La := La'
      have Ia := Ia'
      have Xb := Xb'
      have Lb := Lb'
      have Ib := Ib'
      have Xc := Xc'
      have Lc := Lc'
      have Ic := Ic'
      clear T' Xa' La' Ia' Xb' Lb' Ib' Xc' Lc' Ic'
      go_wp2_with fail
      go_ret
      exact ⟨rfl, T.out⟩
  · obtain ⟨h3, h4⟩ := h0
    clear Fa
    rcases Ceb with h1 | h1
    · subst h1
      obtain ⟨f1, f2, f3, f4⟩ := Fb.out (by trivial)
      subst f1 f3
      try subst f2
      clear Fb
      have gb1 : decide (us < ub) = false := by simpa using f4
      have gb2 : decide (ub ≤ us) = true := by simpa using f4
      have gb3 : ¬ us < ub := by omega
      obtain ⟨c14_0, c14_1, c14_2, c14_3, c14_4⟩ := Xb.out
      try dsimp only at c14_0 c14_1 c14_2 c14_3 c14_4
      go_wp2_with fail
      refine (Ub.out _ _ Ib.out).mono ?_
      rintro e w15 ⟨rfl, hb⟩
      clear c14_0 c14_1 c14_2 c14_3 c14_4
      have T' := Lib.hid (below_next T.out hb)
      have Xa' := Lib.hid (Xa.out.keep hb La.out)
      have La' := Lib.hid (Nat.lt_of_lt_of_le La.out hb.size)
      have Ia' := Lib.hid (Ia.out.next hb)
      have Xb' := Lib.hid (Xb.out.keep hb Lb.out)
      have Lb' := Lib.hid (Nat.lt_of_lt_of_le Lb.out hb.size)
      have Ib' := Lib.hid (Ib.out.next hb)
      have Xc' := Lib.hid (Xc.out.keep hb Lc.out)
      have Lc' := Lib.hid (Nat.lt_of_lt_of_le Lc.out hb.size)
      have Ic' := Lib.hid (Ic.out.next hb)
      clear T Xa La Ia Xb Lb Ib Xc Lc Ic hb
      have T := T'
      have Xa := Xa'
      have La := La'
      have Ia := Ia'
      have Xb := Xb'
      have Lb := Lb'
      have Ib := Ib'
      have Xc := Xc'
      have Lc := Lc'
      have Ic := Ic'
      clear T' Xa' La' Ia' Xb' Lb' Ib' Xc' Lc' Ic'
      obtain ⟨c16_0, c16_1, c16_2, c16_3, c16_4⟩ := Xb.out
      try dsimp only at c16_0 c16_1 c16_2 c16_3 c16_4
      go_wp2_with fail
      refine (Qb.out _ _ Ib.out).mono ?_
      rintro e w17 ⟨rfl, hb⟩
      clear c16_0 c16_1 c16_2 c16_3 c16_4
      have T' := Lib.hid (below_next T.out hb)
      have Xa' := Lib.hid (Xa.out.keep hb La.out)
      have La' := Lib.hid (Nat.lt_of_lt_of_le La.out hb.size)
      have Ia' := Lib.hid (Ia.out.next hb)
      have Xb' := Lib.hid (Xb.out.keep hb Lb.out)
      have Lb' := Lib.hid (Nat.lt_of_lt_of_le Lb.out hb.size)
      have Ib' := Lib.hid (Ib.out.next hb)
      have Xc' := Lib.hid (Xc.out.keep hb Lc.out)
      have Lc' := Lib.hid (Nat.lt_of_lt_of_le Lc.out hb.size)
      have Ic' := Lib.hid (Ic.out.next hb)
      clear T Xa La Ia Xb Lb Ib Xc Lc Ic hb
      have T := T'
      have Xa := Xa'
      have La := La'
      have Ia := Ia'
      have Xb := Xb'
      have Lb := Lb'
      have Ib := Ib'
      have Xc := Xc'
      have Lc := Lc'
      have Ic := Ic'
      clear T' Xa' La' Ia' Xb' Lb' Ib' Xc' Lc' Ic'
      obtain ⟨f1, f2, f3, f4⟩ := Fc.out (by trivial)
      subst f1 f3
      try subst f2
      clear Fc
      have gc1 : decide (us < uc) = false := by simpa using f4
      have gc2 : decide (uc ≤ us) = true := by simpa using f4
      have gc3 : ¬ us < uc := by omega
      obtain ⟨c18_0, c18_1, c18_2, c18_3, c18_4⟩ := Xc.out
      try dsimp only at c18_0 c18_1 c18_2 c18_3 c18_4
      go_wp2_with fail
      refine (Uc.out _ _ Ic.out).mono ?_
      rintro e w19 ⟨rfl, hb⟩
      clear c18_0 c18_1 c18_2 c18_3 c18_4
      have T' := Lib.hid (below_next T.out hb)
      have Xa' := Lib.hid (Xa.out.keep hb La.out)
      have La' := Lib.hid (Nat.lt_of_lt_of_le La.out hb.size)
      have Ia' := Lib.hid (Ia.out.next hb)
      have Xb' := Lib.hid (Xb.out.keep hb Lb.out)
      have Lb' := Lib.hid (Nat.lt_of_lt_of_le Lb.out hb.size)
      have Ib' := Lib.hid (Ib.out.next hb)
      have Xc' := Lib.hid (Xc.out.keep hb Lc.out)
      have Lc' := Lib.hid (Nat.lt_of_lt_of_le Lc.out hb.size)
      have Ic' := Lib.hid (Ic.out.next hb)
      clear T Xa La Ia Xb Lb Ib Xc Lc Ic hb
      have T := T'
      have Xa := Xa'
      have La := La'
      have Ia := Ia'
      have Xb := Xb'
      have Lb := Lb'
      have Ib := Ib'
      have Xc := Xc'
      have Lc := Lc'
      have Ic := Ic'
      clear T' Xa' La' Ia' Xb' Lb' Ib' Xc' Lc' Ic'
      go_wp2_with fail
      refine (snapsBegun_any _).mono ?_
      rintro e w20 ⟨rfl, hb⟩
      have T' := Lib.hid (below_next T.out hb)
      have Xa' := Lib.hid (Xa.out.keep hb La.out)
      have La' := Lib.hid (Nat.lt_of_lt_of_le La.out hb.size)
      have Ia' := Lib.hid (Ia.out.next hb)
      have Xb' := Lib.hid (Xb.out.keep hb Lb.out)
      have Lb' := Lib.hid (Nat.lt_of_lt_of_le Lb.out hb.size)
      have Ib' := Lib.hid (Ib.out.next hb)
      have Xc' := Lib.hid (Xc.out.keep hb Lc.out)
      have Lc' := Lib.hid (Nat.lt_of_lt_of_le Lc.out hb.size)
      have Ic' := Lib.hid (Ic.out.next hb)
      clear T Xa La Ia Xb Lb Ib Xc Lc Ic hb
      have T := T'
      have Xa := Xa'
      have La := La'
      have Ia := Ia'
      have Xb := Xb'
      have Lb := Lb'
      have Ib := Ib'
      have Xc := Xc'
      have Lc := Lc'
      have Ic := Ic'
      clear T' Xa' La' Ia' Xb' Lb' Ib' Xc' Lc' Ic'
      obtain ⟨c21_0, c21_1, c21_2, c21_3, c21_4⟩ := Xc.out
      try dsimp only at c21_0 c21_1 c21_2 c21_3 c21_4
      go_wp2_with fail
      refine (Qc.out _ _ Ic.out).mono ?_
      rintro e w22 ⟨rfl, hb⟩
      clear c21_0 c21_1 c21_2 c21_3 c21_4
      have T' := Lib.hid (below_next T.out hb)
      have Xa' := Lib.hid (Xa.out.keep hb La.out)
      have La' := Lib.hid (Nat.lt_of_lt_of_le La.out hb.size)
      have Ia' := Lib.hid (Ia.out.next hb)
      have Xb' := Lib.hid (Xb.out.keep hb Lb.out)
      have Lb' := Lib.hid (Nat.lt_of_lt_of_le Lb.out hb.size)
      have Ib' := Lib.hid (Ib.out.next hb)
      have Xc' := Lib.hid (Xc.out.keep hb Lc.out)
      have Lc' := Lib.hid (Nat.lt_of_lt_of_le Lc.out hb.size)
      have Ic' := Lib.hid (Ic.out.next hb)
      clear T Xa La Ia Xb Lb Ib Xc Lc Ic hb
      have T := T'
      have Xa := Xa'
      have La := La'
      have Ia := Ia'
      have Xb := Xb'
      have Lb := Lb'
      have Ib := Ib'
      have Xc := Xc'
      have Lc := Lc'
      have Ic := Ic'
      clear T' Xa' La' Ia' Xb' Lb' Ib' Xc' Lc' Ic'
      go_wp2_with fail
      go_ret
      exact ⟨rfl, T.out⟩
    · obtain ⟨h1, h2⟩ := h1
      clear Fb Fc
      go_wp2_with fail
      refine (snapsBegun_any _).mono ?_
      rintro e w14 ⟨rfl, hb⟩
      have T' := Lib.hid (below_next T.out hb)
      have Xa' := Lib.hid (Xa.out.keep hb La.out)
      have La' := Lib.hid (Nat.lt_of_lt_of_le La.out hb.size)
      have Ia' := Lib.hid (Ia.out.next hb)
      have Xb' := Lib.hid (Xb.out.keep hb Lb.out)
      have Lb' := Lib.hid (Nat.lt_of_lt_of_le Lb.out hb.size)
      have Ib' := Lib.hid (Ib.out.next hb)
      have Xc' := Lib.hid (Xc.out.keep hb Lc.out)
      have Lc' := Lib.hid (Nat.lt_of_lt_of_le Lc.out hb.size)
      have Ic' := Lib.hid (Ic.out.next hb)
      clear T Xa La Ia Xb Lb Ib Xc Lc Ic hb
      have T := T'
      have Xa := Xa'
      have La := La'
      have Ia := Ia'
      have Xb := Xb'
      have Lb := Lb'
      have Ib := Ib'
      have Xc := Xc'
      have Lc := Lc'
      have Ic := Ic'
      clear T' Xa' La' Ia' Xb' Lb' Ib' Xc' Lc' Ic'
      go_wp2_with fail
      go_ret
      exact ⟨rfl, T.out⟩
end Go.Proofs.Ytfilnnjanhjbeaa
