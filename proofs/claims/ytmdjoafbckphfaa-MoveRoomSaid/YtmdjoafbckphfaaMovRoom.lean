/- The law MoveRoom. Conditions: what is handed in is read below the heap's size. (Printed by gen_movlaws.py.) -/
import Derived.Test.YtmdjoafbckphfaaMovBeg
import Derived.Test.YtmdjoafbckphfaaWPast
import Derived.Test.YtmdjoafbckphfaaSameImg
namespace Go.Proofs.Ytmdjoafbckphfaa
open Go.RowKit Sl
theorem allM_len16 (m : Img) : (allM m).length ≤ 16 := by
  by_cases h : checkErr m = 0
  · exact (pagesErr_len (allM_facts h).1).1
  · rw [allM_no h]; exact Nat.zero_le _
set_option maxRecDepth 100000 in
set_option maxHeartbeats 8000000 in
theorem law_moveRoom (v : IV) (m : Img) (n : Int) (pg : ByteArray) (w : World) (h : ImgR w w.heap.size v m) :
    Calls Try.prog 6 #[.agg #[.int .i64 m.guest, .slice v.rA v.rn v.rc, .slice v.sA v.sn v.sc, .slice v.fA v.fn v.fc, .slice v.pA v.pn v.pc], .int .i64 n, .string pg] w fun e w' => e = .returned (.bool true) ∧ Below w.heap.size w w' := by
  have Kp' := fun W (hb : Below w.heap.size w W) => mpack_any v m W (h.next hb)
  have Ka' := fun W (hb : Below w.heap.size w W) => write_any v m n pg W (h.next hb) (fun x => write_hw x)
  have Kb' := fun v W (hi : ImgR W W.heap.size v (packI m)) => write_any v (packI m) n pg W hi (fun x => write_hw x)
  have Fe' : checkErr m = 0 → writeE (packI m) n pg = writeE m n pg := fun hh => by rw [packI_ok hh]; exact pack_writeE hh n pg
  have Ff' : checkErr m = 0 → writeE m n pg = 0 → checkErr (writeI m n pg) = 0 ∧ checkErr (writeI (packI m) n pg) = 0 ∧ allM (writeI (packI m) n pg) = allM (writeI m n pg) := fun hh h2 => by rw [packI_ok hh]; exact pack_room hh h2
  generalize writeI (packI m) n pg = zb at *
  generalize writeE (packI m) n pg = eb at *
  generalize writeI m n pg = za at *
  generalize writeE m n pg = ea at *
  generalize packI m = zp at *
  generalize checkErr m = ep at *
  have KA' := fun v W (hi : ImgR W W.heap.size v za) => tAll_any v za W hi
  have KB' := fun v W (hi : ImgR W W.heap.size v zb) => tAll_any v zb W hi
  have EA := allM_len16 za
  have EB := allM_len16 zb
  have Cep : ep = 0 ∨ (ep != 0) = true := by
    by_cases hh : ep = 0
    · exact .inl hh
    · right; simpa using hh
  have Cea : ea = 0 ∨ (ea != 0) = true := by
    by_cases hh : ea = 0
    · exact .inl hh
    · right; simpa using hh
  obtain ⟨rA, rn, rc, sA, sn, sc, fA, fn, fc, pA, pn, pc⟩ := v
  dsimp only [imgV] at Kp' Ka' Kb' KA' KB' ⊢
  have Kp := Lib.hid Kp'
  have Ka := Lib.hid Ka'
  have Kb := Lib.hid Kb'
  have Fe := Lib.hid Fe'
  have Ff := Lib.hid Ff'
  have KA := Lib.hid KA'
  have KB := Lib.hid KB'
  clear Kp' Ka' Kb' Fe' Ff' KA' KB' h
  have T0' := below1 w (.cells #[.int .i64 m.guest, .slice rA rn rc, .slice sA sn sc, .slice fA fn fc, .slice pA pn pc] 27)
  have X0' := Box.new w m.guest ⟨rA, rn, rc, sA, sn, sc, fA, fn, fc, pA, pn, pc⟩ 27
  have L0' : w.heap.size < (w.alloc (.cells #[.int .i64 m.guest, .slice rA rn rc, .slice sA sn sc, .slice fA fn fc, .slice pA pn pc] 27)).heap.size := by simp
  have T := Lib.hid T0'
  have XM := Lib.hid X0'
  have LM := Lib.hid L0'
  clear T0' X0' L0'
  obtain ⟨c1_0, c1_1, c1_2, c1_3, c1_4⟩ := XM.out
  try dsimp only at c1_0 c1_1 c1_2 c1_3 c1_4
  go_enter Try.func6, Try.ntmps6
  try dsimp only [List.append]
  clear c1_0 c1_1 c1_2 c1_3 c1_4
  obtain ⟨c2_0, c2_1, c2_2, c2_3, c2_4⟩ := XM.out
  try dsimp only at c2_0 c2_1 c2_2 c2_3 c2_4
  go_wp2_with fail
  generalize (w.alloc (.cells #[.int .i64 m.guest, .slice rA rn rc, .slice sA sn sc, .slice fA fn fc, .slice pA pn pc] 27)) = W3 at *
  refine (Kp.out _ T.out).mono ?_
  rintro e w4 ⟨v, rfl, hF, hb⟩
  clear c2_0 c2_1 c2_2 c2_3 c2_4
  have T' := Lib.hid (below_next T.out hb)
  have XM' := Lib.hid (XM.out.keep hb LM.out)
  have LM' := Lib.hid (Nat.lt_of_lt_of_le LM.out hb.size)
  clear T XM LM hb
  have T := T'
  have XM := XM'
  have LM := LM'
  clear T' XM' LM'
  have hx := Box.new w4 zp.guest v 27
  have b1 := below1 w4 (.cells #[.int .i64 zp.guest, .slice v.rA v.rn v.rc, .slice v.sA v.sn v.sc, .slice v.fA v.fn v.fc, .slice v.pA v.pn v.pc] 27)
  have hi2 := hF.imgR.next b1
  have hlt : w4.heap.size < (w4.alloc (.cells #[.int .i64 zp.guest, .slice v.rA v.rn v.rc, .slice v.sA v.sn v.sc, .slice v.fA v.fn v.fc, .slice v.pA v.pn v.pc] 27)).heap.size := by simp
  have T' := Lib.hid (below_next T.out b1)
  have XM' := Lib.hid (XM.out.keep b1 LM.out)
  have LM' := Lib.hid (Nat.lt_of_lt_of_le LM.out b1.size)
  clear T XM LM b1
  have T := T'
  have XM := XM'
  have LM := LM'
  clear T' XM' LM'
  obtain ⟨prA, prn, prc, psA, psn, psc, pfA, pfn, pfc, ppA, ppn, ppc⟩ := v
  have Ip := Lib.hid hi2
  have Xp := Lib.hid hx
  have Lp := Lib.hid hlt
  dsimp only [imgV] at Ip Xp Lp T XM LM ⊢
  clear hF hx hi2 hlt
  obtain ⟨c5_0, c5_1, c5_2, c5_3, c5_4⟩ := XM.out
  try dsimp only at c5_0 c5_1 c5_2 c5_3 c5_4
  go_wp2_with fail
  generalize (w4.alloc (.cells #[.int .i64 zp.guest, .slice prA prn prc, .slice psA psn psc, .slice pfA pfn pfc, .slice ppA ppn ppc] 27)) = W6 at *
  refine (Ka.out _ T.out).mono ?_
  rintro e w7 ⟨v, rfl, hF, hb⟩
  clear c5_0 c5_1 c5_2 c5_3 c5_4
  have T' := Lib.hid (below_next T.out hb)
  have XM' := Lib.hid (XM.out.keep hb LM.out)
  have LM' := Lib.hid (Nat.lt_of_lt_of_le LM.out hb.size)
  have Xp' := Lib.hid (Xp.out.keep hb Lp.out)
  have Lp' := Lib.hid (Nat.lt_of_lt_of_le Lp.out hb.size)
  have Ip' := Lib.hid (Ip.out.next hb)
  clear T XM LM Xp Lp Ip hb
  have T := T'
  have XM := XM'
  have LM := LM'
  have Xp := Xp'
  have Lp := Lp'
  have Ip := Ip'
  clear T' XM' LM' Xp' Lp' Ip'
  have hx := Box.new w7 za.guest v 27
  have b1 := below1 w7 (.cells #[.int .i64 za.guest, .slice v.rA v.rn v.rc, .slice v.sA v.sn v.sc, .slice v.fA v.fn v.fc, .slice v.pA v.pn v.pc] 27)
  have hi2 := hF.imgR.next b1
  have hlt : w7.heap.size < (w7.alloc (.cells #[.int .i64 za.guest, .slice v.rA v.rn v.rc, .slice v.sA v.sn v.sc, .slice v.fA v.fn v.fc, .slice v.pA v.pn v.pc] 27)).heap.size := by simp
  have T' := Lib.hid (below_next T.out b1)
  have XM' := Lib.hid (XM.out.keep b1 LM.out)
  have LM' := Lib.hid (Nat.lt_of_lt_of_le LM.out b1.size)
  have Xp' := Lib.hid (Xp.out.keep b1 Lp.out)
  have Lp' := Lib.hid (Nat.lt_of_lt_of_le Lp.out b1.size)
  have Ip' := Lib.hid (Ip.out.next b1)
  clear T XM LM Xp Lp Ip b1
  have T := T'
  have XM := XM'
  have LM := LM'
  have Xp := Xp'
  have Lp := Lp'
  have Ip := Ip'
  clear T' XM' LM' Xp' Lp' Ip'
  obtain ⟨arA, arn, arc, asA, asn, asc, afA, afn, afc, apA, apn, apc⟩ := v
  have Ia := Lib.hid hi2
  have Xa := Lib.hid hx
  have La := Lib.hid hlt
  dsimp only [imgV] at Ia Xa La T XM LM Xp Lp Ip ⊢
  clear hF hx hi2 hlt
  obtain ⟨c8_0, c8_1, c8_2, c8_3, c8_4⟩ := Xp.out
  try dsimp only at c8_0 c8_1 c8_2 c8_3 c8_4
  clear c8_0 c8_1 c8_2 c8_3 c8_4
  obtain ⟨c9_0, c9_1, c9_2, c9_3, c9_4⟩ := Xp.out
  try dsimp only at c9_0 c9_1 c9_2 c9_3 c9_4
  go_wp2_with fail
  generalize (w7.alloc (.cells #[.int .i64 za.guest, .slice arA arn arc, .slice asA asn asc, .slice afA afn afc, .slice apA apn apc] 27)) = W10 at *
  refine (Kb.out _ _ Ip.out).mono ?_
  rintro e w11 ⟨v, rfl, hF, hb⟩
  clear c9_0 c9_1 c9_2 c9_3 c9_4
  have T' := Lib.hid (below_next T.out hb)
  have XM' := Lib.hid (XM.out.keep hb LM.out)
  have LM' := Lib.hid (Nat.lt_of_lt_of_le LM.out hb.size)
  have Xp' := Lib.hid (Xp.out.keep hb Lp.out)
  have Lp' := Lib.hid (Nat.lt_of_lt_of_le Lp.out hb.size)
  have Ip' := Lib.hid (Ip.out.next hb)
  have Xa' := Lib.hid (Xa.out.keep hb La.out)
  have La' := Lib.hid (Nat.lt_of_lt_of_le La.out hb.size)
  have Ia' := Lib.hid (Ia.out.next hb)
  clear T XM LM Xp Lp Ip Xa La Ia hb
  have T := T'
  have XM := XM'
  have LM := LM'
  have Xp := Xp'
  have Lp := Lp'
  have Ip := Ip'
  have Xa := Xa'
  have La := La'
  have Ia := Ia'
  clear T' XM' LM' Xp' Lp' Ip' Xa' La' Ia'
  have hx := Box.new w11 zb.guest v 27
  have b1 := below1 w11 (.cells #[.int .i64 zb.guest, .slice v.rA v.rn v.rc, .slice v.sA v.sn v.sc, .slice v.fA v.fn v.fc, .slice v.pA v.pn v.pc] 27)
  have hi2 := hF.imgR.next b1
  have hlt : w11.heap.size < (w11.alloc (.cells #[.int .i64 zb.guest, .slice v.rA v.rn v.rc, .slice v.sA v.sn v.sc, .slice v.fA v.fn v.fc, .slice v.pA v.pn v.pc] 27)).heap.size := by simp
  have T' := Lib.hid (below_next T.out b1)
  have XM' := Lib.hid (XM.out.keep b1 LM.out)
  have LM' := Lib.hid (Nat.lt_of_lt_of_le LM.out b1.size)
  have Xp' := Lib.hid (Xp.out.keep b1 Lp.out)
  have Lp' := Lib.hid (Nat.lt_of_lt_of_le Lp.out b1.size)
  have Ip' := Lib.hid (Ip.out.next b1)
  have Xa' := Lib.hid (Xa.out.keep b1 La.out)
  have La' := Lib.hid (Nat.lt_of_lt_of_le La.out b1.size)
  have Ia' := Lib.hid (Ia.out.next b1)
  clear T XM LM Xp Lp Ip Xa La Ia b1
  have T := T'
  have XM := XM'
  have LM := LM'
  have Xp := Xp'
  have Lp := Lp'
  have Ip := Ip'
  have Xa := Xa'
  have La := La'
  have Ia := Ia'
  clear T' XM' LM' Xp' Lp' Ip' Xa' La' Ia'
  obtain ⟨brA, brn, brc, bsA, bsn, bsc, bfA, bfn, bfc, bpA, bpn, bpc⟩ := v
  have Ib := Lib.hid hi2
  have Xb := Lib.hid hx
  have Lb := Lib.hid hlt
  dsimp only [imgV] at Ib Xb Lb T XM LM Xp Lp Ip Xa La Ia ⊢
  clear hF hx hi2 hlt
  rcases Cep with h0 | h0
  · subst h0
    have e1 := Fe.out rfl
    subst e1
    have F2 := Lib.hid (Ff.out rfl)
    clear Fe Ff
    rcases Cea with h1 | h1
    · obtain ⟨f1, f2, f3⟩ := F2.out h1
      subst h1
      rw [f1] at KA
      rw [f2, f3] at KB
      rw [f3] at EB
      clear F2 f1 f2 f3
      generalize allM za = lx at *
      clear XM LM
      obtain ⟨c12_0, c12_1, c12_2, c12_3, c12_4⟩ := Xa.out
      try dsimp only at c12_0 c12_1 c12_2 c12_3 c12_4
      go_wp2_with fail
      generalize (w11.alloc (.cells #[.int .i64 zb.guest, .slice brA brn brc, .slice bsA bsn bsc, .slice bfA bfn bfc, .slice bpA bpn bpc] 27)) = W13 at *
      refine (KA.out _ _ Ia.out).mono ?_
      rintro e w14 ⟨Ax, nx, cx, rfl, ho, hb, hnc, hcm⟩
      clear c12_0 c12_1 c12_2 c12_3 c12_4
      have T' := Lib.hid (below_next T.out hb)
      have Xp' := Lib.hid (Xp.out.keep hb Lp.out)
      have Lp' := Lib.hid (Nat.lt_of_lt_of_le Lp.out hb.size)
      have Ip' := Lib.hid (Ip.out.next hb)
      have Xa' := Lib.hid (Xa.out.keep hb La.out)
      have La' := Lib.hid (Nat.lt_of_lt_of_le La.out hb.size)
      have Ia' := Lib.hid (Ia.out.next hb)
      have Xb' := Lib.hid (Xb.out.keep hb Lb.out)
      have Lb' := Lib.hid (Nat.lt_of_lt_of_le Lb.out hb.size)
      have Ib' := Lib.hid (Ib.out.next hb)
      clear T Xp Lp Ip Xa La Ia Xb Lb Ib hb
      have T := T'
      have Xp := Xp'
      have Lp := Lp'
      have Ip := Ip'
      have Xa := Xa'
      have La := La'
      have Ia := Ia'
      have Xb := Xb'
      have Lb := Lb'
      have Ib := Ib'
      clear T' Xp' Lp' Ip' Xa' La' Ia' Xb' Lb' Ib'
      have hr := own_strsW ho EA
      clear ho hnc hcm
      have Rx := Lib.hid hr.2
      have hnx := hr.1
      clear hr
      obtain ⟨c15_0, c15_1, c15_2, c15_3, c15_4⟩ := Xb.out
      try dsimp only at c15_0 c15_1 c15_2 c15_3 c15_4
      go_wp2_with fail
      refine (KB.out _ _ Ib.out).mono ?_
      rintro e w16 ⟨Ay, ny, cy, rfl, ho, hb, hnc, hcm⟩
      clear c15_0 c15_1 c15_2 c15_3 c15_4
      have T' := Lib.hid (below_next T.out hb)
      have Xp' := Lib.hid (Xp.out.keep hb Lp.out)
      have Lp' := Lib.hid (Nat.lt_of_lt_of_le Lp.out hb.size)
      have Ip' := Lib.hid (Ip.out.next hb)
      have Xa' := Lib.hid (Xa.out.keep hb La.out)
      have La' := Lib.hid (Nat.lt_of_lt_of_le La.out hb.size)
      have Ia' := Lib.hid (Ia.out.next hb)
      have Xb' := Lib.hid (Xb.out.keep hb Lb.out)
      have Lb' := Lib.hid (Nat.lt_of_lt_of_le Lb.out hb.size)
      have Ib' := Lib.hid (Ib.out.next hb)
      have Rx' := Lib.hid (Rx.out.next hb)
      clear T Xp Lp Ip Xa La Ia Xb Lb Ib Rx hb
      have T := T'
      have Xp := Xp'
      have Lp := Lp'
      have Ip := Ip'
      have Xa := Xa'
      have La := La'
      have Ia := Ia'
      have Xb := Xb'
      have Lb := Lb'
      have Ib := Ib'
      have Rx := Rx'
      clear T' Xp' Lp' Ip' Xa' La' Ia' Xb' Lb' Ib' Rx'
      have hr := own_strsW ho EB
      clear ho hnc hcm
      have Ry := Lib.hid hr.2
      have hny := hr.1
      clear hr
      go_wp2_with fail
      refine (moveBegun_any _).mono ?_
      rintro e w17 ⟨rfl, hb⟩
      have T' := Lib.hid (below_next T.out hb)
      have Xp' := Lib.hid (Xp.out.keep hb Lp.out)
      have Lp' := Lib.hid (Nat.lt_of_lt_of_le Lp.out hb.size)
      have Ip' := Lib.hid (Ip.out.next hb)
      have Xa' := Lib.hid (Xa.out.keep hb La.out)
      have La' := Lib.hid (Nat.lt_of_lt_of_le La.out hb.size)
      have Ia' := Lib.hid (Ia.out.next hb)
      have Xb' := Lib.hid (Xb.out.keep hb Lb.out)
      have Lb' := Lib.hid (Nat.lt_of_lt_of_le Lb.out hb.size)
      have Ib' := Lib.hid (Ib.out.next hb)
      have Rx' := Lib.hid (Rx.out.next hb)
      have Ry' := Lib.hid (Ry.out.next hb)
      clear T Xp Lp Ip Xa La Ia Xb Lb Ib Rx Ry hb
      have T := T'
      have Xp := Xp'
      have Lp := Lp'
      have Ip := Ip'
      have Xa := Xa'
      have La := La'
      have Ia := Ia'
      have Xb := Xb'
      have Lb := Lb'
      have Ib := Ib'
      have Rx := Rx'
      have Ry := Ry'
      clear T' Xp' Lp' Ip' Xa' La' Ia' Xb' Lb' Ib' Rx' Ry'
      go_wp2_with fail
      refine (samePages_any Ax Ay _ _ cx cy _ _ _ Rx.out Ry.out hnx hny).mono ?_
      rintro e w18 ⟨rfl, hb⟩
      have T' := Lib.hid (below_next T.out hb)
      have Xp' := Lib.hid (Xp.out.keep hb Lp.out)
      have Lp' := Lib.hid (Nat.lt_of_lt_of_le Lp.out hb.size)
      have Ip' := Lib.hid (Ip.out.next hb)
      have Xa' := Lib.hid (Xa.out.keep hb La.out)
      have La' := Lib.hid (Nat.lt_of_lt_of_le La.out hb.size)
      have Ia' := Lib.hid (Ia.out.next hb)
      have Xb' := Lib.hid (Xb.out.keep hb Lb.out)
      have Lb' := Lib.hid (Nat.lt_of_lt_of_le Lb.out hb.size)
      have Ib' := Lib.hid (Ib.out.next hb)
      have Rx' := Lib.hid (Rx.out.next hb)
      have Ry' := Lib.hid (Ry.out.next hb)
      clear T Xp Lp Ip Xa La Ia Xb Lb Ib Rx Ry hb
      have T := T'
      have Xp := Xp'
      have Lp := Lp'
      have Ip := Ip'
      have Xa := Xa'
      have La := La'
      have Ia := Ia'
      have Xb := Xb'
      have Lb := Lb'
      have Ib := Ib'
      have Rx := Rx'
      have Ry := Ry'
      clear T' Xp' Lp' Ip' Xa' La' Ia' Xb' Lb' Ib' Rx' Ry'
      simp only [decide_true]
      go_wp2_with fail
      go_ret
      exact ⟨rfl, T.out⟩
    · clear F2
      go_wp2_with fail
      generalize (w11.alloc (.cells #[.int .i64 zb.guest, .slice brA brn brc, .slice bsA bsn bsc, .slice bfA bfn bfc, .slice bpA bpn bpc] 27)) = W12 at *
      refine (moveBegun_any _).mono ?_
      rintro e w13 ⟨rfl, hb⟩
      have T' := Lib.hid (below_next T.out hb)
      have XM' := Lib.hid (XM.out.keep hb LM.out)
      have LM' := Lib.hid (Nat.lt_of_lt_of_le LM.out hb.size)
      have Xp' := Lib.hid (Xp.out.keep hb Lp.out)
      have Lp' := Lib.hid (Nat.lt_of_lt_of_le Lp.out hb.size)
      have Ip' := Lib.hid (Ip.out.next hb)
      have Xa' := Lib.hid (Xa.out.keep hb La.out)
      have La' := Lib.hid (Nat.lt_of_lt_of_le La.out hb.size)
      have Ia' := Lib.hid (Ia.out.next hb)
      have Xb' := Lib.hid (Xb.out.keep hb Lb.out)
      have Lb' := Lib.hid (Nat.lt_of_lt_of_le Lb.out hb.size)
      have Ib' := Lib.hid (Ib.out.next hb)
      clear T XM LM Xp Lp Ip Xa La Ia Xb Lb Ib hb
      have T := T'
      have XM := XM'
      have LM := LM'
      have Xp := Xp'
      have Lp := Lp'
      have Ip := Ip'
      have Xa := Xa'
      have La := La'
      have Ia := Ia'
      have Xb := Xb'
      have Lb := Lb'
      have Ib := Ib'
      clear T' XM' LM' Xp' Lp' Ip' Xa' La' Ia' Xb' Lb' Ib'
      go_wp2_with fail
      go_ret
      exact ⟨rfl, T.out⟩
  · go_wp2_with fail
    generalize (w11.alloc (.cells #[.int .i64 zb.guest, .slice brA brn brc, .slice bsA bsn bsc, .slice bfA bfn bfc, .slice bpA bpn bpc] 27)) = W12 at *
    refine (moveBegun_any _).mono ?_
    rintro e w13 ⟨rfl, hb⟩
    have T' := Lib.hid (below_next T.out hb)
    have XM' := Lib.hid (XM.out.keep hb LM.out)
    have LM' := Lib.hid (Nat.lt_of_lt_of_le LM.out hb.size)
    have Xp' := Lib.hid (Xp.out.keep hb Lp.out)
    have Lp' := Lib.hid (Nat.lt_of_lt_of_le Lp.out hb.size)
    have Ip' := Lib.hid (Ip.out.next hb)
    have Xa' := Lib.hid (Xa.out.keep hb La.out)
    have La' := Lib.hid (Nat.lt_of_lt_of_le La.out hb.size)
    have Ia' := Lib.hid (Ia.out.next hb)
    have Xb' := Lib.hid (Xb.out.keep hb Lb.out)
    have Lb' := Lib.hid (Nat.lt_of_lt_of_le Lb.out hb.size)
    have Ib' := Lib.hid (Ib.out.next hb)
    clear T XM LM Xp Lp Ip Xa La Ia Xb Lb Ib hb
    have T := T'
    have XM := XM'
    have LM := LM'
    have Xp := Xp'
    have Lp := Lp'
    have Ip := Ip'
    have Xa := Xa'
    have La := La'
    have Ia := Ia'
    have Xb := Xb'
    have Lb := Lb'
    have Ib := Ib'
    clear T' XM' LM' Xp' Lp' Ip' Xa' La' Ia' Xb' Lb' Ib'
    go_wp2_with fail
    go_ret
    exact ⟨rfl, T.out⟩
end Go.Proofs.Ytmdjoafbckphfaa
