/- The law WritesPast. Conditions: the image is read below the heap's size. (Printed by gen_wpast.py.) -/
import Derived.Test.YtpboapeoejdipaaPureY
import Derived.Test.YtpboapeoejdipaaReads3
import Derived.Test.YtpboapeoejdipaaSame
namespace Go.Proofs.Ytpboapeoejdipaa
open Go.RowKit Sl
theorem pastV_len (m : Img) (name : ByteArray) : (pastV m name).length ≤ 16 := by
  by_cases hm : checkErr m = 0
  · by_cases hn : m.snaps.any (named name) = true
    · obtain ⟨k, s, _, hs, _, _, _, e⟩ := past_ok hm hn
      rw [e, allV_len]
      have := (snap_facts hm hs).2.1
      omega
    · rw [(past_none hm (by simpa using hn)).2.1]; exact Nat.zero_le _
  · rw [(past_no hm).2]; exact Nat.zero_le _
theorem own_strsW {w : World} {base n c : Nat} {A : Option Addr} {l : List ByteArray} (h : w.ownsRow base 9 1 (.slice A n c) n (l.map Value.string)) (hl : l.length ≤ 16) : n ≤ 4611686018427387903 ∧ Rd w w.heap.size 1 A n (l.map Value.string) := ⟨by have := h.1; simp at this; omega, Rd.of_own h⟩
set_option maxRecDepth 100000 in
set_option maxHeartbeats 4000000 in
theorem law_writesPast (v : IV) (m : Img) (n : Int) (pg : ByteArray) (g : Int) (name : ByteArray) (w : World) (h : ImgR w w.heap.size v m) :
    Calls Try.prog 10 #[.agg #[.int .i64 m.guest, .slice v.rA v.rn v.rc, .slice v.sA v.sn v.sc, .slice v.fA v.fn v.fc, .slice v.pA v.pn v.pc], .int .i64 n, .string pg, .int .i64 g, .string name] w fun e w' => e = .returned (.bool true) ∧ Below w.heap.size w w' := by
  have Kp' := fun W (hb : Below w.heap.size w W) => tPast_any v m name W (h.next hb)
  have Ka' := fun W (hb : Below w.heap.size w W) => write_any v m n pg W (h.next hb) (fun x => write_hw x)
  have Kb' := fun W (hb : Below w.heap.size w W) => wipe_any v m n W (h.next hb) (fun x => set_hw rfl (by decide) x)
  have Kc' := fun W (hb : Below w.heap.size w W) => punch_any v m n W (h.next hb) (fun x => set_hw rfl (by decide) x)
  have Kd' := fun W (hb : Below w.heap.size w W) => resize_any v m g W (h.next hb) (fun x => resize_hw x)
  have Qa' := fun hp => fa_past (m := m) (n := n) (pg := pg) (name := name) hp
  have Qb' := fun hp => fs_past (m := m) (n := n) (e := -1) (name := name) rfl (by decide) hp
  have Qc' := fun hp => fs_past (m := m) (n := n) (e := 0) (name := name) rfl (by decide) hp
  have Qd' := fun hp => fr_past (m := m) (g := g) (name := name) hp
  generalize writeI m n pg = za at *
  generalize writeE m n pg = ea at *
  generalize setI m n (-1) = zb at *
  generalize setE m n (-1) = eb at *
  generalize setI m n 0 = zc at *
  generalize setE m n 0 = ec at *
  generalize resizeI m g = zd at *
  generalize resizeE m g = ed at *
  have E0 := pastV_len m name
  generalize pastE m name = p0 at *
  generalize pastV m name = l0 at *
  have Pa' := fun W v (h : ImgR W W.heap.size v za) => tPast_any v za name W h
  have Pb' := fun W v (h : ImgR W W.heap.size v zb) => tPast_any v zb name W h
  have Pc' := fun W v (h : ImgR W W.heap.size v zc) => tPast_any v zc name W h
  have Pd' := fun W v (h : ImgR W W.heap.size v zd) => tPast_any v zd name W h
  have Ea := pastV_len za name
  generalize pastE za name = pea at *
  generalize pastV za name = la at *
  have Eb := pastV_len zb name
  generalize pastE zb name = peb at *
  generalize pastV zb name = lb at *
  have Ec := pastV_len zc name
  generalize pastE zc name = pec at *
  generalize pastV zc name = lc at *
  have Ed := pastV_len zd name
  generalize pastE zd name = ped at *
  generalize pastV zd name = ld at *
  obtain ⟨rA, rn, rc, sA, sn, sc, fA, fn, fc, pA, pn, pc⟩ := v
  dsimp only [imgV] at Kp' Ka' Kb' Kc' Kd' Pa' Pb' Pc' Pd' ⊢
  have Kp := Lib.hid Kp'
  have Ka := Lib.hid Ka'
  have Kb := Lib.hid Kb'
  have Kc := Lib.hid Kc'
  have Kd := Lib.hid Kd'
  have Pa := Lib.hid Pa'
  have Pb := Lib.hid Pb'
  have Pc := Lib.hid Pc'
  have Pd := Lib.hid Pd'
  have Qa := Lib.hid Qa'
  have Qb := Lib.hid Qb'
  have Qc := Lib.hid Qc'
  have Qd := Lib.hid Qd'
  clear Kp' Ka' Kb' Kc' Kd' Pa' Pb' Pc' Pd' Qa' Qb' Qc' Qd' h
  have Ca : ea = 0 ∨ (ea == 0) = false ∧ (ea != 0) = true := by
    by_cases hh : ea = 0
    · exact .inl hh
    · right; simpa using hh
  have Cb : eb = 0 ∨ (eb == 0) = false ∧ (eb != 0) = true := by
    by_cases hh : eb = 0
    · exact .inl hh
    · right; simpa using hh
  have Cc : ec = 0 ∨ (ec == 0) = false ∧ (ec != 0) = true := by
    by_cases hh : ec = 0
    · exact .inl hh
    · right; simpa using hh
  have Cd : ed = 0 ∨ (ed == 0) = false ∧ (ed != 0) = true := by
    by_cases hh : ed = 0
    · exact .inl hh
    · right; simpa using hh
  have C0 : (p0 = 0) ∨ (p0 != 0) = true := by
    by_cases hh : p0 = 0
    · exact .inl hh
    · right; simpa using hh
  have T0' := below1 w (.cells #[.int .i64 m.guest, .slice rA rn rc, .slice sA sn sc, .slice fA fn fc, .slice pA pn pc] 26)
  have X0' := Box.new w m.guest ⟨rA, rn, rc, sA, sn, sc, fA, fn, fc, pA, pn, pc⟩ 26
  have L0' : w.heap.size < (w.alloc (.cells #[.int .i64 m.guest, .slice rA rn rc, .slice sA sn sc, .slice fA fn fc, .slice pA pn pc] 26)).heap.size := by simp
  have T := Lib.hid T0'
  have XM := Lib.hid X0'
  have LM := Lib.hid L0'
  clear T0' X0' L0'
  obtain ⟨c1_0, c1_1, c1_2, c1_3, c1_4⟩ := XM.out
  try dsimp only at c1_0 c1_1 c1_2 c1_3 c1_4
  go_enter Try.func10, Try.ntmps10
  try dsimp only [List.append]
  go_wp2_with fail
  generalize (w.alloc (.cells #[.int .i64 m.guest, .slice rA rn rc, .slice sA sn sc, .slice fA fn fc, .slice pA pn pc] 26)) = W2 at *
  refine (Kp.out _ T.out).mono ?_
  rintro e w3 ⟨A0, n0, c0, rfl, ho, hb, hnc, hcm⟩
  clear c1_0 c1_1 c1_2 c1_3 c1_4
  have T' := Lib.hid (below_next T.out hb)
  have XM' := Lib.hid (XM.out.keep hb LM.out)
  have LM' := Lib.hid (Nat.lt_of_lt_of_le LM.out hb.size)
  clear T XM LM hb
  have T := T'
  have XM := XM'
  have LM := LM'
  clear T' XM' LM'
  have hr := own_strsW ho E0
  clear ho hnc hcm
  have R0 := Lib.hid hr.2
  have hn0 := hr.1
  clear hr
  rcases C0 with h0 | h0
  · subst h0
    have Ua := Lib.hid (Qa.out rfl)
    clear Qa
    have Ub := Lib.hid (Qb.out rfl)
    clear Qb
    have Uc := Lib.hid (Qc.out rfl)
    clear Qc
    have Ud := Lib.hid (Qd.out rfl)
    clear Qd
    obtain ⟨c4_0, c4_1, c4_2, c4_3, c4_4⟩ := XM.out
    try dsimp only at c4_0 c4_1 c4_2 c4_3 c4_4
    go_wp2_with fail
    refine (Ka.out _ T.out).mono ?_
    rintro e w5 ⟨v, rfl, hF, hb⟩
    clear c4_0 c4_1 c4_2 c4_3 c4_4
    have T' := Lib.hid (below_next T.out hb)
    have XM' := Lib.hid (XM.out.keep hb LM.out)
    have LM' := Lib.hid (Nat.lt_of_lt_of_le LM.out hb.size)
    have R0' := Lib.hid (R0.out.next hb)
    clear T XM LM R0 hb
    have T := T'
    have XM := XM'
    have LM := LM'
    have R0 := R0'
    clear T' XM' LM' R0'
    have hx := Box.new w5 za.guest v 26
    have b1 := below1 w5 (.cells #[.int .i64 za.guest, .slice v.rA v.rn v.rc, .slice v.sA v.sn v.sc, .slice v.fA v.fn v.fc, .slice v.pA v.pn v.pc] 26)
    have hi2 := hF.imgR.next b1
    have hlt : w5.heap.size < (w5.alloc (.cells #[.int .i64 za.guest, .slice v.rA v.rn v.rc, .slice v.sA v.sn v.sc, .slice v.fA v.fn v.fc, .slice v.pA v.pn v.pc] 26)).heap.size := by simp
    have T' := Lib.hid (below_next T.out b1)
    have XM' := Lib.hid (XM.out.keep b1 LM.out)
    have LM' := Lib.hid (Nat.lt_of_lt_of_le LM.out b1.size)
    have R0' := Lib.hid (R0.out.next b1)
    clear T XM LM R0 b1
    have T := T'
    have XM := XM'
    have LM := LM'
    have R0 := R0'
    clear T' XM' LM' R0'
    obtain ⟨arA, arn, arc, asA, asn, asc, afA, afn, afc, apA, apn, apc⟩ := v
    have Ia := Lib.hid hi2
    have Xa := Lib.hid hx
    have La := Lib.hid hlt
    dsimp only [imgV] at Ia Xa La T XM LM R0 ⊢
    clear hF hx hi2 hlt
    clear Ka
    obtain ⟨c6_0, c6_1, c6_2, c6_3, c6_4⟩ := XM.out
    try dsimp only at c6_0 c6_1 c6_2 c6_3 c6_4
    go_wp2_with fail
    generalize (w5.alloc (.cells #[.int .i64 za.guest, .slice arA arn arc, .slice asA asn asc, .slice afA afn afc, .slice apA apn apc] 26)) = W7 at *
    refine (Kb.out _ T.out).mono ?_
    rintro e w8 ⟨v, rfl, hF, hb⟩
    clear c6_0 c6_1 c6_2 c6_3 c6_4
    have T' := Lib.hid (below_next T.out hb)
    have XM' := Lib.hid (XM.out.keep hb LM.out)
    have LM' := Lib.hid (Nat.lt_of_lt_of_le LM.out hb.size)
    have R0' := Lib.hid (R0.out.next hb)
    have Xa' := Lib.hid (Xa.out.keep hb La.out)
    have La' := Lib.hid (Nat.lt_of_lt_of_le La.out hb.size)
    have Ia' := Lib.hid (Ia.out.next hb)
    clear T XM LM R0 Xa La Ia hb
    have T := T'
    have XM := XM'
    have LM := LM'
    have R0 := R0'
    have Xa := Xa'
    have La := La'
    have Ia := Ia'
    clear T' XM' LM' R0' Xa' La' Ia'
    have hx := Box.new w8 zb.guest v 26
    have b1 := below1 w8 (.cells #[.int .i64 zb.guest, .slice v.rA v.rn v.rc, .slice v.sA v.sn v.sc, .slice v.fA v.fn v.fc, .slice v.pA v.pn v.pc] 26)
    have hi2 := hF.imgR.next b1
    have hlt : w8.heap.size < (w8.alloc (.cells #[.int .i64 zb.guest, .slice v.rA v.rn v.rc, .slice v.sA v.sn v.sc, .slice v.fA v.fn v.fc, .slice v.pA v.pn v.pc] 26)).heap.size := by simp
    have T' := Lib.hid (below_next T.out b1)
    have XM' := Lib.hid (XM.out.keep b1 LM.out)
    have LM' := Lib.hid (Nat.lt_of_lt_of_le LM.out b1.size)
    have R0' := Lib.hid (R0.out.next b1)
    have Xa' := Lib.hid (Xa.out.keep b1 La.out)
    have La' := Lib.hid (Nat.lt_of_lt_of_le La.out b1.size)
    have Ia' := Lib.hid (Ia.out.next b1)
    clear T XM LM R0 Xa La Ia b1
    have T := T'
    have XM := XM'
    have LM := LM'
    have R0 := R0'
    have Xa := Xa'
    have La := La'
    have Ia := Ia'
    clear T' XM' LM' R0' Xa' La' Ia'
    obtain ⟨brA, brn, brc, bsA, bsn, bsc, bfA, bfn, bfc, bpA, bpn, bpc⟩ := v
    have Ib := Lib.hid hi2
    have Xb := Lib.hid hx
    have Lb := Lib.hid hlt
    dsimp only [imgV] at Ib Xb Lb T XM LM R0 Xa La Ia ⊢
    clear hF hx hi2 hlt
    clear Kb
    obtain ⟨c9_0, c9_1, c9_2, c9_3, c9_4⟩ := XM.out
    try dsimp only at c9_0 c9_1 c9_2 c9_3 c9_4
    go_wp2_with fail
    generalize (w8.alloc (.cells #[.int .i64 zb.guest, .slice brA brn brc, .slice bsA bsn bsc, .slice bfA bfn bfc, .slice bpA bpn bpc] 26)) = W10 at *
    refine (Kc.out _ T.out).mono ?_
    rintro e w11 ⟨v, rfl, hF, hb⟩
    clear c9_0 c9_1 c9_2 c9_3 c9_4
    have T' := Lib.hid (below_next T.out hb)
    have XM' := Lib.hid (XM.out.keep hb LM.out)
    have LM' := Lib.hid (Nat.lt_of_lt_of_le LM.out hb.size)
    have R0' := Lib.hid (R0.out.next hb)
    have Xa' := Lib.hid (Xa.out.keep hb La.out)
    have La' := Lib.hid (Nat.lt_of_lt_of_le La.out hb.size)
    have Ia' := Lib.hid (Ia.out.next hb)
    have Xb' := Lib.hid (Xb.out.keep hb Lb.out)
    have Lb' := Lib.hid (Nat.lt_of_lt_of_le Lb.out hb.size)
    have Ib' := Lib.hid (Ib.out.next hb)
    clear T XM LM R0 Xa La Ia Xb Lb Ib hb
    have T := T'
    have XM := XM'
    have LM := LM'
    have R0 := R0'
    have Xa := Xa'
    have La := La'
    have Ia := Ia'
    have Xb := Xb'
    have Lb := Lb'
    have Ib := Ib'
    clear T' XM' LM' R0' Xa' La' Ia' Xb' Lb' Ib'
    have hx := Box.new w11 zc.guest v 26
    have b1 := below1 w11 (.cells #[.int .i64 zc.guest, .slice v.rA v.rn v.rc, .slice v.sA v.sn v.sc, .slice v.fA v.fn v.fc, .slice v.pA v.pn v.pc] 26)
    have hi2 := hF.imgR.next b1
    have hlt : w11.heap.size < (w11.alloc (.cells #[.int .i64 zc.guest, .slice v.rA v.rn v.rc, .slice v.sA v.sn v.sc, .slice v.fA v.fn v.fc, .slice v.pA v.pn v.pc] 26)).heap.size := by simp
    have T' := Lib.hid (below_next T.out b1)
    have XM' := Lib.hid (XM.out.keep b1 LM.out)
    have LM' := Lib.hid (Nat.lt_of_lt_of_le LM.out b1.size)
    have R0' := Lib.hid (R0.out.next b1)
    have Xa' := Lib.hid (Xa.out.keep b1 La.out)
    have La' := Lib.hid (Nat.lt_of_lt_of_le La.out b1.size)
    have Ia' := Lib.hid (Ia.out.next b1)
    have Xb' := Lib.hid (Xb.out.keep b1 Lb.out)
    have Lb' := Lib.hid (Nat.lt_of_lt_of_le Lb.out b1.size)
    have Ib' := Lib.hid (Ib.out.next b1)
    clear T XM LM R0 Xa La Ia Xb Lb Ib b1
    have T := T'
    have XM := XM'
    have LM := LM'
    have R0 := R0'
    have Xa := Xa'
    have La := La'
    have Ia := Ia'
    have Xb := Xb'
    have Lb := Lb'
    have Ib := Ib'
    clear T' XM' LM' R0' Xa' La' Ia' Xb' Lb' Ib'
    obtain ⟨crA, crn, crc, csA, csn, csc, cfA, cfn, cfc, cpA, cpn, cpc⟩ := v
    have Ic := Lib.hid hi2
    have Xc := Lib.hid hx
    have Lc := Lib.hid hlt
    dsimp only [imgV] at Ic Xc Lc T XM LM R0 Xa La Ia Xb Lb Ib ⊢
    clear hF hx hi2 hlt
    clear Kc
    obtain ⟨c12_0, c12_1, c12_2, c12_3, c12_4⟩ := XM.out
    try dsimp only at c12_0 c12_1 c12_2 c12_3 c12_4
    go_wp2_with fail
    generalize (w11.alloc (.cells #[.int .i64 zc.guest, .slice crA crn crc, .slice csA csn csc, .slice cfA cfn cfc, .slice cpA cpn cpc] 26)) = W13 at *
    refine (Kd.out _ T.out).mono ?_
    rintro e w14 ⟨v, rfl, hF, hb⟩
    clear c12_0 c12_1 c12_2 c12_3 c12_4
    have T' := Lib.hid (below_next T.out hb)
    have XM' := Lib.hid (XM.out.keep hb LM.out)
    have LM' := Lib.hid (Nat.lt_of_lt_of_le LM.out hb.size)
    have R0' := Lib.hid (R0.out.next hb)
    have Xa' := Lib.hid (Xa.out.keep hb La.out)
    have La' := Lib.hid (Nat.lt_of_lt_of_le La.out hb.size)
    have Ia' := Lib.hid (Ia.out.next hb)
    have Xb' := Lib.hid (Xb.out.keep hb Lb.out)
    have Lb' := Lib.hid (Nat.lt_of_lt_of_le Lb.out hb.size)
    have Ib' := Lib.hid (Ib.out.next hb)
    have Xc' := Lib.hid (Xc.out.keep hb Lc.out)
    have Lc' := Lib.hid (Nat.lt_of_lt_of_le Lc.out hb.size)
    have Ic' := Lib.hid (Ic.out.next hb)
    clear T XM LM R0 Xa La Ia Xb Lb Ib Xc Lc Ic hb
    have T := T'
    have XM := XM'
    have LM := LM'
    have R0 := R0'
    have Xa := Xa'
    have La := La'
    have Ia := Ia'
    have Xb := Xb'
    have Lb := Lb'
    have Ib := Ib'
    have Xc := Xc'
    have Lc := Lc'
    have Ic := Ic'
    clear T' XM' LM' R0' Xa' La' Ia' Xb' Lb' Ib' Xc' Lc' Ic'
    have hx := Box.new w14 zd.guest v 26
    have b1 := below1 w14 (.cells #[.int .i64 zd.guest, .slice v.rA v.rn v.rc, .slice v.sA v.sn v.sc, .slice v.fA v.fn v.fc, .slice v.pA v.pn v.pc] 26)
    have hi2 := hF.imgR.next b1
    have hlt : w14.heap.size < (w14.alloc (.cells #[.int .i64 zd.guest, .slice v.rA v.rn v.rc, .slice v.sA v.sn v.sc, .slice v.fA v.fn v.fc, .slice v.pA v.pn v.pc] 26)).heap.size := by simp
    have T' := Lib.hid (below_next T.out b1)
    have XM' := Lib.hid (XM.out.keep b1 LM.out)
    have LM' := Lib.hid (Nat.lt_of_lt_of_le LM.out b1.size)
    have R0' := Lib.hid (R0.out.next b1)
    have Xa' := Lib.hid (Xa.out.keep b1 La.out)
    have La' := Lib.hid (Nat.lt_of_lt_of_le La.out b1.size)
    have Ia' := Lib.hid (Ia.out.next b1)
    have Xb' := Lib.hid (Xb.out.keep b1 Lb.out)
    have Lb' := Lib.hid (Nat.lt_of_lt_of_le Lb.out b1.size)
    have Ib' := Lib.hid (Ib.out.next b1)
    have Xc' := Lib.hid (Xc.out.keep b1 Lc.out)
    have Lc' := Lib.hid (Nat.lt_of_lt_of_le Lc.out b1.size)
    have Ic' := Lib.hid (Ic.out.next b1)
    clear T XM LM R0 Xa La Ia Xb Lb Ib Xc Lc Ic b1
    have T := T'
    have XM := XM'
    have LM := LM'
    have R0 := R0'
    have Xa := Xa'
    have La := La'
    have Ia := Ia'
    have Xb := Xb'
    have Lb := Lb'
    have Ib := Ib'
    have Xc := Xc'
    have Lc := Lc'
    have Ic := Ic'
    clear T' XM' LM' R0' Xa' La' Ia' Xb' Lb' Ib' Xc' Lc' Ic'
    obtain ⟨drA, drn, drc, dsA, dsn, dsc, dfA, dfn, dfc, dpA, dpn, dpc⟩ := v
    have Id := Lib.hid hi2
    have Xd := Lib.hid hx
    have Ld := Lib.hid hlt
    dsimp only [imgV] at Id Xd Ld T XM LM R0 Xa La Ia Xb Lb Ib Xc Lc Ic ⊢
    clear hF hx hi2 hlt
    clear Kd
    clear XM LM
    obtain ⟨c15_0, c15_1, c15_2, c15_3, c15_4⟩ := Xa.out
    try dsimp only at c15_0 c15_1 c15_2 c15_3 c15_4
    go_wp2_with fail
    generalize (w14.alloc (.cells #[.int .i64 zd.guest, .slice drA drn drc, .slice dsA dsn dsc, .slice dfA dfn dfc, .slice dpA dpn dpc] 26)) = W16 at *
    refine (Pa.out _ _ Ia.out).mono ?_
    rintro e w17 ⟨Aa, na, ca, rfl, ho, hb, hnc, hcm⟩
    clear c15_0 c15_1 c15_2 c15_3 c15_4
    have T' := Lib.hid (below_next T.out hb)
    have R0' := Lib.hid (R0.out.next hb)
    have Xa' := Lib.hid (Xa.out.keep hb La.out)
    have La' := Lib.hid (Nat.lt_of_lt_of_le La.out hb.size)
    have Ia' := Lib.hid (Ia.out.next hb)
    have Xb' := Lib.hid (Xb.out.keep hb Lb.out)
    have Lb' := Lib.hid (Nat.lt_of_lt_of_le Lb.out hb.size)
    have Ib' := Lib.hid (Ib.out.next hb)
    have Xc' := Lib.hid (Xc.out.keep hb Lc.out)
    have Lc' := Lib.hid (Nat.lt_of_lt_of_le Lc.out hb.size)
    have Ic' := Lib.hid (Ic.out.next hb)
    have Xd' := Lib.hid (Xd.out.keep hb Ld.out)
    have Ld' := Lib.hid (Nat.lt_of_lt_of_le Ld.out hb.size)
    have Id' := Lib.hid (Id.out.next hb)
    clear T R0 Xa La Ia Xb Lb Ib Xc Lc Ic Xd Ld Id hb
    have T := T'
    have R0 := R0'
    have Xa := Xa'
    have La := La'
    have Ia := Ia'
    have Xb := Xb'
    have Lb := Lb'
    have Ib := Ib'
    have Xc := Xc'
    have Lc := Lc'
    have Ic := Ic'
    have Xd := Xd'
    have Ld := Ld'
    have Id := Id'
    clear T' R0' Xa' La' Ia' Xb' Lb' Ib' Xc' Lc' Ic' Xd' Ld' Id'
    have hr := own_strsW ho Ea
    clear ho hnc hcm
    have Ra := Lib.hid hr.2
    have hna := hr.1
    clear hr
    clear Xa La Ia Pa
    obtain ⟨c18_0, c18_1, c18_2, c18_3, c18_4⟩ := Xb.out
    try dsimp only at c18_0 c18_1 c18_2 c18_3 c18_4
    go_wp2_with fail
    refine (Pb.out _ _ Ib.out).mono ?_
    rintro e w19 ⟨Ab, nb, cb, rfl, ho, hb, hnc, hcm⟩
    clear c18_0 c18_1 c18_2 c18_3 c18_4
    have T' := Lib.hid (below_next T.out hb)
    have R0' := Lib.hid (R0.out.next hb)
    have Xb' := Lib.hid (Xb.out.keep hb Lb.out)
    have Lb' := Lib.hid (Nat.lt_of_lt_of_le Lb.out hb.size)
    have Ib' := Lib.hid (Ib.out.next hb)
    have Xc' := Lib.hid (Xc.out.keep hb Lc.out)
    have Lc' := Lib.hid (Nat.lt_of_lt_of_le Lc.out hb.size)
    have Ic' := Lib.hid (Ic.out.next hb)
    have Xd' := Lib.hid (Xd.out.keep hb Ld.out)
    have Ld' := Lib.hid (Nat.lt_of_lt_of_le Ld.out hb.size)
    have Id' := Lib.hid (Id.out.next hb)
    have Ra' := Lib.hid (Ra.out.next hb)
    clear T R0 Xb Lb Ib Xc Lc Ic Xd Ld Id Ra hb
    have T := T'
    have R0 := R0'
    have Xb := Xb'
    have Lb := Lb'
    have Ib := Ib'
    have Xc := Xc'
    have Lc := Lc'
    have Ic := Ic'
    have Xd := Xd'
    have Ld := Ld'
    have Id := Id'
    have Ra := Ra'
    clear T' R0' Xb' Lb' Ib' Xc' Lc' Ic' Xd' Ld' Id' Ra'
    have hr := own_strsW ho Eb
    clear ho hnc hcm
    have Rb := Lib.hid hr.2
    have hnb := hr.1
    clear hr
    clear Xb Lb Ib Pb
    obtain ⟨c20_0, c20_1, c20_2, c20_3, c20_4⟩ := Xc.out
    try dsimp only at c20_0 c20_1 c20_2 c20_3 c20_4
    go_wp2_with fail
    refine (Pc.out _ _ Ic.out).mono ?_
    rintro e w21 ⟨Ac, nc, cc, rfl, ho, hb, hnc, hcm⟩
    clear c20_0 c20_1 c20_2 c20_3 c20_4
    have T' := Lib.hid (below_next T.out hb)
    have R0' := Lib.hid (R0.out.next hb)
    have Xc' := Lib.hid (Xc.out.keep hb Lc.out)
    have Lc' := Lib.hid (Nat.lt_of_lt_of_le Lc.out hb.size)
    have Ic' := Lib.hid (Ic.out.next hb)
    have Xd' := Lib.hid (Xd.out.keep hb Ld.out)
    have Ld' := Lib.hid (Nat.lt_of_lt_of_le Ld.out hb.size)
    have Id' := Lib.hid (Id.out.next hb)
    have Ra' := Lib.hid (Ra.out.next hb)
    have Rb' := Lib.hid (Rb.out.next hb)
    clear T R0 Xc Lc Ic Xd Ld Id Ra Rb hb
    have T := T'
    have R0 := R0'
    have Xc := Xc'
    have Lc := Lc'
    have Ic := Ic'
    have Xd := Xd'
    have Ld := Ld'
    have Id := Id'
    have Ra := Ra'
    have Rb := Rb'
    clear T' R0' Xc' Lc' Ic' Xd' Ld' Id' Ra' Rb'
    have hr := own_strsW ho Ec
    clear ho hnc hcm
    have Rc := Lib.hid hr.2
    have hnc := hr.1
    clear hr
    clear Xc Lc Ic Pc
    obtain ⟨c22_0, c22_1, c22_2, c22_3, c22_4⟩ := Xd.out
    try dsimp only at c22_0 c22_1 c22_2 c22_3 c22_4
    go_wp2_with fail
    refine (Pd.out _ _ Id.out).mono ?_
    rintro e w23 ⟨Ad, nd, cd, rfl, ho, hb, hnc, hcm⟩
    clear c22_0 c22_1 c22_2 c22_3 c22_4
    have T' := Lib.hid (below_next T.out hb)
    have R0' := Lib.hid (R0.out.next hb)
    have Xd' := Lib.hid (Xd.out.keep hb Ld.out)
    have Ld' := Lib.hid (Nat.lt_of_lt_of_le Ld.out hb.size)
    have Id' := Lib.hid (Id.out.next hb)
    have Ra' := Lib.hid (Ra.out.next hb)
    have Rb' := Lib.hid (Rb.out.next hb)
    have Rc' := Lib.hid (Rc.out.next hb)
    clear T R0 Xd Ld Id Ra Rb Rc hb
    have T := T'
    have R0 := R0'
    have Xd := Xd'
    have Ld := Ld'
    have Id := Id'
    have Ra := Ra'
    have Rb := Rb'
    have Rc := Rc'
    clear T' R0' Xd' Ld' Id' Ra' Rb' Rc'
    have hr := own_strsW ho Ed
    clear ho hnc hcm
    have Rd := Lib.hid hr.2
    have hnd := hr.1
    clear hr
    clear Xd Ld Id Pd
    rcases Ca with ha | ⟨ha, ha2⟩
    · obtain ⟨rfl, rfl⟩ := Ua.out ha
      subst ha
      clear Ua
      rcases Cb with hb | ⟨hb, hb2⟩
      · obtain ⟨rfl, rfl⟩ := Ub.out hb
        subst hb
        clear Ub
        rcases Cc with hc | ⟨hc, hc2⟩
        · obtain ⟨rfl, rfl⟩ := Uc.out hc
          subst hc
          clear Uc
          rcases Cd with hd | ⟨hd, hd2⟩
          · obtain ⟨rfl, rfl⟩ := Ud.out hd
            subst hd
            clear Ud
            go_wp2_with fail
            refine (samePages_any Aa A0 _ _ ca c0 _ _ _ Ra.out R0.out hna hn0).mono ?_
            rintro e w24 ⟨rfl, hb⟩
            have T' := Lib.hid (below_next T.out hb)
            have R0' := Lib.hid (R0.out.next hb)
            have Ra' := Lib.hid (Ra.out.next hb)
            have Rb' := Lib.hid (Rb.out.next hb)
            have Rc' := Lib.hid (Rc.out.next hb)
            have Rd' := Lib.hid (Rd.out.next hb)
            clear T R0 Ra Rb Rc Rd hb
            have T := T'
            have R0 := R0'
            have Ra := Ra'
            have Rb := Rb'
            have Rc := Rc'
            have Rd := Rd'
            clear T' R0' Ra' Rb' Rc' Rd'
            go_wp2_with fail
            refine (samePages_any Ab A0 _ _ cb c0 _ _ _ Rb.out R0.out hnb hn0).mono ?_
            rintro e w25 ⟨rfl, hb⟩
            have T' := Lib.hid (below_next T.out hb)
            have R0' := Lib.hid (R0.out.next hb)
            have Ra' := Lib.hid (Ra.out.next hb)
            have Rb' := Lib.hid (Rb.out.next hb)
            have Rc' := Lib.hid (Rc.out.next hb)
            have Rd' := Lib.hid (Rd.out.next hb)
            clear T R0 Ra Rb Rc Rd hb
            have T := T'
            have R0 := R0'
            have Ra := Ra'
            have Rb := Rb'
            have Rc := Rc'
            have Rd := Rd'
            clear T' R0' Ra' Rb' Rc' Rd'
            go_wp2_with fail
            refine (writesBegun_any _).mono ?_
            rintro e w26 ⟨rfl, hb⟩
            have T' := Lib.hid (below_next T.out hb)
            have R0' := Lib.hid (R0.out.next hb)
            have Ra' := Lib.hid (Ra.out.next hb)
            have Rb' := Lib.hid (Rb.out.next hb)
            have Rc' := Lib.hid (Rc.out.next hb)
            have Rd' := Lib.hid (Rd.out.next hb)
            clear T R0 Ra Rb Rc Rd hb
            have T := T'
            have R0 := R0'
            have Ra := Ra'
            have Rb := Rb'
            have Rc := Rc'
            have Rd := Rd'
            clear T' R0' Ra' Rb' Rc' Rd'
            go_wp2_with fail
            refine (samePages_any Ac A0 _ _ cc c0 _ _ _ Rc.out R0.out hnc hn0).mono ?_
            rintro e w27 ⟨rfl, hb⟩
            have T' := Lib.hid (below_next T.out hb)
            have R0' := Lib.hid (R0.out.next hb)
            have Ra' := Lib.hid (Ra.out.next hb)
            have Rb' := Lib.hid (Rb.out.next hb)
            have Rc' := Lib.hid (Rc.out.next hb)
            have Rd' := Lib.hid (Rd.out.next hb)
            clear T R0 Ra Rb Rc Rd hb
            have T := T'
            have R0 := R0'
            have Ra := Ra'
            have Rb := Rb'
            have Rc := Rc'
            have Rd := Rd'
            clear T' R0' Ra' Rb' Rc' Rd'
            go_wp2_with fail
            refine (samePages_any Ad A0 _ _ cd c0 _ _ _ Rd.out R0.out hnd hn0).mono ?_
            rintro e w28 ⟨rfl, hb⟩
            have T' := Lib.hid (below_next T.out hb)
            have R0' := Lib.hid (R0.out.next hb)
            have Ra' := Lib.hid (Ra.out.next hb)
            have Rb' := Lib.hid (Rb.out.next hb)
            have Rc' := Lib.hid (Rc.out.next hb)
            have Rd' := Lib.hid (Rd.out.next hb)
            clear T R0 Ra Rb Rc Rd hb
            have T := T'
            have R0 := R0'
            have Ra := Ra'
            have Rb := Rb'
            have Rc := Rc'
            have Rd := Rd'
            clear T' R0' Ra' Rb' Rc' Rd'
            go_wp2_with fail
            go_ret
            exact ⟨rfl, T.out⟩
          · clear Ud
            go_wp2_with fail
            refine (samePages_any Aa A0 _ _ ca c0 _ _ _ Ra.out R0.out hna hn0).mono ?_
            rintro e w24 ⟨rfl, hb⟩
            have T' := Lib.hid (below_next T.out hb)
            have R0' := Lib.hid (R0.out.next hb)
            have Ra' := Lib.hid (Ra.out.next hb)
            have Rb' := Lib.hid (Rb.out.next hb)
            have Rc' := Lib.hid (Rc.out.next hb)
            have Rd' := Lib.hid (Rd.out.next hb)
            clear T R0 Ra Rb Rc Rd hb
            have T := T'
            have R0 := R0'
            have Ra := Ra'
            have Rb := Rb'
            have Rc := Rc'
            have Rd := Rd'
            clear T' R0' Ra' Rb' Rc' Rd'
            go_wp2_with fail
            refine (samePages_any Ab A0 _ _ cb c0 _ _ _ Rb.out R0.out hnb hn0).mono ?_
            rintro e w25 ⟨rfl, hb⟩
            have T' := Lib.hid (below_next T.out hb)
            have R0' := Lib.hid (R0.out.next hb)
            have Ra' := Lib.hid (Ra.out.next hb)
            have Rb' := Lib.hid (Rb.out.next hb)
            have Rc' := Lib.hid (Rc.out.next hb)
            have Rd' := Lib.hid (Rd.out.next hb)
            clear T R0 Ra Rb Rc Rd hb
            have T := T'
            have R0 := R0'
            have Ra := Ra'
            have Rb := Rb'
            have Rc := Rc'
            have Rd := Rd'
            clear T' R0' Ra' Rb' Rc' Rd'
            go_wp2_with fail
            refine (writesBegun_any _).mono ?_
            rintro e w26 ⟨rfl, hb⟩
            have T' := Lib.hid (below_next T.out hb)
            have R0' := Lib.hid (R0.out.next hb)
            have Ra' := Lib.hid (Ra.out.next hb)
            have Rb' := Lib.hid (Rb.out.next hb)
            have Rc' := Lib.hid (Rc.out.next hb)
            have Rd' := Lib.hid (Rd.out.next hb)
            clear T R0 Ra Rb Rc Rd hb
            have T := T'
            have R0 := R0'
            have Ra := Ra'
            have Rb := Rb'
            have Rc := Rc'
            have Rd := Rd'
            clear T' R0' Ra' Rb' Rc' Rd'
            go_wp2_with fail
            refine (samePages_any Ac A0 _ _ cc c0 _ _ _ Rc.out R0.out hnc hn0).mono ?_
            rintro e w27 ⟨rfl, hb⟩
            have T' := Lib.hid (below_next T.out hb)
            have R0' := Lib.hid (R0.out.next hb)
            have Ra' := Lib.hid (Ra.out.next hb)
            have Rb' := Lib.hid (Rb.out.next hb)
            have Rc' := Lib.hid (Rc.out.next hb)
            have Rd' := Lib.hid (Rd.out.next hb)
            clear T R0 Ra Rb Rc Rd hb
            have T := T'
            have R0 := R0'
            have Ra := Ra'
            have Rb := Rb'
            have Rc := Rc'
            have Rd := Rd'
            clear T' R0' Ra' Rb' Rc' Rd'
            go_wp2_with fail
            go_ret
            exact ⟨rfl, T.out⟩
        · clear Uc
          rcases Cd with hd | ⟨hd, hd2⟩
          · obtain ⟨rfl, rfl⟩ := Ud.out hd
            subst hd
            clear Ud
            go_wp2_with fail
            refine (samePages_any Aa A0 _ _ ca c0 _ _ _ Ra.out R0.out hna hn0).mono ?_
            rintro e w24 ⟨rfl, hb⟩
            have T' := Lib.hid (below_next T.out hb)
            have R0' := Lib.hid (R0.out.next hb)
            have Ra' := Lib.hid (Ra.out.next hb)
            have Rb' := Lib.hid (Rb.out.next hb)
            have Rc' := Lib.hid (Rc.out.next hb)
            have Rd' := Lib.hid (Rd.out.next hb)
            clear T R0 Ra Rb Rc Rd hb
            have T := T'
            have R0 := R0'
            have Ra := Ra'
            have Rb := Rb'
            have Rc := Rc'
            have Rd := Rd'
            clear T' R0' Ra' Rb' Rc' Rd'
            go_wp2_with fail
            refine (samePages_any Ab A0 _ _ cb c0 _ _ _ Rb.out R0.out hnb hn0).mono ?_
            rintro e w25 ⟨rfl, hb⟩
            have T' := Lib.hid (below_next T.out hb)
            have R0' := Lib.hid (R0.out.next hb)
            have Ra' := Lib.hid (Ra.out.next hb)
            have Rb' := Lib.hid (Rb.out.next hb)
            have Rc' := Lib.hid (Rc.out.next hb)
            have Rd' := Lib.hid (Rd.out.next hb)
            clear T R0 Ra Rb Rc Rd hb
            have T := T'
            have R0 := R0'
            have Ra := Ra'
            have Rb := Rb'
            have Rc := Rc'
            have Rd := Rd'
            clear T' R0' Ra' Rb' Rc' Rd'
            go_wp2_with fail
            refine (writesBegun_any _).mono ?_
            rintro e w26 ⟨rfl, hb⟩
            have T' := Lib.hid (below_next T.out hb)
            have R0' := Lib.hid (R0.out.next hb)
            have Ra' := Lib.hid (Ra.out.next hb)
            have Rb' := Lib.hid (Rb.out.next hb)
            have Rc' := Lib.hid (Rc.out.next hb)
            have Rd' := Lib.hid (Rd.out.next hb)
            clear T R0 Ra Rb Rc Rd hb
            have T := T'
            have R0 := R0'
            have Ra := Ra'
            have Rb := Rb'
            have Rc := Rc'
            have Rd := Rd'
            clear T' R0' Ra' Rb' Rc' Rd'
            go_wp2_with fail
            refine (samePages_any Ad A0 _ _ cd c0 _ _ _ Rd.out R0.out hnd hn0).mono ?_
            rintro e w27 ⟨rfl, hb⟩
            have T' := Lib.hid (below_next T.out hb)
            have R0' := Lib.hid (R0.out.next hb)
            have Ra' := Lib.hid (Ra.out.next hb)
            have Rb' := Lib.hid (Rb.out.next hb)
            have Rc' := Lib.hid (Rc.out.next hb)
            have Rd' := Lib.hid (Rd.out.next hb)
            clear T R0 Ra Rb Rc Rd hb
            have T := T'
            have R0 := R0'
            have Ra := Ra'
            have Rb := Rb'
            have Rc := Rc'
            have Rd := Rd'
            clear T' R0' Ra' Rb' Rc' Rd'
            go_wp2_with fail
            go_ret
            exact ⟨rfl, T.out⟩
          · clear Ud
            go_wp2_with fail
            refine (samePages_any Aa A0 _ _ ca c0 _ _ _ Ra.out R0.out hna hn0).mono ?_
            rintro e w24 ⟨rfl, hb⟩
            have T' := Lib.hid (below_next T.out hb)
            have R0' := Lib.hid (R0.out.next hb)
            have Ra' := Lib.hid (Ra.out.next hb)
            have Rb' := Lib.hid (Rb.out.next hb)
            have Rc' := Lib.hid (Rc.out.next hb)
            have Rd' := Lib.hid (Rd.out.next hb)
            clear T R0 Ra Rb Rc Rd hb
            have T := T'
            have R0 := R0'
            have Ra := Ra'
            have Rb := Rb'
            have Rc := Rc'
            have Rd := Rd'
            clear T' R0' Ra' Rb' Rc' Rd'
            go_wp2_with fail
            refine (samePages_any Ab A0 _ _ cb c0 _ _ _ Rb.out R0.out hnb hn0).mono ?_
            rintro e w25 ⟨rfl, hb⟩
            have T' := Lib.hid (below_next T.out hb)
            have R0' := Lib.hid (R0.out.next hb)
            have Ra' := Lib.hid (Ra.out.next hb)
            have Rb' := Lib.hid (Rb.out.next hb)
            have Rc' := Lib.hid (Rc.out.next hb)
            have Rd' := Lib.hid (Rd.out.next hb)
            clear T R0 Ra Rb Rc Rd hb
            have T := T'
            have R0 := R0'
            have Ra := Ra'
            have Rb := Rb'
            have Rc := Rc'
            have Rd := Rd'
            clear T' R0' Ra' Rb' Rc' Rd'
            go_wp2_with fail
            refine (writesBegun_any _).mono ?_
            rintro e w26 ⟨rfl, hb⟩
            have T' := Lib.hid (below_next T.out hb)
            have R0' := Lib.hid (R0.out.next hb)
            have Ra' := Lib.hid (Ra.out.next hb)
            have Rb' := Lib.hid (Rb.out.next hb)
            have Rc' := Lib.hid (Rc.out.next hb)
            have Rd' := Lib.hid (Rd.out.next hb)
            clear T R0 Ra Rb Rc Rd hb
            have T := T'
            have R0 := R0'
            have Ra := Ra'
            have Rb := Rb'
            have Rc := Rc'
            have Rd := Rd'
            clear T' R0' Ra' Rb' Rc' Rd'
            go_wp2_with fail
            go_ret
            exact ⟨rfl, T.out⟩
      · clear Ub
        rcases Cc with hc | ⟨hc, hc2⟩
        · obtain ⟨rfl, rfl⟩ := Uc.out hc
          subst hc
          clear Uc
          rcases Cd with hd | ⟨hd, hd2⟩
          · obtain ⟨rfl, rfl⟩ := Ud.out hd
            subst hd
            clear Ud
            go_wp2_with fail
            refine (samePages_any Aa A0 _ _ ca c0 _ _ _ Ra.out R0.out hna hn0).mono ?_
            rintro e w24 ⟨rfl, hb⟩
            have T' := Lib.hid (below_next T.out hb)
            have R0' := Lib.hid (R0.out.next hb)
            have Ra' := Lib.hid (Ra.out.next hb)
            have Rb' := Lib.hid (Rb.out.next hb)
            have Rc' := Lib.hid (Rc.out.next hb)
            have Rd' := Lib.hid (Rd.out.next hb)
            clear T R0 Ra Rb Rc Rd hb
            have T := T'
            have R0 := R0'
            have Ra := Ra'
            have Rb := Rb'
            have Rc := Rc'
            have Rd := Rd'
            clear T' R0' Ra' Rb' Rc' Rd'
            go_wp2_with fail
            refine (writesBegun_any _).mono ?_
            rintro e w25 ⟨rfl, hb⟩
            have T' := Lib.hid (below_next T.out hb)
            have R0' := Lib.hid (R0.out.next hb)
            have Ra' := Lib.hid (Ra.out.next hb)
            have Rb' := Lib.hid (Rb.out.next hb)
            have Rc' := Lib.hid (Rc.out.next hb)
            have Rd' := Lib.hid (Rd.out.next hb)
            clear T R0 Ra Rb Rc Rd hb
            have T := T'
            have R0 := R0'
            have Ra := Ra'
            have Rb := Rb'
            have Rc := Rc'
            have Rd := Rd'
            clear T' R0' Ra' Rb' Rc' Rd'
            go_wp2_with fail
            refine (samePages_any Ac A0 _ _ cc c0 _ _ _ Rc.out R0.out hnc hn0).mono ?_
            rintro e w26 ⟨rfl, hb⟩
            have T' := Lib.hid (below_next T.out hb)
            have R0' := Lib.hid (R0.out.next hb)
            have Ra' := Lib.hid (Ra.out.next hb)
            have Rb' := Lib.hid (Rb.out.next hb)
            have Rc' := Lib.hid (Rc.out.next hb)
            have Rd' := Lib.hid (Rd.out.next hb)
            clear T R0 Ra Rb Rc Rd hb
            have T := T'
            have R0 := R0'
            have Ra := Ra'
            have Rb := Rb'
            have Rc := Rc'
            have Rd := Rd'
            clear T' R0' Ra' Rb' Rc' Rd'
            go_wp2_with fail
            refine (samePages_any Ad A0 _ _ cd c0 _ _ _ Rd.out R0.out hnd hn0).mono ?_
            rintro e w27 ⟨rfl, hb⟩
            have T' := Lib.hid (below_next T.out hb)
            have R0' := Lib.hid (R0.out.next hb)
            have Ra' := Lib.hid (Ra.out.next hb)
            have Rb' := Lib.hid (Rb.out.next hb)
            have Rc' := Lib.hid (Rc.out.next hb)
            have Rd' := Lib.hid (Rd.out.next hb)
            clear T R0 Ra Rb Rc Rd hb
            have T := T'
            have R0 := R0'
            have Ra := Ra'
            have Rb := Rb'
            have Rc := Rc'
            have Rd := Rd'
            clear T' R0' Ra' Rb' Rc' Rd'
            go_wp2_with fail
            go_ret
            exact ⟨rfl, T.out⟩
          · clear Ud
            go_wp2_with fail
            refine (samePages_any Aa A0 _ _ ca c0 _ _ _ Ra.out R0.out hna hn0).mono ?_
            rintro e w24 ⟨rfl, hb⟩
            have T' := Lib.hid (below_next T.out hb)
            have R0' := Lib.hid (R0.out.next hb)
            have Ra' := Lib.hid (Ra.out.next hb)
            have Rb' := Lib.hid (Rb.out.next hb)
            have Rc' := Lib.hid (Rc.out.next hb)
            have Rd' := Lib.hid (Rd.out.next hb)
            clear T R0 Ra Rb Rc Rd hb
            have T := T'
            have R0 := R0'
            have Ra := Ra'
            have Rb := Rb'
            have Rc := Rc'
            have Rd := Rd'
            clear T' R0' Ra' Rb' Rc' Rd'
            go_wp2_with fail
            refine (writesBegun_any _).mono ?_
            rintro e w25 ⟨rfl, hb⟩
            have T' := Lib.hid (below_next T.out hb)
            have R0' := Lib.hid (R0.out.next hb)
            have Ra' := Lib.hid (Ra.out.next hb)
            have Rb' := Lib.hid (Rb.out.next hb)
            have Rc' := Lib.hid (Rc.out.next hb)
            have Rd' := Lib.hid (Rd.out.next hb)
            clear T R0 Ra Rb Rc Rd hb
            have T := T'
            have R0 := R0'
            have Ra := Ra'
            have Rb := Rb'
            have Rc := Rc'
            have Rd := Rd'
            clear T' R0' Ra' Rb' Rc' Rd'
            go_wp2_with fail
            refine (samePages_any Ac A0 _ _ cc c0 _ _ _ Rc.out R0.out hnc hn0).mono ?_
            rintro e w26 ⟨rfl, hb⟩
            have T' := Lib.hid (below_next T.out hb)
            have R0' := Lib.hid (R0.out.next hb)
            have Ra' := Lib.hid (Ra.out.next hb)
            have Rb' := Lib.hid (Rb.out.next hb)
            have Rc' := Lib.hid (Rc.out.next hb)
            have Rd' := Lib.hid (Rd.out.next hb)
            clear T R0 Ra Rb Rc Rd hb
            have T := T'
            have R0 := R0'
            have Ra := Ra'
            have Rb := Rb'
            have Rc := Rc'
            have Rd := Rd'
            clear T' R0' Ra' Rb' Rc' Rd'
            go_wp2_with fail
            go_ret
            exact ⟨rfl, T.out⟩
        · clear Uc
          rcases Cd with hd | ⟨hd, hd2⟩
          · obtain ⟨rfl, rfl⟩ := Ud.out hd
            subst hd
            clear Ud
            go_wp2_with fail
            refine (samePages_any Aa A0 _ _ ca c0 _ _ _ Ra.out R0.out hna hn0).mono ?_
            rintro e w24 ⟨rfl, hb⟩
            have T' := Lib.hid (below_next T.out hb)
            have R0' := Lib.hid (R0.out.next hb)
            have Ra' := Lib.hid (Ra.out.next hb)
            have Rb' := Lib.hid (Rb.out.next hb)
            have Rc' := Lib.hid (Rc.out.next hb)
            have Rd' := Lib.hid (Rd.out.next hb)
            clear T R0 Ra Rb Rc Rd hb
            have T := T'
            have R0 := R0'
            have Ra := Ra'
            have Rb := Rb'
            have Rc := Rc'
            have Rd := Rd'
            clear T' R0' Ra' Rb' Rc' Rd'
            go_wp2_with fail
            refine (writesBegun_any _).mono ?_
            rintro e w25 ⟨rfl, hb⟩
            have T' := Lib.hid (below_next T.out hb)
            have R0' := Lib.hid (R0.out.next hb)
            have Ra' := Lib.hid (Ra.out.next hb)
            have Rb' := Lib.hid (Rb.out.next hb)
            have Rc' := Lib.hid (Rc.out.next hb)
            have Rd' := Lib.hid (Rd.out.next hb)
            clear T R0 Ra Rb Rc Rd hb
            have T := T'
            have R0 := R0'
            have Ra := Ra'
            have Rb := Rb'
            have Rc := Rc'
            have Rd := Rd'
            clear T' R0' Ra' Rb' Rc' Rd'
            go_wp2_with fail
            refine (samePages_any Ad A0 _ _ cd c0 _ _ _ Rd.out R0.out hnd hn0).mono ?_
            rintro e w26 ⟨rfl, hb⟩
            have T' := Lib.hid (below_next T.out hb)
            have R0' := Lib.hid (R0.out.next hb)
            have Ra' := Lib.hid (Ra.out.next hb)
            have Rb' := Lib.hid (Rb.out.next hb)
            have Rc' := Lib.hid (Rc.out.next hb)
            have Rd' := Lib.hid (Rd.out.next hb)
            clear T R0 Ra Rb Rc Rd hb
            have T := T'
            have R0 := R0'
            have Ra := Ra'
            have Rb := Rb'
            have Rc := Rc'
            have Rd := Rd'
            clear T' R0' Ra' Rb' Rc' Rd'
            go_wp2_with fail
            go_ret
            exact ⟨rfl, T.out⟩
          · clear Ud
            go_wp2_with fail
            refine (samePages_any Aa A0 _ _ ca c0 _ _ _ Ra.out R0.out hna hn0).mono ?_
            rintro e w24 ⟨rfl, hb⟩
            have T' := Lib.hid (below_next T.out hb)
            have R0' := Lib.hid (R0.out.next hb)
            have Ra' := Lib.hid (Ra.out.next hb)
            have Rb' := Lib.hid (Rb.out.next hb)
            have Rc' := Lib.hid (Rc.out.next hb)
            have Rd' := Lib.hid (Rd.out.next hb)
            clear T R0 Ra Rb Rc Rd hb
            have T := T'
            have R0 := R0'
            have Ra := Ra'
            have Rb := Rb'
            have Rc := Rc'
            have Rd := Rd'
            clear T' R0' Ra' Rb' Rc' Rd'
            go_wp2_with fail
            refine (writesBegun_any _).mono ?_
            rintro e w25 ⟨rfl, hb⟩
            have T' := Lib.hid (below_next T.out hb)
            have R0' := Lib.hid (R0.out.next hb)
            have Ra' := Lib.hid (Ra.out.next hb)
            have Rb' := Lib.hid (Rb.out.next hb)
            have Rc' := Lib.hid (Rc.out.next hb)
            have Rd' := Lib.hid (Rd.out.next hb)
            clear T R0 Ra Rb Rc Rd hb
            have T := T'
            have R0 := R0'
            have Ra := Ra'
            have Rb := Rb'
            have Rc := Rc'
            have Rd := Rd'
            clear T' R0' Ra' Rb' Rc' Rd'
            go_wp2_with fail
            go_ret
            exact ⟨rfl, T.out⟩
    · clear Ua
      rcases Cb with hb | ⟨hb, hb2⟩
      · obtain ⟨rfl, rfl⟩ := Ub.out hb
        subst hb
        clear Ub
        rcases Cc with hc | ⟨hc, hc2⟩
        · obtain ⟨rfl, rfl⟩ := Uc.out hc
          subst hc
          clear Uc
          rcases Cd with hd | ⟨hd, hd2⟩
          · obtain ⟨rfl, rfl⟩ := Ud.out hd
            subst hd
            clear Ud
            go_wp2_with fail
            refine (samePages_any Ab A0 _ _ cb c0 _ _ _ Rb.out R0.out hnb hn0).mono ?_
            rintro e w24 ⟨rfl, hb⟩
            have T' := Lib.hid (below_next T.out hb)
            have R0' := Lib.hid (R0.out.next hb)
            have Ra' := Lib.hid (Ra.out.next hb)
            have Rb' := Lib.hid (Rb.out.next hb)
            have Rc' := Lib.hid (Rc.out.next hb)
            have Rd' := Lib.hid (Rd.out.next hb)
            clear T R0 Ra Rb Rc Rd hb
            have T := T'
            have R0 := R0'
            have Ra := Ra'
            have Rb := Rb'
            have Rc := Rc'
            have Rd := Rd'
            clear T' R0' Ra' Rb' Rc' Rd'
            go_wp2_with fail
            refine (writesBegun_any _).mono ?_
            rintro e w25 ⟨rfl, hb⟩
            have T' := Lib.hid (below_next T.out hb)
            have R0' := Lib.hid (R0.out.next hb)
            have Ra' := Lib.hid (Ra.out.next hb)
            have Rb' := Lib.hid (Rb.out.next hb)
            have Rc' := Lib.hid (Rc.out.next hb)
            have Rd' := Lib.hid (Rd.out.next hb)
            clear T R0 Ra Rb Rc Rd hb
            have T := T'
            have R0 := R0'
            have Ra := Ra'
            have Rb := Rb'
            have Rc := Rc'
            have Rd := Rd'
            clear T' R0' Ra' Rb' Rc' Rd'
            go_wp2_with fail
            refine (samePages_any Ac A0 _ _ cc c0 _ _ _ Rc.out R0.out hnc hn0).mono ?_
            rintro e w26 ⟨rfl, hb⟩
            have T' := Lib.hid (below_next T.out hb)
            have R0' := Lib.hid (R0.out.next hb)
            have Ra' := Lib.hid (Ra.out.next hb)
            have Rb' := Lib.hid (Rb.out.next hb)
            have Rc' := Lib.hid (Rc.out.next hb)
            have Rd' := Lib.hid (Rd.out.next hb)
            clear T R0 Ra Rb Rc Rd hb
            have T := T'
            have R0 := R0'
            have Ra := Ra'
            have Rb := Rb'
            have Rc := Rc'
            have Rd := Rd'
            clear T' R0' Ra' Rb' Rc' Rd'
            go_wp2_with fail
            refine (samePages_any Ad A0 _ _ cd c0 _ _ _ Rd.out R0.out hnd hn0).mono ?_
            rintro e w27 ⟨rfl, hb⟩
            have T' := Lib.hid (below_next T.out hb)
            have R0' := Lib.hid (R0.out.next hb)
            have Ra' := Lib.hid (Ra.out.next hb)
            have Rb' := Lib.hid (Rb.out.next hb)
            have Rc' := Lib.hid (Rc.out.next hb)
            have Rd' := Lib.hid (Rd.out.next hb)
            clear T R0 Ra Rb Rc Rd hb
            have T := T'
            have R0 := R0'
            have Ra := Ra'
            have Rb := Rb'
            have Rc := Rc'
            have Rd := Rd'
            clear T' R0' Ra' Rb' Rc' Rd'
            go_wp2_with fail
            go_ret
            exact ⟨rfl, T.out⟩
          · clear Ud
            go_wp2_with fail
            refine (samePages_any Ab A0 _ _ cb c0 _ _ _ Rb.out R0.out hnb hn0).mono ?_
            rintro e w24 ⟨rfl, hb⟩
            have T' := Lib.hid (below_next T.out hb)
            have R0' := Lib.hid (R0.out.next hb)
            have Ra' := Lib.hid (Ra.out.next hb)
            have Rb' := Lib.hid (Rb.out.next hb)
            have Rc' := Lib.hid (Rc.out.next hb)
            have Rd' := Lib.hid (Rd.out.next hb)
            clear T R0 Ra Rb Rc Rd hb
            have T := T'
            have R0 := R0'
            have Ra := Ra'
            have Rb := Rb'
            have Rc := Rc'
            have Rd := Rd'
            clear T' R0' Ra' Rb' Rc' Rd'
            go_wp2_with fail
            refine (writesBegun_any _).mono ?_
            rintro e w25 ⟨rfl, hb⟩
            have T' := Lib.hid (below_next T.out hb)
            have R0' := Lib.hid (R0.out.next hb)
            have Ra' := Lib.hid (Ra.out.next hb)
            have Rb' := Lib.hid (Rb.out.next hb)
            have Rc' := Lib.hid (Rc.out.next hb)
            have Rd' := Lib.hid (Rd.out.next hb)
            clear T R0 Ra Rb Rc Rd hb
            have T := T'
            have R0 := R0'
            have Ra := Ra'
            have Rb := Rb'
            have Rc := Rc'
            have Rd := Rd'
            clear T' R0' Ra' Rb' Rc' Rd'
            go_wp2_with fail
            refine (samePages_any Ac A0 _ _ cc c0 _ _ _ Rc.out R0.out hnc hn0).mono ?_
            rintro e w26 ⟨rfl, hb⟩
            have T' := Lib.hid (below_next T.out hb)
            have R0' := Lib.hid (R0.out.next hb)
            have Ra' := Lib.hid (Ra.out.next hb)
            have Rb' := Lib.hid (Rb.out.next hb)
            have Rc' := Lib.hid (Rc.out.next hb)
            have Rd' := Lib.hid (Rd.out.next hb)
            clear T R0 Ra Rb Rc Rd hb
            have T := T'
            have R0 := R0'
            have Ra := Ra'
            have Rb := Rb'
            have Rc := Rc'
            have Rd := Rd'
            clear T' R0' Ra' Rb' Rc' Rd'
            go_wp2_with fail
            go_ret
            exact ⟨rfl, T.out⟩
        · clear Uc
          rcases Cd with hd | ⟨hd, hd2⟩
          · obtain ⟨rfl, rfl⟩ := Ud.out hd
            subst hd
            clear Ud
            go_wp2_with fail
            refine (samePages_any Ab A0 _ _ cb c0 _ _ _ Rb.out R0.out hnb hn0).mono ?_
            rintro e w24 ⟨rfl, hb⟩
            have T' := Lib.hid (below_next T.out hb)
            have R0' := Lib.hid (R0.out.next hb)
            have Ra' := Lib.hid (Ra.out.next hb)
            have Rb' := Lib.hid (Rb.out.next hb)
            have Rc' := Lib.hid (Rc.out.next hb)
            have Rd' := Lib.hid (Rd.out.next hb)
            clear T R0 Ra Rb Rc Rd hb
            have T := T'
            have R0 := R0'
            have Ra := Ra'
            have Rb := Rb'
            have Rc := Rc'
            have Rd := Rd'
            clear T' R0' Ra' Rb' Rc' Rd'
            go_wp2_with fail
            refine (writesBegun_any _).mono ?_
            rintro e w25 ⟨rfl, hb⟩
            have T' := Lib.hid (below_next T.out hb)
            have R0' := Lib.hid (R0.out.next hb)
            have Ra' := Lib.hid (Ra.out.next hb)
            have Rb' := Lib.hid (Rb.out.next hb)
            have Rc' := Lib.hid (Rc.out.next hb)
            have Rd' := Lib.hid (Rd.out.next hb)
            clear T R0 Ra Rb Rc Rd hb
            have T := T'
            have R0 := R0'
            have Ra := Ra'
            have Rb := Rb'
            have Rc := Rc'
            have Rd := Rd'
            clear T' R0' Ra' Rb' Rc' Rd'
            go_wp2_with fail
            refine (samePages_any Ad A0 _ _ cd c0 _ _ _ Rd.out R0.out hnd hn0).mono ?_
            rintro e w26 ⟨rfl, hb⟩
            have T' := Lib.hid (below_next T.out hb)
            have R0' := Lib.hid (R0.out.next hb)
            have Ra' := Lib.hid (Ra.out.next hb)
            have Rb' := Lib.hid (Rb.out.next hb)
            have Rc' := Lib.hid (Rc.out.next hb)
            have Rd' := Lib.hid (Rd.out.next hb)
            clear T R0 Ra Rb Rc Rd hb
            have T := T'
            have R0 := R0'
            have Ra := Ra'
            have Rb := Rb'
            have Rc := Rc'
            have Rd := Rd'
            clear T' R0' Ra' Rb' Rc' Rd'
            go_wp2_with fail
            go_ret
            exact ⟨rfl, T.out⟩
          · clear Ud
            go_wp2_with fail
            refine (samePages_any Ab A0 _ _ cb c0 _ _ _ Rb.out R0.out hnb hn0).mono ?_
            rintro e w24 ⟨rfl, hb⟩
            have T' := Lib.hid (below_next T.out hb)
            have R0' := Lib.hid (R0.out.next hb)
            have Ra' := Lib.hid (Ra.out.next hb)
            have Rb' := Lib.hid (Rb.out.next hb)
            have Rc' := Lib.hid (Rc.out.next hb)
            have Rd' := Lib.hid (Rd.out.next hb)
            clear T R0 Ra Rb Rc Rd hb
            have T := T'
            have R0 := R0'
            have Ra := Ra'
            have Rb := Rb'
            have Rc := Rc'
            have Rd := Rd'
            clear T' R0' Ra' Rb' Rc' Rd'
            go_wp2_with fail
            refine (writesBegun_any _).mono ?_
            rintro e w25 ⟨rfl, hb⟩
            have T' := Lib.hid (below_next T.out hb)
            have R0' := Lib.hid (R0.out.next hb)
            have Ra' := Lib.hid (Ra.out.next hb)
            have Rb' := Lib.hid (Rb.out.next hb)
            have Rc' := Lib.hid (Rc.out.next hb)
            have Rd' := Lib.hid (Rd.out.next hb)
            clear T R0 Ra Rb Rc Rd hb
            have T := T'
            have R0 := R0'
            have Ra := Ra'
            have Rb := Rb'
            have Rc := Rc'
            have Rd := Rd'
            clear T' R0' Ra' Rb' Rc' Rd'
            go_wp2_with fail
            go_ret
            exact ⟨rfl, T.out⟩
      · clear Ub
        rcases Cc with hc | ⟨hc, hc2⟩
        · obtain ⟨rfl, rfl⟩ := Uc.out hc
          subst hc
          clear Uc
          rcases Cd with hd | ⟨hd, hd2⟩
          · obtain ⟨rfl, rfl⟩ := Ud.out hd
            subst hd
            clear Ud
            go_wp2_with fail
            refine (writesBegun_any _).mono ?_
            rintro e w24 ⟨rfl, hb⟩
            have T' := Lib.hid (below_next T.out hb)
            have R0' := Lib.hid (R0.out.next hb)
            have Ra' := Lib.hid (Ra.out.next hb)
            have Rb' := Lib.hid (Rb.out.next hb)
            have Rc' := Lib.hid (Rc.out.next hb)
            have Rd' := Lib.hid (Rd.out.next hb)
            clear T R0 Ra Rb Rc Rd hb
            have T := T'
            have R0 := R0'
            have Ra := Ra'
            have Rb := Rb'
            have Rc := Rc'
            have Rd := Rd'
            clear T' R0' Ra' Rb' Rc' Rd'
            go_wp2_with fail
            refine (samePages_any Ac A0 _ _ cc c0 _ _ _ Rc.out R0.out hnc hn0).mono ?_
            rintro e w25 ⟨rfl, hb⟩
            have T' := Lib.hid (below_next T.out hb)
            have R0' := Lib.hid (R0.out.next hb)
            have Ra' := Lib.hid (Ra.out.next hb)
            have Rb' := Lib.hid (Rb.out.next hb)
            have Rc' := Lib.hid (Rc.out.next hb)
            have Rd' := Lib.hid (Rd.out.next hb)
            clear T R0 Ra Rb Rc Rd hb
            have T := T'
            have R0 := R0'
            have Ra := Ra'
            have Rb := Rb'
            have Rc := Rc'
            have Rd := Rd'
            clear T' R0' Ra' Rb' Rc' Rd'
            go_wp2_with fail
            refine (samePages_any Ad A0 _ _ cd c0 _ _ _ Rd.out R0.out hnd hn0).mono ?_
            rintro e w26 ⟨rfl, hb⟩
            have T' := Lib.hid (below_next T.out hb)
            have R0' := Lib.hid (R0.out.next hb)
            have Ra' := Lib.hid (Ra.out.next hb)
            have Rb' := Lib.hid (Rb.out.next hb)
            have Rc' := Lib.hid (Rc.out.next hb)
            have Rd' := Lib.hid (Rd.out.next hb)
            clear T R0 Ra Rb Rc Rd hb
            have T := T'
            have R0 := R0'
            have Ra := Ra'
            have Rb := Rb'
            have Rc := Rc'
            have Rd := Rd'
            clear T' R0' Ra' Rb' Rc' Rd'
            go_wp2_with fail
            go_ret
            exact ⟨rfl, T.out⟩
          · clear Ud
            go_wp2_with fail
            refine (writesBegun_any _).mono ?_
            rintro e w24 ⟨rfl, hb⟩
            have T' := Lib.hid (below_next T.out hb)
            have R0' := Lib.hid (R0.out.next hb)
            have Ra' := Lib.hid (Ra.out.next hb)
            have Rb' := Lib.hid (Rb.out.next hb)
            have Rc' := Lib.hid (Rc.out.next hb)
            have Rd' := Lib.hid (Rd.out.next hb)
            clear T R0 Ra Rb Rc Rd hb
            have T := T'
            have R0 := R0'
            have Ra := Ra'
            have Rb := Rb'
            have Rc := Rc'
            have Rd := Rd'
            clear T' R0' Ra' Rb' Rc' Rd'
            go_wp2_with fail
            refine (samePages_any Ac A0 _ _ cc c0 _ _ _ Rc.out R0.out hnc hn0).mono ?_
            rintro e w25 ⟨rfl, hb⟩
            have T' := Lib.hid (below_next T.out hb)
            have R0' := Lib.hid (R0.out.next hb)
            have Ra' := Lib.hid (Ra.out.next hb)
            have Rb' := Lib.hid (Rb.out.next hb)
            have Rc' := Lib.hid (Rc.out.next hb)
            have Rd' := Lib.hid (Rd.out.next hb)
            clear T R0 Ra Rb Rc Rd hb
            have T := T'
            have R0 := R0'
            have Ra := Ra'
            have Rb := Rb'
            have Rc := Rc'
            have Rd := Rd'
            clear T' R0' Ra' Rb' Rc' Rd'
            go_wp2_with fail
            go_ret
            exact ⟨rfl, T.out⟩
        · clear Uc
          rcases Cd with hd | ⟨hd, hd2⟩
          · obtain ⟨rfl, rfl⟩ := Ud.out hd
            subst hd
            clear Ud
            go_wp2_with fail
            refine (writesBegun_any _).mono ?_
            rintro e w24 ⟨rfl, hb⟩
            have T' := Lib.hid (below_next T.out hb)
            have R0' := Lib.hid (R0.out.next hb)
            have Ra' := Lib.hid (Ra.out.next hb)
            have Rb' := Lib.hid (Rb.out.next hb)
            have Rc' := Lib.hid (Rc.out.next hb)
            have Rd' := Lib.hid (Rd.out.next hb)
            clear T R0 Ra Rb Rc Rd hb
            have T := T'
            have R0 := R0'
            have Ra := Ra'
            have Rb := Rb'
            have Rc := Rc'
            have Rd := Rd'
            clear T' R0' Ra' Rb' Rc' Rd'
            go_wp2_with fail
            refine (samePages_any Ad A0 _ _ cd c0 _ _ _ Rd.out R0.out hnd hn0).mono ?_
            rintro e w25 ⟨rfl, hb⟩
            have T' := Lib.hid (below_next T.out hb)
            have R0' := Lib.hid (R0.out.next hb)
            have Ra' := Lib.hid (Ra.out.next hb)
            have Rb' := Lib.hid (Rb.out.next hb)
            have Rc' := Lib.hid (Rc.out.next hb)
            have Rd' := Lib.hid (Rd.out.next hb)
            clear T R0 Ra Rb Rc Rd hb
            have T := T'
            have R0 := R0'
            have Ra := Ra'
            have Rb := Rb'
            have Rc := Rc'
            have Rd := Rd'
            clear T' R0' Ra' Rb' Rc' Rd'
            go_wp2_with fail
            go_ret
            exact ⟨rfl, T.out⟩
          · clear Ud
            go_wp2_with fail
            refine (writesBegun_any _).mono ?_
            rintro e w24 ⟨rfl, hb⟩
            have T' := Lib.hid (below_next T.out hb)
            have R0' := Lib.hid (R0.out.next hb)
            have Ra' := Lib.hid (Ra.out.next hb)
            have Rb' := Lib.hid (Rb.out.next hb)
            have Rc' := Lib.hid (Rc.out.next hb)
            have Rd' := Lib.hid (Rd.out.next hb)
            clear T R0 Ra Rb Rc Rd hb
            have T := T'
            have R0 := R0'
            have Ra := Ra'
            have Rb := Rb'
            have Rc := Rc'
            have Rd := Rd'
            clear T' R0' Ra' Rb' Rc' Rd'
            go_wp2_with fail
            go_ret
            exact ⟨rfl, T.out⟩
  · go_wp2_with fail
    refine (writesBegun_any _).mono ?_
    rintro e w4 ⟨rfl, hb⟩
    have T' := Lib.hid (below_next T.out hb)
    have XM' := Lib.hid (XM.out.keep hb LM.out)
    have LM' := Lib.hid (Nat.lt_of_lt_of_le LM.out hb.size)
    have R0' := Lib.hid (R0.out.next hb)
    clear T XM LM R0 hb
    have T := T'
    have XM := XM'
    have LM := LM'
    have R0 := R0'
    clear T' XM' LM' R0'
    go_wp2_with fail
    go_ret
    exact ⟨rfl, T.out⟩
end Go.Proofs.Ytpboapeoejdipaa
