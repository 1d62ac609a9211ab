/- The law WritesRight. Conditions: the image is read below the heap's size. (Printed by gen_wright.py.) -/
import Derived.Test.YtpboapeoejdipaaWBegun
namespace Go.Proofs.Ytpboapeoejdipaa
open Go.RowKit Sl
set_option maxRecDepth 100000 in
set_option maxHeartbeats 4000000 in
theorem law_writesRight (v : IV) (m : Img) (n : Int) (pg : ByteArray) (g : Int) (w : World) (h : ImgR w w.heap.size v m) :
    Calls Try.prog 6 #[.agg #[.int .i64 m.guest, .slice v.rA v.rn v.rc, .slice v.sA v.sn v.sc, .slice v.fA v.fn v.fc, .slice v.pA v.pn v.pc], .int .i64 n, .string pg, .int .i64 g] w fun e w' => e = .returned (.bool true) ∧ Below w.heap.size w w' := by
  have Ka' := fun W (hb : Below w.heap.size w W) => write_any v m n pg W (h.next hb) (fun x => write_hw x)
  have Kb' := fun W (hb : Below w.heap.size w W) => wipe_any v m n W (h.next hb) (fun x => set_hw rfl (by decide) x)
  have Kc' := fun W (hb : Below w.heap.size w W) => punch_any v m n W (h.next hb) (fun x => set_hw rfl (by decide) x)
  have Kd' := fun W (hb : Below w.heap.size w W) => resize_any v m g W (h.next hb) (fun x => resize_hw x)
  have Fa' := fa_right (m := m) (n := n) (pg := pg)
  have Fb' := fs_right (m := m) (n := n) (e := -1) rfl (by decide)
  have Fc' := fs_right (m := m) (n := n) (e := 0) rfl (by decide)
  have Fd' := fr_right (m := m) (g := g)
  generalize writeI m n pg = za at *
  generalize writeE m n pg = ea at *
  generalize setI m n (-1) = zb at *
  generalize setE m n (-1) = eb at *
  generalize setI m n 0 = zc at *
  generalize setE m n 0 = ec at *
  generalize resizeI m g = zd at *
  generalize resizeE m g = ed at *
  have HSL := Lib.hid h.slen
  have hsb := h.scap.1
  obtain ⟨rA, rn, rc, sA, sn, sc, fA, fn, fc, pA, pn, pc⟩ := v
  dsimp only [imgV] at Ka' Kb' Kc' Kd' HSL hsb ⊢
  have Ka := Lib.hid Ka'
  have Kb := Lib.hid Kb'
  have Kc := Lib.hid Kc'
  have Kd := Lib.hid Kd'
  have Fa := Lib.hid Fa'
  have Fb := Lib.hid Fb'
  have Fc := Lib.hid Fc'
  have Fd := Lib.hid Fd'
  have T0 := below1 w (.cells #[.int .i64 m.guest, .slice rA rn rc, .slice sA sn sc, .slice fA fn fc, .slice pA pn pc] 26)
  have hX := Box.new w m.guest ⟨rA, rn, rc, sA, sn, sc, fA, fn, fc, pA, pn, pc⟩ 26
  have hl0 : w.heap.size < (w.alloc (.cells #[.int .i64 m.guest, .slice rA rn rc, .slice sA sn sc, .slice fA fn fc, .slice pA pn pc] 26)).heap.size := by simp
  have T := Lib.hid T0
  have XM := Lib.hid hX
  have LM := Lib.hid hl0
  clear Ka' Kb' Kc' Kd' Fa' Fb' Fc' Fd' h T0 hX hl0
  obtain ⟨x0, x1, x2, x3, x4⟩ := XM.out
  dsimp only at x0 x1 x2 x3 x4
  go_enter Try.func6, Try.ntmps6
  dsimp only [List.append]
  go_wp2_with fail
  generalize (w.alloc (.cells #[.int .i64 m.guest, .slice rA rn rc, .slice sA sn sc, .slice fA fn fc, .slice pA pn pc] 26)) = Wa at *
  refine (Ka.out _ T.out).mono ?_
  rintro e wa ⟨v, rfl, hF, hb⟩
  have hx := Box.new wa za.guest v 26
  have b1 := below1 wa (.cells #[.int .i64 za.guest, .slice v.rA v.rn v.rc, .slice v.sA v.sn v.sc, .slice v.fA v.fn v.fc, .slice v.pA v.pn v.pc] 26)
  have hi2 := hF.imgR.next b1
  have hlt : wa.heap.size < (wa.alloc (.cells #[.int .i64 za.guest, .slice v.rA v.rn v.rc, .slice v.sA v.sn v.sc, .slice v.fA v.fn v.fc, .slice v.pA v.pn v.pc] 26)).heap.size := by simp
  have Sa := Lib.hid (below_next hb b1)
  have Ta := Lib.hid (below_next T.out Sa.out)
  have XMa := Lib.hid (XM.out.keep Sa.out LM.out)
  have LMa := Lib.hid (Nat.lt_of_lt_of_le LM.out Sa.out.size)
  obtain ⟨arA, arn, arc, asA, asn, asc, afA, afn, afc, apA, apn, apc⟩ := v
  have Ia := Lib.hid hi2
  have Xa := Lib.hid hx
  have La := Lib.hid hlt
  dsimp only [imgV] at Ia Xa Sa Ta XMa LMa La ⊢
  clear hF hb hx hi2 hlt b1 Ka T XM LM x0 x1 x2 x3 x4
  have T := Ta
  have XM := XMa
  have LM := LMa
  clear Ta XMa LMa
  obtain ⟨x0, x1, x2, x3, x4⟩ := XM.out
  dsimp only at x0 x1 x2 x3 x4
  go_wp2_with fail
  generalize (wa.alloc (.cells #[.int .i64 za.guest, .slice arA arn arc, .slice asA asn asc, .slice afA afn afc, .slice apA apn apc] 26)) = Wb at *
  refine (Kb.out _ T.out).mono ?_
  rintro e wb ⟨v, rfl, hF, hb⟩
  have hx := Box.new wb zb.guest v 26
  have b1 := below1 wb (.cells #[.int .i64 zb.guest, .slice v.rA v.rn v.rc, .slice v.sA v.sn v.sc, .slice v.fA v.fn v.fc, .slice v.pA v.pn v.pc] 26)
  have hi2 := hF.imgR.next b1
  have hlt : wb.heap.size < (wb.alloc (.cells #[.int .i64 zb.guest, .slice v.rA v.rn v.rc, .slice v.sA v.sn v.sc, .slice v.fA v.fn v.fc, .slice v.pA v.pn v.pc] 26)).heap.size := by simp
  have Sb := Lib.hid (below_next hb b1)
  have Tb := Lib.hid (below_next T.out Sb.out)
  have XMb := Lib.hid (XM.out.keep Sb.out LM.out)
  have LMb := Lib.hid (Nat.lt_of_lt_of_le LM.out Sb.out.size)
  obtain ⟨brA, brn, brc, bsA, bsn, bsc, bfA, bfn, bfc, bpA, bpn, bpc⟩ := v
  have Ib := Lib.hid hi2
  have Xb := Lib.hid hx
  have Lb := Lib.hid hlt
  dsimp only [imgV] at Ib Xb Sb Tb XMb LMb Lb ⊢
  clear hF hb hx hi2 hlt b1 Kb T XM LM x0 x1 x2 x3 x4
  have T := Tb
  have XM := XMb
  have LM := LMb
  clear Tb XMb LMb
  obtain ⟨x0, x1, x2, x3, x4⟩ := XM.out
  dsimp only at x0 x1 x2 x3 x4
  go_wp2_with fail
  generalize (wb.alloc (.cells #[.int .i64 zb.guest, .slice brA brn brc, .slice bsA bsn bsc, .slice bfA bfn bfc, .slice bpA bpn bpc] 26)) = Wc at *
  refine (Kc.out _ T.out).mono ?_
  rintro e wc ⟨v, rfl, hF, hb⟩
  have hx := Box.new wc zc.guest v 26
  have b1 := below1 wc (.cells #[.int .i64 zc.guest, .slice v.rA v.rn v.rc, .slice v.sA v.sn v.sc, .slice v.fA v.fn v.fc, .slice v.pA v.pn v.pc] 26)
  have hi2 := hF.imgR.next b1
  have hlt : wc.heap.size < (wc.alloc (.cells #[.int .i64 zc.guest, .slice v.rA v.rn v.rc, .slice v.sA v.sn v.sc, .slice v.fA v.fn v.fc, .slice v.pA v.pn v.pc] 26)).heap.size := by simp
  have Sc := Lib.hid (below_next hb b1)
  have Tc := Lib.hid (below_next T.out Sc.out)
  have XMc := Lib.hid (XM.out.keep Sc.out LM.out)
  have LMc := Lib.hid (Nat.lt_of_lt_of_le LM.out Sc.out.size)
  obtain ⟨crA, crn, crc, csA, csn, csc, cfA, cfn, cfc, cpA, cpn, cpc⟩ := v
  have Ic := Lib.hid hi2
  have Xc := Lib.hid hx
  have Lc := Lib.hid hlt
  dsimp only [imgV] at Ic Xc Sc Tc XMc LMc Lc ⊢
  clear hF hb hx hi2 hlt b1 Kc T XM LM x0 x1 x2 x3 x4
  have T := Tc
  have XM := XMc
  have LM := LMc
  clear Tc XMc LMc
  obtain ⟨x0, x1, x2, x3, x4⟩ := XM.out
  dsimp only at x0 x1 x2 x3 x4
  go_wp2_with fail
  generalize (wc.alloc (.cells #[.int .i64 zc.guest, .slice crA crn crc, .slice csA csn csc, .slice cfA cfn cfc, .slice cpA cpn cpc] 26)) = Wd at *
  refine (Kd.out _ T.out).mono ?_
  rintro e wd ⟨v, rfl, hF, hb⟩
  have hx := Box.new wd zd.guest v 26
  have b1 := below1 wd (.cells #[.int .i64 zd.guest, .slice v.rA v.rn v.rc, .slice v.sA v.sn v.sc, .slice v.fA v.fn v.fc, .slice v.pA v.pn v.pc] 26)
  have hi2 := hF.imgR.next b1
  have hlt : wd.heap.size < (wd.alloc (.cells #[.int .i64 zd.guest, .slice v.rA v.rn v.rc, .slice v.sA v.sn v.sc, .slice v.fA v.fn v.fc, .slice v.pA v.pn v.pc] 26)).heap.size := by simp
  have Sd := Lib.hid (below_next hb b1)
  have Td := Lib.hid (below_next T.out Sd.out)
  have XMd := Lib.hid (XM.out.keep Sd.out LM.out)
  have LMd := Lib.hid (Nat.lt_of_lt_of_le LM.out Sd.out.size)
  obtain ⟨drA, drn, drc, dsA, dsn, dsc, dfA, dfn, dfc, dpA, dpn, dpc⟩ := v
  have Id := Lib.hid hi2
  have Xd := Lib.hid hx
  have Ld := Lib.hid hlt
  dsimp only [imgV] at Id Xd Sd Td XMd LMd Ld ⊢
  clear hF hb hx hi2 hlt b1 Kd T XM LM x0 x1 x2 x3 x4
  have T := Td
  have XM := XMd
  have LM := LMd
  clear Td XMd LMd
  obtain ⟨x0, x1, x2, x3, x4⟩ := XM.out
  dsimp only at x0 x1 x2 x3 x4
  clear x0 x1 x3 x4
  have Dc := Sd.out
  have Db := below_next Sc.out Dc
  have Da := below_next Sb.out Db
  have Xa' := Xa.out.keep Da La.out
  have Ia' := Ia.out.next Da
  have La' := Nat.lt_of_lt_of_le La.out Da.size
  have Xb' := Xb.out.keep Db Lb.out
  have Ib' := Ib.out.next Db
  have Lb' := Nat.lt_of_lt_of_le Lb.out Db.size
  have Xc' := Xc.out.keep Dc Lc.out
  have Ic' := Ic.out.next Dc
  have Lc' := Nat.lt_of_lt_of_le Lc.out Dc.size
  have Xd' := Xd.out
  have Id' := Id.out
  have Ld' := Ld.out
  have LM' := LM.out
  have Ka' := Lib.hid (fun W (hb : Below (wd.alloc (.cells #[.int .i64 zd.guest, .slice drA drn drc, .slice dsA dsn dsc, .slice dfA dfn dfc, .slice dpA dpn dpc] 26)).heap.size (wd.alloc (.cells #[.int .i64 zd.guest, .slice drA drn drc, .slice dsA dsn dsc, .slice dfA dfn dfc, .slice dpA dpn dpc] 26)) W) => tcheck_any _ _ W (Ia'.next hb))
  have Na := Lib.hid (Ia'.slen)
  have Kb' := Lib.hid (fun W (hb : Below (wd.alloc (.cells #[.int .i64 zd.guest, .slice drA drn drc, .slice dsA dsn dsc, .slice dfA dfn dfc, .slice dpA dpn dpc] 26)).heap.size (wd.alloc (.cells #[.int .i64 zd.guest, .slice drA drn drc, .slice dsA dsn dsc, .slice dfA dfn dfc, .slice dpA dpn dpc] 26)) W) => tcheck_any _ _ W (Ib'.next hb))
  have Nb := Lib.hid (Ib'.slen)
  have Kc' := Lib.hid (fun W (hb : Below (wd.alloc (.cells #[.int .i64 zd.guest, .slice drA drn drc, .slice dsA dsn dsc, .slice dfA dfn dfc, .slice dpA dpn dpc] 26)).heap.size (wd.alloc (.cells #[.int .i64 zd.guest, .slice drA drn drc, .slice dsA dsn dsc, .slice dfA dfn dfc, .slice dpA dpn dpc] 26)) W) => tcheck_any _ _ W (Ic'.next hb))
  have Nc := Lib.hid (Ic'.slen)
  have Kd' := Lib.hid (fun W (hb : Below (wd.alloc (.cells #[.int .i64 zd.guest, .slice drA drn drc, .slice dsA dsn dsc, .slice dfA dfn dfc, .slice dpA dpn dpc] 26)).heap.size (wd.alloc (.cells #[.int .i64 zd.guest, .slice drA drn drc, .slice dsA dsn dsc, .slice dfA dfn dfc, .slice dpA dpn dpc] 26)) W) => tcheck_any _ _ W (Id'.next hb))
  have Nd := Lib.hid (Id'.slen)
  have MV := Lib.hid (fun (W' : World) (hb : Below (wd.alloc (.cells #[.int .i64 zd.guest, .slice drA drn drc, .slice dsA dsn dsc, .slice dfA dfn dfc, .slice dpA dpn dpc] 26)).heap.size (wd.alloc (.cells #[.int .i64 zd.guest, .slice drA drn drc, .slice dsA dsn dsc, .slice dfA dfn dfc, .slice dpA dpn dpc] 26)) W') => (show W'.cell? ⟨w.heap.size, 2, none⟩ = some (.slice sA sn sc) ∧ W'.cell? ⟨wa.heap.size, 0, none⟩ = some (.int .i64 za.guest) ∧ W'.cell? ⟨wa.heap.size, 1, none⟩ = some (.slice arA arn arc) ∧ W'.cell? ⟨wa.heap.size, 2, none⟩ = some (.slice asA asn asc) ∧ W'.cell? ⟨wa.heap.size, 3, none⟩ = some (.slice afA afn afc) ∧ W'.cell? ⟨wa.heap.size, 4, none⟩ = some (.slice apA apn apc) ∧ W'.cell? ⟨wb.heap.size, 0, none⟩ = some (.int .i64 zb.guest) ∧ W'.cell? ⟨wb.heap.size, 1, none⟩ = some (.slice brA brn brc) ∧ W'.cell? ⟨wb.heap.size, 2, none⟩ = some (.slice bsA bsn bsc) ∧ W'.cell? ⟨wb.heap.size, 3, none⟩ = some (.slice bfA bfn bfc) ∧ W'.cell? ⟨wb.heap.size, 4, none⟩ = some (.slice bpA bpn bpc) ∧ W'.cell? ⟨wc.heap.size, 0, none⟩ = some (.int .i64 zc.guest) ∧ W'.cell? ⟨wc.heap.size, 1, none⟩ = some (.slice crA crn crc) ∧ W'.cell? ⟨wc.heap.size, 2, none⟩ = some (.slice csA csn csc) ∧ W'.cell? ⟨wc.heap.size, 3, none⟩ = some (.slice cfA cfn cfc) ∧ W'.cell? ⟨wc.heap.size, 4, none⟩ = some (.slice cpA cpn cpc) ∧ W'.cell? ⟨wd.heap.size, 0, none⟩ = some (.int .i64 zd.guest) ∧ W'.cell? ⟨wd.heap.size, 1, none⟩ = some (.slice drA drn drc) ∧ W'.cell? ⟨wd.heap.size, 2, none⟩ = some (.slice dsA dsn dsc) ∧ W'.cell? ⟨wd.heap.size, 3, none⟩ = some (.slice dfA dfn dfc) ∧ W'.cell? ⟨wd.heap.size, 4, none⟩ = some (.slice dpA dpn dpc) from ⟨(hb.cell (p := ⟨w.heap.size, 2, none⟩) LM').trans x2, (hb.cell (p := ⟨wa.heap.size, 0, none⟩) La').trans Xa'.1, (hb.cell (p := ⟨wa.heap.size, 1, none⟩) La').trans Xa'.2.1, (hb.cell (p := ⟨wa.heap.size, 2, none⟩) La').trans Xa'.2.2.1, (hb.cell (p := ⟨wa.heap.size, 3, none⟩) La').trans Xa'.2.2.2.1, (hb.cell (p := ⟨wa.heap.size, 4, none⟩) La').trans Xa'.2.2.2.2, (hb.cell (p := ⟨wb.heap.size, 0, none⟩) Lb').trans Xb'.1, (hb.cell (p := ⟨wb.heap.size, 1, none⟩) Lb').trans Xb'.2.1, (hb.cell (p := ⟨wb.heap.size, 2, none⟩) Lb').trans Xb'.2.2.1, (hb.cell (p := ⟨wb.heap.size, 3, none⟩) Lb').trans Xb'.2.2.2.1, (hb.cell (p := ⟨wb.heap.size, 4, none⟩) Lb').trans Xb'.2.2.2.2, (hb.cell (p := ⟨wc.heap.size, 0, none⟩) Lc').trans Xc'.1, (hb.cell (p := ⟨wc.heap.size, 1, none⟩) Lc').trans Xc'.2.1, (hb.cell (p := ⟨wc.heap.size, 2, none⟩) Lc').trans Xc'.2.2.1, (hb.cell (p := ⟨wc.heap.size, 3, none⟩) Lc').trans Xc'.2.2.2.1, (hb.cell (p := ⟨wc.heap.size, 4, none⟩) Lc').trans Xc'.2.2.2.2, (hb.cell (p := ⟨wd.heap.size, 0, none⟩) Ld').trans Xd'.1, (hb.cell (p := ⟨wd.heap.size, 1, none⟩) Ld').trans Xd'.2.1, (hb.cell (p := ⟨wd.heap.size, 2, none⟩) Ld').trans Xd'.2.2.1, (hb.cell (p := ⟨wd.heap.size, 3, none⟩) Ld').trans Xd'.2.2.2.1, (hb.cell (p := ⟨wd.heap.size, 4, none⟩) Ld').trans Xd'.2.2.2.2⟩))
  clear x2 Da Db Dc Xa' Xb' Xc' Xd' Ia' Ib' Ic' Id' La' Lb' Lc' Ld' LM' Xa Xb Xc Xd Ia Ib Ic Id La Lb Lc Ld LM XM Sa Sb Sc Sd
  have hD := Below.refl (wd.alloc (.cells #[.int .i64 zd.guest, .slice drA drn drc, .slice dsA dsn dsc, .slice dfA dfn dfc, .slice dpA dpn dpc] 26)).heap.size (wd.alloc (.cells #[.int .i64 zd.guest, .slice drA drn drc, .slice dsA dsn dsc, .slice dfA dfn dfc, .slice dpA dpn dpc] 26))
  obtain ⟨k0, k1, k2, k3, k4, k5, k6, k7, k8, k9, k10, k11, k12, k13, k14, k15, k16, k17, k18, k19, k20⟩ := MV.out _ hD
  have HT := T
  clear T
  have Ca : (ea = 0 ∨ (ea == 0) = false) := by
    by_cases hh : ea = 0
    · exact .inl hh
    · right; simpa using hh
  have Cb : (eb = 0 ∨ (eb == 0) = false) := by
    by_cases hh : eb = 0
    · exact .inl hh
    · right; simpa using hh
  have Cc : (ec = 0 ∨ (ec == 0) = false) := by
    by_cases hh : ec = 0
    · exact .inl hh
    · right; simpa using hh
  have Cd : (ed = 0 ∨ (ed == 0) = false) := by
    by_cases hh : ed = 0
    · exact .inl hh
    · right; simpa using hh
  have Qa : ea = 0 → checkErr za = 0 ∧ (asn : Int) ≤ (sn : Int) + 2 := fun hh => by have h1 := HSL.out; have h2 := Na.out; have h3 := Fa.out hh; dsimp only at h1 h2; exact ⟨h3.1, by omega⟩
  have Qb : eb = 0 → checkErr zb = 0 ∧ (bsn : Int) ≤ (sn : Int) + 1 := fun hh => by have h1 := HSL.out; have h2 := Nb.out; have h3 := Fb.out hh; dsimp only at h1 h2; exact ⟨h3.1, by omega⟩
  have Qc : ec = 0 → checkErr zc = 0 ∧ (csn : Int) ≤ (sn : Int) + 1 := fun hh => by have h1 := HSL.out; have h2 := Nc.out; have h3 := Fc.out hh; dsimp only at h1 h2; exact ⟨h3.1, by omega⟩
  have Qd : ed = 0 → checkErr zd = 0 ∧ zd.guest = g := fun hh => Fd.out hh
  have Qa := Lib.hid Qa
  have Qb := Lib.hid Qb
  have Qc := Lib.hid Qc
  have Qd := Lib.hid Qd
  clear Fa Fb Fc Fd Na Nb Nc Nd HSL
  rcases Ca with ha | ha <;> rcases Cb with hb' | hb' <;> rcases Cc with hc | hc <;> rcases Cd with hd | hd
  · obtain ⟨y, qa⟩ := Qa.out ha
    rw [y] at Ka'
    clear Qa y
    subst ha
    obtain ⟨y, qb⟩ := Qb.out hb'
    rw [y] at Kb'
    clear Qb y
    subst hb'
    obtain ⟨y, qc⟩ := Qc.out hc
    rw [y] at Kc'
    clear Qc y
    subst hc
    obtain ⟨y, qd⟩ := Qd.out hd
    rw [y] at Kd'
    clear Qd y
    subst hd
    subst qd
    go_wp2_with fail
    refine (Ka'.out _ hD).mono ?_
    rintro e ua ⟨rfl, hb⟩
    have hD2 := below_next hD hb
    clear hD hb k0 k1 k2 k3 k4 k5 k6 k7 k8 k9 k10 k11 k12 k13 k14 k15 k16 k17 k18 k19 k20
    have hD := hD2
    clear hD2 Ka'
    obtain ⟨k0, k1, k2, k3, k4, k5, k6, k7, k8, k9, k10, k11, k12, k13, k14, k15, k16, k17, k18, k19, k20⟩ := MV.out _ hD
    go_wp2_with fail
    refine (Kb'.out _ hD).mono ?_
    rintro e ub ⟨rfl, hb⟩
    have hD2 := below_next hD hb
    clear hD hb k0 k1 k2 k3 k4 k5 k6 k7 k8 k9 k10 k11 k12 k13 k14 k15 k16 k17 k18 k19 k20
    have hD := hD2
    clear hD2 Kb'
    obtain ⟨k0, k1, k2, k3, k4, k5, k6, k7, k8, k9, k10, k11, k12, k13, k14, k15, k16, k17, k18, k19, k20⟩ := MV.out _ hD
    go_wp2_with fail
    refine (Kc'.out _ hD).mono ?_
    rintro e uc ⟨rfl, hb⟩
    have hD2 := below_next hD hb
    clear hD hb k0 k1 k2 k3 k4 k5 k6 k7 k8 k9 k10 k11 k12 k13 k14 k15 k16 k17 k18 k19 k20
    have hD := hD2
    clear hD2 Kc'
    obtain ⟨k0, k1, k2, k3, k4, k5, k6, k7, k8, k9, k10, k11, k12, k13, k14, k15, k16, k17, k18, k19, k20⟩ := MV.out _ hD
    go_wp2_with fail
    refine (Kd'.out _ hD).mono ?_
    rintro e ud ⟨rfl, hb⟩
    have hD2 := below_next hD hb
    clear hD hb k0 k1 k2 k3 k4 k5 k6 k7 k8 k9 k10 k11 k12 k13 k14 k15 k16 k17 k18 k19 k20
    have hD := hD2
    clear hD2 Kd'
    obtain ⟨k0, k1, k2, k3, k4, k5, k6, k7, k8, k9, k10, k11, k12, k13, k14, k15, k16, k17, k18, k19, k20⟩ := MV.out _ hD
    go_wp2_with fail
    refine (writesBegun_any _).mono ?_
    rintro e u' ⟨rfl, hb9⟩
    have HB9 := Lib.hid (below_next (below_next HT.out hD) hb9)
    clear hb9 hD
    go_wp2_with fail
    go_ret
    exact ⟨rfl, HB9.out⟩
  · obtain ⟨y, qa⟩ := Qa.out ha
    rw [y] at Ka'
    clear Qa y
    subst ha
    obtain ⟨y, qb⟩ := Qb.out hb'
    rw [y] at Kb'
    clear Qb y
    subst hb'
    obtain ⟨y, qc⟩ := Qc.out hc
    rw [y] at Kc'
    clear Qc y
    subst hc
    clear Qd Kd'
    go_wp2_with fail
    refine (Ka'.out _ hD).mono ?_
    rintro e ua ⟨rfl, hb⟩
    have hD2 := below_next hD hb
    clear hD hb k0 k1 k2 k3 k4 k5 k6 k7 k8 k9 k10 k11 k12 k13 k14 k15 k16 k17 k18 k19 k20
    have hD := hD2
    clear hD2 Ka'
    obtain ⟨k0, k1, k2, k3, k4, k5, k6, k7, k8, k9, k10, k11, k12, k13, k14, k15, k16, k17, k18, k19, k20⟩ := MV.out _ hD
    go_wp2_with fail
    refine (Kb'.out _ hD).mono ?_
    rintro e ub ⟨rfl, hb⟩
    have hD2 := below_next hD hb
    clear hD hb k0 k1 k2 k3 k4 k5 k6 k7 k8 k9 k10 k11 k12 k13 k14 k15 k16 k17 k18 k19 k20
    have hD := hD2
    clear hD2 Kb'
    obtain ⟨k0, k1, k2, k3, k4, k5, k6, k7, k8, k9, k10, k11, k12, k13, k14, k15, k16, k17, k18, k19, k20⟩ := MV.out _ hD
    go_wp2_with fail
    refine (Kc'.out _ hD).mono ?_
    rintro e uc ⟨rfl, hb⟩
    have hD2 := below_next hD hb
    clear hD hb k0 k1 k2 k3 k4 k5 k6 k7 k8 k9 k10 k11 k12 k13 k14 k15 k16 k17 k18 k19 k20
    have hD := hD2
    clear hD2 Kc'
    obtain ⟨k0, k1, k2, k3, k4, k5, k6, k7, k8, k9, k10, k11, k12, k13, k14, k15, k16, k17, k18, k19, k20⟩ := MV.out _ hD
    go_wp2_with fail
    refine (writesBegun_any _).mono ?_
    rintro e u' ⟨rfl, hb9⟩
    have HB9 := Lib.hid (below_next (below_next HT.out hD) hb9)
    clear hb9 hD
    go_wp2_with fail
    go_ret
    exact ⟨rfl, HB9.out⟩
  · obtain ⟨y, qa⟩ := Qa.out ha
    rw [y] at Ka'
    clear Qa y
    subst ha
    obtain ⟨y, qb⟩ := Qb.out hb'
    rw [y] at Kb'
    clear Qb y
    subst hb'
    clear Qc Kc'
    obtain ⟨y, qd⟩ := Qd.out hd
    rw [y] at Kd'
    clear Qd y
    subst hd
    subst qd
    go_wp2_with fail
    refine (Ka'.out _ hD).mono ?_
    rintro e ua ⟨rfl, hb⟩
    have hD2 := below_next hD hb
    clear hD hb k0 k1 k2 k3 k4 k5 k6 k7 k8 k9 k10 k11 k12 k13 k14 k15 k16 k17 k18 k19 k20
    have hD := hD2
    clear hD2 Ka'
    obtain ⟨k0, k1, k2, k3, k4, k5, k6, k7, k8, k9, k10, k11, k12, k13, k14, k15, k16, k17, k18, k19, k20⟩ := MV.out _ hD
    go_wp2_with fail
    refine (Kb'.out _ hD).mono ?_
    rintro e ub ⟨rfl, hb⟩
    have hD2 := below_next hD hb
    clear hD hb k0 k1 k2 k3 k4 k5 k6 k7 k8 k9 k10 k11 k12 k13 k14 k15 k16 k17 k18 k19 k20
    have hD := hD2
    clear hD2 Kb'
    obtain ⟨k0, k1, k2, k3, k4, k5, k6, k7, k8, k9, k10, k11, k12, k13, k14, k15, k16, k17, k18, k19, k20⟩ := MV.out _ hD
    go_wp2_with fail
    refine (Kd'.out _ hD).mono ?_
    rintro e ud ⟨rfl, hb⟩
    have hD2 := below_next hD hb
    clear hD hb k0 k1 k2 k3 k4 k5 k6 k7 k8 k9 k10 k11 k12 k13 k14 k15 k16 k17 k18 k19 k20
    have hD := hD2
    clear hD2 Kd'
    obtain ⟨k0, k1, k2, k3, k4, k5, k6, k7, k8, k9, k10, k11, k12, k13, k14, k15, k16, k17, k18, k19, k20⟩ := MV.out _ hD
    go_wp2_with fail
    refine (writesBegun_any _).mono ?_
    rintro e u' ⟨rfl, hb9⟩
    have HB9 := Lib.hid (below_next (below_next HT.out hD) hb9)
    clear hb9 hD
    go_wp2_with fail
    go_ret
    exact ⟨rfl, HB9.out⟩
  · obtain ⟨y, qa⟩ := Qa.out ha
    rw [y] at Ka'
    clear Qa y
    subst ha
    obtain ⟨y, qb⟩ := Qb.out hb'
    rw [y] at Kb'
    clear Qb y
    subst hb'
    clear Qc Kc'
    clear Qd Kd'
    go_wp2_with fail
    refine (Ka'.out _ hD).mono ?_
    rintro e ua ⟨rfl, hb⟩
    have hD2 := below_next hD hb
    clear hD hb k0 k1 k2 k3 k4 k5 k6 k7 k8 k9 k10 k11 k12 k13 k14 k15 k16 k17 k18 k19 k20
    have hD := hD2
    clear hD2 Ka'
    obtain ⟨k0, k1, k2, k3, k4, k5, k6, k7, k8, k9, k10, k11, k12, k13, k14, k15, k16, k17, k18, k19, k20⟩ := MV.out _ hD
    go_wp2_with fail
    refine (Kb'.out _ hD).mono ?_
    rintro e ub ⟨rfl, hb⟩
    have hD2 := below_next hD hb
    clear hD hb k0 k1 k2 k3 k4 k5 k6 k7 k8 k9 k10 k11 k12 k13 k14 k15 k16 k17 k18 k19 k20
    have hD := hD2
    clear hD2 Kb'
    obtain ⟨k0, k1, k2, k3, k4, k5, k6, k7, k8, k9, k10, k11, k12, k13, k14, k15, k16, k17, k18, k19, k20⟩ := MV.out _ hD
    go_wp2_with fail
    refine (writesBegun_any _).mono ?_
    rintro e u' ⟨rfl, hb9⟩
    have HB9 := Lib.hid (below_next (below_next HT.out hD) hb9)
    clear hb9 hD
    go_wp2_with fail
    go_ret
    exact ⟨rfl, HB9.out⟩
  · obtain ⟨y, qa⟩ := Qa.out ha
    rw [y] at Ka'
    clear Qa y
    subst ha
    clear Qb Kb'
    obtain ⟨y, qc⟩ := Qc.out hc
    rw [y] at Kc'
    clear Qc y
    subst hc
    obtain ⟨y, qd⟩ := Qd.out hd
    rw [y] at Kd'
    clear Qd y
    subst hd
    subst qd
    go_wp2_with fail
    refine (Ka'.out _ hD).mono ?_
    rintro e ua ⟨rfl, hb⟩
    have hD2 := below_next hD hb
    clear hD hb k0 k1 k2 k3 k4 k5 k6 k7 k8 k9 k10 k11 k12 k13 k14 k15 k16 k17 k18 k19 k20
    have hD := hD2
    clear hD2 Ka'
    obtain ⟨k0, k1, k2, k3, k4, k5, k6, k7, k8, k9, k10, k11, k12, k13, k14, k15, k16, k17, k18, k19, k20⟩ := MV.out _ hD
    go_wp2_with fail
    refine (Kc'.out _ hD).mono ?_
    rintro e uc ⟨rfl, hb⟩
    have hD2 := below_next hD hb
    clear hD hb k0 k1 k2 k3 k4 k5 k6 k7 k8 k9 k10 k11 k12 k13 k14 k15 k16 k17 k18 k19 k20
    have hD := hD2
    clear hD2 Kc'
    obtain ⟨k0, k1, k2, k3, k4, k5, k6, k7, k8, k9, k10, k11, k12, k13, k14, k15, k16, k17, k18, k19, k20⟩ := MV.out _ hD
    go_wp2_with fail
    refine (Kd'.out _ hD).mono ?_
    rintro e ud ⟨rfl, hb⟩
    have hD2 := below_next hD hb
    clear hD hb k0 k1 k2 k3 k4 k5 k6 k7 k8 k9 k10 k11 k12 k13 k14 k15 k16 k17 k18 k19 k20
    have hD := hD2
    clear hD2 Kd'
    obtain ⟨k0, k1, k2, k3, k4, k5, k6, k7, k8, k9, k10, k11, k12, k13, k14, k15, k16, k17, k18, k19, k20⟩ := MV.out _ hD
    go_wp2_with fail
    refine (writesBegun_any _).mono ?_
    rintro e u' ⟨rfl, hb9⟩
    have HB9 := Lib.hid (below_next (below_next HT.out hD) hb9)
    clear hb9 hD
    go_wp2_with fail
    go_ret
    exact ⟨rfl, HB9.out⟩
  · obtain ⟨y, qa⟩ := Qa.out ha
    rw [y] at Ka'
    clear Qa y
    subst ha
    clear Qb Kb'
    obtain ⟨y, qc⟩ := Qc.out hc
    rw [y] at Kc'
    clear Qc y
    subst hc
    clear Qd Kd'
    go_wp2_with fail
    refine (Ka'.out _ hD).mono ?_
    rintro e ua ⟨rfl, hb⟩
    have hD2 := below_next hD hb
    clear hD hb k0 k1 k2 k3 k4 k5 k6 k7 k8 k9 k10 k11 k12 k13 k14 k15 k16 k17 k18 k19 k20
    have hD := hD2
    clear hD2 Ka'
    obtain ⟨k0, k1, k2, k3, k4, k5, k6, k7, k8, k9, k10, k11, k12, k13, k14, k15, k16, k17, k18, k19, k20⟩ := MV.out _ hD
    go_wp2_with fail
    refine (Kc'.out _ hD).mono ?_
    rintro e uc ⟨rfl, hb⟩
    have hD2 := below_next hD hb
    clear hD hb k0 k1 k2 k3 k4 k5 k6 k7 k8 k9 k10 k11 k12 k13 k14 k15 k16 k17 k18 k19 k20
    have hD := hD2
    clear hD2 Kc'
    obtain ⟨k0, k1, k2, k3, k4, k5, k6, k7, k8, k9, k10, k11, k12, k13, k14, k15, k16, k17, k18, k19, k20⟩ := MV.out _ hD
    go_wp2_with fail
    refine (writesBegun_any _).mono ?_
    rintro e u' ⟨rfl, hb9⟩
    have HB9 := Lib.hid (below_next (below_next HT.out hD) hb9)
    clear hb9 hD
    go_wp2_with fail
    go_ret
    exact ⟨rfl, HB9.out⟩
  · obtain ⟨y, qa⟩ := Qa.out ha
    rw [y] at Ka'
    clear Qa y
    subst ha
    clear Qb Kb'
    clear Qc Kc'
    obtain ⟨y, qd⟩ := Qd.out hd
    rw [y] at Kd'
    clear Qd y
    subst hd
    subst qd
    go_wp2_with fail
    refine (Ka'.out _ hD).mono ?_
    rintro e ua ⟨rfl, hb⟩
    have hD2 := below_next hD hb
    clear hD hb k0 k1 k2 k3 k4 k5 k6 k7 k8 k9 k10 k11 k12 k13 k14 k15 k16 k17 k18 k19 k20
    have hD := hD2
    clear hD2 Ka'
    obtain ⟨k0, k1, k2, k3, k4, k5, k6, k7, k8, k9, k10, k11, k12, k13, k14, k15, k16, k17, k18, k19, k20⟩ := MV.out _ hD
    go_wp2_with fail
    refine (Kd'.out _ hD).mono ?_
    rintro e ud ⟨rfl, hb⟩
    have hD2 := below_next hD hb
    clear hD hb k0 k1 k2 k3 k4 k5 k6 k7 k8 k9 k10 k11 k12 k13 k14 k15 k16 k17 k18 k19 k20
    have hD := hD2
    clear hD2 Kd'
    obtain ⟨k0, k1, k2, k3, k4, k5, k6, k7, k8, k9, k10, k11, k12, k13, k14, k15, k16, k17, k18, k19, k20⟩ := MV.out _ hD
    go_wp2_with fail
    refine (writesBegun_any _).mono ?_
    rintro e u' ⟨rfl, hb9⟩
    have HB9 := Lib.hid (below_next (below_next HT.out hD) hb9)
    clear hb9 hD
    go_wp2_with fail
    go_ret
    exact ⟨rfl, HB9.out⟩
  · obtain ⟨y, qa⟩ := Qa.out ha
    rw [y] at Ka'
    clear Qa y
    subst ha
    clear Qb Kb'
    clear Qc Kc'
    clear Qd Kd'
    go_wp2_with fail
    refine (Ka'.out _ hD).mono ?_
    rintro e ua ⟨rfl, hb⟩
    have hD2 := below_next hD hb
    clear hD hb k0 k1 k2 k3 k4 k5 k6 k7 k8 k9 k10 k11 k12 k13 k14 k15 k16 k17 k18 k19 k20
    have hD := hD2
    clear hD2 Ka'
    obtain ⟨k0, k1, k2, k3, k4, k5, k6, k7, k8, k9, k10, k11, k12, k13, k14, k15, k16, k17, k18, k19, k20⟩ := MV.out _ hD
    go_wp2_with fail
    refine (writesBegun_any _).mono ?_
    rintro e u' ⟨rfl, hb9⟩
    have HB9 := Lib.hid (below_next (below_next HT.out hD) hb9)
    clear hb9 hD
    go_wp2_with fail
    go_ret
    exact ⟨rfl, HB9.out⟩
  · clear Qa Ka'
    obtain ⟨y, qb⟩ := Qb.out hb'
    rw [y] at Kb'
    clear Qb y
    subst hb'
    obtain ⟨y, qc⟩ := Qc.out hc
    rw [y] at Kc'
    clear Qc y
    subst hc
    obtain ⟨y, qd⟩ := Qd.out hd
    rw [y] at Kd'
    clear Qd y
    subst hd
    subst qd
    go_wp2_with fail
    refine (Kb'.out _ hD).mono ?_
    rintro e ub ⟨rfl, hb⟩
    have hD2 := below_next hD hb
    clear hD hb k0 k1 k2 k3 k4 k5 k6 k7 k8 k9 k10 k11 k12 k13 k14 k15 k16 k17 k18 k19 k20
    have hD := hD2
    clear hD2 Kb'
    obtain ⟨k0, k1, k2, k3, k4, k5, k6, k7, k8, k9, k10, k11, k12, k13, k14, k15, k16, k17, k18, k19, k20⟩ := MV.out _ hD
    go_wp2_with fail
    refine (Kc'.out _ hD).mono ?_
    rintro e uc ⟨rfl, hb⟩
    have hD2 := below_next hD hb
    clear hD hb k0 k1 k2 k3 k4 k5 k6 k7 k8 k9 k10 k11 k12 k13 k14 k15 k16 k17 k18 k19 k20
    have hD := hD2
    clear hD2 Kc'
    obtain ⟨k0, k1, k2, k3, k4, k5, k6, k7, k8, k9, k10, k11, k12, k13, k14, k15, k16, k17, k18, k19, k20⟩ := MV.out _ hD
    go_wp2_with fail
    refine (Kd'.out _ hD).mono ?_
    rintro e ud ⟨rfl, hb⟩
    have hD2 := below_next hD hb
    clear hD hb k0 k1 k2 k3 k4 k5 k6 k7 k8 k9 k10 k11 k12 k13 k14 k15 k16 k17 k18 k19 k20
    have hD := hD2
    clear hD2 Kd'
    obtain ⟨k0, k1, k2, k3, k4, k5, k6, k7, k8, k9, k10, k11, k12, k13, k14, k15, k16, k17, k18, k19, k20⟩ := MV.out _ hD
    go_wp2_with fail
    refine (writesBegun_any _).mono ?_
    rintro e u' ⟨rfl, hb9⟩
    have HB9 := Lib.hid (below_next (below_next HT.out hD) hb9)
    clear hb9 hD
    go_wp2_with fail
    go_ret
    exact ⟨rfl, HB9.out⟩
  · clear Qa Ka'
    obtain ⟨y, qb⟩ := Qb.out hb'
    rw [y] at Kb'
    clear Qb y
    subst hb'
    obtain ⟨y, qc⟩ := Qc.out hc
    rw [y] at Kc'
    clear Qc y
    subst hc
    clear Qd Kd'
    go_wp2_with fail
    refine (Kb'.out _ hD).mono ?_
    rintro e ub ⟨rfl, hb⟩
    have hD2 := below_next hD hb
    clear hD hb k0 k1 k2 k3 k4 k5 k6 k7 k8 k9 k10 k11 k12 k13 k14 k15 k16 k17 k18 k19 k20
    have hD := hD2
    clear hD2 Kb'
    obtain ⟨k0, k1, k2, k3, k4, k5, k6, k7, k8, k9, k10, k11, k12, k13, k14, k15, k16, k17, k18, k19, k20⟩ := MV.out _ hD
    go_wp2_with fail
    refine (Kc'.out _ hD).mono ?_
    rintro e uc ⟨rfl, hb⟩
    have hD2 := below_next hD hb
    clear hD hb k0 k1 k2 k3 k4 k5 k6 k7 k8 k9 k10 k11 k12 k13 k14 k15 k16 k17 k18 k19 k20
    have hD := hD2
    clear hD2 Kc'
    obtain ⟨k0, k1, k2, k3, k4, k5, k6, k7, k8, k9, k10, k11, k12, k13, k14, k15, k16, k17, k18, k19, k20⟩ := MV.out _ hD
    go_wp2_with fail
    refine (writesBegun_any _).mono ?_
    rintro e u' ⟨rfl, hb9⟩
    have HB9 := Lib.hid (below_next (below_next HT.out hD) hb9)
    clear hb9 hD
    go_wp2_with fail
    go_ret
    exact ⟨rfl, HB9.out⟩
  · clear Qa Ka'
    obtain ⟨y, qb⟩ := Qb.out hb'
    rw [y] at Kb'
    clear Qb y
    subst hb'
    clear Qc Kc'
    obtain ⟨y, qd⟩ := Qd.out hd
    rw [y] at Kd'
    clear Qd y
    subst hd
    subst qd
    go_wp2_with fail
    refine (Kb'.out _ hD).mono ?_
    rintro e ub ⟨rfl, hb⟩
    have hD2 := below_next hD hb
    clear hD hb k0 k1 k2 k3 k4 k5 k6 k7 k8 k9 k10 k11 k12 k13 k14 k15 k16 k17 k18 k19 k20
    have hD := hD2
    clear hD2 Kb'
    obtain ⟨k0, k1, k2, k3, k4, k5, k6, k7, k8, k9, k10, k11, k12, k13, k14, k15, k16, k17, k18, k19, k20⟩ := MV.out _ hD
    go_wp2_with fail
    refine (Kd'.out _ hD).mono ?_
    rintro e ud ⟨rfl, hb⟩
    have hD2 := below_next hD hb
    clear hD hb k0 k1 k2 k3 k4 k5 k6 k7 k8 k9 k10 k11 k12 k13 k14 k15 k16 k17 k18 k19 k20
    have hD := hD2
    clear hD2 Kd'
    obtain ⟨k0, k1, k2, k3, k4, k5, k6, k7, k8, k9, k10, k11, k12, k13, k14, k15, k16, k17, k18, k19, k20⟩ := MV.out _ hD
    go_wp2_with fail
    refine (writesBegun_any _).mono ?_
    rintro e u' ⟨rfl, hb9⟩
    have HB9 := Lib.hid (below_next (below_next HT.out hD) hb9)
    clear hb9 hD
    go_wp2_with fail
    go_ret
    exact ⟨rfl, HB9.out⟩
  · clear Qa Ka'
    obtain ⟨y, qb⟩ := Qb.out hb'
    rw [y] at Kb'
    clear Qb y
    subst hb'
    clear Qc Kc'
    clear Qd Kd'
    go_wp2_with fail
    refine (Kb'.out _ hD).mono ?_
    rintro e ub ⟨rfl, hb⟩
    have hD2 := below_next hD hb
    clear hD hb k0 k1 k2 k3 k4 k5 k6 k7 k8 k9 k10 k11 k12 k13 k14 k15 k16 k17 k18 k19 k20
    have hD := hD2
    clear hD2 Kb'
    obtain ⟨k0, k1, k2, k3, k4, k5, k6, k7, k8, k9, k10, k11, k12, k13, k14, k15, k16, k17, k18, k19, k20⟩ := MV.out _ hD
    go_wp2_with fail
    refine (writesBegun_any _).mono ?_
    rintro e u' ⟨rfl, hb9⟩
    have HB9 := Lib.hid (below_next (below_next HT.out hD) hb9)
    clear hb9 hD
    go_wp2_with fail
    go_ret
    exact ⟨rfl, HB9.out⟩
  · clear Qa Ka'
    clear Qb Kb'
    obtain ⟨y, qc⟩ := Qc.out hc
    rw [y] at Kc'
    clear Qc y
    subst hc
    obtain ⟨y, qd⟩ := Qd.out hd
    rw [y] at Kd'
    clear Qd y
    subst hd
    subst qd
    go_wp2_with fail
    refine (Kc'.out _ hD).mono ?_
    rintro e uc ⟨rfl, hb⟩
    have hD2 := below_next hD hb
    clear hD hb k0 k1 k2 k3 k4 k5 k6 k7 k8 k9 k10 k11 k12 k13 k14 k15 k16 k17 k18 k19 k20
    have hD := hD2
    clear hD2 Kc'
    obtain ⟨k0, k1, k2, k3, k4, k5, k6, k7, k8, k9, k10, k11, k12, k13, k14, k15, k16, k17, k18, k19, k20⟩ := MV.out _ hD
    go_wp2_with fail
    refine (Kd'.out _ hD).mono ?_
    rintro e ud ⟨rfl, hb⟩
    have hD2 := below_next hD hb
    clear hD hb k0 k1 k2 k3 k4 k5 k6 k7 k8 k9 k10 k11 k12 k13 k14 k15 k16 k17 k18 k19 k20
    have hD := hD2
    clear hD2 Kd'
    obtain ⟨k0, k1, k2, k3, k4, k5, k6, k7, k8, k9, k10, k11, k12, k13, k14, k15, k16, k17, k18, k19, k20⟩ := MV.out _ hD
    go_wp2_with fail
    refine (writesBegun_any _).mono ?_
    rintro e u' ⟨rfl, hb9⟩
    have HB9 := Lib.hid (below_next (below_next HT.out hD) hb9)
    clear hb9 hD
    go_wp2_with fail
    go_ret
    exact ⟨rfl, HB9.out⟩
  · clear Qa Ka'
    clear Qb Kb'
    obtain ⟨y, qc⟩ := Qc.out hc
    rw [y] at Kc'
    clear Qc y
    subst hc
    clear Qd Kd'
    go_wp2_with fail
    refine (Kc'.out _ hD).mono ?_
    rintro e uc ⟨rfl, hb⟩
    have hD2 := below_next hD hb
    clear hD hb k0 k1 k2 k3 k4 k5 k6 k7 k8 k9 k10 k11 k12 k13 k14 k15 k16 k17 k18 k19 k20
    have hD := hD2
    clear hD2 Kc'
    obtain ⟨k0, k1, k2, k3, k4, k5, k6, k7, k8, k9, k10, k11, k12, k13, k14, k15, k16, k17, k18, k19, k20⟩ := MV.out _ hD
    go_wp2_with fail
    refine (writesBegun_any _).mono ?_
    rintro e u' ⟨rfl, hb9⟩
    have HB9 := Lib.hid (below_next (below_next HT.out hD) hb9)
    clear hb9 hD
    go_wp2_with fail
    go_ret
    exact ⟨rfl, HB9.out⟩
  · clear Qa Ka'
    clear Qb Kb'
    clear Qc Kc'
    obtain ⟨y, qd⟩ := Qd.out hd
    rw [y] at Kd'
    clear Qd y
    subst hd
    subst qd
    go_wp2_with fail
    refine (Kd'.out _ hD).mono ?_
    rintro e ud ⟨rfl, hb⟩
    have hD2 := below_next hD hb
    clear hD hb k0 k1 k2 k3 k4 k5 k6 k7 k8 k9 k10 k11 k12 k13 k14 k15 k16 k17 k18 k19 k20
    have hD := hD2
    clear hD2 Kd'
    obtain ⟨k0, k1, k2, k3, k4, k5, k6, k7, k8, k9, k10, k11, k12, k13, k14, k15, k16, k17, k18, k19, k20⟩ := MV.out _ hD
    go_wp2_with fail
    refine (writesBegun_any _).mono ?_
    rintro e u' ⟨rfl, hb9⟩
    have HB9 := Lib.hid (below_next (below_next HT.out hD) hb9)
    clear hb9 hD
    go_wp2_with fail
    go_ret
    exact ⟨rfl, HB9.out⟩
  · clear Qa Ka'
    clear Qb Kb'
    clear Qc Kc'
    clear Qd Kd'
    go_wp2_with fail
    refine (writesBegun_any _).mono ?_
    rintro e u' ⟨rfl, hb9⟩
    have HB9 := Lib.hid (below_next (below_next HT.out hD) hb9)
    clear hb9 hD
    go_wp2_with fail
    go_ret
    exact ⟨rfl, HB9.out⟩
end Go.Proofs.Ytpboapeoejdipaa
