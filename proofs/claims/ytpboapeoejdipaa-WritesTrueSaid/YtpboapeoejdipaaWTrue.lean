/- The law WritesTrue. Conditions: the image is read below the heap's size. (Printed by gen_wtrue.py.) -/
import Derived.Test.YtpboapeoejdipaaPureY
import Derived.Test.YtpboapeoejdipaaReads3
import Derived.Test.YtpboapeoejdipaaFlat2
import Derived.Test.YtpboapeoejdipaaSame
namespace Go.Proofs.Ytpboapeoejdipaa
open Go.RowKit Sl
theorem allM_len (m : Img) : (allM m).length ≤ 16 := by
  by_cases h : checkErr m = 0
  · obtain ⟨f1, _⟩ := allM_facts h
    exact (pagesErr_len f1).1
  · unfold allM; rw [if_neg h]; exact Nat.zero_le _
theorem allM_bound (m : Img) : ∀ s ∈ allM m, s.size ≤ 140737488351232 := by
  intro s hs
  by_cases h : checkErr m = 0
  · obtain ⟨f1, _⟩ := allM_facts h
    have := List.all_eq_true.1 (pagesErr_len f1).2 s hs
    unfold isPage at this
    simp only [beq_iff_eq] at this
    omega
  · unfold allM at hs; rw [if_neg h] at hs; cases hs
theorem fw_len {l : List ByteArray} (h : l.length ≤ 16) (x : Int) (p : ByteArray) : (flatWriteV l x p).length ≤ 16 := by
  unfold flatWriteV; split
  · rw [List.length_set]; exact h
  · exact Nat.zero_le _
theorem fr_len (l : List ByteArray) (g : Int) : (flatResizeV l g).length ≤ 16 := by
  unfold flatResizeV; split
  · rename_i h
    unfold flatResizeE at h
    split at h
    · rename_i hp
      split at h
      · have := (pagesErr_len hp).1
        rw [List.length_append, List.length_take, List.length_replicate]; omega
      · omega
    · contradiction
  · exact Nat.zero_le _
theorem own_strsT {w : World} {base n c : Nat} {A : Option Addr} {l : List ByteArray} (h : w.ownsRow base 9 1 (.slice A n c) n (l.map Value.string)) (hl : l.length ≤ 16) : n ≤ 4611686018427387903 ∧ Rd w w.heap.size 1 A n (l.map Value.string) := ⟨by have := h.1; simp at this; omega, Rd.of_own h⟩
set_option maxRecDepth 100000 in
set_option maxHeartbeats 8000000 in
theorem law_writesTrue (v : IV) (m : Img) (n : Int) (pg : ByteArray) (g : Int) (w : World) (h : ImgR w w.heap.size v m) :
    Calls Try.prog 7 #[.agg #[.int .i64 m.guest, .slice v.rA v.rn v.rc, .slice v.sA v.sn v.sc, .slice v.fA v.fn v.fc, .slice v.pA v.pn v.pc], .int .i64 n, .string pg, .int .i64 g] w fun e w' => e = .returned (.bool true) ∧ Below w.heap.size w w' := by
  have Kp' := fun W (hb : Below w.heap.size w W) => tAll_any v m W (h.next hb)
  have Ka' := fun W (hb : Below w.heap.size w W) => write_any v m n pg W (h.next hb) (fun x => write_hw x)
  have Kb' := fun W (hb : Below w.heap.size w W) => wipe_any v m n W (h.next hb) (fun x => set_hw rfl (by decide) x)
  have Kc' := fun W (hb : Below w.heap.size w W) => punch_any v m n W (h.next hb) (fun x => set_hw rfl (by decide) x)
  have Kd' := fun W (hb : Below w.heap.size w W) => resize_any v m g W (h.next hb) (fun x => resize_hw x)
  have Kf' := fun A nn c W (hs : StrsR W W.heap.size A nn (allM m)) hn => fwrite_any A nn c (allM m) n pg W hs hn
  have Kz' := fun A nn c W (hs : StrsR W W.heap.size A nn (allM m)) hn => fwrite_any A nn c (allM m) n zeroP W hs hn
  have Kr' := fun A nn c W (hs : StrsR W W.heap.size A nn (allM m)) hc hn => fresize_any A nn c (allM m) g W hs hc hn
  have Ua' := fun hh => fa_true (m := m) (n := n) (pg := pg) hh
  have Ub' := fun hh => fs_true (m := m) (n := n) (e := -1) rfl (by decide) hh
  have Uc' := fun hh => fs_true (m := m) (n := n) (e := 0) rfl (by decide) hh
  have Ud' := fun hh => fr_true (m := m) (g := g) hh
  have HB' := allM_bound m
  have E0 := allM_len m
  have Ef := fw_len E0 n pg
  have Ez := fw_len E0 n zeroP
  have Er := fr_len (allM m) g
  generalize writeI m n pg = za at *
  generalize writeE m n pg = ea at *
  generalize setI m n (-1) = zb at *
  generalize setE m n (-1) = eb at *
  generalize setI m n 0 = zc at *
  generalize setE m n 0 = ec at *
  generalize resizeI m g = zd at *
  generalize resizeE m g = ed at *
  generalize flatWriteV (allM m) n pg = lf at *
  generalize flatWriteE (allM m) n pg = ef at *
  generalize flatWriteV (allM m) n zeroP = lz at *
  generalize flatWriteE (allM m) n zeroP = ez at *
  generalize flatResizeV (allM m) g = lr at *
  generalize flatResizeE (allM m) g = er at *
  generalize checkErr m = k0 at *
  generalize allM m = l0 at *
  have Pa' := fun W v (h : ImgR W W.heap.size v za) => tAll_any v za W h
  have Ea := allM_len za
  have Pb' := fun W v (h : ImgR W W.heap.size v zb) => tAll_any v zb W h
  have Eb := allM_len zb
  have Pc' := fun W v (h : ImgR W W.heap.size v zc) => tAll_any v zc W h
  have Ec := allM_len zc
  have Pd' := fun W v (h : ImgR W W.heap.size v zd) => tAll_any v zd W h
  have Ed := allM_len zd
  generalize checkErr za = ka at *
  generalize allM za = la at *
  generalize checkErr zb = kb at *
  generalize allM zb = lb at *
  generalize checkErr zc = kc at *
  generalize allM zc = lc at *
  generalize checkErr zd = kd at *
  generalize allM zd = ld at *
  obtain ⟨rA, rn, rc, sA, sn, sc, fA, fn, fc, pA, pn, pc⟩ := v
  dsimp only [imgV] at Kp' Ka' Kb' Kc' Kd' Pa' Pb' Pc' Pd' ⊢
  have Va := Lib.hid (fun hh => (Ua' hh).2.1)
  have Ua := Lib.hid (fun hh => And.intro (Ua' hh).1 (Ua' hh).2.2)
  have Vb := Lib.hid (fun hh => (Ub' hh).2.1)
  have Ub := Lib.hid (fun hh => And.intro (Ub' hh).1 (Ub' hh).2.2)
  have Vc := Lib.hid (fun hh => (Uc' hh).2.1)
  have Uc := Lib.hid (fun hh => And.intro (Uc' hh).1 (Uc' hh).2.2)
  have Vd := Lib.hid (fun hh => (Ud' hh).2.1)
  have Ud := Lib.hid (fun hh => And.intro (Ud' hh).1 (Ud' hh).2.2)
  have Kp := Lib.hid Kp'
  have Ka := Lib.hid Ka'
  have Kb := Lib.hid Kb'
  have Kc := Lib.hid Kc'
  have Kd := Lib.hid Kd'
  have Pa := Lib.hid Pa'
  have Pb := Lib.hid Pb'
  have Pc := Lib.hid Pc'
  have Pd := Lib.hid Pd'
  have Kf := Lib.hid Kf'
  have Kz := Lib.hid Kz'
  have Kr := Lib.hid Kr'
  have HB := Lib.hid HB'
  clear Kp' Ka' Kb' Kc' Kd' Pa' Pb' Pc' Pd' Kf' Kz' Kr' HB' Ua' Ub' Uc' Ud' h
  have Ca : ea = 0 ∨ (ea == 0) = false ∧ (ea != 0) = true := by
    by_cases hh : ea = 0
    · exact .inl hh
    · right; simpa using hh
  have Cb : eb = 0 ∨ (eb == 0) = false ∧ (eb != 0) = true := by
    by_cases hh : eb = 0
    · exact .inl hh
    · right; simpa using hh
  have Cc : ec = 0 ∨ (ec == 0) = false ∧ (ec != 0) = true := by
    by_cases hh : ec = 0
    · exact .inl hh
    · right; simpa using hh
  have Cd : ed = 0 ∨ (ed == 0) = false ∧ (ed != 0) = true := by
    by_cases hh : ed = 0
    · exact .inl hh
    · right; simpa using hh
  have C0 : (k0 = 0) ∨ (k0 != 0) = true := by
    by_cases hh : k0 = 0
    · exact .inl hh
    · right; simpa using hh
  have T0' := below1 w (.cells #[.int .i64 m.guest, .slice rA rn rc, .slice sA sn sc, .slice fA fn fc, .slice pA pn pc] 26)
  have X0' := Box.new w m.guest ⟨rA, rn, rc, sA, sn, sc, fA, fn, fc, pA, pn, pc⟩ 26
  have L0' : w.heap.size < (w.alloc (.cells #[.int .i64 m.guest, .slice rA rn rc, .slice sA sn sc, .slice fA fn fc, .slice pA pn pc] 26)).heap.size := by simp
  have T := Lib.hid T0'
  have XM := Lib.hid X0'
  have LM := Lib.hid L0'
  clear T0' X0' L0'
  obtain ⟨c1_0, c1_1, c1_2, c1_3, c1_4⟩ := XM.out
  try dsimp only at c1_0 c1_1 c1_2 c1_3 c1_4
  go_enter Try.func7, Try.ntmps7
  go_wp2_with fail
  generalize (w.alloc (.cells #[.int .i64 m.guest, .slice rA rn rc, .slice sA sn sc, .slice fA fn fc, .slice pA pn pc] 26)) = W2 at *
  refine (Kp.out _ T.out).mono ?_
  rintro e w3 ⟨A0, n0, c0, rfl, ho, hb, hnc, hcm⟩
  clear c1_0 c1_1 c1_2 c1_3 c1_4
  have T' := Lib.hid (below_next T.out hb)
  have XM' := Lib.hid (XM.out.keep hb LM.out)
  have LM' := Lib.hid (Nat.lt_of_lt_of_le LM.out hb.size)
  clear T XM LM hb
  have T := T'
  have XM := XM'
  have LM := LM'
  clear T' XM' LM'
  have hr := own_strsT ho E0
  have hnc0 := hnc
  clear ho hnc hcm
  have R0 := Lib.hid hr.2
  have hn0 := hr.1
  clear hr
  rcases C0 with h0 | h0
  · subst h0
    go_wp2_with fail
    refine (rzero_any _).mono ?_
    rintro e w' ⟨rfl, rfl⟩
    obtain ⟨c4_0, c4_1, c4_2, c4_3, c4_4⟩ := XM.out
    try dsimp only at c4_0 c4_1 c4_2 c4_3 c4_4
    go_wp2_with fail
    refine (Ka.out _ T.out).mono ?_
    rintro e w5 ⟨v, rfl, hF, hb⟩
    clear c4_0 c4_1 c4_2 c4_3 c4_4
    have T' := Lib.hid (below_next T.out hb)
    have XM' := Lib.hid (XM.out.keep hb LM.out)
    have LM' := Lib.hid (Nat.lt_of_lt_of_le LM.out hb.size)
    have R0' := Lib.hid (R0.out.next hb)
    clear T XM LM R0 hb
    have T := T'
    have XM := XM'
    have LM := LM'
    have R0 := R0'
    clear T' XM' LM' R0'
    have hx := Box.new w5 za.guest v 26
    have b1 := below1 w5 (.cells #[.int .i64 za.guest, .slice v.rA v.rn v.rc, .slice v.sA v.sn v.sc, .slice v.fA v.fn v.fc, .slice v.pA v.pn v.pc] 26)
    have hi2 := hF.imgR.next b1
    have hlt : w5.heap.size < (w5.alloc (.cells #[.int .i64 za.guest, .slice v.rA v.rn v.rc, .slice v.sA v.sn v.sc, .slice v.fA v.fn v.fc, .slice v.pA v.pn v.pc] 26)).heap.size := by simp
    have T' := Lib.hid (below_next T.out b1)
    have XM' := Lib.hid (XM.out.keep b1 LM.out)
    have LM' := Lib.hid (Nat.lt_of_lt_of_le LM.out b1.size)
    have R0' := Lib.hid (R0.out.next b1)
    clear T XM LM R0 b1
    have T := T'
    have XM := XM'
    have LM := LM'
    have R0 := R0'
    clear T' XM' LM' R0'
    obtain ⟨arA, arn, arc, asA, asn, asc, afA, afn, afc, apA, apn, apc⟩ := v
    have Ia := Lib.hid hi2
    have Xa := Lib.hid hx
    have La := Lib.hid hlt
    dsimp only [imgV] at Ia Xa La T XM LM R0 ⊢
    clear hF hx hi2 hlt
    clear Ka
    rcases Ca with ha | ⟨ha, ha2⟩
    · obtain ⟨rfl, rfl⟩ := Ua.out ha
      obtain rfl := Va.out ha
      subst ha
      clear Ua Va
      obtain ⟨c6_0, c6_1, c6_2, c6_3, c6_4⟩ := Xa.out
      try dsimp only at c6_0 c6_1 c6_2 c6_3 c6_4
      go_wp2_with fail
      generalize (w5.alloc (.cells #[.int .i64 za.guest, .slice arA arn arc, .slice asA asn asc, .slice afA afn afc, .slice apA apn apc] 26)) = W7 at *
      refine (Pa.out _ _ Ia.out).mono ?_
      rintro e w8 ⟨Aa, na, ca, rfl, ho, hb, hnc, hcm⟩
      clear c6_0 c6_1 c6_2 c6_3 c6_4
      have T' := Lib.hid (below_next T.out hb)
      have XM' := Lib.hid (XM.out.keep hb LM.out)
      have LM' := Lib.hid (Nat.lt_of_lt_of_le LM.out hb.size)
      have R0' := Lib.hid (R0.out.next hb)
      have Xa' := Lib.hid (Xa.out.keep hb La.out)
      have La' := Lib.hid (Nat.lt_of_lt_of_le La.out hb.size)
      have Ia' := Lib.hid (Ia.out.next hb)
      clear T XM LM R0 Xa La Ia hb
      have T := T'
      have XM := XM'
      have LM := LM'
      have R0 := R0'
      have Xa := Xa'
      have La := La'
      have Ia := Ia'
      clear T' XM' LM' R0' Xa' La' Ia'
      have hr := own_strsT ho Ea
      clear ho hnc hcm
      have Ra := Lib.hid hr.2
      have hna := hr.1
      clear hr
      clear Xa La Ia
      go_wp2_with fail
      refine (Kf.out _ _ _ _ ⟨R0.out, HB.out⟩ hn0).mono ?_
      rintro e w9 ⟨Af, nf, cf, rfl, ho, hb, hnc, hcm⟩
      have T' := Lib.hid (below_next T.out hb)
      have XM' := Lib.hid (XM.out.keep hb LM.out)
      have LM' := Lib.hid (Nat.lt_of_lt_of_le LM.out hb.size)
      have R0' := Lib.hid (R0.out.next hb)
      have Ra' := Lib.hid (Ra.out.next hb)
      clear T XM LM R0 Ra hb
      have T := T'
      have XM := XM'
      have LM := LM'
      have R0 := R0'
      have Ra := Ra'
      clear T' XM' LM' R0' Ra'
      have hr := own_strsT ho Ef
      clear ho hnc hcm
      have Rf := Lib.hid hr.2
      have hnf := hr.1
      clear hr
      go_wp2_with fail
      refine (samePages_any Aa Af _ _ ca cf _ _ _ Ra.out Rf.out hna hnf).mono ?_
      rintro e w10 ⟨rfl, hb⟩
      have T' := Lib.hid (below_next T.out hb)
      have XM' := Lib.hid (XM.out.keep hb LM.out)
      have LM' := Lib.hid (Nat.lt_of_lt_of_le LM.out hb.size)
      have R0' := Lib.hid (R0.out.next hb)
      have Ra' := Lib.hid (Ra.out.next hb)
      have Rf' := Lib.hid (Rf.out.next hb)
      clear T XM LM R0 Ra Rf hb
      have T := T'
      have XM := XM'
      have LM := LM'
      have R0 := R0'
      have Ra := Ra'
      have Rf := Rf'
      clear T' XM' LM' R0' Ra' Rf'
      clear Ra hna
      clear Rf hnf
      clear Kf Pa
      obtain ⟨c11_0, c11_1, c11_2, c11_3, c11_4⟩ := XM.out
      try dsimp only at c11_0 c11_1 c11_2 c11_3 c11_4
      go_wp2_with fail
      refine (Kb.out _ T.out).mono ?_
      rintro e w12 ⟨v, rfl, hF, hb⟩
      clear c11_0 c11_1 c11_2 c11_3 c11_4
      have T' := Lib.hid (below_next T.out hb)
      have XM' := Lib.hid (XM.out.keep hb LM.out)
      have LM' := Lib.hid (Nat.lt_of_lt_of_le LM.out hb.size)
      have R0' := Lib.hid (R0.out.next hb)
      clear T XM LM R0 hb
      have T := T'
      have XM := XM'
      have LM := LM'
      have R0 := R0'
      clear T' XM' LM' R0'
      have hx := Box.new w12 zb.guest v 26
      have b1 := below1 w12 (.cells #[.int .i64 zb.guest, .slice v.rA v.rn v.rc, .slice v.sA v.sn v.sc, .slice v.fA v.fn v.fc, .slice v.pA v.pn v.pc] 26)
      have hi2 := hF.imgR.next b1
      have hlt : w12.heap.size < (w12.alloc (.cells #[.int .i64 zb.guest, .slice v.rA v.rn v.rc, .slice v.sA v.sn v.sc, .slice v.fA v.fn v.fc, .slice v.pA v.pn v.pc] 26)).heap.size := by simp
      have T' := Lib.hid (below_next T.out b1)
      have XM' := Lib.hid (XM.out.keep b1 LM.out)
      have LM' := Lib.hid (Nat.lt_of_lt_of_le LM.out b1.size)
      have R0' := Lib.hid (R0.out.next b1)
      clear T XM LM R0 b1
      have T := T'
      have XM := XM'
      have LM := LM'
      have R0 := R0'
      clear T' XM' LM' R0'
      obtain ⟨brA, brn, brc, bsA, bsn, bsc, bfA, bfn, bfc, bpA, bpn, bpc⟩ := v
      have Ib := Lib.hid hi2
      have Xb := Lib.hid hx
      have Lb := Lib.hid hlt
      dsimp only [imgV] at Ib Xb Lb T XM LM R0 ⊢
      clear hF hx hi2 hlt
      clear Kb
      obtain ⟨c13_0, c13_1, c13_2, c13_3, c13_4⟩ := XM.out
      try dsimp only at c13_0 c13_1 c13_2 c13_3 c13_4
      go_wp2_with fail
      generalize (w12.alloc (.cells #[.int .i64 zb.guest, .slice brA brn brc, .slice bsA bsn bsc, .slice bfA bfn bfc, .slice bpA bpn bpc] 26)) = W14 at *
      refine (Kc.out _ T.out).mono ?_
      rintro e w15 ⟨v, rfl, hF, hb⟩
      clear c13_0 c13_1 c13_2 c13_3 c13_4
      have T' := Lib.hid (below_next T.out hb)
      have XM' := Lib.hid (XM.out.keep hb LM.out)
      have LM' := Lib.hid (Nat.lt_of_lt_of_le LM.out hb.size)
      have R0' := Lib.hid (R0.out.next hb)
      have Xb' := Lib.hid (Xb.out.keep hb Lb.out)
      have Lb' := Lib.hid (Nat.lt_of_lt_of_le Lb.out hb.size)
      have Ib' := Lib.hid (Ib.out.next hb)
      clear T XM LM R0 Xb Lb Ib hb
      have T := T'
      have XM := XM'
      have LM := LM'
      have R0 := R0'
      have Xb := Xb'
      have Lb := Lb'
      have Ib := Ib'
      clear T' XM' LM' R0' Xb' Lb' Ib'
      have hx := Box.new w15 zc.guest v 26
      have b1 := below1 w15 (.cells #[.int .i64 zc.guest, .slice v.rA v.rn v.rc, .slice v.sA v.sn v.sc, .slice v.fA v.fn v.fc, .slice v.pA v.pn v.pc] 26)
      have hi2 := hF.imgR.next b1
      have hlt : w15.heap.size < (w15.alloc (.cells #[.int .i64 zc.guest, .slice v.rA v.rn v.rc, .slice v.sA v.sn v.sc, .slice v.fA v.fn v.fc, .slice v.pA v.pn v.pc] 26)).heap.size := by simp
      have T' := Lib.hid (below_next T.out b1)
      have XM' := Lib.hid (XM.out.keep b1 LM.out)
      have LM' := Lib.hid (Nat.lt_of_lt_of_le LM.out b1.size)
      have R0' := Lib.hid (R0.out.next b1)
      have Xb' := Lib.hid (Xb.out.keep b1 Lb.out)
      have Lb' := Lib.hid (Nat.lt_of_lt_of_le Lb.out b1.size)
      have Ib' := Lib.hid (Ib.out.next b1)
      clear T XM LM R0 Xb Lb Ib b1
      have T := T'
      have XM := XM'
      have LM := LM'
      have R0 := R0'
      have Xb := Xb'
      have Lb := Lb'
      have Ib := Ib'
      clear T' XM' LM' R0' Xb' Lb' Ib'
      obtain ⟨crA, crn, crc, csA, csn, csc, cfA, cfn, cfc, cpA, cpn, cpc⟩ := v
      have Ic := Lib.hid hi2
      have Xc := Lib.hid hx
      have Lc := Lib.hid hlt
      dsimp only [imgV] at Ic Xc Lc T XM LM R0 Xb Lb Ib ⊢
      clear hF hx hi2 hlt
      clear Kc
      go_wp2_with fail
      generalize (w15.alloc (.cells #[.int .i64 zc.guest, .slice crA crn crc, .slice csA csn csc, .slice cfA cfn cfc, .slice cpA cpn cpc] 26)) = W16 at *
      refine (Kz.out _ _ _ _ ⟨R0.out, HB.out⟩ hn0).mono ?_
      rintro e w17 ⟨Az, nz, cz, rfl, ho, hb, hnc, hcm⟩
      have T' := Lib.hid (below_next T.out hb)
      have XM' := Lib.hid (XM.out.keep hb LM.out)
      have LM' := Lib.hid (Nat.lt_of_lt_of_le LM.out hb.size)
      have R0' := Lib.hid (R0.out.next hb)
      have Xb' := Lib.hid (Xb.out.keep hb Lb.out)
      have Lb' := Lib.hid (Nat.lt_of_lt_of_le Lb.out hb.size)
      have Ib' := Lib.hid (Ib.out.next hb)
      have Xc' := Lib.hid (Xc.out.keep hb Lc.out)
      have Lc' := Lib.hid (Nat.lt_of_lt_of_le Lc.out hb.size)
      have Ic' := Lib.hid (Ic.out.next hb)
      clear T XM LM R0 Xb Lb Ib Xc Lc Ic hb
      have T := T'
      have XM := XM'
      have LM := LM'
      have R0 := R0'
      have Xb := Xb'
      have Lb := Lb'
      have Ib := Ib'
      have Xc := Xc'
      have Lc := Lc'
      have Ic := Ic'
      clear T' XM' LM' R0' Xb' Lb' Ib' Xc' Lc' Ic'
      have hr := own_strsT ho Ez
      clear ho hnc hcm
      have Rz := Lib.hid hr.2
      have hnz := hr.1
      clear hr
      clear Kz
      rcases Cb with hb' | ⟨hb', hb2⟩
      · obtain ⟨rfl, rfl⟩ := Ub.out hb'
        obtain rfl := Vb.out hb'
        subst hb'
        clear Ub Vb Vc
        obtain ⟨c18_0, c18_1, c18_2, c18_3, c18_4⟩ := Xb.out
        try dsimp only at c18_0 c18_1 c18_2 c18_3 c18_4
        go_wp2_with fail
        refine (Pb.out _ _ Ib.out).mono ?_
        rintro e w19 ⟨Ab, nb, cb, rfl, ho, hb, hnc, hcm⟩
        clear c18_0 c18_1 c18_2 c18_3 c18_4
        have T' := Lib.hid (below_next T.out hb)
        have XM' := Lib.hid (XM.out.keep hb LM.out)
        have LM' := Lib.hid (Nat.lt_of_lt_of_le LM.out hb.size)
        have R0' := Lib.hid (R0.out.next hb)
        have Xb' := Lib.hid (Xb.out.keep hb Lb.out)
        have Lb' := Lib.hid (Nat.lt_of_lt_of_le Lb.out hb.size)
        have Ib' := Lib.hid (Ib.out.next hb)
        have Xc' := Lib.hid (Xc.out.keep hb Lc.out)
        have Lc' := Lib.hid (Nat.lt_of_lt_of_le Lc.out hb.size)
        have Ic' := Lib.hid (Ic.out.next hb)
        have Rz' := Lib.hid (Rz.out.next hb)
        clear T XM LM R0 Xb Lb Ib Xc Lc Ic Rz hb
        have T := T'
        have XM := XM'
        have LM := LM'
        have R0 := R0'
        have Xb := Xb'
        have Lb := Lb'
        have Ib := Ib'
        have Xc := Xc'
        have Lc := Lc'
        have Ic := Ic'
        have Rz := Rz'
        clear T' XM' LM' R0' Xb' Lb' Ib' Xc' Lc' Ic' Rz'
        have hr := own_strsT ho Eb
        clear ho hnc hcm
        have Rb := Lib.hid hr.2
        have hnb := hr.1
        clear hr
        clear Xb Lb Ib
        go_wp2_with fail
        refine (samePages_any Ab Az _ _ cb cz _ _ _ Rb.out Rz.out hnb hnz).mono ?_
        rintro e w20 ⟨rfl, hb⟩
        have T' := Lib.hid (below_next T.out hb)
        have XM' := Lib.hid (XM.out.keep hb LM.out)
        have LM' := Lib.hid (Nat.lt_of_lt_of_le LM.out hb.size)
        have R0' := Lib.hid (R0.out.next hb)
        have Xc' := Lib.hid (Xc.out.keep hb Lc.out)
        have Lc' := Lib.hid (Nat.lt_of_lt_of_le Lc.out hb.size)
        have Ic' := Lib.hid (Ic.out.next hb)
        have Rz' := Lib.hid (Rz.out.next hb)
        have Rb' := Lib.hid (Rb.out.next hb)
        clear T XM LM R0 Xc Lc Ic Rz Rb hb
        have T := T'
        have XM := XM'
        have LM := LM'
        have R0 := R0'
        have Xc := Xc'
        have Lc := Lc'
        have Ic := Ic'
        have Rz := Rz'
        have Rb := Rb'
        clear T' XM' LM' R0' Xc' Lc' Ic' Rz' Rb'
        clear Rb hnb
        clear Pb
        rcases Cc with hc | ⟨hc, hc2⟩
        · obtain ⟨rfl, rfl⟩ := Uc.out hc
          subst hc
          clear Uc
          obtain ⟨c21_0, c21_1, c21_2, c21_3, c21_4⟩ := Xc.out
          try dsimp only at c21_0 c21_1 c21_2 c21_3 c21_4
          go_wp2_with fail
          refine (Pc.out _ _ Ic.out).mono ?_
          rintro e w22 ⟨Ac, nc, cc, rfl, ho, hb, hnc, hcm⟩
          clear c21_0 c21_1 c21_2 c21_3 c21_4
          have T' := Lib.hid (below_next T.out hb)
          have XM' := Lib.hid (XM.out.keep hb LM.out)
          have LM' := Lib.hid (Nat.lt_of_lt_of_le LM.out hb.size)
          have R0' := Lib.hid (R0.out.next hb)
          have Xc' := Lib.hid (Xc.out.keep hb Lc.out)
          have Lc' := Lib.hid (Nat.lt_of_lt_of_le Lc.out hb.size)
          have Ic' := Lib.hid (Ic.out.next hb)
          have Rz' := Lib.hid (Rz.out.next hb)
          clear T XM LM R0 Xc Lc Ic Rz hb
          have T := T'
          have XM := XM'
          have LM := LM'
          have R0 := R0'
          have Xc := Xc'
          have Lc := Lc'
          have Ic := Ic'
          have Rz := Rz'
          clear T' XM' LM' R0' Xc' Lc' Ic' Rz'
          have hr := own_strsT ho Ec
          clear ho hnc hcm
          have Rc := Lib.hid hr.2
          have hnc := hr.1
          clear hr
          clear Xc Lc Ic
          go_wp2_with fail
          refine (samePages_any Ac Az _ _ cc cz _ _ _ Rc.out Rz.out hnc hnz).mono ?_
          rintro e w23 ⟨rfl, hb⟩
          have T' := Lib.hid (below_next T.out hb)
          have XM' := Lib.hid (XM.out.keep hb LM.out)
          have LM' := Lib.hid (Nat.lt_of_lt_of_le LM.out hb.size)
          have R0' := Lib.hid (R0.out.next hb)
          have Rz' := Lib.hid (Rz.out.next hb)
          have Rc' := Lib.hid (Rc.out.next hb)
          clear T XM LM R0 Rz Rc hb
          have T := T'
          have XM := XM'
          have LM := LM'
          have R0 := R0'
          have Rz := Rz'
          have Rc := Rc'
          clear T' XM' LM' R0' Rz' Rc'
          clear Rc hnc
          clear Rz hnz
          clear Pc
          obtain ⟨c24_0, c24_1, c24_2, c24_3, c24_4⟩ := XM.out
          try dsimp only at c24_0 c24_1 c24_2 c24_3 c24_4
          go_wp2_with fail
          refine (Kd.out _ T.out).mono ?_
          rintro e w25 ⟨v, rfl, hF, hb⟩
          clear c24_0 c24_1 c24_2 c24_3 c24_4
          have T' := Lib.hid (below_next T.out hb)
          have XM' := Lib.hid (XM.out.keep hb LM.out)
          have LM' := Lib.hid (Nat.lt_of_lt_of_le LM.out hb.size)
          have R0' := Lib.hid (R0.out.next hb)
          clear T XM LM R0 hb
          have T := T'
          have XM := XM'
          have LM := LM'
          have R0 := R0'
          clear T' XM' LM' R0'
          have hx := Box.new w25 zd.guest v 26
          have b1 := below1 w25 (.cells #[.int .i64 zd.guest, .slice v.rA v.rn v.rc, .slice v.sA v.sn v.sc, .slice v.fA v.fn v.fc, .slice v.pA v.pn v.pc] 26)
          have hi2 := hF.imgR.next b1
          have hlt : w25.heap.size < (w25.alloc (.cells #[.int .i64 zd.guest, .slice v.rA v.rn v.rc, .slice v.sA v.sn v.sc, .slice v.fA v.fn v.fc, .slice v.pA v.pn v.pc] 26)).heap.size := by simp
          have T' := Lib.hid (below_next T.out b1)
          have XM' := Lib.hid (XM.out.keep b1 LM.out)
          have LM' := Lib.hid (Nat.lt_of_lt_of_le LM.out b1.size)
          have R0' := Lib.hid (R0.out.next b1)
          clear T XM LM R0 b1
          have T := T'
          have XM := XM'
          have LM := LM'
          have R0 := R0'
          clear T' XM' LM' R0'
          obtain ⟨drA, drn, drc, dsA, dsn, dsc, dfA, dfn, dfc, dpA, dpn, dpc⟩ := v
          have Id := Lib.hid hi2
          have Xd := Lib.hid hx
          have Ld := Lib.hid hlt
          dsimp only [imgV] at Id Xd Ld T XM LM R0 ⊢
          clear hF hx hi2 hlt
          clear Kd XM LM
          rcases Cd with hd | ⟨hd, hd2⟩
          · obtain ⟨rfl, rfl⟩ := Ud.out hd
            obtain rfl := Vd.out hd
            subst hd
            clear Ud Vd
            obtain ⟨c26_0, c26_1, c26_2, c26_3, c26_4⟩ := Xd.out
            try dsimp only at c26_0 c26_1 c26_2 c26_3 c26_4
            go_wp2_with fail
            generalize (w25.alloc (.cells #[.int .i64 zd.guest, .slice drA drn drc, .slice dsA dsn dsc, .slice dfA dfn dfc, .slice dpA dpn dpc] 26)) = W27 at *
            refine (Pd.out _ _ Id.out).mono ?_
            rintro e w28 ⟨Ad, nd, cd, rfl, ho, hb, hnc, hcm⟩
            clear c26_0 c26_1 c26_2 c26_3 c26_4
            have T' := Lib.hid (below_next T.out hb)
            have R0' := Lib.hid (R0.out.next hb)
            have Xd' := Lib.hid (Xd.out.keep hb Ld.out)
            have Ld' := Lib.hid (Nat.lt_of_lt_of_le Ld.out hb.size)
            have Id' := Lib.hid (Id.out.next hb)
            clear T R0 Xd Ld Id hb
            have T := T'
            have R0 := R0'
            have Xd := Xd'
            have Ld := Ld'
            have Id := Id'
            clear T' R0' Xd' Ld' Id'
            have hr := own_strsT ho Ed
            clear ho hnc hcm
            have Rd := Lib.hid hr.2
            have hnd := hr.1
            clear hr
            clear Xd Ld Id
            go_wp2_with fail
            refine (Kr.out _ _ _ _ ⟨R0.out, HB.out⟩ hnc0 hn0).mono ?_
            rintro e w29 ⟨Ar, nr, cr, rfl, ho, hb, hnc, hcm⟩
            have T' := Lib.hid (below_next T.out hb)
            have R0' := Lib.hid (R0.out.next hb)
            have Rd' := Lib.hid (Rd.out.next hb)
            clear T R0 Rd hb
            have T := T'
            have R0 := R0'
            have Rd := Rd'
            clear T' R0' Rd'
            have hr := own_strsT ho Er
            clear ho hnc hcm
            have Rr := Lib.hid hr.2
            have hnr := hr.1
            clear hr
            go_wp2_with fail
            refine (writesBegun_any _).mono ?_
            rintro e w30 ⟨rfl, hb⟩
            have T' := Lib.hid (below_next T.out hb)
            have R0' := Lib.hid (R0.out.next hb)
            have Rd' := Lib.hid (Rd.out.next hb)
            have Rr' := Lib.hid (Rr.out.next hb)
            clear T R0 Rd Rr hb
            have T := T'
            have R0 := R0'
            have Rd := Rd'
            have Rr := Rr'
            clear T' R0' Rd' Rr'
            go_wp2_with fail
            refine (samePages_any Ad Ar _ _ cd cr _ _ _ Rd.out Rr.out hnd hnr).mono ?_
            rintro e w31 ⟨rfl, hb⟩
            have T' := Lib.hid (below_next T.out hb)
            have R0' := Lib.hid (R0.out.next hb)
            have Rd' := Lib.hid (Rd.out.next hb)
            have Rr' := Lib.hid (Rr.out.next hb)
            clear T R0 Rd Rr hb
            have T := T'
            have R0 := R0'
            have Rd := Rd'
            have Rr := Rr'
            clear T' R0' Rd' Rr'
            go_wp2_with fail
            go_ret
            exact ⟨rfl, T.out⟩
          · clear Xd Ld Id
            clear Ud Vd Pd Kr
            go_wp2_with fail
            generalize (w25.alloc (.cells #[.int .i64 zd.guest, .slice drA drn drc, .slice dsA dsn dsc, .slice dfA dfn dfc, .slice dpA dpn dpc] 26)) = W26 at *
            refine (writesBegun_any _).mono ?_
            rintro e w27 ⟨rfl, hb⟩
            have T' := Lib.hid (below_next T.out hb)
            have R0' := Lib.hid (R0.out.next hb)
            clear T R0 hb
            have T := T'
            have R0 := R0'
            clear T' R0'
            go_wp2_with fail
            go_ret
            exact ⟨rfl, T.out⟩
        · clear Xc Lc Ic
          clear Rz hnz
          clear Uc Pc
          obtain ⟨c21_0, c21_1, c21_2, c21_3, c21_4⟩ := XM.out
          try dsimp only at c21_0 c21_1 c21_2 c21_3 c21_4
          go_wp2_with fail
          refine (Kd.out _ T.out).mono ?_
          rintro e w22 ⟨v, rfl, hF, hb⟩
          clear c21_0 c21_1 c21_2 c21_3 c21_4
          have T' := Lib.hid (below_next T.out hb)
          have XM' := Lib.hid (XM.out.keep hb LM.out)
          have LM' := Lib.hid (Nat.lt_of_lt_of_le LM.out hb.size)
          have R0' := Lib.hid (R0.out.next hb)
          clear T XM LM R0 hb
          have T := T'
          have XM := XM'
          have LM := LM'
          have R0 := R0'
          clear T' XM' LM' R0'
          have hx := Box.new w22 zd.guest v 26
          have b1 := below1 w22 (.cells #[.int .i64 zd.guest, .slice v.rA v.rn v.rc, .slice v.sA v.sn v.sc, .slice v.fA v.fn v.fc, .slice v.pA v.pn v.pc] 26)
          have hi2 := hF.imgR.next b1
          have hlt : w22.heap.size < (w22.alloc (.cells #[.int .i64 zd.guest, .slice v.rA v.rn v.rc, .slice v.sA v.sn v.sc, .slice v.fA v.fn v.fc, .slice v.pA v.pn v.pc] 26)).heap.size := by simp
          have T' := Lib.hid (below_next T.out b1)
          have XM' := Lib.hid (XM.out.keep b1 LM.out)
          have LM' := Lib.hid (Nat.lt_of_lt_of_le LM.out b1.size)
          have R0' := Lib.hid (R0.out.next b1)
          clear T XM LM R0 b1
          have T := T'
          have XM := XM'
          have LM := LM'
          have R0 := R0'
          clear T' XM' LM' R0'
          obtain ⟨drA, drn, drc, dsA, dsn, dsc, dfA, dfn, dfc, dpA, dpn, dpc⟩ := v
          have Id := Lib.hid hi2
          have Xd := Lib.hid hx
          have Ld := Lib.hid hlt
          dsimp only [imgV] at Id Xd Ld T XM LM R0 ⊢
          clear hF hx hi2 hlt
          clear Kd XM LM
          rcases Cd with hd | ⟨hd, hd2⟩
          · obtain ⟨rfl, rfl⟩ := Ud.out hd
            obtain rfl := Vd.out hd
            subst hd
            clear Ud Vd
            obtain ⟨c23_0, c23_1, c23_2, c23_3, c23_4⟩ := Xd.out
            try dsimp only at c23_0 c23_1 c23_2 c23_3 c23_4
            go_wp2_with fail
            generalize (w22.alloc (.cells #[.int .i64 zd.guest, .slice drA drn drc, .slice dsA dsn dsc, .slice dfA dfn dfc, .slice dpA dpn dpc] 26)) = W24 at *
            refine (Pd.out _ _ Id.out).mono ?_
            rintro e w25 ⟨Ad, nd, cd, rfl, ho, hb, hnc, hcm⟩
            clear c23_0 c23_1 c23_2 c23_3 c23_4
            have T' := Lib.hid (below_next T.out hb)
            have R0' := Lib.hid (R0.out.next hb)
            have Xd' := Lib.hid (Xd.out.keep hb Ld.out)
            have Ld' := Lib.hid (Nat.lt_of_lt_of_le Ld.out hb.size)
            have Id' := Lib.hid (Id.out.next hb)
            clear T R0 Xd Ld Id hb
            have T := T'
            have R0 := R0'
            have Xd := Xd'
            have Ld := Ld'
            have Id := Id'
            clear T' R0' Xd' Ld' Id'
            have hr := own_strsT ho Ed
            clear ho hnc hcm
            have Rd := Lib.hid hr.2
            have hnd := hr.1
            clear hr
            clear Xd Ld Id
            go_wp2_with fail
            refine (Kr.out _ _ _ _ ⟨R0.out, HB.out⟩ hnc0 hn0).mono ?_
            rintro e w26 ⟨Ar, nr, cr, rfl, ho, hb, hnc, hcm⟩
            have T' := Lib.hid (below_next T.out hb)
            have R0' := Lib.hid (R0.out.next hb)
            have Rd' := Lib.hid (Rd.out.next hb)
            clear T R0 Rd hb
            have T := T'
            have R0 := R0'
            have Rd := Rd'
            clear T' R0' Rd'
            have hr := own_strsT ho Er
            clear ho hnc hcm
            have Rr := Lib.hid hr.2
            have hnr := hr.1
            clear hr
            go_wp2_with fail
            refine (writesBegun_any _).mono ?_
            rintro e w27 ⟨rfl, hb⟩
            have T' := Lib.hid (below_next T.out hb)
            have R0' := Lib.hid (R0.out.next hb)
            have Rd' := Lib.hid (Rd.out.next hb)
            have Rr' := Lib.hid (Rr.out.next hb)
            clear T R0 Rd Rr hb
            have T := T'
            have R0 := R0'
            have Rd := Rd'
            have Rr := Rr'
            clear T' R0' Rd' Rr'
            go_wp2_with fail
            refine (samePages_any Ad Ar _ _ cd cr _ _ _ Rd.out Rr.out hnd hnr).mono ?_
            rintro e w28 ⟨rfl, hb⟩
            have T' := Lib.hid (below_next T.out hb)
            have R0' := Lib.hid (R0.out.next hb)
            have Rd' := Lib.hid (Rd.out.next hb)
            have Rr' := Lib.hid (Rr.out.next hb)
            clear T R0 Rd Rr hb
            have T := T'
            have R0 := R0'
            have Rd := Rd'
            have Rr := Rr'
            clear T' R0' Rd' Rr'
            go_wp2_with fail
            go_ret
            exact ⟨rfl, T.out⟩
          · clear Xd Ld Id
            clear Ud Vd Pd Kr
            go_wp2_with fail
            generalize (w22.alloc (.cells #[.int .i64 zd.guest, .slice drA drn drc, .slice dsA dsn dsc, .slice dfA dfn dfc, .slice dpA dpn dpc] 26)) = W23 at *
            refine (writesBegun_any _).mono ?_
            rintro e w24 ⟨rfl, hb⟩
            have T' := Lib.hid (below_next T.out hb)
            have R0' := Lib.hid (R0.out.next hb)
            clear T R0 hb
            have T := T'
            have R0 := R0'
            clear T' R0'
            go_wp2_with fail
            go_ret
            exact ⟨rfl, T.out⟩
      · clear Xb Lb Ib
        clear Ub Vb Pb
        rcases Cc with hc | ⟨hc, hc2⟩
        · obtain ⟨rfl, rfl⟩ := Uc.out hc
          obtain rfl := Vc.out hc
          clear Vc
          subst hc
          clear Uc
          obtain ⟨c18_0, c18_1, c18_2, c18_3, c18_4⟩ := Xc.out
          try dsimp only at c18_0 c18_1 c18_2 c18_3 c18_4
          go_wp2_with fail
          refine (Pc.out _ _ Ic.out).mono ?_
          rintro e w19 ⟨Ac, nc, cc, rfl, ho, hb, hnc, hcm⟩
          clear c18_0 c18_1 c18_2 c18_3 c18_4
          have T' := Lib.hid (below_next T.out hb)
          have XM' := Lib.hid (XM.out.keep hb LM.out)
          have LM' := Lib.hid (Nat.lt_of_lt_of_le LM.out hb.size)
          have R0' := Lib.hid (R0.out.next hb)
          have Xc' := Lib.hid (Xc.out.keep hb Lc.out)
          have Lc' := Lib.hid (Nat.lt_of_lt_of_le Lc.out hb.size)
          have Ic' := Lib.hid (Ic.out.next hb)
          have Rz' := Lib.hid (Rz.out.next hb)
          clear T XM LM R0 Xc Lc Ic Rz hb
          have T := T'
          have XM := XM'
          have LM := LM'
          have R0 := R0'
          have Xc := Xc'
          have Lc := Lc'
          have Ic := Ic'
          have Rz := Rz'
          clear T' XM' LM' R0' Xc' Lc' Ic' Rz'
          have hr := own_strsT ho Ec
          clear ho hnc hcm
          have Rc := Lib.hid hr.2
          have hnc := hr.1
          clear hr
          clear Xc Lc Ic
          go_wp2_with fail
          refine (samePages_any Ac Az _ _ cc cz _ _ _ Rc.out Rz.out hnc hnz).mono ?_
          rintro e w20 ⟨rfl, hb⟩
          have T' := Lib.hid (below_next T.out hb)
          have XM' := Lib.hid (XM.out.keep hb LM.out)
          have LM' := Lib.hid (Nat.lt_of_lt_of_le LM.out hb.size)
          have R0' := Lib.hid (R0.out.next hb)
          have Rz' := Lib.hid (Rz.out.next hb)
          have Rc' := Lib.hid (Rc.out.next hb)
          clear T XM LM R0 Rz Rc hb
          have T := T'
          have XM := XM'
          have LM := LM'
          have R0 := R0'
          have Rz := Rz'
          have Rc := Rc'
          clear T' XM' LM' R0' Rz' Rc'
          clear Rc hnc
          clear Rz hnz
          clear Pc
          obtain ⟨c21_0, c21_1, c21_2, c21_3, c21_4⟩ := XM.out
          try dsimp only at c21_0 c21_1 c21_2 c21_3 c21_4
          go_wp2_with fail
          refine (Kd.out _ T.out).mono ?_
          rintro e w22 ⟨v, rfl, hF, hb⟩
          clear c21_0 c21_1 c21_2 c21_3 c21_4
          have T' := Lib.hid (below_next T.out hb)
          have XM' := Lib.hid (XM.out.keep hb LM.out)
          have LM' := Lib.hid (Nat.lt_of_lt_of_le LM.out hb.size)
          have R0' := Lib.hid (R0.out.next hb)
          clear T XM LM R0 hb
          have T := T'
          have XM := XM'
          have LM := LM'
          have R0 := R0'
          clear T' XM' LM' R0'
          have hx := Box.new w22 zd.guest v 26
          have b1 := below1 w22 (.cells #[.int .i64 zd.guest, .slice v.rA v.rn v.rc, .slice v.sA v.sn v.sc, .slice v.fA v.fn v.fc, .slice v.pA v.pn v.pc] 26)
          have hi2 := hF.imgR.next b1
          have hlt : w22.heap.size < (w22.alloc (.cells #[.int .i64 zd.guest, .slice v.rA v.rn v.rc, .slice v.sA v.sn v.sc, .slice v.fA v.fn v.fc, .slice v.pA v.pn v.pc] 26)).heap.size := by simp
          have T' := Lib.hid (below_next T.out b1)
          have XM' := Lib.hid (XM.out.keep b1 LM.out)
          have LM' := Lib.hid (Nat.lt_of_lt_of_le LM.out b1.size)
          have R0' := Lib.hid (R0.out.next b1)
          clear T XM LM R0 b1
          have T := T'
          have XM := XM'
          have LM := LM'
          have R0 := R0'
          clear T' XM' LM' R0'
          obtain ⟨drA, drn, drc, dsA, dsn, dsc, dfA, dfn, dfc, dpA, dpn, dpc⟩ := v
          have Id := Lib.hid hi2
          have Xd := Lib.hid hx
          have Ld := Lib.hid hlt
          dsimp only [imgV] at Id Xd Ld T XM LM R0 ⊢
          clear hF hx hi2 hlt
          clear Kd XM LM
          rcases Cd with hd | ⟨hd, hd2⟩
          · obtain ⟨rfl, rfl⟩ := Ud.out hd
            obtain rfl := Vd.out hd
            subst hd
            clear Ud Vd
            obtain ⟨c23_0, c23_1, c23_2, c23_3, c23_4⟩ := Xd.out
            try dsimp only at c23_0 c23_1 c23_2 c23_3 c23_4
            go_wp2_with fail
            generalize (w22.alloc (.cells #[.int .i64 zd.guest, .slice drA drn drc, .slice dsA dsn dsc, .slice dfA dfn dfc, .slice dpA dpn dpc] 26)) = W24 at *
            refine (Pd.out _ _ Id.out).mono ?_
            rintro e w25 ⟨Ad, nd, cd, rfl, ho, hb, hnc, hcm⟩
            clear c23_0 c23_1 c23_2 c23_3 c23_4
            have T' := Lib.hid (below_next T.out hb)
            have R0' := Lib.hid (R0.out.next hb)
            have Xd' := Lib.hid (Xd.out.keep hb Ld.out)
            have Ld' := Lib.hid (Nat.lt_of_lt_of_le Ld.out hb.size)
            have Id' := Lib.hid (Id.out.next hb)
            clear T R0 Xd Ld Id hb
            have T := T'
            have R0 := R0'
            have Xd := Xd'
            have Ld := Ld'
            have Id := Id'
            clear T' R0' Xd' Ld' Id'
            have hr := own_strsT ho Ed
            clear ho hnc hcm
            have Rd := Lib.hid hr.2
            have hnd := hr.1
            clear hr
            clear Xd Ld Id
            go_wp2_with fail
            refine (Kr.out _ _ _ _ ⟨R0.out, HB.out⟩ hnc0 hn0).mono ?_
            rintro e w26 ⟨Ar, nr, cr, rfl, ho, hb, hnc, hcm⟩
            have T' := Lib.hid (below_next T.out hb)
            have R0' := Lib.hid (R0.out.next hb)
            have Rd' := Lib.hid (Rd.out.next hb)
            clear T R0 Rd hb
            have T := T'
            have R0 := R0'
            have Rd := Rd'
            clear T' R0' Rd'
            have hr := own_strsT ho Er
            clear ho hnc hcm
            have Rr := Lib.hid hr.2
            have hnr := hr.1
            clear hr
            go_wp2_with fail
            refine (writesBegun_any _).mono ?_
            rintro e w27 ⟨rfl, hb⟩
            have T' := Lib.hid (below_next T.out hb)
            have R0' := Lib.hid (R0.out.next hb)
            have Rd' := Lib.hid (Rd.out.next hb)
            have Rr' := Lib.hid (Rr.out.next hb)
            clear T R0 Rd Rr hb
            have T := T'
            have R0 := R0'
            have Rd := Rd'
            have Rr := Rr'
            clear T' R0' Rd' Rr'
            go_wp2_with fail
            refine (samePages_any Ad Ar _ _ cd cr _ _ _ Rd.out Rr.out hnd hnr).mono ?_
            rintro e w28 ⟨rfl, hb⟩
            have T' := Lib.hid (below_next T.out hb)
            have R0' := Lib.hid (R0.out.next hb)
            have Rd' := Lib.hid (Rd.out.next hb)
            have Rr' := Lib.hid (Rr.out.next hb)
            clear T R0 Rd Rr hb
            have T := T'
            have R0 := R0'
            have Rd := Rd'
            have Rr := Rr'
            clear T' R0' Rd' Rr'
            go_wp2_with fail
            go_ret
            exact ⟨rfl, T.out⟩
          · clear Xd Ld Id
            clear Ud Vd Pd Kr
            go_wp2_with fail
            generalize (w22.alloc (.cells #[.int .i64 zd.guest, .slice drA drn drc, .slice dsA dsn dsc, .slice dfA dfn dfc, .slice dpA dpn dpc] 26)) = W23 at *
            refine (writesBegun_any _).mono ?_
            rintro e w24 ⟨rfl, hb⟩
            have T' := Lib.hid (below_next T.out hb)
            have R0' := Lib.hid (R0.out.next hb)
            clear T R0 hb
            have T := T'
            have R0 := R0'
            clear T' R0'
            go_wp2_with fail
            go_ret
            exact ⟨rfl, T.out⟩
        · clear Xc Lc Ic
          clear Rz hnz
          clear Uc Pc Vc
          obtain ⟨c18_0, c18_1, c18_2, c18_3, c18_4⟩ := XM.out
          try dsimp only at c18_0 c18_1 c18_2 c18_3 c18_4
          go_wp2_with fail
          refine (Kd.out _ T.out).mono ?_
          rintro e w19 ⟨v, rfl, hF, hb⟩
          clear c18_0 c18_1 c18_2 c18_3 c18_4
          have T' := Lib.hid (below_next T.out hb)
          have XM' := Lib.hid (XM.out.keep hb LM.out)
          have LM' := Lib.hid (Nat.lt_of_lt_of_le LM.out hb.size)
          have R0' := Lib.hid (R0.out.next hb)
          clear T XM LM R0 hb
          have T := T'
          have XM := XM'
          have LM := LM'
          have R0 := R0'
          clear T' XM' LM' R0'
          have hx := Box.new w19 zd.guest v 26
          have b1 := below1 w19 (.cells #[.int .i64 zd.guest, .slice v.rA v.rn v.rc, .slice v.sA v.sn v.sc, .slice v.fA v.fn v.fc, .slice v.pA v.pn v.pc] 26)
          have hi2 := hF.imgR.next b1
          have hlt : w19.heap.size < (w19.alloc (.cells #[.int .i64 zd.guest, .slice v.rA v.rn v.rc, .slice v.sA v.sn v.sc, .slice v.fA v.fn v.fc, .slice v.pA v.pn v.pc] 26)).heap.size := by simp
          have T' := Lib.hid (below_next T.out b1)
          have XM' := Lib.hid (XM.out.keep b1 LM.out)
          have LM' := Lib.hid (Nat.lt_of_lt_of_le LM.out b1.size)
          have R0' := Lib.hid (R0.out.next b1)
          clear T XM LM R0 b1
          have T := T'
          have XM := XM'
          have LM := LM'
          have R0 := R0'
          clear T' XM' LM' R0'
          obtain ⟨drA, drn, drc, dsA, dsn, dsc, dfA, dfn, dfc, dpA, dpn, dpc⟩ := v
          have Id := Lib.hid hi2
          have Xd := Lib.hid hx
          have Ld := Lib.hid hlt
          dsimp only [imgV] at Id Xd Ld T XM LM R0 ⊢
          clear hF hx hi2 hlt
          clear Kd XM LM
          rcases Cd with hd | ⟨hd, hd2⟩
          · obtain ⟨rfl, rfl⟩ := Ud.out hd
            obtain rfl := Vd.out hd
            subst hd
            clear Ud Vd
            obtain ⟨c20_0, c20_1, c20_2, c20_3, c20_4⟩ := Xd.out
            try dsimp only at c20_0 c20_1 c20_2 c20_3 c20_4
            go_wp2_with fail
            generalize (w19.alloc (.cells #[.int .i64 zd.guest, .slice drA drn drc, .slice dsA dsn dsc, .slice dfA dfn dfc, .slice dpA dpn dpc] 26)) = W21 at *
            refine (Pd.out _ _ Id.out).mono ?_
            rintro e w22 ⟨Ad, nd, cd, rfl, ho, hb, hnc, hcm⟩
            clear c20_0 c20_1 c20_2 c20_3 c20_4
            have T' := Lib.hid (below_next T.out hb)
            have R0' := Lib.hid (R0.out.next hb)
            have Xd' := Lib.hid (Xd.out.keep hb Ld.out)
            have Ld' := Lib.hid (Nat.lt_of_lt_of_le Ld.out hb.size)
            have Id' := Lib.hid (Id.out.next hb)
            clear T R0 Xd Ld Id hb
            have T := T'
            have R0 := R0'
            have Xd := Xd'
            have Ld := Ld'
            have Id := Id'
            clear T' R0' Xd' Ld' Id'
            have hr := own_strsT ho Ed
            clear ho hnc hcm
            have Rd := Lib.hid hr.2
            have hnd := hr.1
            clear hr
            clear Xd Ld Id
            go_wp2_with fail
            refine (Kr.out _ _ _ _ ⟨R0.out, HB.out⟩ hnc0 hn0).mono ?_
            rintro e w23 ⟨Ar, nr, cr, rfl, ho, hb, hnc, hcm⟩
            have T' := Lib.hid (below_next T.out hb)
            have R0' := Lib.hid (R0.out.next hb)
            have Rd' := Lib.hid (Rd.out.next hb)
            clear T R0 Rd hb
            have T := T'
            have R0 := R0'
            have Rd := Rd'
            clear T' R0' Rd'
            have hr := own_strsT ho Er
            clear ho hnc hcm
            have Rr := Lib.hid hr.2
            have hnr := hr.1
            clear hr
            go_wp2_with fail
            refine (writesBegun_any _).mono ?_
            rintro e w24 ⟨rfl, hb⟩
            have T' := Lib.hid (below_next T.out hb)
            have R0' := Lib.hid (R0.out.next hb)
            have Rd' := Lib.hid (Rd.out.next hb)
            have Rr' := Lib.hid (Rr.out.next hb)
            clear T R0 Rd Rr hb
            have T := T'
            have R0 := R0'
            have Rd := Rd'
            have Rr := Rr'
            clear T' R0' Rd' Rr'
            go_wp2_with fail
            refine (samePages_any Ad Ar _ _ cd cr _ _ _ Rd.out Rr.out hnd hnr).mono ?_
            rintro e w25 ⟨rfl, hb⟩
            have T' := Lib.hid (below_next T.out hb)
            have R0' := Lib.hid (R0.out.next hb)
            have Rd' := Lib.hid (Rd.out.next hb)
            have Rr' := Lib.hid (Rr.out.next hb)
            clear T R0 Rd Rr hb
            have T := T'
            have R0 := R0'
            have Rd := Rd'
            have Rr := Rr'
            clear T' R0' Rd' Rr'
            go_wp2_with fail
            go_ret
            exact ⟨rfl, T.out⟩
          · clear Xd Ld Id
            clear Ud Vd Pd Kr
            go_wp2_with fail
            generalize (w19.alloc (.cells #[.int .i64 zd.guest, .slice drA drn drc, .slice dsA dsn dsc, .slice dfA dfn dfc, .slice dpA dpn dpc] 26)) = W20 at *
            refine (writesBegun_any _).mono ?_
            rintro e w21 ⟨rfl, hb⟩
            have T' := Lib.hid (below_next T.out hb)
            have R0' := Lib.hid (R0.out.next hb)
            clear T R0 hb
            have T := T'
            have R0 := R0'
            clear T' R0'
            go_wp2_with fail
            go_ret
            exact ⟨rfl, T.out⟩
    · clear Xa La Ia
      clear Ua Va Kf Pa
      obtain ⟨c6_0, c6_1, c6_2, c6_3, c6_4⟩ := XM.out
      try dsimp only at c6_0 c6_1 c6_2 c6_3 c6_4
      go_wp2_with fail
      generalize (w5.alloc (.cells #[.int .i64 za.guest, .slice arA arn arc, .slice asA asn asc, .slice afA afn afc, .slice apA apn apc] 26)) = W7 at *
      refine (Kb.out _ T.out).mono ?_
      rintro e w8 ⟨v, rfl, hF, hb⟩
      clear c6_0 c6_1 c6_2 c6_3 c6_4
      have T' := Lib.hid (below_next T.out hb)
      have XM' := Lib.hid (XM.out.keep hb LM.out)
      have LM' := Lib.hid (Nat.lt_of_lt_of_le LM.out hb.size)
      have R0' := Lib.hid (R0.out.next hb)
      clear T XM LM R0 hb
      have T := T'
      have XM := XM'
      have LM := LM'
      have R0 := R0'
      clear T' XM' LM' R0'
      have hx := Box.new w8 zb.guest v 26
      have b1 := below1 w8 (.cells #[.int .i64 zb.guest, .slice v.rA v.rn v.rc, .slice v.sA v.sn v.sc, .slice v.fA v.fn v.fc, .slice v.pA v.pn v.pc] 26)
      have hi2 := hF.imgR.next b1
      have hlt : w8.heap.size < (w8.alloc (.cells #[.int .i64 zb.guest, .slice v.rA v.rn v.rc, .slice v.sA v.sn v.sc, .slice v.fA v.fn v.fc, .slice v.pA v.pn v.pc] 26)).heap.size := by simp
      have T' := Lib.hid (below_next T.out b1)
      have XM' := Lib.hid (XM.out.keep b1 LM.out)
      have LM' := Lib.hid (Nat.lt_of_lt_of_le LM.out b1.size)
      have R0' := Lib.hid (R0.out.next b1)
      clear T XM LM R0 b1
      have T := T'
      have XM := XM'
      have LM := LM'
      have R0 := R0'
      clear T' XM' LM' R0'
      obtain ⟨brA, brn, brc, bsA, bsn, bsc, bfA, bfn, bfc, bpA, bpn, bpc⟩ := v
      have Ib := Lib.hid hi2
      have Xb := Lib.hid hx
      have Lb := Lib.hid hlt
      dsimp only [imgV] at Ib Xb Lb T XM LM R0 ⊢
      clear hF hx hi2 hlt
      clear Kb
      obtain ⟨c9_0, c9_1, c9_2, c9_3, c9_4⟩ := XM.out
      try dsimp only at c9_0 c9_1 c9_2 c9_3 c9_4
      go_wp2_with fail
      generalize (w8.alloc (.cells #[.int .i64 zb.guest, .slice brA brn brc, .slice bsA bsn bsc, .slice bfA bfn bfc, .slice bpA bpn bpc] 26)) = W10 at *
      refine (Kc.out _ T.out).mono ?_
      rintro e w11 ⟨v, rfl, hF, hb⟩
      clear c9_0 c9_1 c9_2 c9_3 c9_4
      have T' := Lib.hid (below_next T.out hb)
      have XM' := Lib.hid (XM.out.keep hb LM.out)
      have LM' := Lib.hid (Nat.lt_of_lt_of_le LM.out hb.size)
      have R0' := Lib.hid (R0.out.next hb)
      have Xb' := Lib.hid (Xb.out.keep hb Lb.out)
      have Lb' := Lib.hid (Nat.lt_of_lt_of_le Lb.out hb.size)
      have Ib' := Lib.hid (Ib.out.next hb)
      clear T XM LM R0 Xb Lb Ib hb
      have T := T'
      have XM := XM'
      have LM := LM'
      have R0 := R0'
      have Xb := Xb'
      have Lb := Lb'
      have Ib := Ib'
      clear T' XM' LM' R0' Xb' Lb' Ib'
      have hx := Box.new w11 zc.guest v 26
      have b1 := below1 w11 (.cells #[.int .i64 zc.guest, .slice v.rA v.rn v.rc, .slice v.sA v.sn v.sc, .slice v.fA v.fn v.fc, .slice v.pA v.pn v.pc] 26)
      have hi2 := hF.imgR.next b1
      have hlt : w11.heap.size < (w11.alloc (.cells #[.int .i64 zc.guest, .slice v.rA v.rn v.rc, .slice v.sA v.sn v.sc, .slice v.fA v.fn v.fc, .slice v.pA v.pn v.pc] 26)).heap.size := by simp
      have T' := Lib.hid (below_next T.out b1)
      have XM' := Lib.hid (XM.out.keep b1 LM.out)
      have LM' := Lib.hid (Nat.lt_of_lt_of_le LM.out b1.size)
      have R0' := Lib.hid (R0.out.next b1)
      have Xb' := Lib.hid (Xb.out.keep b1 Lb.out)
      have Lb' := Lib.hid (Nat.lt_of_lt_of_le Lb.out b1.size)
      have Ib' := Lib.hid (Ib.out.next b1)
      clear T XM LM R0 Xb Lb Ib b1
      have T := T'
      have XM := XM'
      have LM := LM'
      have R0 := R0'
      have Xb := Xb'
      have Lb := Lb'
      have Ib := Ib'
      clear T' XM' LM' R0' Xb' Lb' Ib'
      obtain ⟨crA, crn, crc, csA, csn, csc, cfA, cfn, cfc, cpA, cpn, cpc⟩ := v
      have Ic := Lib.hid hi2
      have Xc := Lib.hid hx
      have Lc := Lib.hid hlt
      dsimp only [imgV] at Ic Xc Lc T XM LM R0 Xb Lb Ib ⊢
      clear hF hx hi2 hlt
      clear Kc
      go_wp2_with fail
      generalize (w11.alloc (.cells #[.int .i64 zc.guest, .slice crA crn crc, .slice csA csn csc, .slice cfA cfn cfc, .slice cpA cpn cpc] 26)) = W12 at *
      refine (Kz.out _ _ _ _ ⟨R0.out, HB.out⟩ hn0).mono ?_
      rintro e w13 ⟨Az, nz, cz, rfl, ho, hb, hnc, hcm⟩
      have T' := Lib.hid (below_next T.out hb)
      have XM' := Lib.hid (XM.out.keep hb LM.out)
      have LM' := Lib.hid (Nat.lt_of_lt_of_le LM.out hb.size)
      have R0' := Lib.hid (R0.out.next hb)
      have Xb' := Lib.hid (Xb.out.keep hb Lb.out)
      have Lb' := Lib.hid (Nat.lt_of_lt_of_le Lb.out hb.size)
      have Ib' := Lib.hid (Ib.out.next hb)
      have Xc' := Lib.hid (Xc.out.keep hb Lc.out)
      have Lc' := Lib.hid (Nat.lt_of_lt_of_le Lc.out hb.size)
      have Ic' := Lib.hid (Ic.out.next hb)
      clear T XM LM R0 Xb Lb Ib Xc Lc Ic hb
      have T := T'
      have XM := XM'
      have LM := LM'
      have R0 := R0'
      have Xb := Xb'
      have Lb := Lb'
      have Ib := Ib'
      have Xc := Xc'
      have Lc := Lc'
      have Ic := Ic'
      clear T' XM' LM' R0' Xb' Lb' Ib' Xc' Lc' Ic'
      have hr := own_strsT ho Ez
      clear ho hnc hcm
      have Rz := Lib.hid hr.2
      have hnz := hr.1
      clear hr
      clear Kz
      rcases Cb with hb' | ⟨hb', hb2⟩
      · obtain ⟨rfl, rfl⟩ := Ub.out hb'
        obtain rfl := Vb.out hb'
        subst hb'
        clear Ub Vb Vc
        obtain ⟨c14_0, c14_1, c14_2, c14_3, c14_4⟩ := Xb.out
        try dsimp only at c14_0 c14_1 c14_2 c14_3 c14_4
        go_wp2_with fail
        refine (Pb.out _ _ Ib.out).mono ?_
        rintro e w15 ⟨Ab, nb, cb, rfl, ho, hb, hnc, hcm⟩
        clear c14_0 c14_1 c14_2 c14_3 c14_4
        have T' := Lib.hid (below_next T.out hb)
        have XM' := Lib.hid (XM.out.keep hb LM.out)
        have LM' := Lib.hid (Nat.lt_of_lt_of_le LM.out hb.size)
        have R0' := Lib.hid (R0.out.next hb)
        have Xb' := Lib.hid (Xb.out.keep hb Lb.out)
        have Lb' := Lib.hid (Nat.lt_of_lt_of_le Lb.out hb.size)
        have Ib' := Lib.hid (Ib.out.next hb)
        have Xc' := Lib.hid (Xc.out.keep hb Lc.out)
        have Lc' := Lib.hid (Nat.lt_of_lt_of_le Lc.out hb.size)
        have Ic' := Lib.hid (Ic.out.next hb)
        have Rz' := Lib.hid (Rz.out.next hb)
        clear T XM LM R0 Xb Lb Ib Xc Lc Ic Rz hb
        have T := T'
        have XM := XM'
        have LM := LM'
        have R0 := R0'
        have Xb := Xb'
        have Lb := Lb'
        have Ib := Ib'
        have Xc := Xc'
        have Lc := Lc'
        have Ic := Ic'
        have Rz := Rz'
        clear T' XM' LM' R0' Xb' Lb' Ib' Xc' Lc' Ic' Rz'
        have hr := own_strsT ho Eb
        clear ho hnc hcm
        have Rb := Lib.hid hr.2
        have hnb := hr.1
        clear hr
        clear Xb Lb Ib
        go_wp2_with fail
        refine (samePages_any Ab Az _ _ cb cz _ _ _ Rb.out Rz.out hnb hnz).mono ?_
        rintro e w16 ⟨rfl, hb⟩
        have T' := Lib.hid (below_next T.out hb)
        have XM' := Lib.hid (XM.out.keep hb LM.out)
        have LM' := Lib.hid (Nat.lt_of_lt_of_le LM.out hb.size)
        have R0' := Lib.hid (R0.out.next hb)
        have Xc' := Lib.hid (Xc.out.keep hb Lc.out)
        have Lc' := Lib.hid (Nat.lt_of_lt_of_le Lc.out hb.size)
        have Ic' := Lib.hid (Ic.out.next hb)
        have Rz' := Lib.hid (Rz.out.next hb)
        have Rb' := Lib.hid (Rb.out.next hb)
        clear T XM LM R0 Xc Lc Ic Rz Rb hb
        have T := T'
        have XM := XM'
        have LM := LM'
        have R0 := R0'
        have Xc := Xc'
        have Lc := Lc'
        have Ic := Ic'
        have Rz := Rz'
        have Rb := Rb'
        clear T' XM' LM' R0' Xc' Lc' Ic' Rz' Rb'
        clear Rb hnb
        clear Pb
        rcases Cc with hc | ⟨hc, hc2⟩
        · obtain ⟨rfl, rfl⟩ := Uc.out hc
          subst hc
          clear Uc
          obtain ⟨c17_0, c17_1, c17_2, c17_3, c17_4⟩ := Xc.out
          try dsimp only at c17_0 c17_1 c17_2 c17_3 c17_4
          go_wp2_with fail
          refine (Pc.out _ _ Ic.out).mono ?_
          rintro e w18 ⟨Ac, nc, cc, rfl, ho, hb, hnc, hcm⟩
          clear c17_0 c17_1 c17_2 c17_3 c17_4
          have T' := Lib.hid (below_next T.out hb)
          have XM' := Lib.hid (XM.out.keep hb LM.out)
          have LM' := Lib.hid (Nat.lt_of_lt_of_le LM.out hb.size)
          have R0' := Lib.hid (R0.out.next hb)
          have Xc' := Lib.hid (Xc.out.keep hb Lc.out)
          have Lc' := Lib.hid (Nat.lt_of_lt_of_le Lc.out hb.size)
          have Ic' := Lib.hid (Ic.out.next hb)
          have Rz' := Lib.hid (Rz.out.next hb)
          clear T XM LM R0 Xc Lc Ic Rz hb
          have T := T'
          have XM := XM'
          have LM := LM'
          have R0 := R0'
          have Xc := Xc'
          have Lc := Lc'
          have Ic := Ic'
          have Rz := Rz'
          clear T' XM' LM' R0' Xc' Lc' Ic' Rz'
          have hr := own_strsT ho Ec
          clear ho hnc hcm
          have Rc := Lib.hid hr.2
          have hnc := hr.1
          clear hr
          clear Xc Lc Ic
          go_wp2_with fail
          refine (samePages_any Ac Az _ _ cc cz _ _ _ Rc.out Rz.out hnc hnz).mono ?_
          rintro e w19 ⟨rfl, hb⟩
          have T' := Lib.hid (below_next T.out hb)
          have XM' := Lib.hid (XM.out.keep hb LM.out)
          have LM' := Lib.hid (Nat.lt_of_lt_of_le LM.out hb.size)
          have R0' := Lib.hid (R0.out.next hb)
          have Rz' := Lib.hid (Rz.out.next hb)
          have Rc' := Lib.hid (Rc.out.next hb)
          clear T XM LM R0 Rz Rc hb
          have T := T'
          have XM := XM'
          have LM := LM'
          have R0 := R0'
          have Rz := Rz'
          have Rc := Rc'
          clear T' XM' LM' R0' Rz' Rc'
          clear Rc hnc
          clear Rz hnz
          clear Pc
          obtain ⟨c20_0, c20_1, c20_2, c20_3, c20_4⟩ := XM.out
          try dsimp only at c20_0 c20_1 c20_2 c20_3 c20_4
          go_wp2_with fail
          refine (Kd.out _ T.out).mono ?_
          rintro e w21 ⟨v, rfl, hF, hb⟩
          clear c20_0 c20_1 c20_2 c20_3 c20_4
          have T' := Lib.hid (below_next T.out hb)
          have XM' := Lib.hid (XM.out.keep hb LM.out)
          have LM' := Lib.hid (Nat.lt_of_lt_of_le LM.out hb.size)
          have R0' := Lib.hid (R0.out.next hb)
          clear T XM LM R0 hb
          have T := T'
          have XM := XM'
          have LM := LM'
          have R0 := R0'
          clear T' XM' LM' R0'
          have hx := Box.new w21 zd.guest v 26
          have b1 := below1 w21 (.cells #[.int .i64 zd.guest, .slice v.rA v.rn v.rc, .slice v.sA v.sn v.sc, .slice v.fA v.fn v.fc, .slice v.pA v.pn v.pc] 26)
          have hi2 := hF.imgR.next b1
          have hlt : w21.heap.size < (w21.alloc (.cells #[.int .i64 zd.guest, .slice v.rA v.rn v.rc, .slice v.sA v.sn v.sc, .slice v.fA v.fn v.fc, .slice v.pA v.pn v.pc] 26)).heap.size := by simp
          have T' := Lib.hid (below_next T.out b1)
          have XM' := Lib.hid (XM.out.keep b1 LM.out)
          have LM' := Lib.hid (Nat.lt_of_lt_of_le LM.out b1.size)
          have R0' := Lib.hid (R0.out.next b1)
          clear T XM LM R0 b1
          have T := T'
          have XM := XM'
          have LM := LM'
          have R0 := R0'
          clear T' XM' LM' R0'
          obtain ⟨drA, drn, drc, dsA, dsn, dsc, dfA, dfn, dfc, dpA, dpn, dpc⟩ := v
          have Id := Lib.hid hi2
          have Xd := Lib.hid hx
          have Ld := Lib.hid hlt
          dsimp only [imgV] at Id Xd Ld T XM LM R0 ⊢
          clear hF hx hi2 hlt
          clear Kd XM LM
          rcases Cd with hd | ⟨hd, hd2⟩
          · obtain ⟨rfl, rfl⟩ := Ud.out hd
            obtain rfl := Vd.out hd
            subst hd
            clear Ud Vd
            obtain ⟨c22_0, c22_1, c22_2, c22_3, c22_4⟩ := Xd.out
            try dsimp only at c22_0 c22_1 c22_2 c22_3 c22_4
            go_wp2_with fail
            generalize (w21.alloc (.cells #[.int .i64 zd.guest, .slice drA drn drc, .slice dsA dsn dsc, .slice dfA dfn dfc, .slice dpA dpn dpc] 26)) = W23 at *
            refine (Pd.out _ _ Id.out).mono ?_
            rintro e w24 ⟨Ad, nd, cd, rfl, ho, hb, hnc, hcm⟩
            clear c22_0 c22_1 c22_2 c22_3 c22_4
            have T' := Lib.hid (below_next T.out hb)
            have R0' := Lib.hid (R0.out.next hb)
            have Xd' := Lib.hid (Xd.out.keep hb Ld.out)
            have Ld' := Lib.hid (Nat.lt_of_lt_of_le Ld.out hb.size)
            have Id' := Lib.hid (Id.out.next hb)
            clear T R0 Xd Ld Id hb
            have T := T'
            have R0 := R0'
            have Xd := Xd'
            have Ld := Ld'
            have Id := Id'
            clear T' R0' Xd' Ld' Id'
            have hr := own_strsT ho Ed
            clear ho hnc hcm
            have Rd := Lib.hid hr.2
            have hnd := hr.1
            clear hr
            clear Xd Ld Id
            go_wp2_with fail
            refine (Kr.out _ _ _ _ ⟨R0.out, HB.out⟩ hnc0 hn0).mono ?_
            rintro e w25 ⟨Ar, nr, cr, rfl, ho, hb, hnc, hcm⟩
            have T' := Lib.hid (below_next T.out hb)
            have R0' := Lib.hid (R0.out.next hb)
            have Rd' := Lib.hid (Rd.out.next hb)
            clear T R0 Rd hb
            have T := T'
            have R0 := R0'
            have Rd := Rd'
            clear T' R0' Rd'
            have hr := own_strsT ho Er
            clear ho hnc hcm
            have Rr := Lib.hid hr.2
            have hnr := hr.1
            clear hr
            go_wp2_with fail
            refine (writesBegun_any _).mono ?_
            rintro e w26 ⟨rfl, hb⟩
            have T' := Lib.hid (below_next T.out hb)
            have R0' := Lib.hid (R0.out.next hb)
            have Rd' := Lib.hid (Rd.out.next hb)
            have Rr' := Lib.hid (Rr.out.next hb)
            clear T R0 Rd Rr hb
            have T := T'
            have R0 := R0'
            have Rd := Rd'
            have Rr := Rr'
            clear T' R0' Rd' Rr'
            go_wp2_with fail
            refine (samePages_any Ad Ar _ _ cd cr _ _ _ Rd.out Rr.out hnd hnr).mono ?_
            rintro e w27 ⟨rfl, hb⟩
            have T' := Lib.hid (below_next T.out hb)
            have R0' := Lib.hid (R0.out.next hb)
            have Rd' := Lib.hid (Rd.out.next hb)
            have Rr' := Lib.hid (Rr.out.next hb)
            clear T R0 Rd Rr hb
            have T := T'
            have R0 := R0'
            have Rd := Rd'
            have Rr := Rr'
            clear T' R0' Rd' Rr'
            go_wp2_with fail
            go_ret
            exact ⟨rfl, T.out⟩
          · clear Xd Ld Id
            clear Ud Vd Pd Kr
            go_wp2_with fail
            generalize (w21.alloc (.cells #[.int .i64 zd.guest, .slice drA drn drc, .slice dsA dsn dsc, .slice dfA dfn dfc, .slice dpA dpn dpc] 26)) = W22 at *
            refine (writesBegun_any _).mono ?_
            rintro e w23 ⟨rfl, hb⟩
            have T' := Lib.hid (below_next T.out hb)
            have R0' := Lib.hid (R0.out.next hb)
            clear T R0 hb
            have T := T'
            have R0 := R0'
            clear T' R0'
            go_wp2_with fail
            go_ret
            exact ⟨rfl, T.out⟩
        · clear Xc Lc Ic
          clear Rz hnz
          clear Uc Pc
          obtain ⟨c17_0, c17_1, c17_2, c17_3, c17_4⟩ := XM.out
          try dsimp only at c17_0 c17_1 c17_2 c17_3 c17_4
          go_wp2_with fail
          refine (Kd.out _ T.out).mono ?_
          rintro e w18 ⟨v, rfl, hF, hb⟩
          clear c17_0 c17_1 c17_2 c17_3 c17_4
          have T' := Lib.hid (below_next T.out hb)
          have XM' := Lib.hid (XM.out.keep hb LM.out)
          have LM' := Lib.hid (Nat.lt_of_lt_of_le LM.out hb.size)
          have R0' := Lib.hid (R0.out.next hb)
          clear T XM LM R0 hb
          have T := T'
          have XM := XM'
          have LM := LM'
          have R0 := R0'
          clear T' XM' LM' R0'
          have hx := Box.new w18 zd.guest v 26
          have b1 := below1 w18 (.cells #[.int .i64 zd.guest, .slice v.rA v.rn v.rc, .slice v.sA v.sn v.sc, .slice v.fA v.fn v.fc, .slice v.pA v.pn v.pc] 26)
          have hi2 := hF.imgR.next b1
          have hlt : w18.heap.size < (w18.alloc (.cells #[.int .i64 zd.guest, .slice v.rA v.rn v.rc, .slice v.sA v.sn v.sc, .slice v.fA v.fn v.fc, .slice v.pA v.pn v.pc] 26)).heap.size := by simp
          have T' := Lib.hid (below_next T.out b1)
          have XM' := Lib.hid (XM.out.keep b1 LM.out)
          have LM' := Lib.hid (Nat.lt_of_lt_of_le LM.out b1.size)
          have R0' := Lib.hid (R0.out.next b1)
          clear T XM LM R0 b1
          have T := T'
          have XM := XM'
          have LM := LM'
          have R0 := R0'
          clear T' XM' LM' R0'
          obtain ⟨drA, drn, drc, dsA, dsn, dsc, dfA, dfn, dfc, dpA, dpn, dpc⟩ := v
          have Id := Lib.hid hi2
          have Xd := Lib.hid hx
          have Ld := Lib.hid hlt
          dsimp only [imgV] at Id Xd Ld T XM LM R0 ⊢
          clear hF hx hi2 hlt
          clear Kd XM LM
          rcases Cd with hd | ⟨hd, hd2⟩
          · obtain ⟨rfl, rfl⟩ := Ud.out hd
            obtain rfl := Vd.out hd
            subst hd
            clear Ud Vd
            obtain ⟨c19_0, c19_1, c19_2, c19_3, c19_4⟩ := Xd.out
            try dsimp only at c19_0 c19_1 c19_2 c19_3 c19_4
            go_wp2_with fail
            generalize (w18.alloc (.cells #[.int .i64 zd.guest, .slice drA drn drc, .slice dsA dsn dsc, .slice dfA dfn dfc, .slice dpA dpn dpc] 26)) = W20 at *
            refine (Pd.out _ _ Id.out).mono ?_
            rintro e w21 ⟨Ad, nd, cd, rfl, ho, hb, hnc, hcm⟩
            clear c19_0 c19_1 c19_2 c19_3 c19_4
            have T' := Lib.hid (below_next T.out hb)
            have R0' := Lib.hid (R0.out.next hb)
            have Xd' := Lib.hid (Xd.out.keep hb Ld.out)
            have Ld' := Lib.hid (Nat.lt_of_lt_of_le Ld.out hb.size)
            have Id' := Lib.hid (Id.out.next hb)
            clear T R0 Xd Ld Id hb
            have T := T'
            have R0 := R0'
            have Xd := Xd'
            have Ld := Ld'
            have Id := Id'
            clear T' R0' Xd' Ld' Id'
            have hr := own_strsT ho Ed
            clear ho hnc hcm
            have Rd := Lib.hid hr.2
            have hnd := hr.1
            clear hr
            clear Xd Ld Id
            go_wp2_with fail
            refine (Kr.out _ _ _ _ ⟨R0.out, HB.out⟩ hnc0 hn0).mono ?_
            rintro e w22 ⟨Ar, nr, cr, rfl, ho, hb, hnc, hcm⟩
            have T' := Lib.hid (below_next T.out hb)
            have R0' := Lib.hid (R0.out.next hb)
            have Rd' := Lib.hid (Rd.out.next hb)
            clear T R0 Rd hb
            have T := T'
            have R0 := R0'
            have Rd := Rd'
            clear T' R0' Rd'
            have hr := own_strsT ho Er
            clear ho hnc hcm
            have Rr := Lib.hid hr.2
            have hnr := hr.1
            clear hr
            go_wp2_with fail
            refine (writesBegun_any _).mono ?_
            rintro e w23 ⟨rfl, hb⟩
            have T' := Lib.hid (below_next T.out hb)
            have R0' := Lib.hid (R0.out.next hb)
            have Rd' := Lib.hid (Rd.out.next hb)
            have Rr' := Lib.hid (Rr.out.next hb)
            clear T R0 Rd Rr hb
            have T := T'
            have R0 := R0'
            have Rd := Rd'
            have Rr := Rr'
            clear T' R0' Rd' Rr'
            go_wp2_with fail
            refine (samePages_any Ad Ar _ _ cd cr _ _ _ Rd.out Rr.out hnd hnr).mono ?_
            rintro e w24 ⟨rfl, hb⟩
            have T' := Lib.hid (below_next T.out hb)
            have R0' := Lib.hid (R0.out.next hb)
            have Rd' := Lib.hid (Rd.out.next hb)
            have Rr' := Lib.hid (Rr.out.next hb)
            clear T R0 Rd Rr hb
            have T := T'
            have R0 := R0'
            have Rd := Rd'
            have Rr := Rr'
            clear T' R0' Rd' Rr'
            go_wp2_with fail
            go_ret
            exact ⟨rfl, T.out⟩
          · clear Xd Ld Id
            clear Ud Vd Pd Kr
            go_wp2_with fail
            generalize (w18.alloc (.cells #[.int .i64 zd.guest, .slice drA drn drc, .slice dsA dsn dsc, .slice dfA dfn dfc, .slice dpA dpn dpc] 26)) = W19 at *
            refine (writesBegun_any _).mono ?_
            rintro e w20 ⟨rfl, hb⟩
            have T' := Lib.hid (below_next T.out hb)
            have R0' := Lib.hid (R0.out.next hb)
            clear T R0 hb
            have T := T'
            have R0 := R0'
            clear T' R0'
            go_wp2_with fail
            go_ret
            exact ⟨rfl, T.out⟩
      · clear Xb Lb Ib
        clear Ub Vb Pb
        rcases Cc with hc | ⟨hc, hc2⟩
        · obtain ⟨rfl, rfl⟩ := Uc.out hc
          obtain rfl := Vc.out hc
          clear Vc
          subst hc
          clear Uc
          obtain ⟨c14_0, c14_1, c14_2, c14_3, c14_4⟩ := Xc.out
          try dsimp only at c14_0 c14_1 c14_2 c14_3 c14_4
          go_wp2_with fail
          refine (Pc.out _ _ Ic.out).mono ?_
          rintro e w15 ⟨Ac, nc, cc, rfl, ho, hb, hnc, hcm⟩
          clear c14_0 c14_1 c14_2 c14_3 c14_4
          have T' := Lib.hid (below_next T.out hb)
          have XM' := Lib.hid (XM.out.keep hb LM.out)
          have LM' := Lib.hid (Nat.lt_of_lt_of_le LM.out hb.size)
          have R0' := Lib.hid (R0.out.next hb)
          have Xc' := Lib.hid (Xc.out.keep hb Lc.out)
          have Lc' := Lib.hid (Nat.lt_of_lt_of_le Lc.out hb.size)
          have Ic' := Lib.hid (Ic.out.next hb)
          have Rz' := Lib.hid (Rz.out.next hb)
          clear T XM LM R0 Xc Lc Ic Rz hb
          have T := T'
          have XM := XM'
          have LM := LM'
          have R0 := R0'
          have Xc := Xc'
          have Lc := Lc'
          have Ic := Ic'
          have Rz := Rz'
          clear T' XM' LM' R0' Xc' Lc' Ic' Rz'
          have hr := own_strsT ho Ec
          clear ho hnc hcm
          have Rc := Lib.hid hr.2
          have hnc := hr.1
          clear hr
          clear Xc Lc Ic
          go_wp2_with fail
          refine (samePages_any Ac Az _ _ cc cz _ _ _ Rc.out Rz.out hnc hnz).mono ?_
          rintro e w16 ⟨rfl, hb⟩
          have T' := Lib.hid (below_next T.out hb)
          have XM' := Lib.hid (XM.out.keep hb LM.out)
          have LM' := Lib.hid (Nat.lt_of_lt_of_le LM.out hb.size)
          have R0' := Lib.hid (R0.out.next hb)
          have Rz' := Lib.hid (Rz.out.next hb)
          have Rc' := Lib.hid (Rc.out.next hb)
          clear T XM LM R0 Rz Rc hb
          have T := T'
          have XM := XM'
          have LM := LM'
          have R0 := R0'
          have Rz := Rz'
          have Rc := Rc'
          clear T' XM' LM' R0' Rz' Rc'
          clear Rc hnc
          clear Rz hnz
          clear Pc
          obtain ⟨c17_0, c17_1, c17_2, c17_3, c17_4⟩ := XM.out
          try dsimp only at c17_0 c17_1 c17_2 c17_3 c17_4
          go_wp2_with fail
          refine (Kd.out _ T.out).mono ?_
          rintro e w18 ⟨v, rfl, hF, hb⟩
          clear c17_0 c17_1 c17_2 c17_3 c17_4
          have T' := Lib.hid (below_next T.out hb)
          have XM' := Lib.hid (XM.out.keep hb LM.out)
          have LM' := Lib.hid (Nat.lt_of_lt_of_le LM.out hb.size)
          have R0' := Lib.hid (R0.out.next hb)
          clear T XM LM R0 hb
          have T := T'
          have XM := XM'
          have LM := LM'
          have R0 := R0'
          clear T' XM' LM' R0'
          have hx := Box.new w18 zd.guest v 26
          have b1 := below1 w18 (.cells #[.int .i64 zd.guest, .slice v.rA v.rn v.rc, .slice v.sA v.sn v.sc, .slice v.fA v.fn v.fc, .slice v.pA v.pn v.pc] 26)
          have hi2 := hF.imgR.next b1
          have hlt : w18.heap.size < (w18.alloc (.cells #[.int .i64 zd.guest, .slice v.rA v.rn v.rc, .slice v.sA v.sn v.sc, .slice v.fA v.fn v.fc, .slice v.pA v.pn v.pc] 26)).heap.size := by simp
          have T' := Lib.hid (below_next T.out b1)
          have XM' := Lib.hid (XM.out.keep b1 LM.out)
          have LM' := Lib.hid (Nat.lt_of_lt_of_le LM.out b1.size)
          have R0' := Lib.hid (R0.out.next b1)
          clear T XM LM R0 b1
          have T := T'
          have XM := XM'
          have LM := LM'
          have R0 := R0'
          clear T' XM' LM' R0'
          obtain ⟨drA, drn, drc, dsA, dsn, dsc, dfA, dfn, dfc, dpA, dpn, dpc⟩ := v
          have Id := Lib.hid hi2
          have Xd := Lib.hid hx
          have Ld := Lib.hid hlt
          dsimp only [imgV] at Id Xd Ld T XM LM R0 ⊢
          clear hF hx hi2 hlt
          clear Kd XM LM
          rcases Cd with hd | ⟨hd, hd2⟩
          · obtain ⟨rfl, rfl⟩ := Ud.out hd
            obtain rfl := Vd.out hd
            subst hd
            clear Ud Vd
            obtain ⟨c19_0, c19_1, c19_2, c19_3, c19_4⟩ := Xd.out
            try dsimp only at c19_0 c19_1 c19_2 c19_3 c19_4
            go_wp2_with fail
            generalize (w18.alloc (.cells #[.int .i64 zd.guest, .slice drA drn drc, .slice dsA dsn dsc, .slice dfA dfn dfc, .slice dpA dpn dpc] 26)) = W20 at *
            refine (Pd.out _ _ Id.out).mono ?_
            rintro e w21 ⟨Ad, nd, cd, rfl, ho, hb, hnc, hcm⟩
            clear c19_0 c19_1 c19_2 c19_3 c19_4
            have T' := Lib.hid (below_next T.out hb)
            have R0' := Lib.hid (R0.out.next hb)
            have Xd' := Lib.hid (Xd.out.keep hb Ld.out)
            have Ld' := Lib.hid (Nat.lt_of_lt_of_le Ld.out hb.size)
            have Id' := Lib.hid (Id.out.next hb)
            clear T R0 Xd Ld Id hb
            have T := T'
            have R0 := R0'
            have Xd := Xd'
            have Ld := Ld'
            have Id := Id'
            clear T' R0' Xd' Ld' Id'
            have hr := own_strsT ho Ed
            clear ho hnc hcm
            have Rd := Lib.hid hr.2
            have hnd := hr.1
            clear hr
            clear Xd Ld Id
            go_wp2_with fail
            refine (Kr.out _ _ _ _ ⟨R0.out, HB.out⟩ hnc0 hn0).mono ?_
            rintro e w22 ⟨Ar, nr, cr, rfl, ho, hb, hnc, hcm⟩
            have T' := Lib.hid (below_next T.out hb)
            have R0' := Lib.hid (R0.out.next hb)
            have Rd' := Lib.hid (Rd.out.next hb)
            clear T R0 Rd hb
            have T := T'
            have R0 := R0'
            have Rd := Rd'
            clear T' R0' Rd'
            have hr := own_strsT ho Er
            clear ho hnc hcm
            have Rr := Lib.hid hr.2
            have hnr := hr.1
            clear hr
            go_wp2_with fail
            refine (writesBegun_any _).mono ?_
            rintro e w23 ⟨rfl, hb⟩
            have T' := Lib.hid (below_next T.out hb)
            have R0' := Lib.hid (R0.out.next hb)
            have Rd' := Lib.hid (Rd.out.next hb)
            have Rr' := Lib.hid (Rr.out.next hb)
            clear T R0 Rd Rr hb
            have T := T'
            have R0 := R0'
            have Rd := Rd'
            have Rr := Rr'
            clear T' R0' Rd' Rr'
            go_wp2_with fail
            refine (samePages_any Ad Ar _ _ cd cr _ _ _ Rd.out Rr.out hnd hnr).mono ?_
            rintro e w24 ⟨rfl, hb⟩
            have T' := Lib.hid (below_next T.out hb)
            have R0' := Lib.hid (R0.out.next hb)
            have Rd' := Lib.hid (Rd.out.next hb)
            have Rr' := Lib.hid (Rr.out.next hb)
            clear T R0 Rd Rr hb
            have T := T'
            have R0 := R0'
            have Rd := Rd'
            have Rr := Rr'
            clear T' R0' Rd' Rr'
            go_wp2_with fail
            go_ret
            exact ⟨rfl, T.out⟩
          · clear Xd Ld Id
            clear Ud Vd Pd Kr
            go_wp2_with fail
            generalize (w18.alloc (.cells #[.int .i64 zd.guest, .slice drA drn drc, .slice dsA dsn dsc, .slice dfA dfn dfc, .slice dpA dpn dpc] 26)) = W19 at *
            refine (writesBegun_any _).mono ?_
            rintro e w20 ⟨rfl, hb⟩
            have T' := Lib.hid (below_next T.out hb)
            have R0' := Lib.hid (R0.out.next hb)
            clear T R0 hb
            have T := T'
            have R0 := R0'
            clear T' R0'
            go_wp2_with fail
            go_ret
            exact ⟨rfl, T.out⟩
        · clear Xc Lc Ic
          clear Rz hnz
          clear Uc Pc Vc
          obtain ⟨c14_0, c14_1, c14_2, c14_3, c14_4⟩ := XM.out
          try dsimp only at c14_0 c14_1 c14_2 c14_3 c14_4
          go_wp2_with fail
          refine (Kd.out _ T.out).mono ?_
          rintro e w15 ⟨v, rfl, hF, hb⟩
          clear c14_0 c14_1 c14_2 c14_3 c14_4
          have T' := Lib.hid (below_next T.out hb)
          have XM' := Lib.hid (XM.out.keep hb LM.out)
          have LM' := Lib.hid (Nat.lt_of_lt_of_le LM.out hb.size)
          have R0' := Lib.hid (R0.out.next hb)
          clear T XM LM R0 hb
          have T := T'
          have XM := XM'
          have LM := LM'
          have R0 := R0'
          clear T' XM' LM' R0'
          have hx := Box.new w15 zd.guest v 26
          have b1 := below1 w15 (.cells #[.int .i64 zd.guest, .slice v.rA v.rn v.rc, .slice v.sA v.sn v.sc, .slice v.fA v.fn v.fc, .slice v.pA v.pn v.pc] 26)
          have hi2 := hF.imgR.next b1
          have hlt : w15.heap.size < (w15.alloc (.cells #[.int .i64 zd.guest, .slice v.rA v.rn v.rc, .slice v.sA v.sn v.sc, .slice v.fA v.fn v.fc, .slice v.pA v.pn v.pc] 26)).heap.size := by simp
          have T' := Lib.hid (below_next T.out b1)
          have XM' := Lib.hid (XM.out.keep b1 LM.out)
          have LM' := Lib.hid (Nat.lt_of_lt_of_le LM.out b1.size)
          have R0' := Lib.hid (R0.out.next b1)
          clear T XM LM R0 b1
          have T := T'
          have XM := XM'
          have LM := LM'
          have R0 := R0'
          clear T' XM' LM' R0'
          obtain ⟨drA, drn, drc, dsA, dsn, dsc, dfA, dfn, dfc, dpA, dpn, dpc⟩ := v
          have Id := Lib.hid hi2
          have Xd := Lib.hid hx
          have Ld := Lib.hid hlt
          dsimp only [imgV] at Id Xd Ld T XM LM R0 ⊢
          clear hF hx hi2 hlt
          clear Kd XM LM
          rcases Cd with hd | ⟨hd, hd2⟩
          · obtain ⟨rfl, rfl⟩ := Ud.out hd
            obtain rfl := Vd.out hd
            subst hd
            clear Ud Vd
            obtain ⟨c16_0, c16_1, c16_2, c16_3, c16_4⟩ := Xd.out
            try dsimp only at c16_0 c16_1 c16_2 c16_3 c16_4
            go_wp2_with fail
            generalize (w15.alloc (.cells #[.int .i64 zd.guest, .slice drA drn drc, .slice dsA dsn dsc, .slice dfA dfn dfc, .slice dpA dpn dpc] 26)) = W17 at *
            refine (Pd.out _ _ Id.out).mono ?_
            rintro e w18 ⟨Ad, nd, cd, rfl, ho, hb, hnc, hcm⟩
            clear c16_0 c16_1 c16_2 c16_3 c16_4
            have T' := Lib.hid (below_next T.out hb)
            have R0' := Lib.hid (R0.out.next hb)
            have Xd' := Lib.hid (Xd.out.keep hb Ld.out)
            have Ld' := Lib.hid (Nat.lt_of_lt_of_le Ld.out hb.size)
            have Id' := Lib.hid (Id.out.next hb)
            clear T R0 Xd Ld Id hb
            have T := T'
            have R0 := R0'
            have Xd := Xd'
            have Ld := Ld'
            have Id := Id'
            clear T' R0' Xd' Ld' Id'
            have hr := own_strsT ho Ed
            clear ho hnc hcm
            have Rd := Lib.hid hr.2
            have hnd := hr.1
            clear hr
            clear Xd Ld Id
            go_wp2_with fail
            refine (Kr.out _ _ _ _ ⟨R0.out, HB.out⟩ hnc0 hn0).mono ?_
            rintro e w19 ⟨Ar, nr, cr, rfl, ho, hb, hnc, hcm⟩
            have T' := Lib.hid (below_next T.out hb)
            have R0' := Lib.hid (R0.out.next hb)
            have Rd' := Lib.hid (Rd.out.next hb)
            clear T R0 Rd hb
            have T := T'
            have R0 := R0'
            have Rd := Rd'
            clear T' R0' Rd'
            have hr := own_strsT ho Er
            clear ho hnc hcm
            have Rr := Lib.hid hr.2
            have hnr := hr.1
            clear hr
            go_wp2_with fail
            refine (writesBegun_any _).mono ?_
            rintro e w20 ⟨rfl, hb⟩
            have T' := Lib.hid (below_next T.out hb)
            have R0' := Lib.hid (R0.out.next hb)
            have Rd' := Lib.hid (Rd.out.next hb)
            have Rr' := Lib.hid (Rr.out.next hb)
            clear T R0 Rd Rr hb
            have T := T'
            have R0 := R0'
            have Rd := Rd'
            have Rr := Rr'
            clear T' R0' Rd' Rr'
            go_wp2_with fail
            refine (samePages_any Ad Ar _ _ cd cr _ _ _ Rd.out Rr.out hnd hnr).mono ?_
            rintro e w21 ⟨rfl, hb⟩
            have T' := Lib.hid (below_next T.out hb)
            have R0' := Lib.hid (R0.out.next hb)
            have Rd' := Lib.hid (Rd.out.next hb)
            have Rr' := Lib.hid (Rr.out.next hb)
            clear T R0 Rd Rr hb
            have T := T'
            have R0 := R0'
            have Rd := Rd'
            have Rr := Rr'
            clear T' R0' Rd' Rr'
            go_wp2_with fail
            go_ret
            exact ⟨rfl, T.out⟩
          · clear Xd Ld Id
            clear Ud Vd Pd Kr
            go_wp2_with fail
            generalize (w15.alloc (.cells #[.int .i64 zd.guest, .slice drA drn drc, .slice dsA dsn dsc, .slice dfA dfn dfc, .slice dpA dpn dpc] 26)) = W16 at *
            refine (writesBegun_any _).mono ?_
            rintro e w17 ⟨rfl, hb⟩
            have T' := Lib.hid (below_next T.out hb)
            have R0' := Lib.hid (R0.out.next hb)
            clear T R0 hb
            have T := T'
            have R0 := R0'
            clear T' R0'
            go_wp2_with fail
            go_ret
            exact ⟨rfl, T.out⟩
  · go_wp2_with fail
    refine (writesBegun_any _).mono ?_
    rintro e w4 ⟨rfl, hb⟩
    have T' := Lib.hid (below_next T.out hb)
    have XM' := Lib.hid (XM.out.keep hb LM.out)
    have LM' := Lib.hid (Nat.lt_of_lt_of_le LM.out hb.size)
    have R0' := Lib.hid (R0.out.next hb)
    clear T XM LM R0 hb
    have T := T'
    have XM := XM'
    have LM := LM'
    have R0 := R0'
    clear T' XM' LM' R0'
    go_wp2_with fail
    go_ret
    exact ⟨rfl, T.out⟩
end Go.Proofs.Ytpboapeoejdipaa
