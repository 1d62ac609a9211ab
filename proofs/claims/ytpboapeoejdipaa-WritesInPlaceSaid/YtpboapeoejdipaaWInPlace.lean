/- The law WritesInPlace. Conditions: the image is read below the heap's size. (Printed by gen_winplace.py.) -/
import Derived.Test.YtpboapeoejdipaaPureZ
import Derived.Test.YtpboapeoejdipaaSameImg
namespace Go.Proofs.Ytpboapeoejdipaa
open Go.RowKit Sl
set_option maxRecDepth 100000 in
set_option maxHeartbeats 8000000 in
theorem law_writesInPlace (v : IV) (m : Img) (n : Int) (one two : ByteArray) (w : World) (h : ImgR w w.heap.size v m) :
    Calls Try.prog 8 #[.agg #[.int .i64 m.guest, .slice v.rA v.rn v.rc, .slice v.sA v.sn v.sc, .slice v.fA v.fn v.fc, .slice v.pA v.pn v.pc], .int .i64 n, .string one, .string two] w fun e w' => e = .returned (.bool true) ∧ Below w.heap.size w w' := by
  have Ka' := fun W (hb : Below w.heap.size w W) => write_any v m n one W (h.next hb) (fun x => write_hw x)
  have Kb' := fun W (hb : Below w.heap.size w W) => wipe_any v m n W (h.next hb) (fun x => set_hw rfl (by decide) x)
  have Kc' := fun W (hb : Below w.heap.size w W) => punch_any v m n W (h.next hb) (fun x => set_hw rfl (by decide) x)
  have Kp' := fun W v (h : ImgR W W.heap.size v (writeI m n one)) => write_any v (writeI m n one) n two W h (fun x => write_hw x)
  have Kq' := fun W v (h : ImgR W W.heap.size v (setI m n (-1))) => wipe_any v (setI m n (-1)) n W h (fun x => set_hw rfl (by decide) x)
  have Kr' := fun W v (h : ImgR W W.heap.size v (setI m n 0)) => punch_any v (setI m n 0) n W h (fun x => set_hw rfl (by decide) x)
  have KU' := fun W (hb : Below w.heap.size w W) => used_any v.sA v.sn v.sc m.slots W (h.next hb).slots h.scap.1
  have U7' := fun hh => fa_full (m := m) (n := n) (pg := one) hh
  have Up' := fun hh h2 => write_twice (m := m) (n := n) (one := one) (two := two) hh h2
  have Uq' := fun hh => set_twice (m := m) (n := n) (e := -1) rfl (by decide) hh
  have Ur' := fun hh => set_twice (m := m) (n := n) (e := 0) rfl (by decide) hh
  generalize writeI (writeI m n one) n two = zp at *
  generalize writeE (writeI m n one) n two = ep at *
  generalize setI (setI m n (-1)) n (-1) = zq at *
  generalize setE (setI m n (-1)) n (-1) = eq at *
  generalize setI (setI m n 0) n 0 = zr at *
  generalize setE (setI m n 0) n 0 = er at *
  generalize writeI m n one = za at *
  generalize writeE m n one = ea at *
  generalize setI m n (-1) = zb at *
  generalize setE m n (-1) = eb at *
  generalize setI m n 0 = zc at *
  generalize setE m n 0 = ec at *
  generalize usedN m.slots = um at *
  generalize slotsErr m.slots = sm at *
  obtain ⟨rA, rn, rc, sA, sn, sc, fA, fn, fc, pA, pn, pc⟩ := v
  dsimp only [imgV] at Ka' Kb' Kc' Kp' Kq' Kr' KU' ⊢
  have Ka := Lib.hid Ka'
  have Kb := Lib.hid Kb'
  have Kc := Lib.hid Kc'
  have Kp := Lib.hid Kp'
  have Kq := Lib.hid Kq'
  have Kr := Lib.hid Kr'
  have KU := Lib.hid KU'
  have U7 := Lib.hid U7'
  have Up := Lib.hid Up'
  have Uq := Lib.hid Uq'
  have Ur := Lib.hid Ur'
  clear Ka' Kb' Kc' Kp' Kq' Kr' KU' U7' Up' Uq' Ur' h
  have Ca : ea = 0 ∨ (ea == 0) = false ∧ (ea != 0) = true := by
    by_cases hh : ea = 0
    · exact .inl hh
    · right; simpa using hh
  have Cb : eb = 0 ∨ (eb == 0) = false ∧ (eb != 0) = true := by
    by_cases hh : eb = 0
    · exact .inl hh
    · right; simpa using hh
  have Cc : ec = 0 ∨ (ec == 0) = false ∧ (ec != 0) = true := by
    by_cases hh : ec = 0
    · exact .inl hh
    · right; simpa using hh
  have C7 : ea = 7 ∨ (ea == 7) = false := by
    by_cases hh : ea = 7
    · exact .inl hh
    · right; simpa using hh
  have C2 : two.size = 4 ∨ ((two.size : Int) == 4) = false := by
    by_cases hh : two.size = 4
    · exact .inl hh
    · right; simp; omega
  have T0' := below1 w (.cells #[.int .i64 m.guest, .slice rA rn rc, .slice sA sn sc, .slice fA fn fc, .slice pA pn pc] 26)
  have X0' := Box.new w m.guest ⟨rA, rn, rc, sA, sn, sc, fA, fn, fc, pA, pn, pc⟩ 26
  have L0' : w.heap.size < (w.alloc (.cells #[.int .i64 m.guest, .slice rA rn rc, .slice sA sn sc, .slice fA fn fc, .slice pA pn pc] 26)).heap.size := by simp
  have T := Lib.hid T0'
  have XM := Lib.hid X0'
  have LM := Lib.hid L0'
  clear T0' X0' L0'
  obtain ⟨c1_0, c1_1, c1_2, c1_3, c1_4⟩ := XM.out
  try dsimp only at c1_0 c1_1 c1_2 c1_3 c1_4
  go_enter Try.func8, Try.ntmps8
  clear c1_0 c1_1 c1_2 c1_3 c1_4
  obtain ⟨c2_0, c2_1, c2_2, c2_3, c2_4⟩ := XM.out
  try dsimp only at c2_0 c2_1 c2_2 c2_3 c2_4
  go_wp2_with fail
  generalize (w.alloc (.cells #[.int .i64 m.guest, .slice rA rn rc, .slice sA sn sc, .slice fA fn fc, .slice pA pn pc] 26)) = W3 at *
  refine (Ka.out _ T.out).mono ?_
  rintro e w4 ⟨v, rfl, hF, hb⟩
  clear c2_0 c2_1 c2_2 c2_3 c2_4
  have T' := Lib.hid (below_next T.out hb)
  have XM' := Lib.hid (XM.out.keep hb LM.out)
  have LM' := Lib.hid (Nat.lt_of_lt_of_le LM.out hb.size)
  clear T XM LM hb
  have T := T'
  have XM := XM'
  have LM := LM'
  clear T' XM' LM'
  have hx := Box.new w4 za.guest v 26
  have b1 := below1 w4 (.cells #[.int .i64 za.guest, .slice v.rA v.rn v.rc, .slice v.sA v.sn v.sc, .slice v.fA v.fn v.fc, .slice v.pA v.pn v.pc] 26)
  have hi2 := hF.imgR.next b1
  have hlt : w4.heap.size < (w4.alloc (.cells #[.int .i64 za.guest, .slice v.rA v.rn v.rc, .slice v.sA v.sn v.sc, .slice v.fA v.fn v.fc, .slice v.pA v.pn v.pc] 26)).heap.size := by simp
  have T' := Lib.hid (below_next T.out b1)
  have XM' := Lib.hid (XM.out.keep b1 LM.out)
  have LM' := Lib.hid (Nat.lt_of_lt_of_le LM.out b1.size)
  clear T XM LM b1
  have T := T'
  have XM := XM'
  have LM := LM'
  clear T' XM' LM'
  obtain ⟨arA, arn, arc, asA, asn, asc, afA, afn, afc, apA, apn, apc⟩ := v
  have Ia := Lib.hid hi2
  have Xa := Lib.hid hx
  have La := Lib.hid hlt
  dsimp only [imgV] at Ia Xa La T XM LM ⊢
  clear hF hx hi2 hlt
  clear Ka
  rcases C7 with h7 | h7
  · obtain ⟨rfl, hum⟩ := U7.out h7
    subst h7
    clear U7 Ca
    obtain ⟨c5_0, c5_1, c5_2, c5_3, c5_4⟩ := XM.out
    try dsimp only at c5_0 c5_1 c5_2 c5_3 c5_4
    go_wp2_with fail
    generalize (w4.alloc (.cells #[.int .i64 za.guest, .slice arA arn arc, .slice asA asn asc, .slice afA afn afc, .slice apA apn apc] 26)) = W6 at *
    refine (KU.out _ T.out).mono ?_
    rintro e w7 ⟨rfl, hb⟩
    clear c5_0 c5_1 c5_2 c5_3 c5_4
    have T' := Lib.hid (below_next T.out hb)
    have XM' := Lib.hid (XM.out.keep hb LM.out)
    have LM' := Lib.hid (Nat.lt_of_lt_of_le LM.out hb.size)
    have Xa' := Lib.hid (Xa.out.keep hb La.out)
    have La' := Lib.hid (Nat.lt_of_lt_of_le La.out hb.size)
    have Ia' := Lib.hid (Ia.out.next hb)
    clear T XM LM Xa La Ia hb
    have T := T'
    have XM := XM'
    have LM := LM'
    have Xa := Xa'
    have La := La'
    have Ia := Ia'
    clear T' XM' LM' Xa' La' Ia'
    go_wp2_with fail
    refine (writesBegun_any _).mono ?_
    rintro e w8 ⟨rfl, hb⟩
    have T' := Lib.hid (below_next T.out hb)
    have XM' := Lib.hid (XM.out.keep hb LM.out)
    have LM' := Lib.hid (Nat.lt_of_lt_of_le LM.out hb.size)
    have Xa' := Lib.hid (Xa.out.keep hb La.out)
    have La' := Lib.hid (Nat.lt_of_lt_of_le La.out hb.size)
    have Ia' := Lib.hid (Ia.out.next hb)
    clear T XM LM Xa La Ia hb
    have T := T'
    have XM := XM'
    have LM := LM'
    have Xa := Xa'
    have La := La'
    have Ia := Ia'
    clear T' XM' LM' Xa' La' Ia'
    go_wp2_with fail
    go_ret
    exact ⟨rfl, T.out⟩
  · clear U7 KU
    rcases Ca with ha | ⟨ha, ha2⟩
    · subst ha
      rcases C2 with h2 | h2
      · obtain ⟨y1, y2, y3, y4, y5, y6⟩ := Up.out rfl h2
        have g2 : ((two.size : Int) == 4) = true := by simp [h2]
        subst y1
        have Y := Lib.hid (And.intro y2 (And.intro y3 (And.intro y4 (And.intro y5 y6))))
        clear y2 y3 y4 y5 y6 Up h2
        obtain ⟨c5_0, c5_1, c5_2, c5_3, c5_4⟩ := XM.out
        try dsimp only at c5_0 c5_1 c5_2 c5_3 c5_4
        obtain ⟨c6_0, c6_1, c6_2, c6_3, c6_4⟩ := Xa.out
        try dsimp only at c6_0 c6_1 c6_2 c6_3 c6_4
        go_wp2_with fail
        generalize (w4.alloc (.cells #[.int .i64 za.guest, .slice arA arn arc, .slice asA asn asc, .slice afA afn afc, .slice apA apn apc] 26)) = W7 at *
        refine (Kp.out _ _ Ia.out).mono ?_
        rintro e w8 ⟨v, rfl, hF, hb⟩
        clear c5_0 c5_1 c5_2 c5_3 c5_4 c6_0 c6_1 c6_2 c6_3 c6_4
        have T' := Lib.hid (below_next T.out hb)
        have XM' := Lib.hid (XM.out.keep hb LM.out)
        have LM' := Lib.hid (Nat.lt_of_lt_of_le LM.out hb.size)
        have Xa' := Lib.hid (Xa.out.keep hb La.out)
        have La' := Lib.hid (Nat.lt_of_lt_of_le La.out hb.size)
        have Ia' := Lib.hid (Ia.out.next hb)
        clear T XM LM Xa La Ia hb
        have T := T'
        have XM := XM'
        have LM := LM'
        have Xa := Xa'
        have La := La'
        have Ia := Ia'
        clear T' XM' LM' Xa' La' Ia'
        have hx := Box.new w8 zp.guest v 26
        have b1 := below1 w8 (.cells #[.int .i64 zp.guest, .slice v.rA v.rn v.rc, .slice v.sA v.sn v.sc, .slice v.fA v.fn v.fc, .slice v.pA v.pn v.pc] 26)
        have hi2 := hF.imgR.next b1
        have hlt : w8.heap.size < (w8.alloc (.cells #[.int .i64 zp.guest, .slice v.rA v.rn v.rc, .slice v.sA v.sn v.sc, .slice v.fA v.fn v.fc, .slice v.pA v.pn v.pc] 26)).heap.size := by simp
        have T' := Lib.hid (below_next T.out b1)
        have XM' := Lib.hid (XM.out.keep b1 LM.out)
        have LM' := Lib.hid (Nat.lt_of_lt_of_le LM.out b1.size)
        have Xa' := Lib.hid (Xa.out.keep b1 La.out)
        have La' := Lib.hid (Nat.lt_of_lt_of_le La.out b1.size)
        have Ia' := Lib.hid (Ia.out.next b1)
        clear T XM LM Xa La Ia b1
        have T := T'
        have XM := XM'
        have LM := LM'
        have Xa := Xa'
        have La := La'
        have Ia := Ia'
        clear T' XM' LM' Xa' La' Ia'
        obtain ⟨prA, prn, prc, psA, psn, psc, pfA, pfn, pfc, ppA, ppn, ppc⟩ := v
        have Ip := Lib.hid hi2
        have Xp := Lib.hid hx
        have Lp := Lib.hid hlt
        dsimp only [imgV] at Ip Xp Lp T XM LM Xa La Ia ⊢
        clear hF hx hi2 hlt
        clear Kp
        obtain ⟨y2, y3, y4, y5, y6⟩ := Y.out
        have KV' := fun W (h : ImgR W W.heap.size ⟨arA, arn, arc, asA, asn, asc, afA, afn, afc, apA, apn, apc⟩ za) => used_any asA asn asc za.slots W h.slots h.scap.1
        have KW' := fun W (h : ImgR W W.heap.size ⟨prA, prn, prc, psA, psn, psc, pfA, pfn, pfc, ppA, ppn, ppc⟩ zp) => used_any psA psn psc zp.slots W h.slots h.scap.1
        rw [y2] at KV'
        rw [y3, y4] at KW'
        have hsl : psn = asn := by have h1 := Ia.out.slen; have h2 := Ip.out.slen; dsimp only at h1 h2; omega
        have KX' := fun W (h : ImgR W W.heap.size ⟨arA, arn, arc, asA, asn, asc, afA, afn, afc, apA, apn, apc⟩ za) (h2 : ImgR W W.heap.size ⟨prA, prn, prc, psA, psn, psc, pfA, pfn, pfc, ppA, ppn, ppc⟩ zp) => sameInts_any arA prA arn prn arc prc za.root zp.root W h.root h2.root h.rcap.1 h2.rcap.1
        rw [y6, decide_eq_true (rfl : za.root = za.root)] at KX'
        subst hsl
        have KV := Lib.hid KV'
        have KW := Lib.hid KW'
        have KX := Lib.hid KX'
        clear KV' KW' KX' y2 y3 y4 y5 y6 Y
        generalize usedN za.slots = ua at *
        obtain ⟨c9_0, c9_1, c9_2, c9_3, c9_4⟩ := Xa.out
        try dsimp only at c9_0 c9_1 c9_2 c9_3 c9_4
        obtain ⟨c10_0, c10_1, c10_2, c10_3, c10_4⟩ := Xp.out
        try dsimp only at c10_0 c10_1 c10_2 c10_3 c10_4
        go_wp2_with fail
        generalize (w8.alloc (.cells #[.int .i64 zp.guest, .slice prA prn prc, .slice psA psn psc, .slice pfA pfn pfc, .slice ppA ppn ppc] 26)) = W11 at *
        refine (KV.out _ Ia.out).mono ?_
        rintro e w12 ⟨rfl, hb⟩
        clear c9_0 c9_1 c9_2 c9_3 c9_4 c10_0 c10_1 c10_2 c10_3 c10_4
        have T' := Lib.hid (below_next T.out hb)
        have XM' := Lib.hid (XM.out.keep hb LM.out)
        have LM' := Lib.hid (Nat.lt_of_lt_of_le LM.out hb.size)
        have Xa' := Lib.hid (Xa.out.keep hb La.out)
        have La' := Lib.hid (Nat.lt_of_lt_of_le La.out hb.size)
        have Ia' := Lib.hid (Ia.out.next hb)
        have Xp' := Lib.hid (Xp.out.keep hb Lp.out)
        have Lp' := Lib.hid (Nat.lt_of_lt_of_le Lp.out hb.size)
        have Ip' := Lib.hid (Ip.out.next hb)
        clear T XM LM Xa La Ia Xp Lp Ip hb
        have T := T'
        have XM := XM'
        have LM := LM'
        have Xa := Xa'
        have La := La'
        have Ia := Ia'
        have Xp := Xp'
        have Lp := Lp'
        have Ip := Ip'
        clear T' XM' LM' Xa' La' Ia' Xp' Lp' Ip'
        obtain ⟨c13_0, c13_1, c13_2, c13_3, c13_4⟩ := Xa.out
        try dsimp only at c13_0 c13_1 c13_2 c13_3 c13_4
        obtain ⟨c14_0, c14_1, c14_2, c14_3, c14_4⟩ := Xp.out
        try dsimp only at c14_0 c14_1 c14_2 c14_3 c14_4
        go_wp2_with fail
        refine (KW.out _ Ip.out).mono ?_
        rintro e w15 ⟨rfl, hb⟩
        clear c13_0 c13_1 c13_2 c13_3 c13_4 c14_0 c14_1 c14_2 c14_3 c14_4
        have T' := Lib.hid (below_next T.out hb)
        have XM' := Lib.hid (XM.out.keep hb LM.out)
        have LM' := Lib.hid (Nat.lt_of_lt_of_le LM.out hb.size)
        have Xa' := Lib.hid (Xa.out.keep hb La.out)
        have La' := Lib.hid (Nat.lt_of_lt_of_le La.out hb.size)
        have Ia' := Lib.hid (Ia.out.next hb)
        have Xp' := Lib.hid (Xp.out.keep hb Lp.out)
        have Lp' := Lib.hid (Nat.lt_of_lt_of_le Lp.out hb.size)
        have Ip' := Lib.hid (Ip.out.next hb)
        clear T XM LM Xa La Ia Xp Lp Ip hb
        have T := T'
        have XM := XM'
        have LM := LM'
        have Xa := Xa'
        have La := La'
        have Ia := Ia'
        have Xp := Xp'
        have Lp := Lp'
        have Ip := Ip'
        clear T' XM' LM' Xa' La' Ia' Xp' Lp' Ip'
        obtain ⟨c16_0, c16_1, c16_2, c16_3, c16_4⟩ := Xa.out
        try dsimp only at c16_0 c16_1 c16_2 c16_3 c16_4
        obtain ⟨c17_0, c17_1, c17_2, c17_3, c17_4⟩ := Xp.out
        try dsimp only at c17_0 c17_1 c17_2 c17_3 c17_4
        go_wp2_with fail
        refine (KX.out _ Ia.out Ip.out).mono ?_
        rintro e w18 ⟨rfl, hb⟩
        clear c16_0 c16_1 c16_2 c16_3 c16_4 c17_0 c17_1 c17_2 c17_3 c17_4
        have T' := Lib.hid (below_next T.out hb)
        have XM' := Lib.hid (XM.out.keep hb LM.out)
        have LM' := Lib.hid (Nat.lt_of_lt_of_le LM.out hb.size)
        have Xa' := Lib.hid (Xa.out.keep hb La.out)
        have La' := Lib.hid (Nat.lt_of_lt_of_le La.out hb.size)
        have Ia' := Lib.hid (Ia.out.next hb)
        have Xp' := Lib.hid (Xp.out.keep hb Lp.out)
        have Lp' := Lib.hid (Nat.lt_of_lt_of_le Lp.out hb.size)
        have Ip' := Lib.hid (Ip.out.next hb)
        clear T XM LM Xa La Ia Xp Lp Ip hb
        have T := T'
        have XM := XM'
        have LM := LM'
        have Xa := Xa'
        have La := La'
        have Ia := Ia'
        have Xp := Xp'
        have Lp := Lp'
        have Ip := Ip'
        clear T' XM' LM' Xa' La' Ia' Xp' Lp' Ip'
        clear Xp Lp Ip
        clear Xa La Ia
        clear KV KW KX
        obtain ⟨c19_0, c19_1, c19_2, c19_3, c19_4⟩ := XM.out
        try dsimp only at c19_0 c19_1 c19_2 c19_3 c19_4
        go_wp2_with fail
        refine (Kb.out _ T.out).mono ?_
        rintro e w20 ⟨v, rfl, hF, hb⟩
        clear c19_0 c19_1 c19_2 c19_3 c19_4
        have T' := Lib.hid (below_next T.out hb)
        have XM' := Lib.hid (XM.out.keep hb LM.out)
        have LM' := Lib.hid (Nat.lt_of_lt_of_le LM.out hb.size)
        clear T XM LM hb
        have T := T'
        have XM := XM'
        have LM := LM'
        clear T' XM' LM'
        have Bb := Lib.hid T.out.size
        have hx := Box.new w20 zb.guest v 26
        have b1 := below1 w20 (.cells #[.int .i64 zb.guest, .slice v.rA v.rn v.rc, .slice v.sA v.sn v.sc, .slice v.fA v.fn v.fc, .slice v.pA v.pn v.pc] 26)
        have hi2 := hF.imgR.next b1
        have hlt : w20.heap.size < (w20.alloc (.cells #[.int .i64 zb.guest, .slice v.rA v.rn v.rc, .slice v.sA v.sn v.sc, .slice v.fA v.fn v.fc, .slice v.pA v.pn v.pc] 26)).heap.size := by simp
        have T' := Lib.hid (below_next T.out b1)
        have XM' := Lib.hid (XM.out.keep b1 LM.out)
        have LM' := Lib.hid (Nat.lt_of_lt_of_le LM.out b1.size)
        clear T XM LM b1
        have T := T'
        have XM := XM'
        have LM := LM'
        clear T' XM' LM'
        obtain ⟨brA, brn, brc, bsA, bsn, bsc, bfA, bfn, bfc, bpA, bpn, bpc⟩ := v
        have Ib := Lib.hid hi2
        have Xb := Lib.hid hx
        have Lb := Lib.hid hlt
        dsimp only [imgV] at Ib Xb Lb T XM LM ⊢
        clear hF hx hi2 hlt
        clear Kb
        have Bb0 := Bb
        clear Bb
        have Bb := Lib.hid (show BoxB (w20.alloc (.cells #[.int .i64 zb.guest, .slice brA brn brc, .slice bsA bsn bsc, .slice bfA bfn bfc, .slice bpA bpn bpc] 26)) _ from ⟨_, heap_alloc_new _ _⟩)
        rcases Cb with hb' | ⟨hb', hb2⟩
        · obtain ⟨e1, e2⟩ := Uq.out hb'
          have e3 := e2.symm
          clear e2
          subst e3
          subst e1
          subst hb'
          clear Uq
          obtain ⟨c21_0, c21_1, c21_2, c21_3, c21_4⟩ := XM.out
          try dsimp only at c21_0 c21_1 c21_2 c21_3 c21_4
          obtain ⟨c22_0, c22_1, c22_2, c22_3, c22_4⟩ := Xb.out
          try dsimp only at c22_0 c22_1 c22_2 c22_3 c22_4
          go_wp2_with fail
          generalize (w20.alloc (.cells #[.int .i64 zb.guest, .slice brA brn brc, .slice bsA bsn bsc, .slice bfA bfn bfc, .slice bpA bpn bpc] 26)) = W23 at *
          refine (Kq.out _ _ Ib.out).mono ?_
          rintro e w24 ⟨v, rfl, hF, hb⟩
          clear c21_0 c21_1 c21_2 c21_3 c21_4 c22_0 c22_1 c22_2 c22_3 c22_4
          have T' := Lib.hid (below_next T.out hb)
          have XM' := Lib.hid (XM.out.keep hb LM.out)
          have LM' := Lib.hid (Nat.lt_of_lt_of_le LM.out hb.size)
          have Xb' := Lib.hid (Xb.out.keep hb Lb.out)
          have Lb' := Lib.hid (Nat.lt_of_lt_of_le Lb.out hb.size)
          have Ib' := Lib.hid (Ib.out.next hb)
          have Bb' := Lib.hid (Bb.out.next hb)
          clear T XM LM Xb Lb Ib Bb hb
          have T := T'
          have XM := XM'
          have LM := LM'
          have Xb := Xb'
          have Lb := Lb'
          have Ib := Ib'
          have Bb := Bb'
          clear T' XM' LM' Xb' Lb' Ib' Bb'
          have hx := Box.new w24 zb.guest v 26
          have b1 := below1 w24 (.cells #[.int .i64 zb.guest, .slice v.rA v.rn v.rc, .slice v.sA v.sn v.sc, .slice v.fA v.fn v.fc, .slice v.pA v.pn v.pc] 26)
          have hi2 := hF.imgR.next b1
          have hlt : w24.heap.size < (w24.alloc (.cells #[.int .i64 zb.guest, .slice v.rA v.rn v.rc, .slice v.sA v.sn v.sc, .slice v.fA v.fn v.fc, .slice v.pA v.pn v.pc] 26)).heap.size := by simp
          have T' := Lib.hid (below_next T.out b1)
          have XM' := Lib.hid (XM.out.keep b1 LM.out)
          have LM' := Lib.hid (Nat.lt_of_lt_of_le LM.out b1.size)
          have Xb' := Lib.hid (Xb.out.keep b1 Lb.out)
          have Lb' := Lib.hid (Nat.lt_of_lt_of_le Lb.out b1.size)
          have Ib' := Lib.hid (Ib.out.next b1)
          have Bb' := Lib.hid (Bb.out.next b1)
          clear T XM LM Xb Lb Ib Bb b1
          have T := T'
          have XM := XM'
          have LM := LM'
          have Xb := Xb'
          have Lb := Lb'
          have Ib := Ib'
          have Bb := Bb'
          clear T' XM' LM' Xb' Lb' Ib' Bb'
          obtain ⟨qrA, qrn, qrc, qsA, qsn, qsc, qfA, qfn, qfc, qpA, qpn, qpc⟩ := v
          have Iq := Lib.hid hi2
          have Xq := Lib.hid hx
          have Lq := Lib.hid hlt
          dsimp only [imgV] at Iq Xq Lq T XM LM Xb Lb Ib Bb ⊢
          clear hF hx hi2 hlt
          clear Kq
          obtain ⟨c25_0, c25_1, c25_2, c25_3, c25_4⟩ := Xb.out
          try dsimp only at c25_0 c25_1 c25_2 c25_3 c25_4
          obtain ⟨c26_0, c26_1, c26_2, c26_3, c26_4⟩ := Xq.out
          try dsimp only at c26_0 c26_1 c26_2 c26_3 c26_4
          go_wp2_with fail
          generalize (w24.alloc (.cells #[.int .i64 zb.guest, .slice qrA qrn qrc, .slice qsA qsn qsc, .slice qfA qfn qfc, .slice qpA qpn qpc] 26)) = W27 at *
          refine (sameImg_any _ _ zb _ Ib.out Iq.out).mono ?_
          rintro e w28 ⟨rfl, hb⟩
          clear c25_0 c25_1 c25_2 c25_3 c25_4 c26_0 c26_1 c26_2 c26_3 c26_4
          have T' := Lib.hid (below_next T.out hb)
          have XM' := Lib.hid (XM.out.keep hb LM.out)
          have LM' := Lib.hid (Nat.lt_of_lt_of_le LM.out hb.size)
          have Xb' := Lib.hid (Xb.out.keep hb Lb.out)
          have Lb' := Lib.hid (Nat.lt_of_lt_of_le Lb.out hb.size)
          have Ib' := Lib.hid (Ib.out.next hb)
          have Bb' := Lib.hid (Bb.out.next hb)
          have Xq' := Lib.hid (Xq.out.keep hb Lq.out)
          have Lq' := Lib.hid (Nat.lt_of_lt_of_le Lq.out hb.size)
          have Iq' := Lib.hid (Iq.out.next hb)
          clear T XM LM Xb Lb Ib Bb Xq Lq Iq hb
          have T := T'
          have XM := XM'
          have LM := LM'
          have Xb := Xb'
          have Lb := Lb'
          have Ib := Ib'
          have Bb := Bb'
          have Xq := Xq'
          have Lq := Lq'
          have Iq := Iq'
          clear T' XM' LM' Xb' Lb' Ib' Bb' Xq' Lq' Iq'
          clear Xq Lq Iq
          clear Ib
          obtain ⟨c29_0, c29_1, c29_2, c29_3, c29_4⟩ := XM.out
          try dsimp only at c29_0 c29_1 c29_2 c29_3 c29_4
          go_wp2_with fail
          refine (Kc.out _ T.out).mono ?_
          rintro e w30 ⟨v, rfl, hF, hb⟩
          clear c29_0 c29_1 c29_2 c29_3 c29_4
          have T' := Lib.hid (below_next T.out hb)
          have XM' := Lib.hid (XM.out.keep hb LM.out)
          have LM' := Lib.hid (Nat.lt_of_lt_of_le LM.out hb.size)
          have Xb' := Lib.hid (Xb.out.keep hb Lb.out)
          have Lb' := Lib.hid (Nat.lt_of_lt_of_le Lb.out hb.size)
          have Bb' := Lib.hid (Bb.out.next hb)
          clear T XM LM Xb Lb Bb hb
          have T := T'
          have XM := XM'
          have LM := LM'
          have Xb := Xb'
          have Lb := Lb'
          have Bb := Bb'
          clear T' XM' LM' Xb' Lb' Bb'
          clear Kc XM LM
          obtain ⟨crA, crn, crc, csA, csn, csc, cfA, cfn, cfc, cpA, cpn, cpc⟩ := v
          have h5 := five Bb.out ⟨_, _, Xb.out⟩ zc.guest ⟨crA, crn, crc, csA, csn, csc, cfA, cfn, cfc, cpA, cpn, cpc⟩
          have hty := Bb.out.ty
          have hF2 := hF.kept h5.2.2 hty (by decide) (by decide) (by decide)
          have T2 := T.out.grown h5.2.2 (T.out.size) (fun j e => by injection e with e; have := Bb0.out; omega)
          obtain ⟨y0, y1, y2, y3, y4⟩ := Xb.out
          have q0 := Bb.out.fz 0
          have q1 := Bb.out.fz 1
          have q2 := Bb.out.fz 2
          have q3 := Bb.out.fz 3
          have q4 := Bb.out.fz 4
          have X2 := Lib.hid h5.1
          have I2 := Lib.hid hF2.imgR
          have TT := Lib.hid T2
          have L2 := Lib.hid (show w20.heap.size < _ from Nat.lt_of_lt_of_le Lb.out (by have := h5.2.2.size; omega))
          clear h5 hty hF hF2 T2 T Xb Bb Lb Bb0
          have T := TT
          have Xb := X2
          have Ic := I2
          have Lb := L2
          clear TT X2 I2 L2
          rcases Cc with hc | ⟨hc, hc2⟩
          · obtain ⟨e1, e2⟩ := Ur.out hc
            have e3 := e2.symm
            clear e2
            subst e3
            subst e1
            subst hc
            clear Ur
            obtain ⟨c31_0, c31_1, c31_2, c31_3, c31_4⟩ := Xb.out
            try dsimp only at c31_0 c31_1 c31_2 c31_3 c31_4
            obtain ⟨z0, z1, z2, z3, z4⟩ := Xb.out
            go_wp2_with fail
            generalize (((((w30.setCell ⟨w20.heap.size, 0, none⟩ (.int .i64 zc.guest)).setCell ⟨w20.heap.size, 1, none⟩ (.slice crA crn crc)).setCell ⟨w20.heap.size, 2, none⟩ (.slice csA csn csc)).setCell ⟨w20.heap.size, 3, none⟩ (.slice cfA cfn cfc)).setCell ⟨w20.heap.size, 4, none⟩ (.slice cpA cpn cpc)) = W32 at *
            refine (Kr.out _ _ Ic.out).mono ?_
            rintro e w33 ⟨v, rfl, hF, hb⟩
            clear z0 z1 z2 z3 z4
            clear c31_0 c31_1 c31_2 c31_3 c31_4 y0 y1 y2 y3 y4 q0 q1 q2 q3 q4
            have T' := Lib.hid (below_next T.out hb)
            have Xb' := Lib.hid (Xb.out.keep hb Lb.out)
            have Lb' := Lib.hid (Nat.lt_of_lt_of_le Lb.out hb.size)
            have Ic' := Lib.hid (Ic.out.next hb)
            clear T Xb Lb Ic hb
            have T := T'
            have Xb := Xb'
            have Lb := Lb'
            have Ic := Ic'
            clear T' Xb' Lb' Ic'
            have hx := Box.new w33 zc.guest v 26
            have b1 := below1 w33 (.cells #[.int .i64 zc.guest, .slice v.rA v.rn v.rc, .slice v.sA v.sn v.sc, .slice v.fA v.fn v.fc, .slice v.pA v.pn v.pc] 26)
            have hi2 := hF.imgR.next b1
            have hlt : w33.heap.size < (w33.alloc (.cells #[.int .i64 zc.guest, .slice v.rA v.rn v.rc, .slice v.sA v.sn v.sc, .slice v.fA v.fn v.fc, .slice v.pA v.pn v.pc] 26)).heap.size := by simp
            have T' := Lib.hid (below_next T.out b1)
            have Xb' := Lib.hid (Xb.out.keep b1 Lb.out)
            have Lb' := Lib.hid (Nat.lt_of_lt_of_le Lb.out b1.size)
            have Ic' := Lib.hid (Ic.out.next b1)
            clear T Xb Lb Ic b1
            have T := T'
            have Xb := Xb'
            have Lb := Lb'
            have Ic := Ic'
            clear T' Xb' Lb' Ic'
            obtain ⟨drA, drn, drc, dsA, dsn, dsc, dfA, dfn, dfc, dpA, dpn, dpc⟩ := v
            have Id := Lib.hid hi2
            have Xd := Lib.hid hx
            have Ld := Lib.hid hlt
            dsimp only [imgV] at Id Xd Ld T Xb Lb Ic ⊢
            clear hF hx hi2 hlt
            go_wp2_with fail
            generalize (w33.alloc (.cells #[.int .i64 zc.guest, .slice drA drn drc, .slice dsA dsn dsc, .slice dfA dfn dfc, .slice dpA dpn dpc] 26)) = W34 at *
            refine (writesBegun_any _).mono ?_
            rintro e w35 ⟨rfl, hb⟩
            have T' := Lib.hid (below_next T.out hb)
            have Xb' := Lib.hid (Xb.out.keep hb Lb.out)
            have Lb' := Lib.hid (Nat.lt_of_lt_of_le Lb.out hb.size)
            have Ic' := Lib.hid (Ic.out.next hb)
            have Xd' := Lib.hid (Xd.out.keep hb Ld.out)
            have Ld' := Lib.hid (Nat.lt_of_lt_of_le Ld.out hb.size)
            have Id' := Lib.hid (Id.out.next hb)
            clear T Xb Lb Ic Xd Ld Id hb
            have T := T'
            have Xb := Xb'
            have Lb := Lb'
            have Ic := Ic'
            have Xd := Xd'
            have Ld := Ld'
            have Id := Id'
            clear T' Xb' Lb' Ic' Xd' Ld' Id'
            obtain ⟨c36_0, c36_1, c36_2, c36_3, c36_4⟩ := Xb.out
            try dsimp only at c36_0 c36_1 c36_2 c36_3 c36_4
            obtain ⟨c37_0, c37_1, c37_2, c37_3, c37_4⟩ := Xd.out
            try dsimp only at c37_0 c37_1 c37_2 c37_3 c37_4
            go_wp2_with fail
            refine (sameImg_any _ _ zc _ Ic.out Id.out).mono ?_
            rintro e w38 ⟨rfl, hb⟩
            clear c36_0 c36_1 c36_2 c36_3 c36_4 c37_0 c37_1 c37_2 c37_3 c37_4
            have T' := Lib.hid (below_next T.out hb)
            have Xb' := Lib.hid (Xb.out.keep hb Lb.out)
            have Lb' := Lib.hid (Nat.lt_of_lt_of_le Lb.out hb.size)
            have Ic' := Lib.hid (Ic.out.next hb)
            have Xd' := Lib.hid (Xd.out.keep hb Ld.out)
            have Ld' := Lib.hid (Nat.lt_of_lt_of_le Ld.out hb.size)
            have Id' := Lib.hid (Id.out.next hb)
            clear T Xb Lb Ic Xd Ld Id hb
            have T := T'
            have Xb := Xb'
            have Lb := Lb'
            have Ic := Ic'
            have Xd := Xd'
            have Ld := Ld'
            have Id := Id'
            clear T' Xb' Lb' Ic' Xd' Ld' Id'
            go_wp2_with fail
            go_ret
            exact ⟨rfl, T.out⟩
          · clear Ur Kr
            go_wp2_with fail
            generalize (((((w30.setCell ⟨w20.heap.size, 0, none⟩ (.int .i64 zc.guest)).setCell ⟨w20.heap.size, 1, none⟩ (.slice crA crn crc)).setCell ⟨w20.heap.size, 2, none⟩ (.slice csA csn csc)).setCell ⟨w20.heap.size, 3, none⟩ (.slice cfA cfn cfc)).setCell ⟨w20.heap.size, 4, none⟩ (.slice cpA cpn cpc)) = W31 at *
            refine (writesBegun_any _).mono ?_
            rintro e w32 ⟨rfl, hb⟩
            clear y0 y1 y2 y3 y4 q0 q1 q2 q3 q4
            have T' := Lib.hid (below_next T.out hb)
            have Xb' := Lib.hid (Xb.out.keep hb Lb.out)
            have Lb' := Lib.hid (Nat.lt_of_lt_of_le Lb.out hb.size)
            have Ic' := Lib.hid (Ic.out.next hb)
            clear T Xb Lb Ic hb
            have T := T'
            have Xb := Xb'
            have Lb := Lb'
            have Ic := Ic'
            clear T' Xb' Lb' Ic'
            go_wp2_with fail
            go_ret
            exact ⟨rfl, T.out⟩
        · clear Uq Kq
          clear Ib
          obtain ⟨c21_0, c21_1, c21_2, c21_3, c21_4⟩ := XM.out
          try dsimp only at c21_0 c21_1 c21_2 c21_3 c21_4
          go_wp2_with fail
          generalize (w20.alloc (.cells #[.int .i64 zb.guest, .slice brA brn brc, .slice bsA bsn bsc, .slice bfA bfn bfc, .slice bpA bpn bpc] 26)) = W22 at *
          refine (Kc.out _ T.out).mono ?_
          rintro e w23 ⟨v, rfl, hF, hb⟩
          clear c21_0 c21_1 c21_2 c21_3 c21_4
          have T' := Lib.hid (below_next T.out hb)
          have XM' := Lib.hid (XM.out.keep hb LM.out)
          have LM' := Lib.hid (Nat.lt_of_lt_of_le LM.out hb.size)
          have Xb' := Lib.hid (Xb.out.keep hb Lb.out)
          have Lb' := Lib.hid (Nat.lt_of_lt_of_le Lb.out hb.size)
          have Bb' := Lib.hid (Bb.out.next hb)
          clear T XM LM Xb Lb Bb hb
          have T := T'
          have XM := XM'
          have LM := LM'
          have Xb := Xb'
          have Lb := Lb'
          have Bb := Bb'
          clear T' XM' LM' Xb' Lb' Bb'
          clear Kc XM LM
          obtain ⟨crA, crn, crc, csA, csn, csc, cfA, cfn, cfc, cpA, cpn, cpc⟩ := v
          have h5 := five Bb.out ⟨_, _, Xb.out⟩ zc.guest ⟨crA, crn, crc, csA, csn, csc, cfA, cfn, cfc, cpA, cpn, cpc⟩
          have hty := Bb.out.ty
          have hF2 := hF.kept h5.2.2 hty (by decide) (by decide) (by decide)
          have T2 := T.out.grown h5.2.2 (T.out.size) (fun j e => by injection e with e; have := Bb0.out; omega)
          obtain ⟨y0, y1, y2, y3, y4⟩ := Xb.out
          have q0 := Bb.out.fz 0
          have q1 := Bb.out.fz 1
          have q2 := Bb.out.fz 2
          have q3 := Bb.out.fz 3
          have q4 := Bb.out.fz 4
          have X2 := Lib.hid h5.1
          have I2 := Lib.hid hF2.imgR
          have TT := Lib.hid T2
          have L2 := Lib.hid (show w20.heap.size < _ from Nat.lt_of_lt_of_le Lb.out (by have := h5.2.2.size; omega))
          clear h5 hty hF hF2 T2 T Xb Bb Lb Bb0
          have T := TT
          have Xb := X2
          have Ic := I2
          have Lb := L2
          clear TT X2 I2 L2
          rcases Cc with hc | ⟨hc, hc2⟩
          · obtain ⟨e1, e2⟩ := Ur.out hc
            have e3 := e2.symm
            clear e2
            subst e3
            subst e1
            subst hc
            clear Ur
            obtain ⟨c24_0, c24_1, c24_2, c24_3, c24_4⟩ := Xb.out
            try dsimp only at c24_0 c24_1 c24_2 c24_3 c24_4
            obtain ⟨z0, z1, z2, z3, z4⟩ := Xb.out
            go_wp2_with fail
            generalize (((((w23.setCell ⟨w20.heap.size, 0, none⟩ (.int .i64 zc.guest)).setCell ⟨w20.heap.size, 1, none⟩ (.slice crA crn crc)).setCell ⟨w20.heap.size, 2, none⟩ (.slice csA csn csc)).setCell ⟨w20.heap.size, 3, none⟩ (.slice cfA cfn cfc)).setCell ⟨w20.heap.size, 4, none⟩ (.slice cpA cpn cpc)) = W25 at *
            refine (Kr.out _ _ Ic.out).mono ?_
            rintro e w26 ⟨v, rfl, hF, hb⟩
            clear z0 z1 z2 z3 z4
            clear c24_0 c24_1 c24_2 c24_3 c24_4 y0 y1 y2 y3 y4 q0 q1 q2 q3 q4
            have T' := Lib.hid (below_next T.out hb)
            have Xb' := Lib.hid (Xb.out.keep hb Lb.out)
            have Lb' := Lib.hid (Nat.lt_of_lt_of_le Lb.out hb.size)
            have Ic' := Lib.hid (Ic.out.next hb)
            clear T Xb Lb Ic hb
            have T := T'
            have Xb := Xb'
            have Lb := Lb'
            have Ic := Ic'
            clear T' Xb' Lb' Ic'
            have hx := Box.new w26 zc.guest v 26
            have b1 := below1 w26 (.cells #[.int .i64 zc.guest, .slice v.rA v.rn v.rc, .slice v.sA v.sn v.sc, .slice v.fA v.fn v.fc, .slice v.pA v.pn v.pc] 26)
            have hi2 := hF.imgR.next b1
            have hlt : w26.heap.size < (w26.alloc (.cells #[.int .i64 zc.guest, .slice v.rA v.rn v.rc, .slice v.sA v.sn v.sc, .slice v.fA v.fn v.fc, .slice v.pA v.pn v.pc] 26)).heap.size := by simp
            have T' := Lib.hid (below_next T.out b1)
            have Xb' := Lib.hid (Xb.out.keep b1 Lb.out)
            have Lb' := Lib.hid (Nat.lt_of_lt_of_le Lb.out b1.size)
            have Ic' := Lib.hid (Ic.out.next b1)
            clear T Xb Lb Ic b1
            have T := T'
            have Xb := Xb'
            have Lb := Lb'
            have Ic := Ic'
            clear T' Xb' Lb' Ic'
            obtain ⟨drA, drn, drc, dsA, dsn, dsc, dfA, dfn, dfc, dpA, dpn, dpc⟩ := v
            have Id := Lib.hid hi2
            have Xd := Lib.hid hx
            have Ld := Lib.hid hlt
            dsimp only [imgV] at Id Xd Ld T Xb Lb Ic ⊢
            clear hF hx hi2 hlt
            go_wp2_with fail
            generalize (w26.alloc (.cells #[.int .i64 zc.guest, .slice drA drn drc, .slice dsA dsn dsc, .slice dfA dfn dfc, .slice dpA dpn dpc] 26)) = W27 at *
            refine (writesBegun_any _).mono ?_
            rintro e w28 ⟨rfl, hb⟩
            have T' := Lib.hid (below_next T.out hb)
            have Xb' := Lib.hid (Xb.out.keep hb Lb.out)
            have Lb' := Lib.hid (Nat.lt_of_lt_of_le Lb.out hb.size)
            have Ic' := Lib.hid (Ic.out.next hb)
            have Xd' := Lib.hid (Xd.out.keep hb Ld.out)
            have Ld' := Lib.hid (Nat.lt_of_lt_of_le Ld.out hb.size)
            have Id' := Lib.hid (Id.out.next hb)
            clear T Xb Lb Ic Xd Ld Id hb
            have T := T'
            have Xb := Xb'
            have Lb := Lb'
            have Ic := Ic'
            have Xd := Xd'
            have Ld := Ld'
            have Id := Id'
            clear T' Xb' Lb' Ic' Xd' Ld' Id'
            obtain ⟨c29_0, c29_1, c29_2, c29_3, c29_4⟩ := Xb.out
            try dsimp only at c29_0 c29_1 c29_2 c29_3 c29_4
            obtain ⟨c30_0, c30_1, c30_2, c30_3, c30_4⟩ := Xd.out
            try dsimp only at c30_0 c30_1 c30_2 c30_3 c30_4
            go_wp2_with fail
            refine (sameImg_any _ _ zc _ Ic.out Id.out).mono ?_
            rintro e w31 ⟨rfl, hb⟩
            clear c29_0 c29_1 c29_2 c29_3 c29_4 c30_0 c30_1 c30_2 c30_3 c30_4
            have T' := Lib.hid (below_next T.out hb)
            have Xb' := Lib.hid (Xb.out.keep hb Lb.out)
            have Lb' := Lib.hid (Nat.lt_of_lt_of_le Lb.out hb.size)
            have Ic' := Lib.hid (Ic.out.next hb)
            have Xd' := Lib.hid (Xd.out.keep hb Ld.out)
            have Ld' := Lib.hid (Nat.lt_of_lt_of_le Ld.out hb.size)
            have Id' := Lib.hid (Id.out.next hb)
            clear T Xb Lb Ic Xd Ld Id hb
            have T := T'
            have Xb := Xb'
            have Lb := Lb'
            have Ic := Ic'
            have Xd := Xd'
            have Ld := Ld'
            have Id := Id'
            clear T' Xb' Lb' Ic' Xd' Ld' Id'
            go_wp2_with fail
            go_ret
            exact ⟨rfl, T.out⟩
          · clear Ur Kr
            go_wp2_with fail
            generalize (((((w23.setCell ⟨w20.heap.size, 0, none⟩ (.int .i64 zc.guest)).setCell ⟨w20.heap.size, 1, none⟩ (.slice crA crn crc)).setCell ⟨w20.heap.size, 2, none⟩ (.slice csA csn csc)).setCell ⟨w20.heap.size, 3, none⟩ (.slice cfA cfn cfc)).setCell ⟨w20.heap.size, 4, none⟩ (.slice cpA cpn cpc)) = W24 at *
            refine (writesBegun_any _).mono ?_
            rintro e w25 ⟨rfl, hb⟩
            clear y0 y1 y2 y3 y4 q0 q1 q2 q3 q4
            have T' := Lib.hid (below_next T.out hb)
            have Xb' := Lib.hid (Xb.out.keep hb Lb.out)
            have Lb' := Lib.hid (Nat.lt_of_lt_of_le Lb.out hb.size)
            have Ic' := Lib.hid (Ic.out.next hb)
            clear T Xb Lb Ic hb
            have T := T'
            have Xb := Xb'
            have Lb := Lb'
            have Ic := Ic'
            clear T' Xb' Lb' Ic'
            go_wp2_with fail
            go_ret
            exact ⟨rfl, T.out⟩
      · clear Xa La Ia
        clear Up Kp
        obtain ⟨c5_0, c5_1, c5_2, c5_3, c5_4⟩ := XM.out
        try dsimp only at c5_0 c5_1 c5_2 c5_3 c5_4
        go_wp2_with fail
        generalize (w4.alloc (.cells #[.int .i64 za.guest, .slice arA arn arc, .slice asA asn asc, .slice afA afn afc, .slice apA apn apc] 26)) = W6 at *
        refine (Kb.out _ T.out).mono ?_
        rintro e w7 ⟨v, rfl, hF, hb⟩
        clear c5_0 c5_1 c5_2 c5_3 c5_4
        have T' := Lib.hid (below_next T.out hb)
        have XM' := Lib.hid (XM.out.keep hb LM.out)
        have LM' := Lib.hid (Nat.lt_of_lt_of_le LM.out hb.size)
        clear T XM LM hb
        have T := T'
        have XM := XM'
        have LM := LM'
        clear T' XM' LM'
        have Bb := Lib.hid T.out.size
        have hx := Box.new w7 zb.guest v 26
        have b1 := below1 w7 (.cells #[.int .i64 zb.guest, .slice v.rA v.rn v.rc, .slice v.sA v.sn v.sc, .slice v.fA v.fn v.fc, .slice v.pA v.pn v.pc] 26)
        have hi2 := hF.imgR.next b1
        have hlt : w7.heap.size < (w7.alloc (.cells #[.int .i64 zb.guest, .slice v.rA v.rn v.rc, .slice v.sA v.sn v.sc, .slice v.fA v.fn v.fc, .slice v.pA v.pn v.pc] 26)).heap.size := by simp
        have T' := Lib.hid (below_next T.out b1)
        have XM' := Lib.hid (XM.out.keep b1 LM.out)
        have LM' := Lib.hid (Nat.lt_of_lt_of_le LM.out b1.size)
        clear T XM LM b1
        have T := T'
        have XM := XM'
        have LM := LM'
        clear T' XM' LM'
        obtain ⟨brA, brn, brc, bsA, bsn, bsc, bfA, bfn, bfc, bpA, bpn, bpc⟩ := v
        have Ib := Lib.hid hi2
        have Xb := Lib.hid hx
        have Lb := Lib.hid hlt
        dsimp only [imgV] at Ib Xb Lb T XM LM ⊢
        clear hF hx hi2 hlt
        clear Kb
        have Bb0 := Bb
        clear Bb
        have Bb := Lib.hid (show BoxB (w7.alloc (.cells #[.int .i64 zb.guest, .slice brA brn brc, .slice bsA bsn bsc, .slice bfA bfn bfc, .slice bpA bpn bpc] 26)) _ from ⟨_, heap_alloc_new _ _⟩)
        rcases Cb with hb' | ⟨hb', hb2⟩
        · obtain ⟨e1, e2⟩ := Uq.out hb'
          have e3 := e2.symm
          clear e2
          subst e3
          subst e1
          subst hb'
          clear Uq
          obtain ⟨c8_0, c8_1, c8_2, c8_3, c8_4⟩ := XM.out
          try dsimp only at c8_0 c8_1 c8_2 c8_3 c8_4
          obtain ⟨c9_0, c9_1, c9_2, c9_3, c9_4⟩ := Xb.out
          try dsimp only at c9_0 c9_1 c9_2 c9_3 c9_4
          go_wp2_with fail
          generalize (w7.alloc (.cells #[.int .i64 zb.guest, .slice brA brn brc, .slice bsA bsn bsc, .slice bfA bfn bfc, .slice bpA bpn bpc] 26)) = W10 at *
          refine (Kq.out _ _ Ib.out).mono ?_
          rintro e w11 ⟨v, rfl, hF, hb⟩
          clear c8_0 c8_1 c8_2 c8_3 c8_4 c9_0 c9_1 c9_2 c9_3 c9_4
          have T' := Lib.hid (below_next T.out hb)
          have XM' := Lib.hid (XM.out.keep hb LM.out)
          have LM' := Lib.hid (Nat.lt_of_lt_of_le LM.out hb.size)
          have Xb' := Lib.hid (Xb.out.keep hb Lb.out)
          have Lb' := Lib.hid (Nat.lt_of_lt_of_le Lb.out hb.size)
          have Ib' := Lib.hid (Ib.out.next hb)
          have Bb' := Lib.hid (Bb.out.next hb)
          clear T XM LM Xb Lb Ib Bb hb
          have T := T'
          have XM := XM'
          have LM := LM'
          have Xb := Xb'
          have Lb := Lb'
          have Ib := Ib'
          have Bb := Bb'
          clear T' XM' LM' Xb' Lb' Ib' Bb'
          have hx := Box.new w11 zb.guest v 26
          have b1 := below1 w11 (.cells #[.int .i64 zb.guest, .slice v.rA v.rn v.rc, .slice v.sA v.sn v.sc, .slice v.fA v.fn v.fc, .slice v.pA v.pn v.pc] 26)
          have hi2 := hF.imgR.next b1
          have hlt : w11.heap.size < (w11.alloc (.cells #[.int .i64 zb.guest, .slice v.rA v.rn v.rc, .slice v.sA v.sn v.sc, .slice v.fA v.fn v.fc, .slice v.pA v.pn v.pc] 26)).heap.size := by simp
          have T' := Lib.hid (below_next T.out b1)
          have XM' := Lib.hid (XM.out.keep b1 LM.out)
          have LM' := Lib.hid (Nat.lt_of_lt_of_le LM.out b1.size)
          have Xb' := Lib.hid (Xb.out.keep b1 Lb.out)
          have Lb' := Lib.hid (Nat.lt_of_lt_of_le Lb.out b1.size)
          have Ib' := Lib.hid (Ib.out.next b1)
          have Bb' := Lib.hid (Bb.out.next b1)
          clear T XM LM Xb Lb Ib Bb b1
          have T := T'
          have XM := XM'
          have LM := LM'
          have Xb := Xb'
          have Lb := Lb'
          have Ib := Ib'
          have Bb := Bb'
          clear T' XM' LM' Xb' Lb' Ib' Bb'
          obtain ⟨qrA, qrn, qrc, qsA, qsn, qsc, qfA, qfn, qfc, qpA, qpn, qpc⟩ := v
          have Iq := Lib.hid hi2
          have Xq := Lib.hid hx
          have Lq := Lib.hid hlt
          dsimp only [imgV] at Iq Xq Lq T XM LM Xb Lb Ib Bb ⊢
          clear hF hx hi2 hlt
          clear Kq
          obtain ⟨c12_0, c12_1, c12_2, c12_3, c12_4⟩ := Xb.out
          try dsimp only at c12_0 c12_1 c12_2 c12_3 c12_4
          obtain ⟨c13_0, c13_1, c13_2, c13_3, c13_4⟩ := Xq.out
          try dsimp only at c13_0 c13_1 c13_2 c13_3 c13_4
          go_wp2_with fail
          generalize (w11.alloc (.cells #[.int .i64 zb.guest, .slice qrA qrn qrc, .slice qsA qsn qsc, .slice qfA qfn qfc, .slice qpA qpn qpc] 26)) = W14 at *
          refine (sameImg_any _ _ zb _ Ib.out Iq.out).mono ?_
          rintro e w15 ⟨rfl, hb⟩
          clear c12_0 c12_1 c12_2 c12_3 c12_4 c13_0 c13_1 c13_2 c13_3 c13_4
          have T' := Lib.hid (below_next T.out hb)
          have XM' := Lib.hid (XM.out.keep hb LM.out)
          have LM' := Lib.hid (Nat.lt_of_lt_of_le LM.out hb.size)
          have Xb' := Lib.hid (Xb.out.keep hb Lb.out)
          have Lb' := Lib.hid (Nat.lt_of_lt_of_le Lb.out hb.size)
          have Ib' := Lib.hid (Ib.out.next hb)
          have Bb' := Lib.hid (Bb.out.next hb)
          have Xq' := Lib.hid (Xq.out.keep hb Lq.out)
          have Lq' := Lib.hid (Nat.lt_of_lt_of_le Lq.out hb.size)
          have Iq' := Lib.hid (Iq.out.next hb)
          clear T XM LM Xb Lb Ib Bb Xq Lq Iq hb
          have T := T'
          have XM := XM'
          have LM := LM'
          have Xb := Xb'
          have Lb := Lb'
          have Ib := Ib'
          have Bb := Bb'
          have Xq := Xq'
          have Lq := Lq'
          have Iq := Iq'
          clear T' XM' LM' Xb' Lb' Ib' Bb' Xq' Lq' Iq'
          clear Xq Lq Iq
          clear Ib
          obtain ⟨c16_0, c16_1, c16_2, c16_3, c16_4⟩ := XM.out
          try dsimp only at c16_0 c16_1 c16_2 c16_3 c16_4
          go_wp2_with fail
          refine (Kc.out _ T.out).mono ?_
          rintro e w17 ⟨v, rfl, hF, hb⟩
          clear c16_0 c16_1 c16_2 c16_3 c16_4
          have T' := Lib.hid (below_next T.out hb)
          have XM' := Lib.hid (XM.out.keep hb LM.out)
          have LM' := Lib.hid (Nat.lt_of_lt_of_le LM.out hb.size)
          have Xb' := Lib.hid (Xb.out.keep hb Lb.out)
          have Lb' := Lib.hid (Nat.lt_of_lt_of_le Lb.out hb.size)
          have Bb' := Lib.hid (Bb.out.next hb)
          clear T XM LM Xb Lb Bb hb
          have T := T'
          have XM := XM'
          have LM := LM'
          have Xb := Xb'
          have Lb := Lb'
          have Bb := Bb'
          clear T' XM' LM' Xb' Lb' Bb'
          clear Kc XM LM
          obtain ⟨crA, crn, crc, csA, csn, csc, cfA, cfn, cfc, cpA, cpn, cpc⟩ := v
          have h5 := five Bb.out ⟨_, _, Xb.out⟩ zc.guest ⟨crA, crn, crc, csA, csn, csc, cfA, cfn, cfc, cpA, cpn, cpc⟩
          have hty := Bb.out.ty
          have hF2 := hF.kept h5.2.2 hty (by decide) (by decide) (by decide)
          have T2 := T.out.grown h5.2.2 (T.out.size) (fun j e => by injection e with e; have := Bb0.out; omega)
          obtain ⟨y0, y1, y2, y3, y4⟩ := Xb.out
          have q0 := Bb.out.fz 0
          have q1 := Bb.out.fz 1
          have q2 := Bb.out.fz 2
          have q3 := Bb.out.fz 3
          have q4 := Bb.out.fz 4
          have X2 := Lib.hid h5.1
          have I2 := Lib.hid hF2.imgR
          have TT := Lib.hid T2
          have L2 := Lib.hid (show w7.heap.size < _ from Nat.lt_of_lt_of_le Lb.out (by have := h5.2.2.size; omega))
          clear h5 hty hF hF2 T2 T Xb Bb Lb Bb0
          have T := TT
          have Xb := X2
          have Ic := I2
          have Lb := L2
          clear TT X2 I2 L2
          rcases Cc with hc | ⟨hc, hc2⟩
          · obtain ⟨e1, e2⟩ := Ur.out hc
            have e3 := e2.symm
            clear e2
            subst e3
            subst e1
            subst hc
            clear Ur
            obtain ⟨c18_0, c18_1, c18_2, c18_3, c18_4⟩ := Xb.out
            try dsimp only at c18_0 c18_1 c18_2 c18_3 c18_4
            obtain ⟨z0, z1, z2, z3, z4⟩ := Xb.out
            go_wp2_with fail
            generalize (((((w17.setCell ⟨w7.heap.size, 0, none⟩ (.int .i64 zc.guest)).setCell ⟨w7.heap.size, 1, none⟩ (.slice crA crn crc)).setCell ⟨w7.heap.size, 2, none⟩ (.slice csA csn csc)).setCell ⟨w7.heap.size, 3, none⟩ (.slice cfA cfn cfc)).setCell ⟨w7.heap.size, 4, none⟩ (.slice cpA cpn cpc)) = W19 at *
            refine (Kr.out _ _ Ic.out).mono ?_
            rintro e w20 ⟨v, rfl, hF, hb⟩
            clear z0 z1 z2 z3 z4
            clear c18_0 c18_1 c18_2 c18_3 c18_4 y0 y1 y2 y3 y4 q0 q1 q2 q3 q4
            have T' := Lib.hid (below_next T.out hb)
            have Xb' := Lib.hid (Xb.out.keep hb Lb.out)
            have Lb' := Lib.hid (Nat.lt_of_lt_of_le Lb.out hb.size)
            have Ic' := Lib.hid (Ic.out.next hb)
            clear T Xb Lb Ic hb
            have T := T'
            have Xb := Xb'
            have Lb := Lb'
            have Ic := Ic'
            clear T' Xb' Lb' Ic'
            have hx := Box.new w20 zc.guest v 26
            have b1 := below1 w20 (.cells #[.int .i64 zc.guest, .slice v.rA v.rn v.rc, .slice v.sA v.sn v.sc, .slice v.fA v.fn v.fc, .slice v.pA v.pn v.pc] 26)
            have hi2 := hF.imgR.next b1
            have hlt : w20.heap.size < (w20.alloc (.cells #[.int .i64 zc.guest, .slice v.rA v.rn v.rc, .slice v.sA v.sn v.sc, .slice v.fA v.fn v.fc, .slice v.pA v.pn v.pc] 26)).heap.size := by simp
            have T' := Lib.hid (below_next T.out b1)
            have Xb' := Lib.hid (Xb.out.keep b1 Lb.out)
            have Lb' := Lib.hid (Nat.lt_of_lt_of_le Lb.out b1.size)
            have Ic' := Lib.hid (Ic.out.next b1)
            clear T Xb Lb Ic b1
            have T := T'
            have Xb := Xb'
            have Lb := Lb'
            have Ic := Ic'
            clear T' Xb' Lb' Ic'
            obtain ⟨drA, drn, drc, dsA, dsn, dsc, dfA, dfn, dfc, dpA, dpn, dpc⟩ := v
            have Id := Lib.hid hi2
            have Xd := Lib.hid hx
            have Ld := Lib.hid hlt
            dsimp only [imgV] at Id Xd Ld T Xb Lb Ic ⊢
            clear hF hx hi2 hlt
            go_wp2_with fail
            generalize (w20.alloc (.cells #[.int .i64 zc.guest, .slice drA drn drc, .slice dsA dsn dsc, .slice dfA dfn dfc, .slice dpA dpn dpc] 26)) = W21 at *
            refine (writesBegun_any _).mono ?_
            rintro e w22 ⟨rfl, hb⟩
            have T' := Lib.hid (below_next T.out hb)
            have Xb' := Lib.hid (Xb.out.keep hb Lb.out)
            have Lb' := Lib.hid (Nat.lt_of_lt_of_le Lb.out hb.size)
            have Ic' := Lib.hid (Ic.out.next hb)
            have Xd' := Lib.hid (Xd.out.keep hb Ld.out)
            have Ld' := Lib.hid (Nat.lt_of_lt_of_le Ld.out hb.size)
            have Id' := Lib.hid (Id.out.next hb)
            clear T Xb Lb Ic Xd Ld Id hb
            have T := T'
            have Xb := Xb'
            have Lb := Lb'
            have Ic := Ic'
            have Xd := Xd'
            have Ld := Ld'
            have Id := Id'
            clear T' Xb' Lb' Ic' Xd' Ld' Id'
            obtain ⟨c23_0, c23_1, c23_2, c23_3, c23_4⟩ := Xb.out
            try dsimp only at c23_0 c23_1 c23_2 c23_3 c23_4
            obtain ⟨c24_0, c24_1, c24_2, c24_3, c24_4⟩ := Xd.out
            try dsimp only at c24_0 c24_1 c24_2 c24_3 c24_4
            go_wp2_with fail
            refine (sameImg_any _ _ zc _ Ic.out Id.out).mono ?_
            rintro e w25 ⟨rfl, hb⟩
            clear c23_0 c23_1 c23_2 c23_3 c23_4 c24_0 c24_1 c24_2 c24_3 c24_4
            have T' := Lib.hid (below_next T.out hb)
            have Xb' := Lib.hid (Xb.out.keep hb Lb.out)
            have Lb' := Lib.hid (Nat.lt_of_lt_of_le Lb.out hb.size)
            have Ic' := Lib.hid (Ic.out.next hb)
            have Xd' := Lib.hid (Xd.out.keep hb Ld.out)
            have Ld' := Lib.hid (Nat.lt_of_lt_of_le Ld.out hb.size)
            have Id' := Lib.hid (Id.out.next hb)
            clear T Xb Lb Ic Xd Ld Id hb
            have T := T'
            have Xb := Xb'
            have Lb := Lb'
            have Ic := Ic'
            have Xd := Xd'
            have Ld := Ld'
            have Id := Id'
            clear T' Xb' Lb' Ic' Xd' Ld' Id'
            go_wp2_with fail
            go_ret
            exact ⟨rfl, T.out⟩
          · clear Ur Kr
            go_wp2_with fail
            generalize (((((w17.setCell ⟨w7.heap.size, 0, none⟩ (.int .i64 zc.guest)).setCell ⟨w7.heap.size, 1, none⟩ (.slice crA crn crc)).setCell ⟨w7.heap.size, 2, none⟩ (.slice csA csn csc)).setCell ⟨w7.heap.size, 3, none⟩ (.slice cfA cfn cfc)).setCell ⟨w7.heap.size, 4, none⟩ (.slice cpA cpn cpc)) = W18 at *
            refine (writesBegun_any _).mono ?_
            rintro e w19 ⟨rfl, hb⟩
            clear y0 y1 y2 y3 y4 q0 q1 q2 q3 q4
            have T' := Lib.hid (below_next T.out hb)
            have Xb' := Lib.hid (Xb.out.keep hb Lb.out)
            have Lb' := Lib.hid (Nat.lt_of_lt_of_le Lb.out hb.size)
            have Ic' := Lib.hid (Ic.out.next hb)
            clear T Xb Lb Ic hb
            have T := T'
            have Xb := Xb'
            have Lb := Lb'
            have Ic := Ic'
            clear T' Xb' Lb' Ic'
            go_wp2_with fail
            go_ret
            exact ⟨rfl, T.out⟩
        · clear Uq Kq
          clear Ib
          obtain ⟨c8_0, c8_1, c8_2, c8_3, c8_4⟩ := XM.out
          try dsimp only at c8_0 c8_1 c8_2 c8_3 c8_4
          go_wp2_with fail
          generalize (w7.alloc (.cells #[.int .i64 zb.guest, .slice brA brn brc, .slice bsA bsn bsc, .slice bfA bfn bfc, .slice bpA bpn bpc] 26)) = W9 at *
          refine (Kc.out _ T.out).mono ?_
          rintro e w10 ⟨v, rfl, hF, hb⟩
          clear c8_0 c8_1 c8_2 c8_3 c8_4
          have T' := Lib.hid (below_next T.out hb)
          have XM' := Lib.hid (XM.out.keep hb LM.out)
          have LM' := Lib.hid (Nat.lt_of_lt_of_le LM.out hb.size)
          have Xb' := Lib.hid (Xb.out.keep hb Lb.out)
          have Lb' := Lib.hid (Nat.lt_of_lt_of_le Lb.out hb.size)
          have Bb' := Lib.hid (Bb.out.next hb)
          clear T XM LM Xb Lb Bb hb
          have T := T'
          have XM := XM'
          have LM := LM'
          have Xb := Xb'
          have Lb := Lb'
          have Bb := Bb'
          clear T' XM' LM' Xb' Lb' Bb'
          clear Kc XM LM
          obtain ⟨crA, crn, crc, csA, csn, csc, cfA, cfn, cfc, cpA, cpn, cpc⟩ := v
          have h5 := five Bb.out ⟨_, _, Xb.out⟩ zc.guest ⟨crA, crn, crc, csA, csn, csc, cfA, cfn, cfc, cpA, cpn, cpc⟩
          have hty := Bb.out.ty
          have hF2 := hF.kept h5.2.2 hty (by decide) (by decide) (by decide)
          have T2 := T.out.grown h5.2.2 (T.out.size) (fun j e => by injection e with e; have := Bb0.out; omega)
          obtain ⟨y0, y1, y2, y3, y4⟩ := Xb.out
          have q0 := Bb.out.fz 0
          have q1 := Bb.out.fz 1
          have q2 := Bb.out.fz 2
          have q3 := Bb.out.fz 3
          have q4 := Bb.out.fz 4
          have X2 := Lib.hid h5.1
          have I2 := Lib.hid hF2.imgR
          have TT := Lib.hid T2
          have L2 := Lib.hid (show w7.heap.size < _ from Nat.lt_of_lt_of_le Lb.out (by have := h5.2.2.size; omega))
          clear h5 hty hF hF2 T2 T Xb Bb Lb Bb0
          have T := TT
          have Xb := X2
          have Ic := I2
          have Lb := L2
          clear TT X2 I2 L2
          rcases Cc with hc | ⟨hc, hc2⟩
          · obtain ⟨e1, e2⟩ := Ur.out hc
            have e3 := e2.symm
            clear e2
            subst e3
            subst e1
            subst hc
            clear Ur
            obtain ⟨c11_0, c11_1, c11_2, c11_3, c11_4⟩ := Xb.out
            try dsimp only at c11_0 c11_1 c11_2 c11_3 c11_4
            obtain ⟨z0, z1, z2, z3, z4⟩ := Xb.out
            go_wp2_with fail
            generalize (((((w10.setCell ⟨w7.heap.size, 0, none⟩ (.int .i64 zc.guest)).setCell ⟨w7.heap.size, 1, none⟩ (.slice crA crn crc)).setCell ⟨w7.heap.size, 2, none⟩ (.slice csA csn csc)).setCell ⟨w7.heap.size, 3, none⟩ (.slice cfA cfn cfc)).setCell ⟨w7.heap.size, 4, none⟩ (.slice cpA cpn cpc)) = W12 at *
            refine (Kr.out _ _ Ic.out).mono ?_
            rintro e w13 ⟨v, rfl, hF, hb⟩
            clear z0 z1 z2 z3 z4
            clear c11_0 c11_1 c11_2 c11_3 c11_4 y0 y1 y2 y3 y4 q0 q1 q2 q3 q4
            have T' := Lib.hid (below_next T.out hb)
            have Xb' := Lib.hid (Xb.out.keep hb Lb.out)
            have Lb' := Lib.hid (Nat.lt_of_lt_of_le Lb.out hb.size)
            have Ic' := Lib.hid (Ic.out.next hb)
            clear T Xb Lb Ic hb
            have T := T'
            have Xb := Xb'
            have Lb := Lb'
            have Ic := Ic'
            clear T' Xb' Lb' Ic'
            have hx := Box.new w13 zc.guest v 26
            have b1 := below1 w13 (.cells #[.int .i64 zc.guest, .slice v.rA v.rn v.rc, .slice v.sA v.sn v.sc, .slice v.fA v.fn v.fc, .slice v.pA v.pn v.pc] 26)
            have hi2 := hF.imgR.next b1
            have hlt : w13.heap.size < (w13.alloc (.cells #[.int .i64 zc.guest, .slice v.rA v.rn v.rc, .slice v.sA v.sn v.sc, .slice v.fA v.fn v.fc, .slice v.pA v.pn v.pc] 26)).heap.size := by simp
            have T' := Lib.hid (below_next T.out b1)
            have Xb' := Lib.hid (Xb.out.keep b1 Lb.out)
            have Lb' := Lib.hid (Nat.lt_of_lt_of_le Lb.out b1.size)
            have Ic' := Lib.hid (Ic.out.next b1)
            clear T Xb Lb Ic b1
            have T := T'
            have Xb := Xb'
            have Lb := Lb'
            have Ic := Ic'
            clear T' Xb' Lb' Ic'
            obtain ⟨drA, drn, drc, dsA, dsn, dsc, dfA, dfn, dfc, dpA, dpn, dpc⟩ := v
            have Id := Lib.hid hi2
            have Xd := Lib.hid hx
            have Ld := Lib.hid hlt
            dsimp only [imgV] at Id Xd Ld T Xb Lb Ic ⊢
            clear hF hx hi2 hlt
            go_wp2_with fail
            generalize (w13.alloc (.cells #[.int .i64 zc.guest, .slice drA drn drc, .slice dsA dsn dsc, .slice dfA dfn dfc, .slice dpA dpn dpc] 26)) = W14 at *
            refine (writesBegun_any _).mono ?_
            rintro e w15 ⟨rfl, hb⟩
            have T' := Lib.hid (below_next T.out hb)
            have Xb' := Lib.hid (Xb.out.keep hb Lb.out)
            have Lb' := Lib.hid (Nat.lt_of_lt_of_le Lb.out hb.size)
            have Ic' := Lib.hid (Ic.out.next hb)
            have Xd' := Lib.hid (Xd.out.keep hb Ld.out)
            have Ld' := Lib.hid (Nat.lt_of_lt_of_le Ld.out hb.size)
            have Id' := Lib.hid (Id.out.next hb)
            clear T Xb Lb Ic Xd Ld Id hb
            have T := T'
            have Xb := Xb'
            have Lb := Lb'
            have Ic := Ic'
            have Xd := Xd'
            have Ld := Ld'
            have Id := Id'
            clear T' Xb' Lb' Ic' Xd' Ld' Id'
            obtain ⟨c16_0, c16_1, c16_2, c16_3, c16_4⟩ := Xb.out
            try dsimp only at c16_0 c16_1 c16_2 c16_3 c16_4
            obtain ⟨c17_0, c17_1, c17_2, c17_3, c17_4⟩ := Xd.out
            try dsimp only at c17_0 c17_1 c17_2 c17_3 c17_4
            go_wp2_with fail
            refine (sameImg_any _ _ zc _ Ic.out Id.out).mono ?_
            rintro e w18 ⟨rfl, hb⟩
            clear c16_0 c16_1 c16_2 c16_3 c16_4 c17_0 c17_1 c17_2 c17_3 c17_4
            have T' := Lib.hid (below_next T.out hb)
            have Xb' := Lib.hid (Xb.out.keep hb Lb.out)
            have Lb' := Lib.hid (Nat.lt_of_lt_of_le Lb.out hb.size)
            have Ic' := Lib.hid (Ic.out.next hb)
            have Xd' := Lib.hid (Xd.out.keep hb Ld.out)
            have Ld' := Lib.hid (Nat.lt_of_lt_of_le Ld.out hb.size)
            have Id' := Lib.hid (Id.out.next hb)
            clear T Xb Lb Ic Xd Ld Id hb
            have T := T'
            have Xb := Xb'
            have Lb := Lb'
            have Ic := Ic'
            have Xd := Xd'
            have Ld := Ld'
            have Id := Id'
            clear T' Xb' Lb' Ic' Xd' Ld' Id'
            go_wp2_with fail
            go_ret
            exact ⟨rfl, T.out⟩
          · clear Ur Kr
            go_wp2_with fail
            generalize (((((w10.setCell ⟨w7.heap.size, 0, none⟩ (.int .i64 zc.guest)).setCell ⟨w7.heap.size, 1, none⟩ (.slice crA crn crc)).setCell ⟨w7.heap.size, 2, none⟩ (.slice csA csn csc)).setCell ⟨w7.heap.size, 3, none⟩ (.slice cfA cfn cfc)).setCell ⟨w7.heap.size, 4, none⟩ (.slice cpA cpn cpc)) = W11 at *
            refine (writesBegun_any _).mono ?_
            rintro e w12 ⟨rfl, hb⟩
            clear y0 y1 y2 y3 y4 q0 q1 q2 q3 q4
            have T' := Lib.hid (below_next T.out hb)
            have Xb' := Lib.hid (Xb.out.keep hb Lb.out)
            have Lb' := Lib.hid (Nat.lt_of_lt_of_le Lb.out hb.size)
            have Ic' := Lib.hid (Ic.out.next hb)
            clear T Xb Lb Ic hb
            have T := T'
            have Xb := Xb'
            have Lb := Lb'
            have Ic := Ic'
            clear T' Xb' Lb' Ic'
            go_wp2_with fail
            go_ret
            exact ⟨rfl, T.out⟩
    · clear Xa La Ia
      clear Up Kp C2
      obtain ⟨c5_0, c5_1, c5_2, c5_3, c5_4⟩ := XM.out
      try dsimp only at c5_0 c5_1 c5_2 c5_3 c5_4
      go_wp2_with fail
      generalize (w4.alloc (.cells #[.int .i64 za.guest, .slice arA arn arc, .slice asA asn asc, .slice afA afn afc, .slice apA apn apc] 26)) = W6 at *
      refine (Kb.out _ T.out).mono ?_
      rintro e w7 ⟨v, rfl, hF, hb⟩
      clear c5_0 c5_1 c5_2 c5_3 c5_4
      have T' := Lib.hid (below_next T.out hb)
      have XM' := Lib.hid (XM.out.keep hb LM.out)
      have LM' := Lib.hid (Nat.lt_of_lt_of_le LM.out hb.size)
      clear T XM LM hb
      have T := T'
      have XM := XM'
      have LM := LM'
      clear T' XM' LM'
      have Bb := Lib.hid T.out.size
      have hx := Box.new w7 zb.guest v 26
      have b1 := below1 w7 (.cells #[.int .i64 zb.guest, .slice v.rA v.rn v.rc, .slice v.sA v.sn v.sc, .slice v.fA v.fn v.fc, .slice v.pA v.pn v.pc] 26)
      have hi2 := hF.imgR.next b1
      have hlt : w7.heap.size < (w7.alloc (.cells #[.int .i64 zb.guest, .slice v.rA v.rn v.rc, .slice v.sA v.sn v.sc, .slice v.fA v.fn v.fc, .slice v.pA v.pn v.pc] 26)).heap.size := by simp
      have T' := Lib.hid (below_next T.out b1)
      have XM' := Lib.hid (XM.out.keep b1 LM.out)
      have LM' := Lib.hid (Nat.lt_of_lt_of_le LM.out b1.size)
      clear T XM LM b1
      have T := T'
      have XM := XM'
      have LM := LM'
      clear T' XM' LM'
      obtain ⟨brA, brn, brc, bsA, bsn, bsc, bfA, bfn, bfc, bpA, bpn, bpc⟩ := v
      have Ib := Lib.hid hi2
      have Xb := Lib.hid hx
      have Lb := Lib.hid hlt
      dsimp only [imgV] at Ib Xb Lb T XM LM ⊢
      clear hF hx hi2 hlt
      clear Kb
      have Bb0 := Bb
      clear Bb
      have Bb := Lib.hid (show BoxB (w7.alloc (.cells #[.int .i64 zb.guest, .slice brA brn brc, .slice bsA bsn bsc, .slice bfA bfn bfc, .slice bpA bpn bpc] 26)) _ from ⟨_, heap_alloc_new _ _⟩)
      rcases Cb with hb' | ⟨hb', hb2⟩
      · obtain ⟨e1, e2⟩ := Uq.out hb'
        have e3 := e2.symm
        clear e2
        subst e3
        subst e1
        subst hb'
        clear Uq
        obtain ⟨c8_0, c8_1, c8_2, c8_3, c8_4⟩ := XM.out
        try dsimp only at c8_0 c8_1 c8_2 c8_3 c8_4
        obtain ⟨c9_0, c9_1, c9_2, c9_3, c9_4⟩ := Xb.out
        try dsimp only at c9_0 c9_1 c9_2 c9_3 c9_4
        go_wp2_with fail
        generalize (w7.alloc (.cells #[.int .i64 zb.guest, .slice brA brn brc, .slice bsA bsn bsc, .slice bfA bfn bfc, .slice bpA bpn bpc] 26)) = W10 at *
        refine (Kq.out _ _ Ib.out).mono ?_
        rintro e w11 ⟨v, rfl, hF, hb⟩
        clear c8_0 c8_1 c8_2 c8_3 c8_4 c9_0 c9_1 c9_2 c9_3 c9_4
        have T' := Lib.hid (below_next T.out hb)
        have XM' := Lib.hid (XM.out.keep hb LM.out)
        have LM' := Lib.hid (Nat.lt_of_lt_of_le LM.out hb.size)
        have Xb' := Lib.hid (Xb.out.keep hb Lb.out)
        have Lb' := Lib.hid (Nat.lt_of_lt_of_le Lb.out hb.size)
        have Ib' := Lib.hid (Ib.out.next hb)
        have Bb' := Lib.hid (Bb.out.next hb)
        clear T XM LM Xb Lb Ib Bb hb
        have T := T'
        have XM := XM'
        have LM := LM'
        have Xb := Xb'
        have Lb := Lb'
        have Ib := Ib'
        have Bb := Bb'
        clear T' XM' LM' Xb' Lb' Ib' Bb'
        have hx := Box.new w11 zb.guest v 26
        have b1 := below1 w11 (.cells #[.int .i64 zb.guest, .slice v.rA v.rn v.rc, .slice v.sA v.sn v.sc, .slice v.fA v.fn v.fc, .slice v.pA v.pn v.pc] 26)
        have hi2 := hF.imgR.next b1
        have hlt : w11.heap.size < (w11.alloc (.cells #[.int .i64 zb.guest, .slice v.rA v.rn v.rc, .slice v.sA v.sn v.sc, .slice v.fA v.fn v.fc, .slice v.pA v.pn v.pc] 26)).heap.size := by simp
        have T' := Lib.hid (below_next T.out b1)
        have XM' := Lib.hid (XM.out.keep b1 LM.out)
        have LM' := Lib.hid (Nat.lt_of_lt_of_le LM.out b1.size)
        have Xb' := Lib.hid (Xb.out.keep b1 Lb.out)
        have Lb' := Lib.hid (Nat.lt_of_lt_of_le Lb.out b1.size)
        have Ib' := Lib.hid (Ib.out.next b1)
        have Bb' := Lib.hid (Bb.out.next b1)
        clear T XM LM Xb Lb Ib Bb b1
        have T := T'
        have XM := XM'
        have LM := LM'
        have Xb := Xb'
        have Lb := Lb'
        have Ib := Ib'
        have Bb := Bb'
        clear T' XM' LM' Xb' Lb' Ib' Bb'
        obtain ⟨qrA, qrn, qrc, qsA, qsn, qsc, qfA, qfn, qfc, qpA, qpn, qpc⟩ := v
        have Iq := Lib.hid hi2
        have Xq := Lib.hid hx
        have Lq := Lib.hid hlt
        dsimp only [imgV] at Iq Xq Lq T XM LM Xb Lb Ib Bb ⊢
        clear hF hx hi2 hlt
        clear Kq
        obtain ⟨c12_0, c12_1, c12_2, c12_3, c12_4⟩ := Xb.out
        try dsimp only at c12_0 c12_1 c12_2 c12_3 c12_4
        obtain ⟨c13_0, c13_1, c13_2, c13_3, c13_4⟩ := Xq.out
        try dsimp only at c13_0 c13_1 c13_2 c13_3 c13_4
        go_wp2_with fail
        generalize (w11.alloc (.cells #[.int .i64 zb.guest, .slice qrA qrn qrc, .slice qsA qsn qsc, .slice qfA qfn qfc, .slice qpA qpn qpc] 26)) = W14 at *
        refine (sameImg_any _ _ zb _ Ib.out Iq.out).mono ?_
        rintro e w15 ⟨rfl, hb⟩
        clear c12_0 c12_1 c12_2 c12_3 c12_4 c13_0 c13_1 c13_2 c13_3 c13_4
        have T' := Lib.hid (below_next T.out hb)
        have XM' := Lib.hid (XM.out.keep hb LM.out)
        have LM' := Lib.hid (Nat.lt_of_lt_of_le LM.out hb.size)
        have Xb' := Lib.hid (Xb.out.keep hb Lb.out)
        have Lb' := Lib.hid (Nat.lt_of_lt_of_le Lb.out hb.size)
        have Ib' := Lib.hid (Ib.out.next hb)
        have Bb' := Lib.hid (Bb.out.next hb)
        have Xq' := Lib.hid (Xq.out.keep hb Lq.out)
        have Lq' := Lib.hid (Nat.lt_of_lt_of_le Lq.out hb.size)
        have Iq' := Lib.hid (Iq.out.next hb)
        clear T XM LM Xb Lb Ib Bb Xq Lq Iq hb
        have T := T'
        have XM := XM'
        have LM := LM'
        have Xb := Xb'
        have Lb := Lb'
        have Ib := Ib'
        have Bb := Bb'
        have Xq := Xq'
        have Lq := Lq'
        have Iq := Iq'
        clear T' XM' LM' Xb' Lb' Ib' Bb' Xq' Lq' Iq'
        clear Xq Lq Iq
        clear Ib
        obtain ⟨c16_0, c16_1, c16_2, c16_3, c16_4⟩ := XM.out
        try dsimp only at c16_0 c16_1 c16_2 c16_3 c16_4
        go_wp2_with fail
        refine (Kc.out _ T.out).mono ?_
        rintro e w17 ⟨v, rfl, hF, hb⟩
        clear c16_0 c16_1 c16_2 c16_3 c16_4
        have T' := Lib.hid (below_next T.out hb)
        have XM' := Lib.hid (XM.out.keep hb LM.out)
        have LM' := Lib.hid (Nat.lt_of_lt_of_le LM.out hb.size)
        have Xb' := Lib.hid (Xb.out.keep hb Lb.out)
        have Lb' := Lib.hid (Nat.lt_of_lt_of_le Lb.out hb.size)
        have Bb' := Lib.hid (Bb.out.next hb)
        clear T XM LM Xb Lb Bb hb
        have T := T'
        have XM := XM'
        have LM := LM'
        have Xb := Xb'
        have Lb := Lb'
        have Bb := Bb'
        clear T' XM' LM' Xb' Lb' Bb'
        clear Kc XM LM
        obtain ⟨crA, crn, crc, csA, csn, csc, cfA, cfn, cfc, cpA, cpn, cpc⟩ := v
        have h5 := five Bb.out ⟨_, _, Xb.out⟩ zc.guest ⟨crA, crn, crc, csA, csn, csc, cfA, cfn, cfc, cpA, cpn, cpc⟩
        have hty := Bb.out.ty
        have hF2 := hF.kept h5.2.2 hty (by decide) (by decide) (by decide)
        have T2 := T.out.grown h5.2.2 (T.out.size) (fun j e => by injection e with e; have := Bb0.out; omega)
        obtain ⟨y0, y1, y2, y3, y4⟩ := Xb.out
        have q0 := Bb.out.fz 0
        have q1 := Bb.out.fz 1
        have q2 := Bb.out.fz 2
        have q3 := Bb.out.fz 3
        have q4 := Bb.out.fz 4
        have X2 := Lib.hid h5.1
        have I2 := Lib.hid hF2.imgR
        have TT := Lib.hid T2
        have L2 := Lib.hid (show w7.heap.size < _ from Nat.lt_of_lt_of_le Lb.out (by have := h5.2.2.size; omega))
        clear h5 hty hF hF2 T2 T Xb Bb Lb Bb0
        have T := TT
        have Xb := X2
        have Ic := I2
        have Lb := L2
        clear TT X2 I2 L2
        rcases Cc with hc | ⟨hc, hc2⟩
        · obtain ⟨e1, e2⟩ := Ur.out hc
          have e3 := e2.symm
          clear e2
          subst e3
          subst e1
          subst hc
          clear Ur
          obtain ⟨c18_0, c18_1, c18_2, c18_3, c18_4⟩ := Xb.out
          try dsimp only at c18_0 c18_1 c18_2 c18_3 c18_4
          obtain ⟨z0, z1, z2, z3, z4⟩ := Xb.out
          go_wp2_with fail
          generalize (((((w17.setCell ⟨w7.heap.size, 0, none⟩ (.int .i64 zc.guest)).setCell ⟨w7.heap.size, 1, none⟩ (.slice crA crn crc)).setCell ⟨w7.heap.size, 2, none⟩ (.slice csA csn csc)).setCell ⟨w7.heap.size, 3, none⟩ (.slice cfA cfn cfc)).setCell ⟨w7.heap.size, 4, none⟩ (.slice cpA cpn cpc)) = W19 at *
          refine (Kr.out _ _ Ic.out).mono ?_
          rintro e w20 ⟨v, rfl, hF, hb⟩
          clear z0 z1 z2 z3 z4
          clear c18_0 c18_1 c18_2 c18_3 c18_4 y0 y1 y2 y3 y4 q0 q1 q2 q3 q4
          have T' := Lib.hid (below_next T.out hb)
          have Xb' := Lib.hid (Xb.out.keep hb Lb.out)
          have Lb' := Lib.hid (Nat.lt_of_lt_of_le Lb.out hb.size)
          have Ic' := Lib.hid (Ic.out.next hb)
          clear T Xb Lb Ic hb
          have T := T'
          have Xb := Xb'
          have Lb := Lb'
          have Ic := Ic'
          clear T' Xb' Lb' Ic'
          have hx := Box.new w20 zc.guest v 26
          have b1 := below1 w20 (.cells #[.int .i64 zc.guest, .slice v.rA v.rn v.rc, .slice v.sA v.sn v.sc, .slice v.fA v.fn v.fc, .slice v.pA v.pn v.pc] 26)
          have hi2 := hF.imgR.next b1
          have hlt : w20.heap.size < (w20.alloc (.cells #[.int .i64 zc.guest, .slice v.rA v.rn v.rc, .slice v.sA v.sn v.sc, .slice v.fA v.fn v.fc, .slice v.pA v.pn v.pc] 26)).heap.size := by simp
          have T' := Lib.hid (below_next T.out b1)
          have Xb' := Lib.hid (Xb.out.keep b1 Lb.out)
          have Lb' := Lib.hid (Nat.lt_of_lt_of_le Lb.out b1.size)
          have Ic' := Lib.hid (Ic.out.next b1)
          clear T Xb Lb Ic b1
          have T := T'
          have Xb := Xb'
          have Lb := Lb'
          have Ic := Ic'
          clear T' Xb' Lb' Ic'
          obtain ⟨drA, drn, drc, dsA, dsn, dsc, dfA, dfn, dfc, dpA, dpn, dpc⟩ := v
          have Id := Lib.hid hi2
          have Xd := Lib.hid hx
          have Ld := Lib.hid hlt
          dsimp only [imgV] at Id Xd Ld T Xb Lb Ic ⊢
          clear hF hx hi2 hlt
          go_wp2_with fail
          generalize (w20.alloc (.cells #[.int .i64 zc.guest, .slice drA drn drc, .slice dsA dsn dsc, .slice dfA dfn dfc, .slice dpA dpn dpc] 26)) = W21 at *
          refine (writesBegun_any _).mono ?_
          rintro e w22 ⟨rfl, hb⟩
          have T' := Lib.hid (below_next T.out hb)
          have Xb' := Lib.hid (Xb.out.keep hb Lb.out)
          have Lb' := Lib.hid (Nat.lt_of_lt_of_le Lb.out hb.size)
          have Ic' := Lib.hid (Ic.out.next hb)
          have Xd' := Lib.hid (Xd.out.keep hb Ld.out)
          have Ld' := Lib.hid (Nat.lt_of_lt_of_le Ld.out hb.size)
          have Id' := Lib.hid (Id.out.next hb)
          clear T Xb Lb Ic Xd Ld Id hb
          have T := T'
          have Xb := Xb'
          have Lb := Lb'
          have Ic := Ic'
          have Xd := Xd'
          have Ld := Ld'
          have Id := Id'
          clear T' Xb' Lb' Ic' Xd' Ld' Id'
          obtain ⟨c23_0, c23_1, c23_2, c23_3, c23_4⟩ := Xb.out
          try dsimp only at c23_0 c23_1 c23_2 c23_3 c23_4
          obtain ⟨c24_0, c24_1, c24_2, c24_3, c24_4⟩ := Xd.out
          try dsimp only at c24_0 c24_1 c24_2 c24_3 c24_4
          go_wp2_with fail
          refine (sameImg_any _ _ zc _ Ic.out Id.out).mono ?_
          rintro e w25 ⟨rfl, hb⟩
          clear c23_0 c23_1 c23_2 c23_3 c23_4 c24_0 c24_1 c24_2 c24_3 c24_4
          have T' := Lib.hid (below_next T.out hb)
          have Xb' := Lib.hid (Xb.out.keep hb Lb.out)
          have Lb' := Lib.hid (Nat.lt_of_lt_of_le Lb.out hb.size)
          have Ic' := Lib.hid (Ic.out.next hb)
          have Xd' := Lib.hid (Xd.out.keep hb Ld.out)
          have Ld' := Lib.hid (Nat.lt_of_lt_of_le Ld.out hb.size)
          have Id' := Lib.hid (Id.out.next hb)
          clear T Xb Lb Ic Xd Ld Id hb
          have T := T'
          have Xb := Xb'
          have Lb := Lb'
          have Ic := Ic'
          have Xd := Xd'
          have Ld := Ld'
          have Id := Id'
          clear T' Xb' Lb' Ic' Xd' Ld' Id'
          go_wp2_with fail
          go_ret
          exact ⟨rfl, T.out⟩
        · clear Ur Kr
          go_wp2_with fail
          generalize (((((w17.setCell ⟨w7.heap.size, 0, none⟩ (.int .i64 zc.guest)).setCell ⟨w7.heap.size, 1, none⟩ (.slice crA crn crc)).setCell ⟨w7.heap.size, 2, none⟩ (.slice csA csn csc)).setCell ⟨w7.heap.size, 3, none⟩ (.slice cfA cfn cfc)).setCell ⟨w7.heap.size, 4, none⟩ (.slice cpA cpn cpc)) = W18 at *
          refine (writesBegun_any _).mono ?_
          rintro e w19 ⟨rfl, hb⟩
          clear y0 y1 y2 y3 y4 q0 q1 q2 q3 q4
          have T' := Lib.hid (below_next T.out hb)
          have Xb' := Lib.hid (Xb.out.keep hb Lb.out)
          have Lb' := Lib.hid (Nat.lt_of_lt_of_le Lb.out hb.size)
          have Ic' := Lib.hid (Ic.out.next hb)
          clear T Xb Lb Ic hb
          have T := T'
          have Xb := Xb'
          have Lb := Lb'
          have Ic := Ic'
          clear T' Xb' Lb' Ic'
          go_wp2_with fail
          go_ret
          exact ⟨rfl, T.out⟩
      · clear Uq Kq
        clear Ib
        obtain ⟨c8_0, c8_1, c8_2, c8_3, c8_4⟩ := XM.out
        try dsimp only at c8_0 c8_1 c8_2 c8_3 c8_4
        go_wp2_with fail
        generalize (w7.alloc (.cells #[.int .i64 zb.guest, .slice brA brn brc, .slice bsA bsn bsc, .slice bfA bfn bfc, .slice bpA bpn bpc] 26)) = W9 at *
        refine (Kc.out _ T.out).mono ?_
        rintro e w10 ⟨v, rfl, hF, hb⟩
        clear c8_0 c8_1 c8_2 c8_3 c8_4
        have T' := Lib.hid (below_next T.out hb)
        have XM' := Lib.hid (XM.out.keep hb LM.out)
        have LM' := Lib.hid (Nat.lt_of_lt_of_le LM.out hb.size)
        have Xb' := Lib.hid (Xb.out.keep hb Lb.out)
        have Lb' := Lib.hid (Nat.lt_of_lt_of_le Lb.out hb.size)
        have Bb' := Lib.hid (Bb.out.next hb)
        clear T XM LM Xb Lb Bb hb
        have T := T'
        have XM := XM'
        have LM := LM'
        have Xb := Xb'
        have Lb := Lb'
        have Bb := Bb'
        clear T' XM' LM' Xb' Lb' Bb'
        clear Kc XM LM
        obtain ⟨crA, crn, crc, csA, csn, csc, cfA, cfn, cfc, cpA, cpn, cpc⟩ := v
        have h5 := five Bb.out ⟨_, _, Xb.out⟩ zc.guest ⟨crA, crn, crc, csA, csn, csc, cfA, cfn, cfc, cpA, cpn, cpc⟩
        have hty := Bb.out.ty
        have hF2 := hF.kept h5.2.2 hty (by decide) (by decide) (by decide)
        have T2 := T.out.grown h5.2.2 (T.out.size) (fun j e => by injection e with e; have := Bb0.out; omega)
        obtain ⟨y0, y1, y2, y3, y4⟩ := Xb.out
        have q0 := Bb.out.fz 0
        have q1 := Bb.out.fz 1
        have q2 := Bb.out.fz 2
        have q3 := Bb.out.fz 3
        have q4 := Bb.out.fz 4
        have X2 := Lib.hid h5.1
        have I2 := Lib.hid hF2.imgR
        have TT := Lib.hid T2
        have L2 := Lib.hid (show w7.heap.size < _ from Nat.lt_of_lt_of_le Lb.out (by have := h5.2.2.size; omega))
        clear h5 hty hF hF2 T2 T Xb Bb Lb Bb0
        have T := TT
        have Xb := X2
        have Ic := I2
        have Lb := L2
        clear TT X2 I2 L2
        rcases Cc with hc | ⟨hc, hc2⟩
        · obtain ⟨e1, e2⟩ := Ur.out hc
          have e3 := e2.symm
          clear e2
          subst e3
          subst e1
          subst hc
          clear Ur
          obtain ⟨c11_0, c11_1, c11_2, c11_3, c11_4⟩ := Xb.out
          try dsimp only at c11_0 c11_1 c11_2 c11_3 c11_4
          obtain ⟨z0, z1, z2, z3, z4⟩ := Xb.out
          go_wp2_with fail
          generalize (((((w10.setCell ⟨w7.heap.size, 0, none⟩ (.int .i64 zc.guest)).setCell ⟨w7.heap.size, 1, none⟩ (.slice crA crn crc)).setCell ⟨w7.heap.size, 2, none⟩ (.slice csA csn csc)).setCell ⟨w7.heap.size, 3, none⟩ (.slice cfA cfn cfc)).setCell ⟨w7.heap.size, 4, none⟩ (.slice cpA cpn cpc)) = W12 at *
          refine (Kr.out _ _ Ic.out).mono ?_
          rintro e w13 ⟨v, rfl, hF, hb⟩
          clear z0 z1 z2 z3 z4
          clear c11_0 c11_1 c11_2 c11_3 c11_4 y0 y1 y2 y3 y4 q0 q1 q2 q3 q4
          have T' := Lib.hid (below_next T.out hb)
          have Xb' := Lib.hid (Xb.out.keep hb Lb.out)
          have Lb' := Lib.hid (Nat.lt_of_lt_of_le Lb.out hb.size)
          have Ic' := Lib.hid (Ic.out.next hb)
          clear T Xb Lb Ic hb
          have T := T'
          have Xb := Xb'
          have Lb := Lb'
          have Ic := Ic'
          clear T' Xb' Lb' Ic'
          have hx := Box.new w13 zc.guest v 26
          have b1 := below1 w13 (.cells #[.int .i64 zc.guest, .slice v.rA v.rn v.rc, .slice v.sA v.sn v.sc, .slice v.fA v.fn v.fc, .slice v.pA v.pn v.pc] 26)
          have hi2 := hF.imgR.next b1
          have hlt : w13.heap.size < (w13.alloc (.cells #[.int .i64 zc.guest, .slice v.rA v.rn v.rc, .slice v.sA v.sn v.sc, .slice v.fA v.fn v.fc, .slice v.pA v.pn v.pc] 26)).heap.size := by simp
          have T' := Lib.hid (below_next T.out b1)
          have Xb' := Lib.hid (Xb.out.keep b1 Lb.out)
          have Lb' := Lib.hid (Nat.lt_of_lt_of_le Lb.out b1.size)
          have Ic' := Lib.hid (Ic.out.next b1)
          clear T Xb Lb Ic b1
          have T := T'
          have Xb := Xb'
          have Lb := Lb'
          have Ic := Ic'
          clear T' Xb' Lb' Ic'
          obtain ⟨drA, drn, drc, dsA, dsn, dsc, dfA, dfn, dfc, dpA, dpn, dpc⟩ := v
          have Id := Lib.hid hi2
          have Xd := Lib.hid hx
          have Ld := Lib.hid hlt
          dsimp only [imgV] at Id Xd Ld T Xb Lb Ic ⊢
          clear hF hx hi2 hlt
          go_wp2_with fail
          generalize (w13.alloc (.cells #[.int .i64 zc.guest, .slice drA drn drc, .slice dsA dsn dsc, .slice dfA dfn dfc, .slice dpA dpn dpc] 26)) = W14 at *
          refine (writesBegun_any _).mono ?_
          rintro e w15 ⟨rfl, hb⟩
          have T' := Lib.hid (below_next T.out hb)
          have Xb' := Lib.hid (Xb.out.keep hb Lb.out)
          have Lb' := Lib.hid (Nat.lt_of_lt_of_le Lb.out hb.size)
          have Ic' := Lib.hid (Ic.out.next hb)
          have Xd' := Lib.hid (Xd.out.keep hb Ld.out)
          have Ld' := Lib.hid (Nat.lt_of_lt_of_le Ld.out hb.size)
          have Id' := Lib.hid (Id.out.next hb)
          clear T Xb Lb Ic Xd Ld Id hb
          have T := T'
          have Xb := Xb'
          have Lb := Lb'
          have Ic := Ic'
          have Xd := Xd'
          have Ld := Ld'
          have Id := Id'
          clear T' Xb' Lb' Ic' Xd' Ld' Id'
          obtain ⟨c16_0, c16_1, c16_2, c16_3, c16_4⟩ := Xb.out
          try dsimp only at c16_0 c16_1 c16_2 c16_3 c16_4
          obtain ⟨c17_0, c17_1, c17_2, c17_3, c17_4⟩ := Xd.out
          try dsimp only at c17_0 c17_1 c17_2 c17_3 c17_4
          go_wp2_with fail
          refine (sameImg_any _ _ zc _ Ic.out Id.out).mono ?_
          rintro e w18 ⟨rfl, hb⟩
          clear c16_0 c16_1 c16_2 c16_3 c16_4 c17_0 c17_1 c17_2 c17_3 c17_4
          have T' := Lib.hid (below_next T.out hb)
          have Xb' := Lib.hid (Xb.out.keep hb Lb.out)
          have Lb' := Lib.hid (Nat.lt_of_lt_of_le Lb.out hb.size)
          have Ic' := Lib.hid (Ic.out.next hb)
          have Xd' := Lib.hid (Xd.out.keep hb Ld.out)
          have Ld' := Lib.hid (Nat.lt_of_lt_of_le Ld.out hb.size)
          have Id' := Lib.hid (Id.out.next hb)
          clear T Xb Lb Ic Xd Ld Id hb
          have T := T'
          have Xb := Xb'
          have Lb := Lb'
          have Ic := Ic'
          have Xd := Xd'
          have Ld := Ld'
          have Id := Id'
          clear T' Xb' Lb' Ic' Xd' Ld' Id'
          go_wp2_with fail
          go_ret
          exact ⟨rfl, T.out⟩
        · clear Ur Kr
          go_wp2_with fail
          generalize (((((w10.setCell ⟨w7.heap.size, 0, none⟩ (.int .i64 zc.guest)).setCell ⟨w7.heap.size, 1, none⟩ (.slice crA crn crc)).setCell ⟨w7.heap.size, 2, none⟩ (.slice csA csn csc)).setCell ⟨w7.heap.size, 3, none⟩ (.slice cfA cfn cfc)).setCell ⟨w7.heap.size, 4, none⟩ (.slice cpA cpn cpc)) = W11 at *
          refine (writesBegun_any _).mono ?_
          rintro e w12 ⟨rfl, hb⟩
          clear y0 y1 y2 y3 y4 q0 q1 q2 q3 q4
          have T' := Lib.hid (below_next T.out hb)
          have Xb' := Lib.hid (Xb.out.keep hb Lb.out)
          have Lb' := Lib.hid (Nat.lt_of_lt_of_le Lb.out hb.size)
          have Ic' := Lib.hid (Ic.out.next hb)
          clear T Xb Lb Ic hb
          have T := T'
          have Xb := Xb'
          have Lb := Lb'
          have Ic := Ic'
          clear T' Xb' Lb' Ic'
          go_wp2_with fail
          go_ret
          exact ⟨rfl, T.out⟩
end Go.Proofs.Ytpboapeoejdipaa
