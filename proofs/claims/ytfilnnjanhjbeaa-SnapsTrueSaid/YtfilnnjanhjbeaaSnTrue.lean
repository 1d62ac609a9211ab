/- The law SnapsTrue. Conditions: what is handed in is read below the heap's size. (Printed by gen_snlaws.py.) -/
import Derived.Test.YtfilnnjanhjbeaaSnBegun
import Derived.Test.YtfilnnjanhjbeaaSameImg
import Derived.Test.YtfilnnjanhjbeaaSame
namespace Go.Proofs.Ytfilnnjanhjbeaa
open Go.RowKit Sl
theorem own_strsS {w : World} {base n c : Nat} {A : Option Addr} {l : List ByteArray} (h : w.ownsRow base 9 1 (.slice A n c) n (l.map Value.string)) (hl : l.length ≤ 16) : n ≤ 4611686018427387903 ∧ Rd w w.heap.size 1 A n (l.map Value.string) := ⟨by have := h.1; simp at this; omega, Rd.of_own h⟩
theorem pastV_lenS (m : Img) (name : ByteArray) : (pastV m name).length ≤ 16 := by
  by_cases hm : checkErr m = 0
  · by_cases hn : m.snaps.any (named name) = true
    · obtain ⟨k, s, _, hs, _, _, _, e⟩ := past_ok hm hn
      rw [e, allV_len]
      have := (snap_facts hm hs).2.1
      omega
    · rw [(past_none hm (by simpa using hn)).2.1]; exact Nat.zero_le _
  · rw [(past_no hm).2]; exact Nat.zero_le _
theorem allM_lenS (m : Img) : (allM m).length ≤ 16 := by
  by_cases h : checkErr m = 0
  · exact (pagesErr_len (allM_facts h).1).1
  · rw [allM_no h]; exact Nat.zero_le _
set_option maxRecDepth 100000 in
set_option maxHeartbeats 8000000 in
theorem law_snapsTrue (v : IV) (m : Img) (name other : ByteArray) (w : World) (h : ImgR w w.heap.size v m) (hsz : name.size ≤ 4611686018427387903) :
    Calls Try.prog 5 #[.agg #[.int .i64 m.guest, .slice v.rA v.rn v.rc, .slice v.sA v.sn v.sc, .slice v.fA v.fn v.fc, .slice v.pA v.pn v.pc], .string name, .string other] w fun e w' => e = .returned (.bool true) ∧ Below w.heap.size w w' := by
  have Km' := fun W (hb : Below w.heap.size w W) => tAll_any v m W (h.next hb)
  have Ko' := fun W (hb : Below w.heap.size w W) => tPast_any v m other W (h.next hb)
  have Ka' := fun W (hb : Below w.heap.size w W) => create_any v m name W (h.next hb) hsz
  have Kb' := fun W (hb : Below w.heap.size w W) => revert_any v m other W (h.next hb)
  have Kc' := fun W (hb : Below w.heap.size w W) => delete_any v m name W (h.next hb)
  have Fa' := fun hh => create_true (m := m) (name := name) hh
  have Fb' := fun hh => revert_true (m := m) (name := other) hh
  have Fc' := fun hh => delete_true (m := m) (name := name) hh
  have E1 := allM_lenS m
  have E2 := pastV_lenS m other
  generalize createI m name = za at *
  generalize createE m name = ea at *
  generalize revertI m other = zb at *
  generalize deleteI m name = zc at *
  have Pa' := fun v W (hi : ImgR W W.heap.size v za) => tPast_any v za name W hi
  have Qa' := fun v W (hi : ImgR W W.heap.size v za) => tAll_any v za W hi
  have Sa' := fun v W (hi : ImgR W W.heap.size v za) => tPast_any v za other W hi
  have Qb' := fun v W (hi : ImgR W W.heap.size v zb) => tAll_any v zb W hi
  have Sb' := fun v W (hi : ImgR W W.heap.size v zb) => tPast_any v zb other W hi
  have Qc' := fun v W (hi : ImgR W W.heap.size v zc) => tAll_any v zc W hi
  have Pc' := fun v W (hi : ImgR W W.heap.size v zc) => tPast_any v zc name W hi
  have Sc' := fun v W (hi : ImgR W W.heap.size v zc) => tPast_any v zc other W hi
  have E3 := pastV_lenS zc name
  have E4 := pastV_lenS zc other
  have E5 := pastV_lenS za other
  have Fa2 : ∀ hh, _ := fun hh => (Fa' hh).2.2.2.2.2 other
  have Fc2 : ∀ hh, _ := fun hh => (Fc' hh).2.2.2 other
  have Fa1 : ∀ hh, _ := fun hh => And.intro (Fa' hh).2.1 (And.intro (Fa' hh).2.2.1 (And.intro (Fa' hh).2.2.2.1 (Fa' hh).2.2.2.2.1))
  have Fc1 : ∀ hh, _ := fun hh => And.intro (Fc' hh).1 (And.intro (Fc' hh).2.1 (Fc' hh).2.2.1)
  clear Fa' Fc'
  generalize checkErr za = qa at *
  generalize allM za = la at *
  generalize pastE za name = pa at *
  generalize pastV za name = va at *
  generalize pastE za other = ra at *
  generalize pastV za other = wa at *
  generalize checkErr zb = qb at *
  generalize allM zb = lb at *
  generalize pastE zb other = rb at *
  generalize pastV zb other = wb at *
  generalize checkErr zc = qc at *
  generalize allM zc = lc at *
  generalize pastE zc name = pc' at *
  generalize pastV zc name = vc at *
  generalize pastE zc other = rc' at *
  generalize pastV zc other = wc at *
  generalize checkErr m = cm at *
  generalize allM m = al at *
  generalize pastE m name = pn' at *
  generalize pastV m other = vo at *
  generalize pastE m other = po at *
  have Ccm : cm = 0 ∨ ((cm == 0) = false ∧ (cm != 0) = true) := by
    by_cases hh : cm = 0
    · exact .inl hh
    · right; simpa using hh
  have Cea : ea = 0 ∨ ((ea == 0) = false ∧ (ea != 0) = true) := by
    by_cases hh : ea = 0
    · exact .inl hh
    · right; simpa using hh
  have Cpo : po = 0 ∨ ((po == 0) = false ∧ (po != 0) = true) := by
    by_cases hh : po = 0
    · exact .inl hh
    · right; simpa using hh
  have Cpn' : pn' = 0 ∨ ((pn' == 0) = false ∧ (pn' != 0) = true) := by
    by_cases hh : pn' = 0
    · exact .inl hh
    · right; simpa using hh
  have CN : (name.toList == other.toList) = true ∨ (name.toList == other.toList) = false := by cases (name.toList == other.toList) <;> simp
  obtain ⟨rA, rn, rc, sA, sn, sc, fA, fn, fc, pA, pn, pc⟩ := v
  dsimp only [imgV] at Km' Ko' Ka' Kb' Kc' Pa' Qa' Sa' Qb' Sb' Qc' Pc' Sc' ⊢
  have Km := Lib.hid Km'
  have Ko := Lib.hid Ko'
  have Ka := Lib.hid Ka'
  have Kb := Lib.hid Kb'
  have Kc := Lib.hid Kc'
  have Fb := Lib.hid Fb'
  have Pa := Lib.hid Pa'
  have Qa := Lib.hid Qa'
  have Sa := Lib.hid Sa'
  have Qb := Lib.hid Qb'
  have Sb := Lib.hid Sb'
  have Qc := Lib.hid Qc'
  have Pc := Lib.hid Pc'
  have Sc := Lib.hid Sc'
  clear Km' Ko' Ka' Kb' Kc' Fb' Pa' Qa' Sa' Qb' Sb' Qc' Pc' Sc' h
  have HFa1 := Lib.hid Fa1
  clear Fa1
  have HFa2 := Lib.hid Fa2
  clear Fa2
  have HFc1 := Lib.hid Fc1
  clear Fc1
  have HFc2 := Lib.hid Fc2
  clear Fc2
  have T0' := below1 w (.cells #[.int .i64 m.guest, .slice rA rn rc, .slice sA sn sc, .slice fA fn fc, .slice pA pn pc] 26)
  have X0' := Box.new w m.guest ⟨rA, rn, rc, sA, sn, sc, fA, fn, fc, pA, pn, pc⟩ 26
  have L0' : w.heap.size < (w.alloc (.cells #[.int .i64 m.guest, .slice rA rn rc, .slice sA sn sc, .slice fA fn fc, .slice pA pn pc] 26)).heap.size := by simp
  have T := Lib.hid T0'
  have XM := Lib.hid X0'
  have LM := Lib.hid L0'
  clear T0' X0' L0'
  obtain ⟨c1_0, c1_1, c1_2, c1_3, c1_4⟩ := XM.out
  try dsimp only at c1_0 c1_1 c1_2 c1_3 c1_4
  go_enter Try.func5, Try.ntmps5
  try dsimp only [List.append]
  clear c1_0 c1_1 c1_2 c1_3 c1_4
  obtain ⟨c2_0, c2_1, c2_2, c2_3, c2_4⟩ := XM.out
  try dsimp only at c2_0 c2_1 c2_2 c2_3 c2_4
  go_wp2_with fail
  generalize (w.alloc (.cells #[.int .i64 m.guest, .slice rA rn rc, .slice sA sn sc, .slice fA fn fc, .slice pA pn pc] 26)) = W3 at *
  refine (Km.out _ T.out).mono ?_
  rintro e w4 ⟨Am, nm, cm, rfl, ho, hb, hnc, hcm⟩
  clear c2_0 c2_1 c2_2 c2_3 c2_4
  have T' := Lib.hid (below_next T.out hb)
  have XM' := Lib.hid (XM.out.keep hb LM.out)
  have LM' := Lib.hid (Nat.lt_of_lt_of_le LM.out hb.size)
  clear T XM LM hb
  have T := T'
  have XM := XM'
  have LM := LM'
  clear T' XM' LM'
  have hr := own_strsS ho E1
  clear ho hnc hcm
  have Rm := Lib.hid hr.2
  have hnm := hr.1
  clear hr
  rcases Ccm with h0 | h0
  · subst h0
    obtain ⟨c5_0, c5_1, c5_2, c5_3, c5_4⟩ := XM.out
    try dsimp only at c5_0 c5_1 c5_2 c5_3 c5_4
    go_wp2_with fail
    refine (Ko.out _ T.out).mono ?_
    rintro e w6 ⟨Ao, no, co, rfl, ho, hb, hnc, hcm⟩
    clear c5_0 c5_1 c5_2 c5_3 c5_4
    have T' := Lib.hid (below_next T.out hb)
    have XM' := Lib.hid (XM.out.keep hb LM.out)
    have LM' := Lib.hid (Nat.lt_of_lt_of_le LM.out hb.size)
    have Rm' := Lib.hid (Rm.out.next hb)
    clear T XM LM Rm hb
    have T := T'
    have XM := XM'
    have LM := LM'
    have Rm := Rm'
    clear T' XM' LM' Rm'
    have hr := own_strsS ho E2
    clear ho hnc hcm
    have Ro := Lib.hid hr.2
    have hno := hr.1
    clear hr
    obtain ⟨c7_0, c7_1, c7_2, c7_3, c7_4⟩ := XM.out
    try dsimp only at c7_0 c7_1 c7_2 c7_3 c7_4
    go_wp2_with fail
    refine (Ka.out _ T.out).mono ?_
    rintro e w8 ⟨v, rfl, hF, hb⟩
    clear c7_0 c7_1 c7_2 c7_3 c7_4
    have T' := Lib.hid (below_next T.out hb)
    have XM' := Lib.hid (XM.out.keep hb LM.out)
    have LM' := Lib.hid (Nat.lt_of_lt_of_le LM.out hb.size)
    have Rm' := Lib.hid (Rm.out.next hb)
    have Ro' := Lib.hid (Ro.out.next hb)
    clear T XM LM Rm Ro hb
    have T := T'
    have XM := XM'
    have LM := LM'
    have Rm := Rm'
    have Ro := Ro'
    clear T' XM' LM' Rm' Ro'
    have hx := Box.new w8 za.guest v 26
    have b1 := below1 w8 (.cells #[.int .i64 za.guest, .slice v.rA v.rn v.rc, .slice v.sA v.sn v.sc, .slice v.fA v.fn v.fc, .slice v.pA v.pn v.pc] 26)
    have hi2 := hF.imgR.next b1
    have hlt : w8.heap.size < (w8.alloc (.cells #[.int .i64 za.guest, .slice v.rA v.rn v.rc, .slice v.sA v.sn v.sc, .slice v.fA v.fn v.fc, .slice v.pA v.pn v.pc] 26)).heap.size := by simp
    have T' := Lib.hid (below_next T.out b1)
    have XM' := Lib.hid (XM.out.keep b1 LM.out)
    have LM' := Lib.hid (Nat.lt_of_lt_of_le LM.out b1.size)
    have Rm' := Lib.hid (Rm.out.next b1)
    have Ro' := Lib.hid (Ro.out.next b1)
    clear T XM LM Rm Ro b1
    have T := T'
    have XM := XM'
    have LM := LM'
    have Rm := Rm'
    have Ro := Ro'
    clear T' XM' LM' Rm' Ro'
    obtain ⟨arA, arn, arc, asA, asn, asc, afA, afn, afc, apA, apn, apc⟩ := v
    have Ia := Lib.hid hi2
    have Xa := Lib.hid hx
    have La := Lib.hid hlt
    dsimp only [imgV] at Ia Xa La T XM LM Rm Ro ⊢
    clear hF hx hi2 hlt
    rcases CN with hN | hN
    · rcases Cea with h1 | h1
      · subst h1
        obtain ⟨f1, f2, f3, f4⟩ := HFa1.out rfl
        subst f1 f2 f3 f4
        clear HFa1 HFa2
        obtain ⟨c9_0, c9_1, c9_2, c9_3, c9_4⟩ := Xa.out
        try dsimp only at c9_0 c9_1 c9_2 c9_3 c9_4
        go_wp2_with fail
        generalize (w8.alloc (.cells #[.int .i64 za.guest, .slice arA arn arc, .slice asA asn asc, .slice afA afn afc, .slice apA apn apc] 26)) = W10 at *
        refine (Pa.out _ _ Ia.out).mono ?_
        rintro e w11 ⟨Ax, nx, cx, rfl, ho, hb, hnc, hcm⟩
        clear c9_0 c9_1 c9_2 c9_3 c9_4
        have T' := Lib.hid (below_next T.out hb)
        have XM' := Lib.hid (XM.out.keep hb LM.out)
        have LM' := Lib.hid (Nat.lt_of_lt_of_le LM.out hb.size)
        have Rm' := Lib.hid (Rm.out.next hb)
        have Ro' := Lib.hid (Ro.out.next hb)
        have Xa' := Lib.hid (Xa.out.keep hb La.out)
        have La' := Lib.hid (Nat.lt_of_lt_of_le La.out hb.size)
        have Ia' := Lib.hid (Ia.out.next hb)
        clear T XM LM Rm Ro Xa La Ia hb
        have T := T'
        have XM := XM'
        have LM := LM'
        have Rm := Rm'
        have Ro := Ro'
        have Xa := Xa'
        have La := La'
        have Ia := Ia'
        clear T' XM' LM' Rm' Ro' Xa' La' Ia'
        have hr := own_strsS ho E1
        clear ho hnc hcm
        have Rx := Lib.hid hr.2
        have hnx := hr.1
        clear hr
        obtain ⟨c12_0, c12_1, c12_2, c12_3, c12_4⟩ := Xa.out
        try dsimp only at c12_0 c12_1 c12_2 c12_3 c12_4
        go_wp2_with fail
        refine (Qa.out _ _ Ia.out).mono ?_
        rintro e w13 ⟨Ay, ny, cy, rfl, ho, hb, hnc, hcm⟩
        clear c12_0 c12_1 c12_2 c12_3 c12_4
        have T' := Lib.hid (below_next T.out hb)
        have XM' := Lib.hid (XM.out.keep hb LM.out)
        have LM' := Lib.hid (Nat.lt_of_lt_of_le LM.out hb.size)
        have Rm' := Lib.hid (Rm.out.next hb)
        have Ro' := Lib.hid (Ro.out.next hb)
        have Xa' := Lib.hid (Xa.out.keep hb La.out)
        have La' := Lib.hid (Nat.lt_of_lt_of_le La.out hb.size)
        have Ia' := Lib.hid (Ia.out.next hb)
        have Rx' := Lib.hid (Rx.out.next hb)
        clear T XM LM Rm Ro Xa La Ia Rx hb
        have T := T'
        have XM := XM'
        have LM := LM'
        have Rm := Rm'
        have Ro := Ro'
        have Xa := Xa'
        have La := La'
        have Ia := Ia'
        have Rx := Rx'
        clear T' XM' LM' Rm' Ro' Xa' La' Ia' Rx'
        have hr := own_strsS ho E1
        clear ho hnc hcm
        have Ry := Lib.hid hr.2
        have hny := hr.1
        clear hr
        obtain ⟨c14_0, c14_1, c14_2, c14_3, c14_4⟩ := Xa.out
        try dsimp only at c14_0 c14_1 c14_2 c14_3 c14_4
        go_wp2_with fail
        refine (Sa.out _ _ Ia.out).mono ?_
        rintro e w15 ⟨Az, nz, cz, rfl, ho, hb, hnc, hcm⟩
        clear c14_0 c14_1 c14_2 c14_3 c14_4
        have T' := Lib.hid (below_next T.out hb)
        have XM' := Lib.hid (XM.out.keep hb LM.out)
        have LM' := Lib.hid (Nat.lt_of_lt_of_le LM.out hb.size)
        have Rm' := Lib.hid (Rm.out.next hb)
        have Ro' := Lib.hid (Ro.out.next hb)
        have Xa' := Lib.hid (Xa.out.keep hb La.out)
        have La' := Lib.hid (Nat.lt_of_lt_of_le La.out hb.size)
        have Ia' := Lib.hid (Ia.out.next hb)
        have Rx' := Lib.hid (Rx.out.next hb)
        have Ry' := Lib.hid (Ry.out.next hb)
        clear T XM LM Rm Ro Xa La Ia Rx Ry hb
        have T := T'
        have XM := XM'
        have LM := LM'
        have Rm := Rm'
        have Ro := Ro'
        have Xa := Xa'
        have La := La'
        have Ia := Ia'
        have Rx := Rx'
        have Ry := Ry'
        clear T' XM' LM' Rm' Ro' Xa' La' Ia' Rx' Ry'
        have hr := own_strsS ho E5
        clear ho hnc hcm
        have Rz := Lib.hid hr.2
        have hnz := hr.1
        clear hr
        go_wp2_with fail
        refine (samePages_any Ax Am _ _ cx cm _ _ _ Rx.out Rm.out hnx hnm).mono ?_
        rintro e w16 ⟨rfl, hb⟩
        have T' := Lib.hid (below_next T.out hb)
        have XM' := Lib.hid (XM.out.keep hb LM.out)
        have LM' := Lib.hid (Nat.lt_of_lt_of_le LM.out hb.size)
        have Rm' := Lib.hid (Rm.out.next hb)
        have Ro' := Lib.hid (Ro.out.next hb)
        have Xa' := Lib.hid (Xa.out.keep hb La.out)
        have La' := Lib.hid (Nat.lt_of_lt_of_le La.out hb.size)
        have Ia' := Lib.hid (Ia.out.next hb)
        have Rx' := Lib.hid (Rx.out.next hb)
        have Ry' := Lib.hid (Ry.out.next hb)
        have Rz' := Lib.hid (Rz.out.next hb)
        clear T XM LM Rm Ro Xa La Ia Rx Ry Rz hb
        have T := T'
        have XM := XM'
        have LM := LM'
        have Rm := Rm'
        have Ro := Ro'
        have Xa := Xa'
        have La := La'
        have Ia := Ia'
        have Rx := Rx'
        have Ry := Ry'
        have Rz := Rz'
        clear T' XM' LM' Rm' Ro' Xa' La' Ia' Rx' Ry' Rz'
        try simp only [decide_true]
        go_wp2_with fail
        refine (samePages_any Ay Am _ _ cy cm _ _ _ Ry.out Rm.out hny hnm).mono ?_
        rintro e w17 ⟨rfl, hb⟩
        have T' := Lib.hid (below_next T.out hb)
        have XM' := Lib.hid (XM.out.keep hb LM.out)
        have LM' := Lib.hid (Nat.lt_of_lt_of_le LM.out hb.size)
        have Rm' := Lib.hid (Rm.out.next hb)
        have Ro' := Lib.hid (Ro.out.next hb)
        have Xa' := Lib.hid (Xa.out.keep hb La.out)
        have La' := Lib.hid (Nat.lt_of_lt_of_le La.out hb.size)
        have Ia' := Lib.hid (Ia.out.next hb)
        have Rx' := Lib.hid (Rx.out.next hb)
        have Ry' := Lib.hid (Ry.out.next hb)
        have Rz' := Lib.hid (Rz.out.next hb)
        clear T XM LM Rm Ro Xa La Ia Rx Ry Rz hb
        have T := T'
        have XM := XM'
        have LM := LM'
        have Rm := Rm'
        have Ro := Ro'
        have Xa := Xa'
        have La := La'
        have Ia := Ia'
        have Rx := Rx'
        have Ry := Ry'
        have Rz := Rz'
        clear T' XM' LM' Rm' Ro' Xa' La' Ia' Rx' Ry' Rz'
        try simp only [decide_true]
        clear Xa La Ia
        obtain ⟨c18_0, c18_1, c18_2, c18_3, c18_4⟩ := XM.out
        try dsimp only at c18_0 c18_1 c18_2 c18_3 c18_4
        go_wp2_with fail
        refine (Kb.out _ T.out).mono ?_
        rintro e w19 ⟨v, rfl, hF, hb⟩
        clear c18_0 c18_1 c18_2 c18_3 c18_4
        have T' := Lib.hid (below_next T.out hb)
        have XM' := Lib.hid (XM.out.keep hb LM.out)
        have LM' := Lib.hid (Nat.lt_of_lt_of_le LM.out hb.size)
        have Rm' := Lib.hid (Rm.out.next hb)
        have Ro' := Lib.hid (Ro.out.next hb)
        have Rx' := Lib.hid (Rx.out.next hb)
        have Ry' := Lib.hid (Ry.out.next hb)
        have Rz' := Lib.hid (Rz.out.next hb)
        clear T XM LM Rm Ro Rx Ry Rz hb
        have T := T'
        have XM := XM'
        have LM := LM'
        have Rm := Rm'
        have Ro := Ro'
        have Rx := Rx'
        have Ry := Ry'
        have Rz := Rz'
        clear T' XM' LM' Rm' Ro' Rx' Ry' Rz'
        have hx := Box.new w19 zb.guest v 26
        have b1 := below1 w19 (.cells #[.int .i64 zb.guest, .slice v.rA v.rn v.rc, .slice v.sA v.sn v.sc, .slice v.fA v.fn v.fc, .slice v.pA v.pn v.pc] 26)
        have hi2 := hF.imgR.next b1
        have hlt : w19.heap.size < (w19.alloc (.cells #[.int .i64 zb.guest, .slice v.rA v.rn v.rc, .slice v.sA v.sn v.sc, .slice v.fA v.fn v.fc, .slice v.pA v.pn v.pc] 26)).heap.size := by simp
        have T' := Lib.hid (below_next T.out b1)
        have XM' := Lib.hid (XM.out.keep b1 LM.out)
        have LM' := Lib.hid (Nat.lt_of_lt_of_le LM.out b1.size)
        have Rm' := Lib.hid (Rm.out.next b1)
        have Ro' := Lib.hid (Ro.out.next b1)
        have Rx' := Lib.hid (Rx.out.next b1)
        have Ry' := Lib.hid (Ry.out.next b1)
        have Rz' := Lib.hid (Rz.out.next b1)
        clear T XM LM Rm Ro Rx Ry Rz b1
        have T := T'
        have XM := XM'
        have LM := LM'
        have Rm := Rm'
        have Ro := Ro'
        have Rx := Rx'
        have Ry := Ry'
        have Rz := Rz'
        clear T' XM' LM' Rm' Ro' Rx' Ry' Rz'
        obtain ⟨brA, brn, brc, bsA, bsn, bsc, bfA, bfn, bfc, bpA, bpn, bpc⟩ := v
        have Ib := Lib.hid hi2
        have Xb := Lib.hid hx
        have Lb := Lib.hid hlt
        dsimp only [imgV] at Ib Xb Lb T XM LM Rm Ro Rx Ry Rz ⊢
        clear hF hx hi2 hlt
        rcases Cpo with h2 | h2
        · subst h2
          obtain ⟨f1, f2, f3, f4⟩ := Fb.out rfl
          subst f1 f2 f3 f4
          clear Fb
          obtain ⟨c20_0, c20_1, c20_2, c20_3, c20_4⟩ := Xb.out
          try dsimp only at c20_0 c20_1 c20_2 c20_3 c20_4
          go_wp2_with fail
          generalize (w19.alloc (.cells #[.int .i64 zb.guest, .slice brA brn brc, .slice bsA bsn bsc, .slice bfA bfn bfc, .slice bpA bpn bpc] 26)) = W21 at *
          refine (Qb.out _ _ Ib.out).mono ?_
          rintro e w22 ⟨As, ns, cs, rfl, ho, hb, hnc, hcm⟩
          clear c20_0 c20_1 c20_2 c20_3 c20_4
          have T' := Lib.hid (below_next T.out hb)
          have XM' := Lib.hid (XM.out.keep hb LM.out)
          have LM' := Lib.hid (Nat.lt_of_lt_of_le LM.out hb.size)
          have Rm' := Lib.hid (Rm.out.next hb)
          have Ro' := Lib.hid (Ro.out.next hb)
          have Rx' := Lib.hid (Rx.out.next hb)
          have Ry' := Lib.hid (Ry.out.next hb)
          have Rz' := Lib.hid (Rz.out.next hb)
          have Xb' := Lib.hid (Xb.out.keep hb Lb.out)
          have Lb' := Lib.hid (Nat.lt_of_lt_of_le Lb.out hb.size)
          have Ib' := Lib.hid (Ib.out.next hb)
          clear T XM LM Rm Ro Rx Ry Rz Xb Lb Ib hb
          have T := T'
          have XM := XM'
          have LM := LM'
          have Rm := Rm'
          have Ro := Ro'
          have Rx := Rx'
          have Ry := Ry'
          have Rz := Rz'
          have Xb := Xb'
          have Lb := Lb'
          have Ib := Ib'
          clear T' XM' LM' Rm' Ro' Rx' Ry' Rz' Xb' Lb' Ib'
          have hr := own_strsS ho E2
          clear ho hnc hcm
          have Rs := Lib.hid hr.2
          have hns := hr.1
          clear hr
          obtain ⟨c23_0, c23_1, c23_2, c23_3, c23_4⟩ := Xb.out
          try dsimp only at c23_0 c23_1 c23_2 c23_3 c23_4
          go_wp2_with fail
          refine (Sb.out _ _ Ib.out).mono ?_
          rintro e w24 ⟨At, nt, ct, rfl, ho, hb, hnc, hcm⟩
          clear c23_0 c23_1 c23_2 c23_3 c23_4
          have T' := Lib.hid (below_next T.out hb)
          have XM' := Lib.hid (XM.out.keep hb LM.out)
          have LM' := Lib.hid (Nat.lt_of_lt_of_le LM.out hb.size)
          have Rm' := Lib.hid (Rm.out.next hb)
          have Ro' := Lib.hid (Ro.out.next hb)
          have Rx' := Lib.hid (Rx.out.next hb)
          have Ry' := Lib.hid (Ry.out.next hb)
          have Rz' := Lib.hid (Rz.out.next hb)
          have Xb' := Lib.hid (Xb.out.keep hb Lb.out)
          have Lb' := Lib.hid (Nat.lt_of_lt_of_le Lb.out hb.size)
          have Ib' := Lib.hid (Ib.out.next hb)
          have Rs' := Lib.hid (Rs.out.next hb)
          clear T XM LM Rm Ro Rx Ry Rz Xb Lb Ib Rs hb
          have T := T'
          have XM := XM'
          have LM := LM'
          have Rm := Rm'
          have Ro := Ro'
          have Rx := Rx'
          have Ry := Ry'
          have Rz := Rz'
          have Xb := Xb'
          have Lb := Lb'
          have Ib := Ib'
          have Rs := Rs'
          clear T' XM' LM' Rm' Ro' Rx' Ry' Rz' Xb' Lb' Ib' Rs'
          have hr := own_strsS ho E2
          clear ho hnc hcm
          have Rt := Lib.hid hr.2
          have hnt := hr.1
          clear hr
          go_wp2_with fail
          refine (samePages_any As Ao _ _ cs co _ _ _ Rs.out Ro.out hns hno).mono ?_
          rintro e w25 ⟨rfl, hb⟩
          have T' := Lib.hid (below_next T.out hb)
          have XM' := Lib.hid (XM.out.keep hb LM.out)
          have LM' := Lib.hid (Nat.lt_of_lt_of_le LM.out hb.size)
          have Rm' := Lib.hid (Rm.out.next hb)
          have Ro' := Lib.hid (Ro.out.next hb)
          have Rx' := Lib.hid (Rx.out.next hb)
          have Ry' := Lib.hid (Ry.out.next hb)
          have Rz' := Lib.hid (Rz.out.next hb)
          have Xb' := Lib.hid (Xb.out.keep hb Lb.out)
          have Lb' := Lib.hid (Nat.lt_of_lt_of_le Lb.out hb.size)
          have Ib' := Lib.hid (Ib.out.next hb)
          have Rs' := Lib.hid (Rs.out.next hb)
          have Rt' := Lib.hid (Rt.out.next hb)
          clear T XM LM Rm Ro Rx Ry Rz Xb Lb Ib Rs Rt hb
          have T := T'
          have XM := XM'
          have LM := LM'
          have Rm := Rm'
          have Ro := Ro'
          have Rx := Rx'
          have Ry := Ry'
          have Rz := Rz'
          have Xb := Xb'
          have Lb := Lb'
          have Ib := Ib'
          have Rs := Rs'
          have Rt := Rt'
          clear T' XM' LM' Rm' Ro' Rx' Ry' Rz' Xb' Lb' Ib' Rs' Rt'
          try simp only [decide_true]
          go_wp2_with fail
          refine (samePages_any At Ao _ _ ct co _ _ _ Rt.out Ro.out hnt hno).mono ?_
          rintro e w26 ⟨rfl, hb⟩
          have T' := Lib.hid (below_next T.out hb)
          have XM' := Lib.hid (XM.out.keep hb LM.out)
          have LM' := Lib.hid (Nat.lt_of_lt_of_le LM.out hb.size)
          have Rm' := Lib.hid (Rm.out.next hb)
          have Ro' := Lib.hid (Ro.out.next hb)
          have Rx' := Lib.hid (Rx.out.next hb)
          have Ry' := Lib.hid (Ry.out.next hb)
          have Rz' := Lib.hid (Rz.out.next hb)
          have Xb' := Lib.hid (Xb.out.keep hb Lb.out)
          have Lb' := Lib.hid (Nat.lt_of_lt_of_le Lb.out hb.size)
          have Ib' := Lib.hid (Ib.out.next hb)
          have Rs' := Lib.hid (Rs.out.next hb)
          have Rt' := Lib.hid (Rt.out.next hb)
          clear T XM LM Rm Ro Rx Ry Rz Xb Lb Ib Rs Rt hb
          have T := T'
          have XM := XM'
          have LM := LM'
          have Rm := Rm'
          have Ro := Ro'
          have Rx := Rx'
          have Ry := Ry'
          have Rz := Rz'
          have Xb := Xb'
          have Lb := Lb'
          have Ib := Ib'
          have Rs := Rs'
          have Rt := Rt'
          clear T' XM' LM' Rm' Ro' Rx' Ry' Rz' Xb' Lb' Ib' Rs' Rt'
          try simp only [decide_true]
          clear Xb Lb Ib
          obtain ⟨c27_0, c27_1, c27_2, c27_3, c27_4⟩ := XM.out
          try dsimp only at c27_0 c27_1 c27_2 c27_3 c27_4
          go_wp2_with fail
          refine (Kc.out _ T.out).mono ?_
          rintro e w28 ⟨v, rfl, hF, hb⟩
          clear c27_0 c27_1 c27_2 c27_3 c27_4
          have T' := Lib.hid (below_next T.out hb)
          have XM' := Lib.hid (XM.out.keep hb LM.out)
          have LM' := Lib.hid (Nat.lt_of_lt_of_le LM.out hb.size)
          have Rm' := Lib.hid (Rm.out.next hb)
          have Ro' := Lib.hid (Ro.out.next hb)
          have Rx' := Lib.hid (Rx.out.next hb)
          have Ry' := Lib.hid (Ry.out.next hb)
          have Rz' := Lib.hid (Rz.out.next hb)
          have Rs' := Lib.hid (Rs.out.next hb)
          have Rt' := Lib.hid (Rt.out.next hb)
          clear T XM LM Rm Ro Rx Ry Rz Rs Rt hb
          have T := T'
          have XM := XM'
          have LM := LM'
          have Rm := Rm'
          have Ro := Ro'
          have Rx := Rx'
          have Ry := Ry'
          have Rz := Rz'
          have Rs := Rs'
          have Rt := Rt'
          clear T' XM' LM' Rm' Ro' Rx' Ry' Rz' Rs' Rt'
          have hx := Box.new w28 zc.guest v 26
          have b1 := below1 w28 (.cells #[.int .i64 zc.guest, .slice v.rA v.rn v.rc, .slice v.sA v.sn v.sc, .slice v.fA v.fn v.fc, .slice v.pA v.pn v.pc] 26)
          have hi2 := hF.imgR.next b1
          have hlt : w28.heap.size < (w28.alloc (.cells #[.int .i64 zc.guest, .slice v.rA v.rn v.rc, .slice v.sA v.sn v.sc, .slice v.fA v.fn v.fc, .slice v.pA v.pn v.pc] 26)).heap.size := by simp
          have T' := Lib.hid (below_next T.out b1)
          have XM' := Lib.hid (XM.out.keep b1 LM.out)
          have LM' := Lib.hid (Nat.lt_of_lt_of_le LM.out b1.size)
          have Rm' := Lib.hid (Rm.out.next b1)
          have Ro' := Lib.hid (Ro.out.next b1)
          have Rx' := Lib.hid (Rx.out.next b1)
          have Ry' := Lib.hid (Ry.out.next b1)
          have Rz' := Lib.hid (Rz.out.next b1)
          have Rs' := Lib.hid (Rs.out.next b1)
          have Rt' := Lib.hid (Rt.out.next b1)
          clear T XM LM Rm Ro Rx Ry Rz Rs Rt b1
          have T := T'
          have XM := XM'
          have LM := LM'
          have Rm := Rm'
          have Ro := Ro'
          have Rx := Rx'
          have Ry := Ry'
          have Rz := Rz'
          have Rs := Rs'
          have Rt := Rt'
          clear T' XM' LM' Rm' Ro' Rx' Ry' Rz' Rs' Rt'
          obtain ⟨crA, crn, crc, csA, csn, csc, cfA, cfn, cfc, cpA, cpn, cpc⟩ := v
          have Ic := Lib.hid hi2
          have Xc := Lib.hid hx
          have Lc := Lib.hid hlt
          dsimp only [imgV] at Ic Xc Lc T XM LM Rm Ro Rx Ry Rz Rs Rt ⊢
          clear hF hx hi2 hlt
          rcases Cpn' with h3 | h3
          · subst h3
            obtain ⟨f1, f2, f3⟩ := HFc1.out rfl
            subst f1 f2 f3
            clear HFc1 HFc2
            obtain ⟨c29_0, c29_1, c29_2, c29_3, c29_4⟩ := Xc.out
            try dsimp only at c29_0 c29_1 c29_2 c29_3 c29_4
            go_wp2_with fail
            generalize (w28.alloc (.cells #[.int .i64 zc.guest, .slice crA crn crc, .slice csA csn csc, .slice cfA cfn cfc, .slice cpA cpn cpc] 26)) = W30 at *
            refine (Qc.out _ _ Ic.out).mono ?_
            rintro e w31 ⟨Ap, np, cp, rfl, ho, hb, hnc, hcm⟩
            clear c29_0 c29_1 c29_2 c29_3 c29_4
            have T' := Lib.hid (below_next T.out hb)
            have XM' := Lib.hid (XM.out.keep hb LM.out)
            have LM' := Lib.hid (Nat.lt_of_lt_of_le LM.out hb.size)
            have Rm' := Lib.hid (Rm.out.next hb)
            have Ro' := Lib.hid (Ro.out.next hb)
            have Rx' := Lib.hid (Rx.out.next hb)
            have Ry' := Lib.hid (Ry.out.next hb)
            have Rz' := Lib.hid (Rz.out.next hb)
            have Rs' := Lib.hid (Rs.out.next hb)
            have Rt' := Lib.hid (Rt.out.next hb)
            have Xc' := Lib.hid (Xc.out.keep hb Lc.out)
            have Lc' := Lib.hid (Nat.lt_of_lt_of_le Lc.out hb.size)
            have Ic' := Lib.hid (Ic.out.next hb)
            clear T XM LM Rm Ro Rx Ry Rz Rs Rt Xc Lc Ic hb
            have T := T'
            have XM := XM'
            have LM := LM'
            have Rm := Rm'
            have Ro := Ro'
            have Rx := Rx'
            have Ry := Ry'
            have Rz := Rz'
            have Rs := Rs'
            have Rt := Rt'
            have Xc := Xc'
            have Lc := Lc'
            have Ic := Ic'
            clear T' XM' LM' Rm' Ro' Rx' Ry' Rz' Rs' Rt' Xc' Lc' Ic'
            have hr := own_strsS ho E1
            clear ho hnc hcm
            have Rp := Lib.hid hr.2
            have hnp := hr.1
            clear hr
            obtain ⟨c32_0, c32_1, c32_2, c32_3, c32_4⟩ := Xc.out
            try dsimp only at c32_0 c32_1 c32_2 c32_3 c32_4
            go_wp2_with fail
            refine (Pc.out _ _ Ic.out).mono ?_
            rintro e w33 ⟨Aq, nq, cq, rfl, ho, hb, hnc, hcm⟩
            clear c32_0 c32_1 c32_2 c32_3 c32_4
            have T' := Lib.hid (below_next T.out hb)
            have XM' := Lib.hid (XM.out.keep hb LM.out)
            have LM' := Lib.hid (Nat.lt_of_lt_of_le LM.out hb.size)
            have Rm' := Lib.hid (Rm.out.next hb)
            have Ro' := Lib.hid (Ro.out.next hb)
            have Rx' := Lib.hid (Rx.out.next hb)
            have Ry' := Lib.hid (Ry.out.next hb)
            have Rz' := Lib.hid (Rz.out.next hb)
            have Rs' := Lib.hid (Rs.out.next hb)
            have Rt' := Lib.hid (Rt.out.next hb)
            have Xc' := Lib.hid (Xc.out.keep hb Lc.out)
            have Lc' := Lib.hid (Nat.lt_of_lt_of_le Lc.out hb.size)
            have Ic' := Lib.hid (Ic.out.next hb)
            have Rp' := Lib.hid (Rp.out.next hb)
            clear T XM LM Rm Ro Rx Ry Rz Rs Rt Xc Lc Ic Rp hb
            have T := T'
            have XM := XM'
            have LM := LM'
            have Rm := Rm'
            have Ro := Ro'
            have Rx := Rx'
            have Ry := Ry'
            have Rz := Rz'
            have Rs := Rs'
            have Rt := Rt'
            have Xc := Xc'
            have Lc := Lc'
            have Ic := Ic'
            have Rp := Rp'
            clear T' XM' LM' Rm' Ro' Rx' Ry' Rz' Rs' Rt' Xc' Lc' Ic' Rp'
            have hr := own_strsS ho E3
            clear ho hnc hcm
            have Rq := Lib.hid hr.2
            have hnq := hr.1
            clear hr
            obtain ⟨c34_0, c34_1, c34_2, c34_3, c34_4⟩ := Xc.out
            try dsimp only at c34_0 c34_1 c34_2 c34_3 c34_4
            go_wp2_with fail
            refine (Sc.out _ _ Ic.out).mono ?_
            rintro e w35 ⟨Ar, nr, cr, rfl, ho, hb, hnc, hcm⟩
            clear c34_0 c34_1 c34_2 c34_3 c34_4
            have T' := Lib.hid (below_next T.out hb)
            have XM' := Lib.hid (XM.out.keep hb LM.out)
            have LM' := Lib.hid (Nat.lt_of_lt_of_le LM.out hb.size)
            have Rm' := Lib.hid (Rm.out.next hb)
            have Ro' := Lib.hid (Ro.out.next hb)
            have Rx' := Lib.hid (Rx.out.next hb)
            have Ry' := Lib.hid (Ry.out.next hb)
            have Rz' := Lib.hid (Rz.out.next hb)
            have Rs' := Lib.hid (Rs.out.next hb)
            have Rt' := Lib.hid (Rt.out.next hb)
            have Xc' := Lib.hid (Xc.out.keep hb Lc.out)
            have Lc' := Lib.hid (Nat.lt_of_lt_of_le Lc.out hb.size)
            have Ic' := Lib.hid (Ic.out.next hb)
            have Rp' := Lib.hid (Rp.out.next hb)
            have Rq' := Lib.hid (Rq.out.next hb)
            clear T XM LM Rm Ro Rx Ry Rz Rs Rt Xc Lc Ic Rp Rq hb
            have T := T'
            have XM := XM'
            have LM := LM'
            have Rm := Rm'
            have Ro := Ro'
            have Rx := Rx'
            have Ry := Ry'
            have Rz := Rz'
            have Rs := Rs'
            have Rt := Rt'
            have Xc := Xc'
            have Lc := Lc'
            have Ic := Ic'
            have Rp := Rp'
            have Rq := Rq'
            clear T' XM' LM' Rm' Ro' Rx' Ry' Rz' Rs' Rt' Xc' Lc' Ic' Rp' Rq'
            have hr := own_strsS ho E4
            clear ho hnc hcm
            have Rr := Lib.hid hr.2
            have hnr := hr.1
            clear hr
            go_wp2_with fail
            refine (snapsBegun_any _).mono ?_
            rintro e w36 ⟨rfl, hb⟩
            have T' := Lib.hid (below_next T.out hb)
            have XM' := Lib.hid (XM.out.keep hb LM.out)
            have LM' := Lib.hid (Nat.lt_of_lt_of_le LM.out hb.size)
            have Rm' := Lib.hid (Rm.out.next hb)
            have Ro' := Lib.hid (Ro.out.next hb)
            have Rx' := Lib.hid (Rx.out.next hb)
            have Ry' := Lib.hid (Ry.out.next hb)
            have Rz' := Lib.hid (Rz.out.next hb)
            have Rs' := Lib.hid (Rs.out.next hb)
            have Rt' := Lib.hid (Rt.out.next hb)
            have Xc' := Lib.hid (Xc.out.keep hb Lc.out)
            have Lc' := Lib.hid (Nat.lt_of_lt_of_le Lc.out hb.size)
            have Ic' := Lib.hid (Ic.out.next hb)
            have Rp' := Lib.hid (Rp.out.next hb)
            have Rq' := Lib.hid (Rq.out.next hb)
            have Rr' := Lib.hid (Rr.out.next hb)
            clear T XM LM Rm Ro Rx Ry Rz Rs Rt Xc Lc Ic Rp Rq Rr hb
            have T := T'
            have XM := XM'
            have LM := LM'
            have Rm := Rm'
            have Ro := Ro'
            have Rx := Rx'
            have Ry := Ry'
            have Rz := Rz'
            have Rs := Rs'
            have Rt := Rt'
            have Xc := Xc'
            have Lc := Lc'
            have Ic := Ic'
            have Rp := Rp'
            have Rq := Rq'
            have Rr := Rr'
            clear T' XM' LM' Rm' Ro' Rx' Ry' Rz' Rs' Rt' Xc' Lc' Ic' Rp' Rq' Rr'
            go_wp2_with fail
            refine (samePages_any Ap Am _ _ cp cm _ _ _ Rp.out Rm.out hnp hnm).mono ?_
            rintro e w37 ⟨rfl, hb⟩
            have T' := Lib.hid (below_next T.out hb)
            have XM' := Lib.hid (XM.out.keep hb LM.out)
            have LM' := Lib.hid (Nat.lt_of_lt_of_le LM.out hb.size)
            have Rm' := Lib.hid (Rm.out.next hb)
            have Ro' := Lib.hid (Ro.out.next hb)
            have Rx' := Lib.hid (Rx.out.next hb)
            have Ry' := Lib.hid (Ry.out.next hb)
            have Rz' := Lib.hid (Rz.out.next hb)
            have Rs' := Lib.hid (Rs.out.next hb)
            have Rt' := Lib.hid (Rt.out.next hb)
            have Xc' := Lib.hid (Xc.out.keep hb Lc.out)
            have Lc' := Lib.hid (Nat.lt_of_lt_of_le Lc.out hb.size)
            have Ic' := Lib.hid (Ic.out.next hb)
            have Rp' := Lib.hid (Rp.out.next hb)
            have Rq' := Lib.hid (Rq.out.next hb)
            have Rr' := Lib.hid (Rr.out.next hb)
            clear T XM LM Rm Ro Rx Ry Rz Rs Rt Xc Lc Ic Rp Rq Rr hb
            have T := T'
            have XM := XM'
            have LM := LM'
            have Rm := Rm'
            have Ro := Ro'
            have Rx := Rx'
            have Ry := Ry'
            have Rz := Rz'
            have Rs := Rs'
            have Rt := Rt'
            have Xc := Xc'
            have Lc := Lc'
            have Ic := Ic'
            have Rp := Rp'
            have Rq := Rq'
            have Rr := Rr'
            clear T' XM' LM' Rm' Ro' Rx' Ry' Rz' Rs' Rt' Xc' Lc' Ic' Rp' Rq' Rr'
            try simp only [decide_true]
            go_wp2_with fail
            go_ret
            exact ⟨rfl, T.out⟩
          · obtain ⟨h3, h3'⟩ := h3
            go_wp2_with fail
            generalize (w28.alloc (.cells #[.int .i64 zc.guest, .slice crA crn crc, .slice csA csn csc, .slice cfA cfn cfc, .slice cpA cpn cpc] 26)) = W29 at *
            refine (snapsBegun_any _).mono ?_
            rintro e w30 ⟨rfl, hb⟩
            have T' := Lib.hid (below_next T.out hb)
            have XM' := Lib.hid (XM.out.keep hb LM.out)
            have LM' := Lib.hid (Nat.lt_of_lt_of_le LM.out hb.size)
            have Rm' := Lib.hid (Rm.out.next hb)
            have Ro' := Lib.hid (Ro.out.next hb)
            have Rx' := Lib.hid (Rx.out.next hb)
            have Ry' := Lib.hid (Ry.out.next hb)
            have Rz' := Lib.hid (Rz.out.next hb)
            have Rs' := Lib.hid (Rs.out.next hb)
            have Rt' := Lib.hid (Rt.out.next hb)
            have Xc' := Lib.hid (Xc.out.keep hb Lc.out)
            have Lc' := Lib.hid (Nat.lt_of_lt_of_le Lc.out hb.size)
            have Ic' := Lib.hid (Ic.out.next hb)
            clear T XM LM Rm Ro Rx Ry Rz Rs Rt Xc Lc Ic hb
            have T := T'
            have XM := XM'
            have LM := LM'
            have Rm := Rm'
            have Ro := Ro'
            have Rx := Rx'
            have Ry := Ry'
            have Rz := Rz'
            have Rs := Rs'
            have Rt := Rt'
            have Xc := Xc'
            have Lc := Lc'
            have Ic := Ic'
            clear T' XM' LM' Rm' Ro' Rx' Ry' Rz' Rs' Rt' Xc' Lc' Ic'
            go_wp2_with fail
            go_ret
            exact ⟨rfl, T.out⟩
        · obtain ⟨h2, h2'⟩ := h2
          clear Fb
          clear Xb Lb Ib
          obtain ⟨c20_0, c20_1, c20_2, c20_3, c20_4⟩ := XM.out
          try dsimp only at c20_0 c20_1 c20_2 c20_3 c20_4
          go_wp2_with fail
          generalize (w19.alloc (.cells #[.int .i64 zb.guest, .slice brA brn brc, .slice bsA bsn bsc, .slice bfA bfn bfc, .slice bpA bpn bpc] 26)) = W21 at *
          refine (Kc.out _ T.out).mono ?_
          rintro e w22 ⟨v, rfl, hF, hb⟩
          clear c20_0 c20_1 c20_2 c20_3 c20_4
          have T' := Lib.hid (below_next T.out hb)
          have XM' := Lib.hid (XM.out.keep hb LM.out)
          have LM' := Lib.hid (Nat.lt_of_lt_of_le LM.out hb.size)
          have Rm' := Lib.hid (Rm.out.next hb)
          have Ro' := Lib.hid (Ro.out.next hb)
          have Rx' := Lib.hid (Rx.out.next hb)
          have Ry' := Lib.hid (Ry.out.next hb)
          have Rz' := Lib.hid (Rz.out.next hb)
          clear T XM LM Rm Ro Rx Ry Rz hb
          have T := T'
          have XM := XM'
          have LM := LM'
          have Rm := Rm'
          have Ro := Ro'
          have Rx := Rx'
          have Ry := Ry'
          have Rz := Rz'
          clear T' XM' LM' Rm' Ro' Rx' Ry' Rz'
          have hx := Box.new w22 zc.guest v 26
          have b1 := below1 w22 (.cells #[.int .i64 zc.guest, .slice v.rA v.rn v.rc, .slice v.sA v.sn v.sc, .slice v.fA v.fn v.fc, .slice v.pA v.pn v.pc] 26)
          have hi2 := hF.imgR.next b1
          have hlt : w22.heap.size < (w22.alloc (.cells #[.int .i64 zc.guest, .slice v.rA v.rn v.rc, .slice v.sA v.sn v.sc, .slice v.fA v.fn v.fc, .slice v.pA v.pn v.pc] 26)).heap.size := by simp
          have T' := Lib.hid (below_next T.out b1)
          have XM' := Lib.hid (XM.out.keep b1 LM.out)
          have LM' := Lib.hid (Nat.lt_of_lt_of_le LM.out b1.size)
          have Rm' := Lib.hid (Rm.out.next b1)
          have Ro' := Lib.hid (Ro.out.next b1)
          have Rx' := Lib.hid (Rx.out.next b1)
          have Ry' := Lib.hid (Ry.out.next b1)
          have Rz' := Lib.hid (Rz.out.next b1)
          clear T XM LM Rm Ro Rx Ry Rz b1
          have T := T'
          have XM := XM'
          have LM := LM'
          have Rm := Rm'
          have Ro := Ro'
          have Rx := Rx'
          have Ry := Ry'
          have Rz := Rz'
          clear T' XM' LM' Rm' Ro' Rx' Ry' Rz'
          obtain ⟨crA, crn, crc, csA, csn, csc, cfA, cfn, cfc, cpA, cpn, cpc⟩ := v
          have Ic := Lib.hid hi2
          have Xc := Lib.hid hx
          have Lc := Lib.hid hlt
          dsimp only [imgV] at Ic Xc Lc T XM LM Rm Ro Rx Ry Rz ⊢
          clear hF hx hi2 hlt
          rcases Cpn' with h3 | h3
          · subst h3
            obtain ⟨f1, f2, f3⟩ := HFc1.out rfl
            subst f1 f2 f3
            clear HFc1 HFc2
            obtain ⟨c23_0, c23_1, c23_2, c23_3, c23_4⟩ := Xc.out
            try dsimp only at c23_0 c23_1 c23_2 c23_3 c23_4
            go_wp2_with fail
            generalize (w22.alloc (.cells #[.int .i64 zc.guest, .slice crA crn crc, .slice csA csn csc, .slice cfA cfn cfc, .slice cpA cpn cpc] 26)) = W24 at *
            refine (Qc.out _ _ Ic.out).mono ?_
            rintro e w25 ⟨Ap, np, cp, rfl, ho, hb, hnc, hcm⟩
            clear c23_0 c23_1 c23_2 c23_3 c23_4
            have T' := Lib.hid (below_next T.out hb)
            have XM' := Lib.hid (XM.out.keep hb LM.out)
            have LM' := Lib.hid (Nat.lt_of_lt_of_le LM.out hb.size)
            have Rm' := Lib.hid (Rm.out.next hb)
            have Ro' := Lib.hid (Ro.out.next hb)
            have Rx' := Lib.hid (Rx.out.next hb)
            have Ry' := Lib.hid (Ry.out.next hb)
            have Rz' := Lib.hid (Rz.out.next hb)
            have Xc' := Lib.hid (Xc.out.keep hb Lc.out)
            have Lc' := Lib.hid (Nat.lt_of_lt_of_le Lc.out hb.size)
            have Ic' := Lib.hid (Ic.out.next hb)
            clear T XM LM Rm Ro Rx Ry Rz Xc Lc Ic hb
            have T := T'
            have XM := XM'
            have LM := LM'
            have Rm := Rm'
            have Ro := Ro'
            have Rx := Rx'
            have Ry := Ry'
            have Rz := Rz'
            have Xc := Xc'
            have Lc := Lc'
            have Ic := Ic'
            clear T' XM' LM' Rm' Ro' Rx' Ry' Rz' Xc' Lc' Ic'
            have hr := own_strsS ho E1
            clear ho hnc hcm
            have Rp := Lib.hid hr.2
            have hnp := hr.1
            clear hr
            obtain ⟨c26_0, c26_1, c26_2, c26_3, c26_4⟩ := Xc.out
            try dsimp only at c26_0 c26_1 c26_2 c26_3 c26_4
            go_wp2_with fail
            refine (Pc.out _ _ Ic.out).mono ?_
            rintro e w27 ⟨Aq, nq, cq, rfl, ho, hb, hnc, hcm⟩
            clear c26_0 c26_1 c26_2 c26_3 c26_4
            have T' := Lib.hid (below_next T.out hb)
            have XM' := Lib.hid (XM.out.keep hb LM.out)
            have LM' := Lib.hid (Nat.lt_of_lt_of_le LM.out hb.size)
            have Rm' := Lib.hid (Rm.out.next hb)
            have Ro' := Lib.hid (Ro.out.next hb)
            have Rx' := Lib.hid (Rx.out.next hb)
            have Ry' := Lib.hid (Ry.out.next hb)
            have Rz' := Lib.hid (Rz.out.next hb)
            have Xc' := Lib.hid (Xc.out.keep hb Lc.out)
            have Lc' := Lib.hid (Nat.lt_of_lt_of_le Lc.out hb.size)
            have Ic' := Lib.hid (Ic.out.next hb)
            have Rp' := Lib.hid (Rp.out.next hb)
            clear T XM LM Rm Ro Rx Ry Rz Xc Lc Ic Rp hb
            have T := T'
            have XM := XM'
            have LM := LM'
            have Rm := Rm'
            have Ro := Ro'
            have Rx := Rx'
            have Ry := Ry'
            have Rz := Rz'
            have Xc := Xc'
            have Lc := Lc'
            have Ic := Ic'
            have Rp := Rp'
            clear T' XM' LM' Rm' Ro' Rx' Ry' Rz' Xc' Lc' Ic' Rp'
            have hr := own_strsS ho E3
            clear ho hnc hcm
            have Rq := Lib.hid hr.2
            have hnq := hr.1
            clear hr
            obtain ⟨c28_0, c28_1, c28_2, c28_3, c28_4⟩ := Xc.out
            try dsimp only at c28_0 c28_1 c28_2 c28_3 c28_4
            go_wp2_with fail
            refine (Sc.out _ _ Ic.out).mono ?_
            rintro e w29 ⟨Ar, nr, cr, rfl, ho, hb, hnc, hcm⟩
            clear c28_0 c28_1 c28_2 c28_3 c28_4
            have T' := Lib.hid (below_next T.out hb)
            have XM' := Lib.hid (XM.out.keep hb LM.out)
            have LM' := Lib.hid (Nat.lt_of_lt_of_le LM.out hb.size)
            have Rm' := Lib.hid (Rm.out.next hb)
            have Ro' := Lib.hid (Ro.out.next hb)
            have Rx' := Lib.hid (Rx.out.next hb)
            have Ry' := Lib.hid (Ry.out.next hb)
            have Rz' := Lib.hid (Rz.out.next hb)
            have Xc' := Lib.hid (Xc.out.keep hb Lc.out)
            have Lc' := Lib.hid (Nat.lt_of_lt_of_le Lc.out hb.size)
            have Ic' := Lib.hid (Ic.out.next hb)
            have Rp' := Lib.hid (Rp.out.next hb)
            have Rq' := Lib.hid (Rq.out.next hb)
            clear T XM LM Rm Ro Rx Ry Rz Xc Lc Ic Rp Rq hb
            have T := T'
            have XM := XM'
            have LM := LM'
            have Rm := Rm'
            have Ro := Ro'
            have Rx := Rx'
            have Ry := Ry'
            have Rz := Rz'
            have Xc := Xc'
            have Lc := Lc'
            have Ic := Ic'
            have Rp := Rp'
            have Rq := Rq'
            clear T' XM' LM' Rm' Ro' Rx' Ry' Rz' Xc' Lc' Ic' Rp' Rq'
            have hr := own_strsS ho E4
            clear ho hnc hcm
            have Rr := Lib.hid hr.2
            have hnr := hr.1
            clear hr
            go_wp2_with fail
            refine (snapsBegun_any _).mono ?_
            rintro e w30 ⟨rfl, hb⟩
            have T' := Lib.hid (below_next T.out hb)
            have XM' := Lib.hid (XM.out.keep hb LM.out)
            have LM' := Lib.hid (Nat.lt_of_lt_of_le LM.out hb.size)
            have Rm' := Lib.hid (Rm.out.next hb)
            have Ro' := Lib.hid (Ro.out.next hb)
            have Rx' := Lib.hid (Rx.out.next hb)
            have Ry' := Lib.hid (Ry.out.next hb)
            have Rz' := Lib.hid (Rz.out.next hb)
            have Xc' := Lib.hid (Xc.out.keep hb Lc.out)
            have Lc' := Lib.hid (Nat.lt_of_lt_of_le Lc.out hb.size)
            have Ic' := Lib.hid (Ic.out.next hb)
            have Rp' := Lib.hid (Rp.out.next hb)
            have Rq' := Lib.hid (Rq.out.next hb)
            have Rr' := Lib.hid (Rr.out.next hb)
            clear T XM LM Rm Ro Rx Ry Rz Xc Lc Ic Rp Rq Rr hb
            have T := T'
            have XM := XM'
            have LM := LM'
            have Rm := Rm'
            have Ro := Ro'
            have Rx := Rx'
            have Ry := Ry'
            have Rz := Rz'
            have Xc := Xc'
            have Lc := Lc'
            have Ic := Ic'
            have Rp := Rp'
            have Rq := Rq'
            have Rr := Rr'
            clear T' XM' LM' Rm' Ro' Rx' Ry' Rz' Xc' Lc' Ic' Rp' Rq' Rr'
            go_wp2_with fail
            refine (samePages_any Ap Am _ _ cp cm _ _ _ Rp.out Rm.out hnp hnm).mono ?_
            rintro e w31 ⟨rfl, hb⟩
            have T' := Lib.hid (below_next T.out hb)
            have XM' := Lib.hid (XM.out.keep hb LM.out)
            have LM' := Lib.hid (Nat.lt_of_lt_of_le LM.out hb.size)
            have Rm' := Lib.hid (Rm.out.next hb)
            have Ro' := Lib.hid (Ro.out.next hb)
            have Rx' := Lib.hid (Rx.out.next hb)
            have Ry' := Lib.hid (Ry.out.next hb)
            have Rz' := Lib.hid (Rz.out.next hb)
            have Xc' := Lib.hid (Xc.out.keep hb Lc.out)
            have Lc' := Lib.hid (Nat.lt_of_lt_of_le Lc.out hb.size)
            have Ic' := Lib.hid (Ic.out.next hb)
            have Rp' := Lib.hid (Rp.out.next hb)
            have Rq' := Lib.hid (Rq.out.next hb)
            have Rr' := Lib.hid (Rr.out.next hb)
            clear T XM LM Rm Ro Rx Ry Rz Xc Lc Ic Rp Rq Rr hb
            have T := T'
            have XM := XM'
            have LM := LM'
            have Rm := Rm'
            have Ro := Ro'
            have Rx := Rx'
            have Ry := Ry'
            have Rz := Rz'
            have Xc := Xc'
            have Lc := Lc'
            have Ic := Ic'
            have Rp := Rp'
            have Rq := Rq'
            have Rr := Rr'
            clear T' XM' LM' Rm' Ro' Rx' Ry' Rz' Xc' Lc' Ic' Rp' Rq' Rr'
            try simp only [decide_true]
            go_wp2_with fail
            go_ret
            exact ⟨rfl, T.out⟩
          · obtain ⟨h3, h3'⟩ := h3
            go_wp2_with fail
            generalize (w22.alloc (.cells #[.int .i64 zc.guest, .slice crA crn crc, .slice csA csn csc, .slice cfA cfn cfc, .slice cpA cpn cpc] 26)) = W23 at *
            refine (snapsBegun_any _).mono ?_
            rintro e w24 ⟨rfl, hb⟩
            have T' := Lib.hid (below_next T.out hb)
            have XM' := Lib.hid (XM.out.keep hb LM.out)
            have LM' := Lib.hid (Nat.lt_of_lt_of_le LM.out hb.size)
            have Rm' := Lib.hid (Rm.out.next hb)
            have Ro' := Lib.hid (Ro.out.next hb)
            have Rx' := Lib.hid (Rx.out.next hb)
            have Ry' := Lib.hid (Ry.out.next hb)
            have Rz' := Lib.hid (Rz.out.next hb)
            have Xc' := Lib.hid (Xc.out.keep hb Lc.out)
            have Lc' := Lib.hid (Nat.lt_of_lt_of_le Lc.out hb.size)
            have Ic' := Lib.hid (Ic.out.next hb)
            clear T XM LM Rm Ro Rx Ry Rz Xc Lc Ic hb
            have T := T'
            have XM := XM'
            have LM := LM'
            have Rm := Rm'
            have Ro := Ro'
            have Rx := Rx'
            have Ry := Ry'
            have Rz := Rz'
            have Xc := Xc'
            have Lc := Lc'
            have Ic := Ic'
            clear T' XM' LM' Rm' Ro' Rx' Ry' Rz' Xc' Lc' Ic'
            go_wp2_with fail
            go_ret
            exact ⟨rfl, T.out⟩
      · obtain ⟨h1, h1'⟩ := h1
        clear HFa1 HFa2
        clear Xa La Ia
        obtain ⟨c9_0, c9_1, c9_2, c9_3, c9_4⟩ := XM.out
        try dsimp only at c9_0 c9_1 c9_2 c9_3 c9_4
        go_wp2_with fail
        generalize (w8.alloc (.cells #[.int .i64 za.guest, .slice arA arn arc, .slice asA asn asc, .slice afA afn afc, .slice apA apn apc] 26)) = W10 at *
        refine (Kb.out _ T.out).mono ?_
        rintro e w11 ⟨v, rfl, hF, hb⟩
        clear c9_0 c9_1 c9_2 c9_3 c9_4
        have T' := Lib.hid (below_next T.out hb)
        have XM' := Lib.hid (XM.out.keep hb LM.out)
        have LM' := Lib.hid (Nat.lt_of_lt_of_le LM.out hb.size)
        have Rm' := Lib.hid (Rm.out.next hb)
        have Ro' := Lib.hid (Ro.out.next hb)
        clear T XM LM Rm Ro hb
        have T := T'
        have XM := XM'
        have LM := LM'
        have Rm := Rm'
        have Ro := Ro'
        clear T' XM' LM' Rm' Ro'
        have hx := Box.new w11 zb.guest v 26
        have b1 := below1 w11 (.cells #[.int .i64 zb.guest, .slice v.rA v.rn v.rc, .slice v.sA v.sn v.sc, .slice v.fA v.fn v.fc, .slice v.pA v.pn v.pc] 26)
        have hi2 := hF.imgR.next b1
        have hlt : w11.heap.size < (w11.alloc (.cells #[.int .i64 zb.guest, .slice v.rA v.rn v.rc, .slice v.sA v.sn v.sc, .slice v.fA v.fn v.fc, .slice v.pA v.pn v.pc] 26)).heap.size := by simp
        have T' := Lib.hid (below_next T.out b1)
        have XM' := Lib.hid (XM.out.keep b1 LM.out)
        have LM' := Lib.hid (Nat.lt_of_lt_of_le LM.out b1.size)
        have Rm' := Lib.hid (Rm.out.next b1)
        have Ro' := Lib.hid (Ro.out.next b1)
        clear T XM LM Rm Ro b1
        have T := T'
        have XM := XM'
        have LM := LM'
        have Rm := Rm'
        have Ro := Ro'
        clear T' XM' LM' Rm' Ro'
        obtain ⟨brA, brn, brc, bsA, bsn, bsc, bfA, bfn, bfc, bpA, bpn, bpc⟩ := v
        have Ib := Lib.hid hi2
        have Xb := Lib.hid hx
        have Lb := Lib.hid hlt
        dsimp only [imgV] at Ib Xb Lb T XM LM Rm Ro ⊢
        clear hF hx hi2 hlt
        rcases Cpo with h2 | h2
        · subst h2
          obtain ⟨f1, f2, f3, f4⟩ := Fb.out rfl
          subst f1 f2 f3 f4
          clear Fb
          obtain ⟨c12_0, c12_1, c12_2, c12_3, c12_4⟩ := Xb.out
          try dsimp only at c12_0 c12_1 c12_2 c12_3 c12_4
          go_wp2_with fail
          generalize (w11.alloc (.cells #[.int .i64 zb.guest, .slice brA brn brc, .slice bsA bsn bsc, .slice bfA bfn bfc, .slice bpA bpn bpc] 26)) = W13 at *
          refine (Qb.out _ _ Ib.out).mono ?_
          rintro e w14 ⟨As, ns, cs, rfl, ho, hb, hnc, hcm⟩
          clear c12_0 c12_1 c12_2 c12_3 c12_4
          have T' := Lib.hid (below_next T.out hb)
          have XM' := Lib.hid (XM.out.keep hb LM.out)
          have LM' := Lib.hid (Nat.lt_of_lt_of_le LM.out hb.size)
          have Rm' := Lib.hid (Rm.out.next hb)
          have Ro' := Lib.hid (Ro.out.next hb)
          have Xb' := Lib.hid (Xb.out.keep hb Lb.out)
          have Lb' := Lib.hid (Nat.lt_of_lt_of_le Lb.out hb.size)
          have Ib' := Lib.hid (Ib.out.next hb)
          clear T XM LM Rm Ro Xb Lb Ib hb
          have T := T'
          have XM := XM'
          have LM := LM'
          have Rm := Rm'
          have Ro := Ro'
          have Xb := Xb'
          have Lb := Lb'
          have Ib := Ib'
          clear T' XM' LM' Rm' Ro' Xb' Lb' Ib'
          have hr := own_strsS ho E2
          clear ho hnc hcm
          have Rs := Lib.hid hr.2
          have hns := hr.1
          clear hr
          obtain ⟨c15_0, c15_1, c15_2, c15_3, c15_4⟩ := Xb.out
          try dsimp only at c15_0 c15_1 c15_2 c15_3 c15_4
          go_wp2_with fail
          refine (Sb.out _ _ Ib.out).mono ?_
          rintro e w16 ⟨At, nt, ct, rfl, ho, hb, hnc, hcm⟩
          clear c15_0 c15_1 c15_2 c15_3 c15_4
          have T' := Lib.hid (below_next T.out hb)
          have XM' := Lib.hid (XM.out.keep hb LM.out)
          have LM' := Lib.hid (Nat.lt_of_lt_of_le LM.out hb.size)
          have Rm' := Lib.hid (Rm.out.next hb)
          have Ro' := Lib.hid (Ro.out.next hb)
          have Xb' := Lib.hid (Xb.out.keep hb Lb.out)
          have Lb' := Lib.hid (Nat.lt_of_lt_of_le Lb.out hb.size)
          have Ib' := Lib.hid (Ib.out.next hb)
          have Rs' := Lib.hid (Rs.out.next hb)
          clear T XM LM Rm Ro Xb Lb Ib Rs hb
          have T := T'
          have XM := XM'
          have LM := LM'
          have Rm := Rm'
          have Ro := Ro'
          have Xb := Xb'
          have Lb := Lb'
          have Ib := Ib'
          have Rs := Rs'
          clear T' XM' LM' Rm' Ro' Xb' Lb' Ib' Rs'
          have hr := own_strsS ho E2
          clear ho hnc hcm
          have Rt := Lib.hid hr.2
          have hnt := hr.1
          clear hr
          go_wp2_with fail
          refine (samePages_any As Ao _ _ cs co _ _ _ Rs.out Ro.out hns hno).mono ?_
          rintro e w17 ⟨rfl, hb⟩
          have T' := Lib.hid (below_next T.out hb)
          have XM' := Lib.hid (XM.out.keep hb LM.out)
          have LM' := Lib.hid (Nat.lt_of_lt_of_le LM.out hb.size)
          have Rm' := Lib.hid (Rm.out.next hb)
          have Ro' := Lib.hid (Ro.out.next hb)
          have Xb' := Lib.hid (Xb.out.keep hb Lb.out)
          have Lb' := Lib.hid (Nat.lt_of_lt_of_le Lb.out hb.size)
          have Ib' := Lib.hid (Ib.out.next hb)
          have Rs' := Lib.hid (Rs.out.next hb)
          have Rt' := Lib.hid (Rt.out.next hb)
          clear T XM LM Rm Ro Xb Lb Ib Rs Rt hb
          have T := T'
          have XM := XM'
          have LM := LM'
          have Rm := Rm'
          have Ro := Ro'
          have Xb := Xb'
          have Lb := Lb'
          have Ib := Ib'
          have Rs := Rs'
          have Rt := Rt'
          clear T' XM' LM' Rm' Ro' Xb' Lb' Ib' Rs' Rt'
          try simp only [decide_true]
          go_wp2_with fail
          refine (samePages_any At Ao _ _ ct co _ _ _ Rt.out Ro.out hnt hno).mono ?_
          rintro e w18 ⟨rfl, hb⟩
          have T' := Lib.hid (below_next T.out hb)
          have XM' := Lib.hid (XM.out.keep hb LM.out)
          have LM' := Lib.hid (Nat.lt_of_lt_of_le LM.out hb.size)
          have Rm' := Lib.hid (Rm.out.next hb)
          have Ro' := Lib.hid (Ro.out.next hb)
          have Xb' := Lib.hid (Xb.out.keep hb Lb.out)
          have Lb' := Lib.hid (Nat.lt_of_lt_of_le Lb.out hb.size)
          have Ib' := Lib.hid (Ib.out.next hb)
          have Rs' := Lib.hid (Rs.out.next hb)
          have Rt' := Lib.hid (Rt.out.next hb)
          clear T XM LM Rm Ro Xb Lb Ib Rs Rt hb
          have T := T'
          have XM := XM'
          have LM := LM'
          have Rm := Rm'
          have Ro := Ro'
          have Xb := Xb'
          have Lb := Lb'
          have Ib := Ib'
          have Rs := Rs'
          have Rt := Rt'
          clear T' XM' LM' Rm' Ro' Xb' Lb' Ib' Rs' Rt'
          try simp only [decide_true]
          clear Xb Lb Ib
          obtain ⟨c19_0, c19_1, c19_2, c19_3, c19_4⟩ := XM.out
          try dsimp only at c19_0 c19_1 c19_2 c19_3 c19_4
          go_wp2_with fail
          refine (Kc.out _ T.out).mono ?_
          rintro e w20 ⟨v, rfl, hF, hb⟩
          clear c19_0 c19_1 c19_2 c19_3 c19_4
          have T' := Lib.hid (below_next T.out hb)
          have XM' := Lib.hid (XM.out.keep hb LM.out)
          have LM' := Lib.hid (Nat.lt_of_lt_of_le LM.out hb.size)
          have Rm' := Lib.hid (Rm.out.next hb)
          have Ro' := Lib.hid (Ro.out.next hb)
          have Rs' := Lib.hid (Rs.out.next hb)
          have Rt' := Lib.hid (Rt.out.next hb)
          clear T XM LM Rm Ro Rs Rt hb
          have T := T'
          have XM := XM'
          have LM := LM'
          have Rm := Rm'
          have Ro := Ro'
          have Rs := Rs'
          have Rt := Rt'
          clear T' XM' LM' Rm' Ro' Rs' Rt'
          have hx := Box.new w20 zc.guest v 26
          have b1 := below1 w20 (.cells #[.int .i64 zc.guest, .slice v.rA v.rn v.rc, .slice v.sA v.sn v.sc, .slice v.fA v.fn v.fc, .slice v.pA v.pn v.pc] 26)
          have hi2 := hF.imgR.next b1
          have hlt : w20.heap.size < (w20.alloc (.cells #[.int .i64 zc.guest, .slice v.rA v.rn v.rc, .slice v.sA v.sn v.sc, .slice v.fA v.fn v.fc, .slice v.pA v.pn v.pc] 26)).heap.size := by simp
          have T' := Lib.hid (below_next T.out b1)
          have XM' := Lib.hid (XM.out.keep b1 LM.out)
          have LM' := Lib.hid (Nat.lt_of_lt_of_le LM.out b1.size)
          have Rm' := Lib.hid (Rm.out.next b1)
          have Ro' := Lib.hid (Ro.out.next b1)
          have Rs' := Lib.hid (Rs.out.next b1)
          have Rt' := Lib.hid (Rt.out.next b1)
          clear T XM LM Rm Ro Rs Rt b1
          have T := T'
          have XM := XM'
          have LM := LM'
          have Rm := Rm'
          have Ro := Ro'
          have Rs := Rs'
          have Rt := Rt'
          clear T' XM' LM' Rm' Ro' Rs' Rt'
          obtain ⟨crA, crn, crc, csA, csn, csc, cfA, cfn, cfc, cpA, cpn, cpc⟩ := v
          have Ic := Lib.hid hi2
          have Xc := Lib.hid hx
          have Lc := Lib.hid hlt
          dsimp only [imgV] at Ic Xc Lc T XM LM Rm Ro Rs Rt ⊢
          clear hF hx hi2 hlt
          rcases Cpn' with h3 | h3
          · subst h3
            obtain ⟨f1, f2, f3⟩ := HFc1.out rfl
            subst f1 f2 f3
            clear HFc1 HFc2
            obtain ⟨c21_0, c21_1, c21_2, c21_3, c21_4⟩ := Xc.out
            try dsimp only at c21_0 c21_1 c21_2 c21_3 c21_4
            go_wp2_with fail
            generalize (w20.alloc (.cells #[.int .i64 zc.guest, .slice crA crn crc, .slice csA csn csc, .slice cfA cfn cfc, .slice cpA cpn cpc] 26)) = W22 at *
            refine (Qc.out _ _ Ic.out).mono ?_
            rintro e w23 ⟨Ap, np, cp, rfl, ho, hb, hnc, hcm⟩
            clear c21_0 c21_1 c21_2 c21_3 c21_4
            have T' := Lib.hid (below_next T.out hb)
            have XM' := Lib.hid (XM.out.keep hb LM.out)
            have LM' := Lib.hid (Nat.lt_of_lt_of_le LM.out hb.size)
            have Rm' := Lib.hid (Rm.out.next hb)
            have Ro' := Lib.hid (Ro.out.next hb)
            have Rs' := Lib.hid (Rs.out.next hb)
            have Rt' := Lib.hid (Rt.out.next hb)
            have Xc' := Lib.hid (Xc.out.keep hb Lc.out)
            have Lc' := Lib.hid (Nat.lt_of_lt_of_le Lc.out hb.size)
            have Ic' := Lib.hid (Ic.out.next hb)
            clear T XM LM Rm Ro Rs Rt Xc Lc Ic hb
            have T := T'
            have XM := XM'
            have LM := LM'
            have Rm := Rm'
            have Ro := Ro'
            have Rs := Rs'
            have Rt := Rt'
            have Xc := Xc'
            have Lc := Lc'
            have Ic := Ic'
            clear T' XM' LM' Rm' Ro' Rs' Rt' Xc' Lc' Ic'
            have hr := own_strsS ho E1
            clear ho hnc hcm
            have Rp := Lib.hid hr.2
            have hnp := hr.1
            clear hr
            obtain ⟨c24_0, c24_1, c24_2, c24_3, c24_4⟩ := Xc.out
            try dsimp only at c24_0 c24_1 c24_2 c24_3 c24_4
            go_wp2_with fail
            refine (Pc.out _ _ Ic.out).mono ?_
            rintro e w25 ⟨Aq, nq, cq, rfl, ho, hb, hnc, hcm⟩
            clear c24_0 c24_1 c24_2 c24_3 c24_4
            have T' := Lib.hid (below_next T.out hb)
            have XM' := Lib.hid (XM.out.keep hb LM.out)
            have LM' := Lib.hid (Nat.lt_of_lt_of_le LM.out hb.size)
            have Rm' := Lib.hid (Rm.out.next hb)
            have Ro' := Lib.hid (Ro.out.next hb)
            have Rs' := Lib.hid (Rs.out.next hb)
            have Rt' := Lib.hid (Rt.out.next hb)
            have Xc' := Lib.hid (Xc.out.keep hb Lc.out)
            have Lc' := Lib.hid (Nat.lt_of_lt_of_le Lc.out hb.size)
            have Ic' := Lib.hid (Ic.out.next hb)
            have Rp' := Lib.hid (Rp.out.next hb)
            clear T XM LM Rm Ro Rs Rt Xc Lc Ic Rp hb
            have T := T'
            have XM := XM'
            have LM := LM'
            have Rm := Rm'
            have Ro := Ro'
            have Rs := Rs'
            have Rt := Rt'
            have Xc := Xc'
            have Lc := Lc'
            have Ic := Ic'
            have Rp := Rp'
            clear T' XM' LM' Rm' Ro' Rs' Rt' Xc' Lc' Ic' Rp'
            have hr := own_strsS ho E3
            clear ho hnc hcm
            have Rq := Lib.hid hr.2
            have hnq := hr.1
            clear hr
            obtain ⟨c26_0, c26_1, c26_2, c26_3, c26_4⟩ := Xc.out
            try dsimp only at c26_0 c26_1 c26_2 c26_3 c26_4
            go_wp2_with fail
            refine (Sc.out _ _ Ic.out).mono ?_
            rintro e w27 ⟨Ar, nr, cr, rfl, ho, hb, hnc, hcm⟩
            clear c26_0 c26_1 c26_2 c26_3 c26_4
            have T' := Lib.hid (below_next T.out hb)
            have XM' := Lib.hid (XM.out.keep hb LM.out)
            have LM' := Lib.hid (Nat.lt_of_lt_of_le LM.out hb.size)
            have Rm' := Lib.hid (Rm.out.next hb)
            have Ro' := Lib.hid (Ro.out.next hb)
            have Rs' := Lib.hid (Rs.out.next hb)
            have Rt' := Lib.hid (Rt.out.next hb)
            have Xc' := Lib.hid (Xc.out.keep hb Lc.out)
            have Lc' := Lib.hid (Nat.lt_of_lt_of_le Lc.out hb.size)
            have Ic' := Lib.hid (Ic.out.next hb)
            have Rp' := Lib.hid (Rp.out.next hb)
            have Rq' := Lib.hid (Rq.out.next hb)
            clear T XM LM Rm Ro Rs Rt Xc Lc Ic Rp Rq hb
            have T := T'
            have XM := XM'
            have LM := LM'
            have Rm := Rm'
            have Ro := Ro'
            have Rs := Rs'
            have Rt := Rt'
            have Xc := Xc'
            have Lc := Lc'
            have Ic := Ic'
            have Rp := Rp'
            have Rq := Rq'
            clear T' XM' LM' Rm' Ro' Rs' Rt' Xc' Lc' Ic' Rp' Rq'
            have hr := own_strsS ho E4
            clear ho hnc hcm
            have Rr := Lib.hid hr.2
            have hnr := hr.1
            clear hr
            go_wp2_with fail
            refine (snapsBegun_any _).mono ?_
            rintro e w28 ⟨rfl, hb⟩
            have T' := Lib.hid (below_next T.out hb)
            have XM' := Lib.hid (XM.out.keep hb LM.out)
            have LM' := Lib.hid (Nat.lt_of_lt_of_le LM.out hb.size)
            have Rm' := Lib.hid (Rm.out.next hb)
            have Ro' := Lib.hid (Ro.out.next hb)
            have Rs' := Lib.hid (Rs.out.next hb)
            have Rt' := Lib.hid (Rt.out.next hb)
            have Xc' := Lib.hid (Xc.out.keep hb Lc.out)
            have Lc' := Lib.hid (Nat.lt_of_lt_of_le Lc.out hb.size)
            have Ic' := Lib.hid (Ic.out.next hb)
            have Rp' := Lib.hid (Rp.out.next hb)
            have Rq' := Lib.hid (Rq.out.next hb)
            have Rr' := Lib.hid (Rr.out.next hb)
            clear T XM LM Rm Ro Rs Rt Xc Lc Ic Rp Rq Rr hb
            have T := T'
            have XM := XM'
            have LM := LM'
            have Rm := Rm'
            have Ro := Ro'
            have Rs := Rs'
            have Rt := Rt'
            have Xc := Xc'
            have Lc := Lc'
            have Ic := Ic'
            have Rp := Rp'
            have Rq := Rq'
            have Rr := Rr'
            clear T' XM' LM' Rm' Ro' Rs' Rt' Xc' Lc' Ic' Rp' Rq' Rr'
            go_wp2_with fail
            refine (samePages_any Ap Am _ _ cp cm _ _ _ Rp.out Rm.out hnp hnm).mono ?_
            rintro e w29 ⟨rfl, hb⟩
            have T' := Lib.hid (below_next T.out hb)
            have XM' := Lib.hid (XM.out.keep hb LM.out)
            have LM' := Lib.hid (Nat.lt_of_lt_of_le LM.out hb.size)
            have Rm' := Lib.hid (Rm.out.next hb)
            have Ro' := Lib.hid (Ro.out.next hb)
            have Rs' := Lib.hid (Rs.out.next hb)
            have Rt' := Lib.hid (Rt.out.next hb)
            have Xc' := Lib.hid (Xc.out.keep hb Lc.out)
            have Lc' := Lib.hid (Nat.lt_of_lt_of_le Lc.out hb.size)
            have Ic' := Lib.hid (Ic.out.next hb)
            have Rp' := Lib.hid (Rp.out.next hb)
            have Rq' := Lib.hid (Rq.out.next hb)
            have Rr' := Lib.hid (Rr.out.next hb)
            clear T XM LM Rm Ro Rs Rt Xc Lc Ic Rp Rq Rr hb
            have T := T'
            have XM := XM'
            have LM := LM'
            have Rm := Rm'
            have Ro := Ro'
            have Rs := Rs'
            have Rt := Rt'
            have Xc := Xc'
            have Lc := Lc'
            have Ic := Ic'
            have Rp := Rp'
            have Rq := Rq'
            have Rr := Rr'
            clear T' XM' LM' Rm' Ro' Rs' Rt' Xc' Lc' Ic' Rp' Rq' Rr'
            try simp only [decide_true]
            go_wp2_with fail
            go_ret
            exact ⟨rfl, T.out⟩
          · obtain ⟨h3, h3'⟩ := h3
            go_wp2_with fail
            generalize (w20.alloc (.cells #[.int .i64 zc.guest, .slice crA crn crc, .slice csA csn csc, .slice cfA cfn cfc, .slice cpA cpn cpc] 26)) = W21 at *
            refine (snapsBegun_any _).mono ?_
            rintro e w22 ⟨rfl, hb⟩
            have T' := Lib.hid (below_next T.out hb)
            have XM' := Lib.hid (XM.out.keep hb LM.out)
            have LM' := Lib.hid (Nat.lt_of_lt_of_le LM.out hb.size)
            have Rm' := Lib.hid (Rm.out.next hb)
            have Ro' := Lib.hid (Ro.out.next hb)
            have Rs' := Lib.hid (Rs.out.next hb)
            have Rt' := Lib.hid (Rt.out.next hb)
            have Xc' := Lib.hid (Xc.out.keep hb Lc.out)
            have Lc' := Lib.hid (Nat.lt_of_lt_of_le Lc.out hb.size)
            have Ic' := Lib.hid (Ic.out.next hb)
            clear T XM LM Rm Ro Rs Rt Xc Lc Ic hb
            have T := T'
            have XM := XM'
            have LM := LM'
            have Rm := Rm'
            have Ro := Ro'
            have Rs := Rs'
            have Rt := Rt'
            have Xc := Xc'
            have Lc := Lc'
            have Ic := Ic'
            clear T' XM' LM' Rm' Ro' Rs' Rt' Xc' Lc' Ic'
            go_wp2_with fail
            go_ret
            exact ⟨rfl, T.out⟩
        · obtain ⟨h2, h2'⟩ := h2
          clear Fb
          clear Xb Lb Ib
          obtain ⟨c12_0, c12_1, c12_2, c12_3, c12_4⟩ := XM.out
          try dsimp only at c12_0 c12_1 c12_2 c12_3 c12_4
          go_wp2_with fail
          generalize (w11.alloc (.cells #[.int .i64 zb.guest, .slice brA brn brc, .slice bsA bsn bsc, .slice bfA bfn bfc, .slice bpA bpn bpc] 26)) = W13 at *
          refine (Kc.out _ T.out).mono ?_
          rintro e w14 ⟨v, rfl, hF, hb⟩
          clear c12_0 c12_1 c12_2 c12_3 c12_4
          have T' := Lib.hid (below_next T.out hb)
          have XM' := Lib.hid (XM.out.keep hb LM.out)
          have LM' := Lib.hid (Nat.lt_of_lt_of_le LM.out hb.size)
          have Rm' := Lib.hid (Rm.out.next hb)
          have Ro' := Lib.hid (Ro.out.next hb)
          clear T XM LM Rm Ro hb
          have T := T'
          have XM := XM'
          have LM := LM'
          have Rm := Rm'
          have Ro := Ro'
          clear T' XM' LM' Rm' Ro'
          have hx := Box.new w14 zc.guest v 26
          have b1 := below1 w14 (.cells #[.int .i64 zc.guest, .slice v.rA v.rn v.rc, .slice v.sA v.sn v.sc, .slice v.fA v.fn v.fc, .slice v.pA v.pn v.pc] 26)
          have hi2 := hF.imgR.next b1
          have hlt : w14.heap.size < (w14.alloc (.cells #[.int .i64 zc.guest, .slice v.rA v.rn v.rc, .slice v.sA v.sn v.sc, .slice v.fA v.fn v.fc, .slice v.pA v.pn v.pc] 26)).heap.size := by simp
          have T' := Lib.hid (below_next T.out b1)
          have XM' := Lib.hid (XM.out.keep b1 LM.out)
          have LM' := Lib.hid (Nat.lt_of_lt_of_le LM.out b1.size)
          have Rm' := Lib.hid (Rm.out.next b1)
          have Ro' := Lib.hid (Ro.out.next b1)
          clear T XM LM Rm Ro b1
          have T := T'
          have XM := XM'
          have LM := LM'
          have Rm := Rm'
          have Ro := Ro'
          clear T' XM' LM' Rm' Ro'
          obtain ⟨crA, crn, crc, csA, csn, csc, cfA, cfn, cfc, cpA, cpn, cpc⟩ := v
          have Ic := Lib.hid hi2
          have Xc := Lib.hid hx
          have Lc := Lib.hid hlt
          dsimp only [imgV] at Ic Xc Lc T XM LM Rm Ro ⊢
          clear hF hx hi2 hlt
          rcases Cpn' with h3 | h3
          · subst h3
            obtain ⟨f1, f2, f3⟩ := HFc1.out rfl
            subst f1 f2 f3
            clear HFc1 HFc2
            obtain ⟨c15_0, c15_1, c15_2, c15_3, c15_4⟩ := Xc.out
            try dsimp only at c15_0 c15_1 c15_2 c15_3 c15_4
            go_wp2_with fail
            generalize (w14.alloc (.cells #[.int .i64 zc.guest, .slice crA crn crc, .slice csA csn csc, .slice cfA cfn cfc, .slice cpA cpn cpc] 26)) = W16 at *
            refine (Qc.out _ _ Ic.out).mono ?_
            rintro e w17 ⟨Ap, np, cp, rfl, ho, hb, hnc, hcm⟩
            clear c15_0 c15_1 c15_2 c15_3 c15_4
            have T' := Lib.hid (below_next T.out hb)
            have XM' := Lib.hid (XM.out.keep hb LM.out)
            have LM' := Lib.hid (Nat.lt_of_lt_of_le LM.out hb.size)
            have Rm' := Lib.hid (Rm.out.next hb)
            have Ro' := Lib.hid (Ro.out.next hb)
            have Xc' := Lib.hid (Xc.out.keep hb Lc.out)
            have Lc' := Lib.hid (Nat.lt_of_lt_of_le Lc.out hb.size)
            have Ic' := Lib.hid (Ic.out.next hb)
            clear T XM LM Rm Ro Xc Lc Ic hb
            have T := T'
            have XM := XM'
            have LM := LM'
            have Rm := Rm'
            have Ro := Ro'
            have Xc := Xc'
            have Lc := Lc'
            have Ic := Ic'
            clear T' XM' LM' Rm' Ro' Xc' Lc' Ic'
            have hr := own_strsS ho E1
            clear ho hnc hcm
            have Rp := Lib.hid hr.2
            have hnp := hr.1
            clear hr
            obtain ⟨c18_0, c18_1, c18_2, c18_3, c18_4⟩ := Xc.out
            try dsimp only at c18_0 c18_1 c18_2 c18_3 c18_4
            go_wp2_with fail
            refine (Pc.out _ _ Ic.out).mono ?_
            rintro e w19 ⟨Aq, nq, cq, rfl, ho, hb, hnc, hcm⟩
            clear c18_0 c18_1 c18_2 c18_3 c18_4
            have T' := Lib.hid (below_next T.out hb)
            have XM' := Lib.hid (XM.out.keep hb LM.out)
            have LM' := Lib.hid (Nat.lt_of_lt_of_le LM.out hb.size)
            have Rm' := Lib.hid (Rm.out.next hb)
            have Ro' := Lib.hid (Ro.out.next hb)
            have Xc' := Lib.hid (Xc.out.keep hb Lc.out)
            have Lc' := Lib.hid (Nat.lt_of_lt_of_le Lc.out hb.size)
            have Ic' := Lib.hid (Ic.out.next hb)
            have Rp' := Lib.hid (Rp.out.next hb)
            clear T XM LM Rm Ro Xc Lc Ic Rp hb
            have T := T'
            have XM := XM'
            have LM := LM'
            have Rm := Rm'
            have Ro := Ro'
            have Xc := Xc'
            have Lc := Lc'
            have Ic := Ic'
            have Rp := Rp'
            clear T' XM' LM' Rm' Ro' Xc' Lc' Ic' Rp'
            have hr := own_strsS ho E3
            clear ho hnc hcm
            have Rq := Lib.hid hr.2
            have hnq := hr.1
            clear hr
            obtain ⟨c20_0, c20_1, c20_2, c20_3, c20_4⟩ := Xc.out
            try dsimp only at c20_0 c20_1 c20_2 c20_3 c20_4
            go_wp2_with fail
            refine (Sc.out _ _ Ic.out).mono ?_
            rintro e w21 ⟨Ar, nr, cr, rfl, ho, hb, hnc, hcm⟩
            clear c20_0 c20_1 c20_2 c20_3 c20_4
            have T' := Lib.hid (below_next T.out hb)
            have XM' := Lib.hid (XM.out.keep hb LM.out)
            have LM' := Lib.hid (Nat.lt_of_lt_of_le LM.out hb.size)
            have Rm' := Lib.hid (Rm.out.next hb)
            have Ro' := Lib.hid (Ro.out.next hb)
            have Xc' := Lib.hid (Xc.out.keep hb Lc.out)
            have Lc' := Lib.hid (Nat.lt_of_lt_of_le Lc.out hb.size)
            have Ic' := Lib.hid (Ic.out.next hb)
            have Rp' := Lib.hid (Rp.out.next hb)
            have Rq' := Lib.hid (Rq.out.next hb)
            clear T XM LM Rm Ro Xc Lc Ic Rp Rq hb
            have T := T'
            have XM := XM'
            have LM := LM'
            have Rm := Rm'
            have Ro := Ro'
            have Xc := Xc'
            have Lc := Lc'
            have Ic := Ic'
            have Rp := Rp'
            have Rq := Rq'
            clear T' XM' LM' Rm' Ro' Xc' Lc' Ic' Rp' Rq'
            have hr := own_strsS ho E4
            clear ho hnc hcm
            have Rr := Lib.hid hr.2
            have hnr := hr.1
            clear hr
            go_wp2_with fail
            refine (snapsBegun_any _).mono ?_
            rintro e w22 ⟨rfl, hb⟩
            have T' := Lib.hid (below_next T.out hb)
            have XM' := Lib.hid (XM.out.keep hb LM.out)
            have LM' := Lib.hid (Nat.lt_of_lt_of_le LM.out hb.size)
            have Rm' := Lib.hid (Rm.out.next hb)
            have Ro' := Lib.hid (Ro.out.next hb)
            have Xc' := Lib.hid (Xc.out.keep hb Lc.out)
            have Lc' := Lib.hid (Nat.lt_of_lt_of_le Lc.out hb.size)
            have Ic' := Lib.hid (Ic.out.next hb)
            have Rp' := Lib.hid (Rp.out.next hb)
            have Rq' := Lib.hid (Rq.out.next hb)
            have Rr' := Lib.hid (Rr.out.next hb)
            clear T XM LM Rm Ro Xc Lc Ic Rp Rq Rr hb
            have T := T'
            have XM := XM'
            have LM := LM'
            have Rm := Rm'
            have Ro := Ro'
            have Xc := Xc'
            have Lc := Lc'
            have Ic := Ic'
            have Rp := Rp'
            have Rq := Rq'
            have Rr := Rr'
            clear T' XM' LM' Rm' Ro' Xc' Lc' Ic' Rp' Rq' Rr'
            go_wp2_with fail
            refine (samePages_any Ap Am _ _ cp cm _ _ _ Rp.out Rm.out hnp hnm).mono ?_
            rintro e w23 ⟨rfl, hb⟩
            have T' := Lib.hid (below_next T.out hb)
            have XM' := Lib.hid (XM.out.keep hb LM.out)
            have LM' := Lib.hid (Nat.lt_of_lt_of_le LM.out hb.size)
            have Rm' := Lib.hid (Rm.out.next hb)
            have Ro' := Lib.hid (Ro.out.next hb)
            have Xc' := Lib.hid (Xc.out.keep hb Lc.out)
            have Lc' := Lib.hid (Nat.lt_of_lt_of_le Lc.out hb.size)
            have Ic' := Lib.hid (Ic.out.next hb)
            have Rp' := Lib.hid (Rp.out.next hb)
            have Rq' := Lib.hid (Rq.out.next hb)
            have Rr' := Lib.hid (Rr.out.next hb)
            clear T XM LM Rm Ro Xc Lc Ic Rp Rq Rr hb
            have T := T'
            have XM := XM'
            have LM := LM'
            have Rm := Rm'
            have Ro := Ro'
            have Xc := Xc'
            have Lc := Lc'
            have Ic := Ic'
            have Rp := Rp'
            have Rq := Rq'
            have Rr := Rr'
            clear T' XM' LM' Rm' Ro' Xc' Lc' Ic' Rp' Rq' Rr'
            try simp only [decide_true]
            go_wp2_with fail
            go_ret
            exact ⟨rfl, T.out⟩
          · obtain ⟨h3, h3'⟩ := h3
            go_wp2_with fail
            generalize (w14.alloc (.cells #[.int .i64 zc.guest, .slice crA crn crc, .slice csA csn csc, .slice cfA cfn cfc, .slice cpA cpn cpc] 26)) = W15 at *
            refine (snapsBegun_any _).mono ?_
            rintro e w16 ⟨rfl, hb⟩
            have T' := Lib.hid (below_next T.out hb)
            have XM' := Lib.hid (XM.out.keep hb LM.out)
            have LM' := Lib.hid (Nat.lt_of_lt_of_le LM.out hb.size)
            have Rm' := Lib.hid (Rm.out.next hb)
            have Ro' := Lib.hid (Ro.out.next hb)
            have Xc' := Lib.hid (Xc.out.keep hb Lc.out)
            have Lc' := Lib.hid (Nat.lt_of_lt_of_le Lc.out hb.size)
            have Ic' := Lib.hid (Ic.out.next hb)
            clear T XM LM Rm Ro Xc Lc Ic hb
            have T := T'
            have XM := XM'
            have LM := LM'
            have Rm := Rm'
            have Ro := Ro'
            have Xc := Xc'
            have Lc := Lc'
            have Ic := Ic'
            clear T' XM' LM' Rm' Ro' Xc' Lc' Ic'
            go_wp2_with fail
            go_ret
            exact ⟨rfl, T.out⟩
    · rcases Cea with h1 | h1
      · subst h1
        obtain ⟨f1, f2, f3, f4⟩ := HFa1.out rfl
        subst f1 f2 f3 f4
        obtain ⟨f5, f6⟩ := HFa2.out rfl hN
        subst f5 f6
        clear HFa1 HFa2
        obtain ⟨c9_0, c9_1, c9_2, c9_3, c9_4⟩ := Xa.out
        try dsimp only at c9_0 c9_1 c9_2 c9_3 c9_4
        go_wp2_with fail
        generalize (w8.alloc (.cells #[.int .i64 za.guest, .slice arA arn arc, .slice asA asn asc, .slice afA afn afc, .slice apA apn apc] 26)) = W10 at *
        refine (Pa.out _ _ Ia.out).mono ?_
        rintro e w11 ⟨Ax, nx, cx, rfl, ho, hb, hnc, hcm⟩
        clear c9_0 c9_1 c9_2 c9_3 c9_4
        have T' := Lib.hid (below_next T.out hb)
        have XM' := Lib.hid (XM.out.keep hb LM.out)
        have LM' := Lib.hid (Nat.lt_of_lt_of_le LM.out hb.size)
        have Rm' := Lib.hid (Rm.out.next hb)
        have Ro' := Lib.hid (Ro.out.next hb)
        have Xa' := Lib.hid (Xa.out.keep hb La.out)
        have La' := Lib.hid (Nat.lt_of_lt_of_le La.out hb.size)
        have Ia' := Lib.hid (Ia.out.next hb)
        clear T XM LM Rm Ro Xa La Ia hb
        have T := T'
        have XM := XM'
        have LM := LM'
        have Rm := Rm'
        have Ro := Ro'
        have Xa := Xa'
        have La := La'
        have Ia := Ia'
        clear T' XM' LM' Rm' Ro' Xa' La' Ia'
        have hr := own_strsS ho E1
        clear ho hnc hcm
        have Rx := Lib.hid hr.2
        have hnx := hr.1
        clear hr
        obtain ⟨c12_0, c12_1, c12_2, c12_3, c12_4⟩ := Xa.out
        try dsimp only at c12_0 c12_1 c12_2 c12_3 c12_4
        go_wp2_with fail
        refine (Qa.out _ _ Ia.out).mono ?_
        rintro e w13 ⟨Ay, ny, cy, rfl, ho, hb, hnc, hcm⟩
        clear c12_0 c12_1 c12_2 c12_3 c12_4
        have T' := Lib.hid (below_next T.out hb)
        have XM' := Lib.hid (XM.out.keep hb LM.out)
        have LM' := Lib.hid (Nat.lt_of_lt_of_le LM.out hb.size)
        have Rm' := Lib.hid (Rm.out.next hb)
        have Ro' := Lib.hid (Ro.out.next hb)
        have Xa' := Lib.hid (Xa.out.keep hb La.out)
        have La' := Lib.hid (Nat.lt_of_lt_of_le La.out hb.size)
        have Ia' := Lib.hid (Ia.out.next hb)
        have Rx' := Lib.hid (Rx.out.next hb)
        clear T XM LM Rm Ro Xa La Ia Rx hb
        have T := T'
        have XM := XM'
        have LM := LM'
        have Rm := Rm'
        have Ro := Ro'
        have Xa := Xa'
        have La := La'
        have Ia := Ia'
        have Rx := Rx'
        clear T' XM' LM' Rm' Ro' Xa' La' Ia' Rx'
        have hr := own_strsS ho E1
        clear ho hnc hcm
        have Ry := Lib.hid hr.2
        have hny := hr.1
        clear hr
        obtain ⟨c14_0, c14_1, c14_2, c14_3, c14_4⟩ := Xa.out
        try dsimp only at c14_0 c14_1 c14_2 c14_3 c14_4
        go_wp2_with fail
        refine (Sa.out _ _ Ia.out).mono ?_
        rintro e w15 ⟨Az, nz, cz, rfl, ho, hb, hnc, hcm⟩
        clear c14_0 c14_1 c14_2 c14_3 c14_4
        have T' := Lib.hid (below_next T.out hb)
        have XM' := Lib.hid (XM.out.keep hb LM.out)
        have LM' := Lib.hid (Nat.lt_of_lt_of_le LM.out hb.size)
        have Rm' := Lib.hid (Rm.out.next hb)
        have Ro' := Lib.hid (Ro.out.next hb)
        have Xa' := Lib.hid (Xa.out.keep hb La.out)
        have La' := Lib.hid (Nat.lt_of_lt_of_le La.out hb.size)
        have Ia' := Lib.hid (Ia.out.next hb)
        have Rx' := Lib.hid (Rx.out.next hb)
        have Ry' := Lib.hid (Ry.out.next hb)
        clear T XM LM Rm Ro Xa La Ia Rx Ry hb
        have T := T'
        have XM := XM'
        have LM := LM'
        have Rm := Rm'
        have Ro := Ro'
        have Xa := Xa'
        have La := La'
        have Ia := Ia'
        have Rx := Rx'
        have Ry := Ry'
        clear T' XM' LM' Rm' Ro' Xa' La' Ia' Rx' Ry'
        have hr := own_strsS ho E2
        clear ho hnc hcm
        have Rz := Lib.hid hr.2
        have hnz := hr.1
        clear hr
        go_wp2_with fail
        refine (samePages_any Ax Am _ _ cx cm _ _ _ Rx.out Rm.out hnx hnm).mono ?_
        rintro e w16 ⟨rfl, hb⟩
        have T' := Lib.hid (below_next T.out hb)
        have XM' := Lib.hid (XM.out.keep hb LM.out)
        have LM' := Lib.hid (Nat.lt_of_lt_of_le LM.out hb.size)
        have Rm' := Lib.hid (Rm.out.next hb)
        have Ro' := Lib.hid (Ro.out.next hb)
        have Xa' := Lib.hid (Xa.out.keep hb La.out)
        have La' := Lib.hid (Nat.lt_of_lt_of_le La.out hb.size)
        have Ia' := Lib.hid (Ia.out.next hb)
        have Rx' := Lib.hid (Rx.out.next hb)
        have Ry' := Lib.hid (Ry.out.next hb)
        have Rz' := Lib.hid (Rz.out.next hb)
        clear T XM LM Rm Ro Xa La Ia Rx Ry Rz hb
        have T := T'
        have XM := XM'
        have LM := LM'
        have Rm := Rm'
        have Ro := Ro'
        have Xa := Xa'
        have La := La'
        have Ia := Ia'
        have Rx := Rx'
        have Ry := Ry'
        have Rz := Rz'
        clear T' XM' LM' Rm' Ro' Xa' La' Ia' Rx' Ry' Rz'
        try simp only [decide_true]
        go_wp2_with fail
        refine (samePages_any Ay Am _ _ cy cm _ _ _ Ry.out Rm.out hny hnm).mono ?_
        rintro e w17 ⟨rfl, hb⟩
        have T' := Lib.hid (below_next T.out hb)
        have XM' := Lib.hid (XM.out.keep hb LM.out)
        have LM' := Lib.hid (Nat.lt_of_lt_of_le LM.out hb.size)
        have Rm' := Lib.hid (Rm.out.next hb)
        have Ro' := Lib.hid (Ro.out.next hb)
        have Xa' := Lib.hid (Xa.out.keep hb La.out)
        have La' := Lib.hid (Nat.lt_of_lt_of_le La.out hb.size)
        have Ia' := Lib.hid (Ia.out.next hb)
        have Rx' := Lib.hid (Rx.out.next hb)
        have Ry' := Lib.hid (Ry.out.next hb)
        have Rz' := Lib.hid (Rz.out.next hb)
        clear T XM LM Rm Ro Xa La Ia Rx Ry Rz hb
        have T := T'
        have XM := XM'
        have LM := LM'
        have Rm := Rm'
        have Ro := Ro'
        have Xa := Xa'
        have La := La'
        have Ia := Ia'
        have Rx := Rx'
        have Ry := Ry'
        have Rz := Rz'
        clear T' XM' LM' Rm' Ro' Xa' La' Ia' Rx' Ry' Rz'
        try simp only [decide_true]
        go_wp2_with fail
        refine (samePages_any Az Ao _ _ cz co _ _ _ Rz.out Ro.out hnz hno).mono ?_
        rintro e w18 ⟨rfl, hb⟩
        have T' := Lib.hid (below_next T.out hb)
        have XM' := Lib.hid (XM.out.keep hb LM.out)
        have LM' := Lib.hid (Nat.lt_of_lt_of_le LM.out hb.size)
        have Rm' := Lib.hid (Rm.out.next hb)
        have Ro' := Lib.hid (Ro.out.next hb)
        have Xa' := Lib.hid (Xa.out.keep hb La.out)
        have La' := Lib.hid (Nat.lt_of_lt_of_le La.out hb.size)
        have Ia' := Lib.hid (Ia.out.next hb)
        have Rx' := Lib.hid (Rx.out.next hb)
        have Ry' := Lib.hid (Ry.out.next hb)
        have Rz' := Lib.hid (Rz.out.next hb)
        clear T XM LM Rm Ro Xa La Ia Rx Ry Rz hb
        have T := T'
        have XM := XM'
        have LM := LM'
        have Rm := Rm'
        have Ro := Ro'
        have Xa := Xa'
        have La := La'
        have Ia := Ia'
        have Rx := Rx'
        have Ry := Ry'
        have Rz := Rz'
        clear T' XM' LM' Rm' Ro' Xa' La' Ia' Rx' Ry' Rz'
        try simp only [decide_true]
        clear Xa La Ia
        obtain ⟨c19_0, c19_1, c19_2, c19_3, c19_4⟩ := XM.out
        try dsimp only at c19_0 c19_1 c19_2 c19_3 c19_4
        go_wp2_with fail
        refine (Kb.out _ T.out).mono ?_
        rintro e w20 ⟨v, rfl, hF, hb⟩
        clear c19_0 c19_1 c19_2 c19_3 c19_4
        have T' := Lib.hid (below_next T.out hb)
        have XM' := Lib.hid (XM.out.keep hb LM.out)
        have LM' := Lib.hid (Nat.lt_of_lt_of_le LM.out hb.size)
        have Rm' := Lib.hid (Rm.out.next hb)
        have Ro' := Lib.hid (Ro.out.next hb)
        have Rx' := Lib.hid (Rx.out.next hb)
        have Ry' := Lib.hid (Ry.out.next hb)
        have Rz' := Lib.hid (Rz.out.next hb)
        clear T XM LM Rm Ro Rx Ry Rz hb
        have T := T'
        have XM := XM'
        have LM := LM'
        have Rm := Rm'
        have Ro := Ro'
        have Rx := Rx'
        have Ry := Ry'
        have Rz := Rz'
        clear T' XM' LM' Rm' Ro' Rx' Ry' Rz'
        have hx := Box.new w20 zb.guest v 26
        have b1 := below1 w20 (.cells #[.int .i64 zb.guest, .slice v.rA v.rn v.rc, .slice v.sA v.sn v.sc, .slice v.fA v.fn v.fc, .slice v.pA v.pn v.pc] 26)
        have hi2 := hF.imgR.next b1
        have hlt : w20.heap.size < (w20.alloc (.cells #[.int .i64 zb.guest, .slice v.rA v.rn v.rc, .slice v.sA v.sn v.sc, .slice v.fA v.fn v.fc, .slice v.pA v.pn v.pc] 26)).heap.size := by simp
        have T' := Lib.hid (below_next T.out b1)
        have XM' := Lib.hid (XM.out.keep b1 LM.out)
        have LM' := Lib.hid (Nat.lt_of_lt_of_le LM.out b1.size)
        have Rm' := Lib.hid (Rm.out.next b1)
        have Ro' := Lib.hid (Ro.out.next b1)
        have Rx' := Lib.hid (Rx.out.next b1)
        have Ry' := Lib.hid (Ry.out.next b1)
        have Rz' := Lib.hid (Rz.out.next b1)
        clear T XM LM Rm Ro Rx Ry Rz b1
        have T := T'
        have XM := XM'
        have LM := LM'
        have Rm := Rm'
        have Ro := Ro'
        have Rx := Rx'
        have Ry := Ry'
        have Rz := Rz'
        clear T' XM' LM' Rm' Ro' Rx' Ry' Rz'
        obtain ⟨brA, brn, brc, bsA, bsn, bsc, bfA, bfn, bfc, bpA, bpn, bpc⟩ := v
        have Ib := Lib.hid hi2
        have Xb := Lib.hid hx
        have Lb := Lib.hid hlt
        dsimp only [imgV] at Ib Xb Lb T XM LM Rm Ro Rx Ry Rz ⊢
        clear hF hx hi2 hlt
        rcases Cpo with h2 | h2
        · subst h2
          obtain ⟨f1, f2, f3, f4⟩ := Fb.out rfl
          subst f1 f2 f3 f4
          clear Fb
          obtain ⟨c21_0, c21_1, c21_2, c21_3, c21_4⟩ := Xb.out
          try dsimp only at c21_0 c21_1 c21_2 c21_3 c21_4
          go_wp2_with fail
          generalize (w20.alloc (.cells #[.int .i64 zb.guest, .slice brA brn brc, .slice bsA bsn bsc, .slice bfA bfn bfc, .slice bpA bpn bpc] 26)) = W22 at *
          refine (Qb.out _ _ Ib.out).mono ?_
          rintro e w23 ⟨As, ns, cs, rfl, ho, hb, hnc, hcm⟩
          clear c21_0 c21_1 c21_2 c21_3 c21_4
          have T' := Lib.hid (below_next T.out hb)
          have XM' := Lib.hid (XM.out.keep hb LM.out)
          have LM' := Lib.hid (Nat.lt_of_lt_of_le LM.out hb.size)
          have Rm' := Lib.hid (Rm.out.next hb)
          have Ro' := Lib.hid (Ro.out.next hb)
          have Rx' := Lib.hid (Rx.out.next hb)
          have Ry' := Lib.hid (Ry.out.next hb)
          have Rz' := Lib.hid (Rz.out.next hb)
          have Xb' := Lib.hid (Xb.out.keep hb Lb.out)
          have Lb' := Lib.hid (Nat.lt_of_lt_of_le Lb.out hb.size)
          have Ib' := Lib.hid (Ib.out.next hb)
          clear T XM LM Rm Ro Rx Ry Rz Xb Lb Ib hb
          have T := T'
          have XM := XM'
          have LM := LM'
          have Rm := Rm'
          have Ro := Ro'
          have Rx := Rx'
          have Ry := Ry'
          have Rz := Rz'
          have Xb := Xb'
          have Lb := Lb'
          have Ib := Ib'
          clear T' XM' LM' Rm' Ro' Rx' Ry' Rz' Xb' Lb' Ib'
          have hr := own_strsS ho E2
          clear ho hnc hcm
          have Rs := Lib.hid hr.2
          have hns := hr.1
          clear hr
          obtain ⟨c24_0, c24_1, c24_2, c24_3, c24_4⟩ := Xb.out
          try dsimp only at c24_0 c24_1 c24_2 c24_3 c24_4
          go_wp2_with fail
          refine (Sb.out _ _ Ib.out).mono ?_
          rintro e w25 ⟨At, nt, ct, rfl, ho, hb, hnc, hcm⟩
          clear c24_0 c24_1 c24_2 c24_3 c24_4
          have T' := Lib.hid (below_next T.out hb)
          have XM' := Lib.hid (XM.out.keep hb LM.out)
          have LM' := Lib.hid (Nat.lt_of_lt_of_le LM.out hb.size)
          have Rm' := Lib.hid (Rm.out.next hb)
          have Ro' := Lib.hid (Ro.out.next hb)
          have Rx' := Lib.hid (Rx.out.next hb)
          have Ry' := Lib.hid (Ry.out.next hb)
          have Rz' := Lib.hid (Rz.out.next hb)
          have Xb' := Lib.hid (Xb.out.keep hb Lb.out)
          have Lb' := Lib.hid (Nat.lt_of_lt_of_le Lb.out hb.size)
          have Ib' := Lib.hid (Ib.out.next hb)
          have Rs' := Lib.hid (Rs.out.next hb)
          clear T XM LM Rm Ro Rx Ry Rz Xb Lb Ib Rs hb
          have T := T'
          have XM := XM'
          have LM := LM'
          have Rm := Rm'
          have Ro := Ro'
          have Rx := Rx'
          have Ry := Ry'
          have Rz := Rz'
          have Xb := Xb'
          have Lb := Lb'
          have Ib := Ib'
          have Rs := Rs'
          clear T' XM' LM' Rm' Ro' Rx' Ry' Rz' Xb' Lb' Ib' Rs'
          have hr := own_strsS ho E2
          clear ho hnc hcm
          have Rt := Lib.hid hr.2
          have hnt := hr.1
          clear hr
          go_wp2_with fail
          refine (samePages_any As Ao _ _ cs co _ _ _ Rs.out Ro.out hns hno).mono ?_
          rintro e w26 ⟨rfl, hb⟩
          have T' := Lib.hid (below_next T.out hb)
          have XM' := Lib.hid (XM.out.keep hb LM.out)
          have LM' := Lib.hid (Nat.lt_of_lt_of_le LM.out hb.size)
          have Rm' := Lib.hid (Rm.out.next hb)
          have Ro' := Lib.hid (Ro.out.next hb)
          have Rx' := Lib.hid (Rx.out.next hb)
          have Ry' := Lib.hid (Ry.out.next hb)
          have Rz' := Lib.hid (Rz.out.next hb)
          have Xb' := Lib.hid (Xb.out.keep hb Lb.out)
          have Lb' := Lib.hid (Nat.lt_of_lt_of_le Lb.out hb.size)
          have Ib' := Lib.hid (Ib.out.next hb)
          have Rs' := Lib.hid (Rs.out.next hb)
          have Rt' := Lib.hid (Rt.out.next hb)
          clear T XM LM Rm Ro Rx Ry Rz Xb Lb Ib Rs Rt hb
          have T := T'
          have XM := XM'
          have LM := LM'
          have Rm := Rm'
          have Ro := Ro'
          have Rx := Rx'
          have Ry := Ry'
          have Rz := Rz'
          have Xb := Xb'
          have Lb := Lb'
          have Ib := Ib'
          have Rs := Rs'
          have Rt := Rt'
          clear T' XM' LM' Rm' Ro' Rx' Ry' Rz' Xb' Lb' Ib' Rs' Rt'
          try simp only [decide_true]
          go_wp2_with fail
          refine (samePages_any At Ao _ _ ct co _ _ _ Rt.out Ro.out hnt hno).mono ?_
          rintro e w27 ⟨rfl, hb⟩
          have T' := Lib.hid (below_next T.out hb)
          have XM' := Lib.hid (XM.out.keep hb LM.out)
          have LM' := Lib.hid (Nat.lt_of_lt_of_le LM.out hb.size)
          have Rm' := Lib.hid (Rm.out.next hb)
          have Ro' := Lib.hid (Ro.out.next hb)
          have Rx' := Lib.hid (Rx.out.next hb)
          have Ry' := Lib.hid (Ry.out.next hb)
          have Rz' := Lib.hid (Rz.out.next hb)
          have Xb' := Lib.hid (Xb.out.keep hb Lb.out)
          have Lb' := Lib.hid (Nat.lt_of_lt_of_le Lb.out hb.size)
          have Ib' := Lib.hid (Ib.out.next hb)
          have Rs' := Lib.hid (Rs.out.next hb)
          have Rt' := Lib.hid (Rt.out.next hb)
          clear T XM LM Rm Ro Rx Ry Rz Xb Lb Ib Rs Rt hb
          have T := T'
          have XM := XM'
          have LM := LM'
          have Rm := Rm'
          have Ro := Ro'
          have Rx := Rx'
          have Ry := Ry'
          have Rz := Rz'
          have Xb := Xb'
          have Lb := Lb'
          have Ib := Ib'
          have Rs := Rs'
          have Rt := Rt'
          clear T' XM' LM' Rm' Ro' Rx' Ry' Rz' Xb' Lb' Ib' Rs' Rt'
          try simp only [decide_true]
          clear Xb Lb Ib
          obtain ⟨c28_0, c28_1, c28_2, c28_3, c28_4⟩ := XM.out
          try dsimp only at c28_0 c28_1 c28_2 c28_3 c28_4
          go_wp2_with fail
          refine (Kc.out _ T.out).mono ?_
          rintro e w29 ⟨v, rfl, hF, hb⟩
          clear c28_0 c28_1 c28_2 c28_3 c28_4
          have T' := Lib.hid (below_next T.out hb)
          have XM' := Lib.hid (XM.out.keep hb LM.out)
          have LM' := Lib.hid (Nat.lt_of_lt_of_le LM.out hb.size)
          have Rm' := Lib.hid (Rm.out.next hb)
          have Ro' := Lib.hid (Ro.out.next hb)
          have Rx' := Lib.hid (Rx.out.next hb)
          have Ry' := Lib.hid (Ry.out.next hb)
          have Rz' := Lib.hid (Rz.out.next hb)
          have Rs' := Lib.hid (Rs.out.next hb)
          have Rt' := Lib.hid (Rt.out.next hb)
          clear T XM LM Rm Ro Rx Ry Rz Rs Rt hb
          have T := T'
          have XM := XM'
          have LM := LM'
          have Rm := Rm'
          have Ro := Ro'
          have Rx := Rx'
          have Ry := Ry'
          have Rz := Rz'
          have Rs := Rs'
          have Rt := Rt'
          clear T' XM' LM' Rm' Ro' Rx' Ry' Rz' Rs' Rt'
          have hx := Box.new w29 zc.guest v 26
          have b1 := below1 w29 (.cells #[.int .i64 zc.guest, .slice v.rA v.rn v.rc, .slice v.sA v.sn v.sc, .slice v.fA v.fn v.fc, .slice v.pA v.pn v.pc] 26)
          have hi2 := hF.imgR.next b1
          have hlt : w29.heap.size < (w29.alloc (.cells #[.int .i64 zc.guest, .slice v.rA v.rn v.rc, .slice v.sA v.sn v.sc, .slice v.fA v.fn v.fc, .slice v.pA v.pn v.pc] 26)).heap.size := by simp
          have T' := Lib.hid (below_next T.out b1)
          have XM' := Lib.hid (XM.out.keep b1 LM.out)
          have LM' := Lib.hid (Nat.lt_of_lt_of_le LM.out b1.size)
          have Rm' := Lib.hid (Rm.out.next b1)
          have Ro' := Lib.hid (Ro.out.next b1)
          have Rx' := Lib.hid (Rx.out.next b1)
          have Ry' := Lib.hid (Ry.out.next b1)
          have Rz' := Lib.hid (Rz.out.next b1)
          have Rs' := Lib.hid (Rs.out.next b1)
          have Rt' := Lib.hid (Rt.out.next b1)
          clear T XM LM Rm Ro Rx Ry Rz Rs Rt b1
          have T := T'
          have XM := XM'
          have LM := LM'
          have Rm := Rm'
          have Ro := Ro'
          have Rx := Rx'
          have Ry := Ry'
          have Rz := Rz'
          have Rs := Rs'
          have Rt := Rt'
          clear T' XM' LM' Rm' Ro' Rx' Ry' Rz' Rs' Rt'
          obtain ⟨crA, crn, crc, csA, csn, csc, cfA, cfn, cfc, cpA, cpn, cpc⟩ := v
          have Ic := Lib.hid hi2
          have Xc := Lib.hid hx
          have Lc := Lib.hid hlt
          dsimp only [imgV] at Ic Xc Lc T XM LM Rm Ro Rx Ry Rz Rs Rt ⊢
          clear hF hx hi2 hlt
          rcases Cpn' with h3 | h3
          · subst h3
            obtain ⟨f1, f2, f3⟩ := HFc1.out rfl
            subst f1 f2 f3
            obtain ⟨f5, f6⟩ := HFc2.out rfl hN
            subst f5 f6
            clear HFc1 HFc2
            obtain ⟨c30_0, c30_1, c30_2, c30_3, c30_4⟩ := Xc.out
            try dsimp only at c30_0 c30_1 c30_2 c30_3 c30_4
            go_wp2_with fail
            generalize (w29.alloc (.cells #[.int .i64 zc.guest, .slice crA crn crc, .slice csA csn csc, .slice cfA cfn cfc, .slice cpA cpn cpc] 26)) = W31 at *
            refine (Qc.out _ _ Ic.out).mono ?_
            rintro e w32 ⟨Ap, np, cp, rfl, ho, hb, hnc, hcm⟩
            clear c30_0 c30_1 c30_2 c30_3 c30_4
            have T' := Lib.hid (below_next T.out hb)
            have XM' := Lib.hid (XM.out.keep hb LM.out)
            have LM' := Lib.hid (Nat.lt_of_lt_of_le LM.out hb.size)
            have Rm' := Lib.hid (Rm.out.next hb)
            have Ro' := Lib.hid (Ro.out.next hb)
            have Rx' := Lib.hid (Rx.out.next hb)
            have Ry' := Lib.hid (Ry.out.next hb)
            have Rz' := Lib.hid (Rz.out.next hb)
            have Rs' := Lib.hid (Rs.out.next hb)
            have Rt' := Lib.hid (Rt.out.next hb)
            have Xc' := Lib.hid (Xc.out.keep hb Lc.out)
            have Lc' := Lib.hid (Nat.lt_of_lt_of_le Lc.out hb.size)
            have Ic' := Lib.hid (Ic.out.next hb)
            clear T XM LM Rm Ro Rx Ry Rz Rs Rt Xc Lc Ic hb
            have T := T'
            have XM := XM'
            have LM := LM'
            have Rm := Rm'
            have Ro := Ro'
            have Rx := Rx'
            have Ry := Ry'
            have Rz := Rz'
            have Rs := Rs'
            have Rt := Rt'
            have Xc := Xc'
            have Lc := Lc'
            have Ic := Ic'
            clear T' XM' LM' Rm' Ro' Rx' Ry' Rz' Rs' Rt' Xc' Lc' Ic'
            have hr := own_strsS ho E1
            clear ho hnc hcm
            have Rp := Lib.hid hr.2
            have hnp := hr.1
            clear hr
            obtain ⟨c33_0, c33_1, c33_2, c33_3, c33_4⟩ := Xc.out
            try dsimp only at c33_0 c33_1 c33_2 c33_3 c33_4
            go_wp2_with fail
            refine (Pc.out _ _ Ic.out).mono ?_
            rintro e w34 ⟨Aq, nq, cq, rfl, ho, hb, hnc, hcm⟩
            clear c33_0 c33_1 c33_2 c33_3 c33_4
            have T' := Lib.hid (below_next T.out hb)
            have XM' := Lib.hid (XM.out.keep hb LM.out)
            have LM' := Lib.hid (Nat.lt_of_lt_of_le LM.out hb.size)
            have Rm' := Lib.hid (Rm.out.next hb)
            have Ro' := Lib.hid (Ro.out.next hb)
            have Rx' := Lib.hid (Rx.out.next hb)
            have Ry' := Lib.hid (Ry.out.next hb)
            have Rz' := Lib.hid (Rz.out.next hb)
            have Rs' := Lib.hid (Rs.out.next hb)
            have Rt' := Lib.hid (Rt.out.next hb)
            have Xc' := Lib.hid (Xc.out.keep hb Lc.out)
            have Lc' := Lib.hid (Nat.lt_of_lt_of_le Lc.out hb.size)
            have Ic' := Lib.hid (Ic.out.next hb)
            have Rp' := Lib.hid (Rp.out.next hb)
            clear T XM LM Rm Ro Rx Ry Rz Rs Rt Xc Lc Ic Rp hb
            have T := T'
            have XM := XM'
            have LM := LM'
            have Rm := Rm'
            have Ro := Ro'
            have Rx := Rx'
            have Ry := Ry'
            have Rz := Rz'
            have Rs := Rs'
            have Rt := Rt'
            have Xc := Xc'
            have Lc := Lc'
            have Ic := Ic'
            have Rp := Rp'
            clear T' XM' LM' Rm' Ro' Rx' Ry' Rz' Rs' Rt' Xc' Lc' Ic' Rp'
            have hr := own_strsS ho E3
            clear ho hnc hcm
            have Rq := Lib.hid hr.2
            have hnq := hr.1
            clear hr
            obtain ⟨c35_0, c35_1, c35_2, c35_3, c35_4⟩ := Xc.out
            try dsimp only at c35_0 c35_1 c35_2 c35_3 c35_4
            go_wp2_with fail
            refine (Sc.out _ _ Ic.out).mono ?_
            rintro e w36 ⟨Ar, nr, cr, rfl, ho, hb, hnc, hcm⟩
            clear c35_0 c35_1 c35_2 c35_3 c35_4
            have T' := Lib.hid (below_next T.out hb)
            have XM' := Lib.hid (XM.out.keep hb LM.out)
            have LM' := Lib.hid (Nat.lt_of_lt_of_le LM.out hb.size)
            have Rm' := Lib.hid (Rm.out.next hb)
            have Ro' := Lib.hid (Ro.out.next hb)
            have Rx' := Lib.hid (Rx.out.next hb)
            have Ry' := Lib.hid (Ry.out.next hb)
            have Rz' := Lib.hid (Rz.out.next hb)
            have Rs' := Lib.hid (Rs.out.next hb)
            have Rt' := Lib.hid (Rt.out.next hb)
            have Xc' := Lib.hid (Xc.out.keep hb Lc.out)
            have Lc' := Lib.hid (Nat.lt_of_lt_of_le Lc.out hb.size)
            have Ic' := Lib.hid (Ic.out.next hb)
            have Rp' := Lib.hid (Rp.out.next hb)
            have Rq' := Lib.hid (Rq.out.next hb)
            clear T XM LM Rm Ro Rx Ry Rz Rs Rt Xc Lc Ic Rp Rq hb
            have T := T'
            have XM := XM'
            have LM := LM'
            have Rm := Rm'
            have Ro := Ro'
            have Rx := Rx'
            have Ry := Ry'
            have Rz := Rz'
            have Rs := Rs'
            have Rt := Rt'
            have Xc := Xc'
            have Lc := Lc'
            have Ic := Ic'
            have Rp := Rp'
            have Rq := Rq'
            clear T' XM' LM' Rm' Ro' Rx' Ry' Rz' Rs' Rt' Xc' Lc' Ic' Rp' Rq'
            have hr := own_strsS ho E2
            clear ho hnc hcm
            have Rr := Lib.hid hr.2
            have hnr := hr.1
            clear hr
            go_wp2_with fail
            refine (snapsBegun_any _).mono ?_
            rintro e w37 ⟨rfl, hb⟩
            have T' := Lib.hid (below_next T.out hb)
            have XM' := Lib.hid (XM.out.keep hb LM.out)
            have LM' := Lib.hid (Nat.lt_of_lt_of_le LM.out hb.size)
            have Rm' := Lib.hid (Rm.out.next hb)
            have Ro' := Lib.hid (Ro.out.next hb)
            have Rx' := Lib.hid (Rx.out.next hb)
            have Ry' := Lib.hid (Ry.out.next hb)
            have Rz' := Lib.hid (Rz.out.next hb)
            have Rs' := Lib.hid (Rs.out.next hb)
            have Rt' := Lib.hid (Rt.out.next hb)
            have Xc' := Lib.hid (Xc.out.keep hb Lc.out)
            have Lc' := Lib.hid (Nat.lt_of_lt_of_le Lc.out hb.size)
            have Ic' := Lib.hid (Ic.out.next hb)
            have Rp' := Lib.hid (Rp.out.next hb)
            have Rq' := Lib.hid (Rq.out.next hb)
            have Rr' := Lib.hid (Rr.out.next hb)
            clear T XM LM Rm Ro Rx Ry Rz Rs Rt Xc Lc Ic Rp Rq Rr hb
            have T := T'
            have XM := XM'
            have LM := LM'
            have Rm := Rm'
            have Ro := Ro'
            have Rx := Rx'
            have Ry := Ry'
            have Rz := Rz'
            have Rs := Rs'
            have Rt := Rt'
            have Xc := Xc'
            have Lc := Lc'
            have Ic := Ic'
            have Rp := Rp'
            have Rq := Rq'
            have Rr := Rr'
            clear T' XM' LM' Rm' Ro' Rx' Ry' Rz' Rs' Rt' Xc' Lc' Ic' Rp' Rq' Rr'
            go_wp2_with fail
            refine (samePages_any Ap Am _ _ cp cm _ _ _ Rp.out Rm.out hnp hnm).mono ?_
            rintro e w38 ⟨rfl, hb⟩
            have T' := Lib.hid (below_next T.out hb)
            have XM' := Lib.hid (XM.out.keep hb LM.out)
            have LM' := Lib.hid (Nat.lt_of_lt_of_le LM.out hb.size)
            have Rm' := Lib.hid (Rm.out.next hb)
            have Ro' := Lib.hid (Ro.out.next hb)
            have Rx' := Lib.hid (Rx.out.next hb)
            have Ry' := Lib.hid (Ry.out.next hb)
            have Rz' := Lib.hid (Rz.out.next hb)
            have Rs' := Lib.hid (Rs.out.next hb)
            have Rt' := Lib.hid (Rt.out.next hb)
            have Xc' := Lib.hid (Xc.out.keep hb Lc.out)
            have Lc' := Lib.hid (Nat.lt_of_lt_of_le Lc.out hb.size)
            have Ic' := Lib.hid (Ic.out.next hb)
            have Rp' := Lib.hid (Rp.out.next hb)
            have Rq' := Lib.hid (Rq.out.next hb)
            have Rr' := Lib.hid (Rr.out.next hb)
            clear T XM LM Rm Ro Rx Ry Rz Rs Rt Xc Lc Ic Rp Rq Rr hb
            have T := T'
            have XM := XM'
            have LM := LM'
            have Rm := Rm'
            have Ro := Ro'
            have Rx := Rx'
            have Ry := Ry'
            have Rz := Rz'
            have Rs := Rs'
            have Rt := Rt'
            have Xc := Xc'
            have Lc := Lc'
            have Ic := Ic'
            have Rp := Rp'
            have Rq := Rq'
            have Rr := Rr'
            clear T' XM' LM' Rm' Ro' Rx' Ry' Rz' Rs' Rt' Xc' Lc' Ic' Rp' Rq' Rr'
            try simp only [decide_true]
            go_wp2_with fail
            refine (samePages_any Ar Ao _ _ cr co _ _ _ Rr.out Ro.out hnr hno).mono ?_
            rintro e w39 ⟨rfl, hb⟩
            have T' := Lib.hid (below_next T.out hb)
            have XM' := Lib.hid (XM.out.keep hb LM.out)
            have LM' := Lib.hid (Nat.lt_of_lt_of_le LM.out hb.size)
            have Rm' := Lib.hid (Rm.out.next hb)
            have Ro' := Lib.hid (Ro.out.next hb)
            have Rx' := Lib.hid (Rx.out.next hb)
            have Ry' := Lib.hid (Ry.out.next hb)
            have Rz' := Lib.hid (Rz.out.next hb)
            have Rs' := Lib.hid (Rs.out.next hb)
            have Rt' := Lib.hid (Rt.out.next hb)
            have Xc' := Lib.hid (Xc.out.keep hb Lc.out)
            have Lc' := Lib.hid (Nat.lt_of_lt_of_le Lc.out hb.size)
            have Ic' := Lib.hid (Ic.out.next hb)
            have Rp' := Lib.hid (Rp.out.next hb)
            have Rq' := Lib.hid (Rq.out.next hb)
            have Rr' := Lib.hid (Rr.out.next hb)
            clear T XM LM Rm Ro Rx Ry Rz Rs Rt Xc Lc Ic Rp Rq Rr hb
            have T := T'
            have XM := XM'
            have LM := LM'
            have Rm := Rm'
            have Ro := Ro'
            have Rx := Rx'
            have Ry := Ry'
            have Rz := Rz'
            have Rs := Rs'
            have Rt := Rt'
            have Xc := Xc'
            have Lc := Lc'
            have Ic := Ic'
            have Rp := Rp'
            have Rq := Rq'
            have Rr := Rr'
            clear T' XM' LM' Rm' Ro' Rx' Ry' Rz' Rs' Rt' Xc' Lc' Ic' Rp' Rq' Rr'
            try simp only [decide_true]
            go_wp2_with fail
            go_ret
            exact ⟨rfl, T.out⟩
          · obtain ⟨h3, h3'⟩ := h3
            go_wp2_with fail
            generalize (w29.alloc (.cells #[.int .i64 zc.guest, .slice crA crn crc, .slice csA csn csc, .slice cfA cfn cfc, .slice cpA cpn cpc] 26)) = W30 at *
            refine (snapsBegun_any _).mono ?_
            rintro e w31 ⟨rfl, hb⟩
            have T' := Lib.hid (below_next T.out hb)
            have XM' := Lib.hid (XM.out.keep hb LM.out)
            have LM' := Lib.hid (Nat.lt_of_lt_of_le LM.out hb.size)
            have Rm' := Lib.hid (Rm.out.next hb)
            have Ro' := Lib.hid (Ro.out.next hb)
            have Rx' := Lib.hid (Rx.out.next hb)
            have Ry' := Lib.hid (Ry.out.next hb)
            have Rz' := Lib.hid (Rz.out.next hb)
            have Rs' := Lib.hid (Rs.out.next hb)
            have Rt' := Lib.hid (Rt.out.next hb)
            have Xc' := Lib.hid (Xc.out.keep hb Lc.out)
            have Lc' := Lib.hid (Nat.lt_of_lt_of_le Lc.out hb.size)
            have Ic' := Lib.hid (Ic.out.next hb)
            clear T XM LM Rm Ro Rx Ry Rz Rs Rt Xc Lc Ic hb
            have T := T'
            have XM := XM'
            have LM := LM'
            have Rm := Rm'
            have Ro := Ro'
            have Rx := Rx'
            have Ry := Ry'
            have Rz := Rz'
            have Rs := Rs'
            have Rt := Rt'
            have Xc := Xc'
            have Lc := Lc'
            have Ic := Ic'
            clear T' XM' LM' Rm' Ro' Rx' Ry' Rz' Rs' Rt' Xc' Lc' Ic'
            go_wp2_with fail
            go_ret
            exact ⟨rfl, T.out⟩
        · obtain ⟨h2, h2'⟩ := h2
          clear Fb
          clear Xb Lb Ib
          obtain ⟨c21_0, c21_1, c21_2, c21_3, c21_4⟩ := XM.out
          try dsimp only at c21_0 c21_1 c21_2 c21_3 c21_4
          go_wp2_with fail
          generalize (w20.alloc (.cells #[.int .i64 zb.guest, .slice brA brn brc, .slice bsA bsn bsc, .slice bfA bfn bfc, .slice bpA bpn bpc] 26)) = W22 at *
          refine (Kc.out _ T.out).mono ?_
          rintro e w23 ⟨v, rfl, hF, hb⟩
          clear c21_0 c21_1 c21_2 c21_3 c21_4
          have T' := Lib.hid (below_next T.out hb)
          have XM' := Lib.hid (XM.out.keep hb LM.out)
          have LM' := Lib.hid (Nat.lt_of_lt_of_le LM.out hb.size)
          have Rm' := Lib.hid (Rm.out.next hb)
          have Ro' := Lib.hid (Ro.out.next hb)
          have Rx' := Lib.hid (Rx.out.next hb)
          have Ry' := Lib.hid (Ry.out.next hb)
          have Rz' := Lib.hid (Rz.out.next hb)
          clear T XM LM Rm Ro Rx Ry Rz hb
          have T := T'
          have XM := XM'
          have LM := LM'
          have Rm := Rm'
          have Ro := Ro'
          have Rx := Rx'
          have Ry := Ry'
          have Rz := Rz'
          clear T' XM' LM' Rm' Ro' Rx' Ry' Rz'
          have hx := Box.new w23 zc.guest v 26
          have b1 := below1 w23 (.cells #[.int .i64 zc.guest, .slice v.rA v.rn v.rc, .slice v.sA v.sn v.sc, .slice v.fA v.fn v.fc, .slice v.pA v.pn v.pc] 26)
          have hi2 := hF.imgR.next b1
          have hlt : w23.heap.size < (w23.alloc (.cells #[.int .i64 zc.guest, .slice v.rA v.rn v.rc, .slice v.sA v.sn v.sc, .slice v.fA v.fn v.fc, .slice v.pA v.pn v.pc] 26)).heap.size := by simp
          have T' := Lib.hid (below_next T.out b1)
          have XM' := Lib.hid (XM.out.keep b1 LM.out)
          have LM' := Lib.hid (Nat.lt_of_lt_of_le LM.out b1.size)
          have Rm' := Lib.hid (Rm.out.next b1)
          have Ro' := Lib.hid (Ro.out.next b1)
          have Rx' := Lib.hid (Rx.out.next b1)
          have Ry' := Lib.hid (Ry.out.next b1)
          have Rz' := Lib.hid (Rz.out.next b1)
          clear T XM LM Rm Ro Rx Ry Rz b1
          have T := T'
          have XM := XM'
          have LM := LM'
          have Rm := Rm'
          have Ro := Ro'
          have Rx := Rx'
          have Ry := Ry'
          have Rz := Rz'
          clear T' XM' LM' Rm' Ro' Rx' Ry' Rz'
          obtain ⟨crA, crn, crc, csA, csn, csc, cfA, cfn, cfc, cpA, cpn, cpc⟩ := v
          have Ic := Lib.hid hi2
          have Xc := Lib.hid hx
          have Lc := Lib.hid hlt
          dsimp only [imgV] at Ic Xc Lc T XM LM Rm Ro Rx Ry Rz ⊢
          clear hF hx hi2 hlt
          rcases Cpn' with h3 | h3
          · subst h3
            obtain ⟨f1, f2, f3⟩ := HFc1.out rfl
            subst f1 f2 f3
            obtain ⟨f5, f6⟩ := HFc2.out rfl hN
            subst f5 f6
            clear HFc1 HFc2
            obtain ⟨c24_0, c24_1, c24_2, c24_3, c24_4⟩ := Xc.out
            try dsimp only at c24_0 c24_1 c24_2 c24_3 c24_4
            go_wp2_with fail
            generalize (w23.alloc (.cells #[.int .i64 zc.guest, .slice crA crn crc, .slice csA csn csc, .slice cfA cfn cfc, .slice cpA cpn cpc] 26)) = W25 at *
            refine (Qc.out _ _ Ic.out).mono ?_
            rintro e w26 ⟨Ap, np, cp, rfl, ho, hb, hnc, hcm⟩
            clear c24_0 c24_1 c24_2 c24_3 c24_4
            have T' := Lib.hid (below_next T.out hb)
            have XM' := Lib.hid (XM.out.keep hb LM.out)
            have LM' := Lib.hid (Nat.lt_of_lt_of_le LM.out hb.size)
            have Rm' := Lib.hid (Rm.out.next hb)
            have Ro' := Lib.hid (Ro.out.next hb)
            have Rx' := Lib.hid (Rx.out.next hb)
            have Ry' := Lib.hid (Ry.out.next hb)
            have Rz' := Lib.hid (Rz.out.next hb)
            have Xc' := Lib.hid (Xc.out.keep hb Lc.out)
            have Lc' := Lib.hid (Nat.lt_of_lt_of_le Lc.out hb.size)
            have Ic' := Lib.hid (Ic.out.next hb)
            clear T XM LM Rm Ro Rx Ry Rz Xc Lc Ic hb
            have T := T'
            have XM := XM'
            have LM := LM'
            have Rm := Rm'
            have Ro := Ro'
            have Rx := Rx'
            have Ry := Ry'
            have Rz := Rz'
            have Xc := Xc'
            have Lc := Lc'
            have Ic := Ic'
            clear T' XM' LM' Rm' Ro' Rx' Ry' Rz' Xc' Lc' Ic'
            have hr := own_strsS ho E1
            clear ho hnc hcm
            have Rp := Lib.hid hr.2
            have hnp := hr.1
            clear hr
            obtain ⟨c27_0, c27_1, c27_2, c27_3, c27_4⟩ := Xc.out
            try dsimp only at c27_0 c27_1 c27_2 c27_3 c27_4
            go_wp2_with fail
            refine (Pc.out _ _ Ic.out).mono ?_
            rintro e w28 ⟨Aq, nq, cq, rfl, ho, hb, hnc, hcm⟩
            clear c27_0 c27_1 c27_2 c27_3 c27_4
            have T' := Lib.hid (below_next T.out hb)
            have XM' := Lib.hid (XM.out.keep hb LM.out)
            have LM' := Lib.hid (Nat.lt_of_lt_of_le LM.out hb.size)
            have Rm' := Lib.hid (Rm.out.next hb)
            have Ro' := Lib.hid (Ro.out.next hb)
            have Rx' := Lib.hid (Rx.out.next hb)
            have Ry' := Lib.hid (Ry.out.next hb)
            have Rz' := Lib.hid (Rz.out.next hb)
            have Xc' := Lib.hid (Xc.out.keep hb Lc.out)
            have Lc' := Lib.hid (Nat.lt_of_lt_of_le Lc.out hb.size)
            have Ic' := Lib.hid (Ic.out.next hb)
            have Rp' := Lib.hid (Rp.out.next hb)
            clear T XM LM Rm Ro Rx Ry Rz Xc Lc Ic Rp hb
            have T := T'
            have XM := XM'
            have LM := LM'
            have Rm := Rm'
            have Ro := Ro'
            have Rx := Rx'
            have Ry := Ry'
            have Rz := Rz'
            have Xc := Xc'
            have Lc := Lc'
            have Ic := Ic'
            have Rp := Rp'
            clear T' XM' LM' Rm' Ro' Rx' Ry' Rz' Xc' Lc' Ic' Rp'
            have hr := own_strsS ho E3
            clear ho hnc hcm
            have Rq := Lib.hid hr.2
            have hnq := hr.1
            clear hr
            obtain ⟨c29_0, c29_1, c29_2, c29_3, c29_4⟩ := Xc.out
            try dsimp only at c29_0 c29_1 c29_2 c29_3 c29_4
            go_wp2_with fail
            refine (Sc.out _ _ Ic.out).mono ?_
            rintro e w30 ⟨Ar, nr, cr, rfl, ho, hb, hnc, hcm⟩
            clear c29_0 c29_1 c29_2 c29_3 c29_4
            have T' := Lib.hid (below_next T.out hb)
            have XM' := Lib.hid (XM.out.keep hb LM.out)
            have LM' := Lib.hid (Nat.lt_of_lt_of_le LM.out hb.size)
            have Rm' := Lib.hid (Rm.out.next hb)
            have Ro' := Lib.hid (Ro.out.next hb)
            have Rx' := Lib.hid (Rx.out.next hb)
            have Ry' := Lib.hid (Ry.out.next hb)
            have Rz' := Lib.hid (Rz.out.next hb)
            have Xc' := Lib.hid (Xc.out.keep hb Lc.out)
            have Lc' := Lib.hid (Nat.lt_of_lt_of_le Lc.out hb.size)
            have Ic' := Lib.hid (Ic.out.next hb)
            have Rp' := Lib.hid (Rp.out.next hb)
            have Rq' := Lib.hid (Rq.out.next hb)
            clear T XM LM Rm Ro Rx Ry Rz Xc Lc Ic Rp Rq hb
            have T := T'
            have XM := XM'
            have LM := LM'
            have Rm := Rm'
            have Ro := Ro'
            have Rx := Rx'
            have Ry := Ry'
            have Rz := Rz'
            have Xc := Xc'
            have Lc := Lc'
            have Ic := Ic'
            have Rp := Rp'
            have Rq := Rq'
            clear T' XM' LM' Rm' Ro' Rx' Ry' Rz' Xc' Lc' Ic' Rp' Rq'
            have hr := own_strsS ho E2
            clear ho hnc hcm
            have Rr := Lib.hid hr.2
            have hnr := hr.1
            clear hr
            go_wp2_with fail
            refine (snapsBegun_any _).mono ?_
            rintro e w31 ⟨rfl, hb⟩
            have T' := Lib.hid (below_next T.out hb)
            have XM' := Lib.hid (XM.out.keep hb LM.out)
            have LM' := Lib.hid (Nat.lt_of_lt_of_le LM.out hb.size)
            have Rm' := Lib.hid (Rm.out.next hb)
            have Ro' := Lib.hid (Ro.out.next hb)
            have Rx' := Lib.hid (Rx.out.next hb)
            have Ry' := Lib.hid (Ry.out.next hb)
            have Rz' := Lib.hid (Rz.out.next hb)
            have Xc' := Lib.hid (Xc.out.keep hb Lc.out)
            have Lc' := Lib.hid (Nat.lt_of_lt_of_le Lc.out hb.size)
            have Ic' := Lib.hid (Ic.out.next hb)
            have Rp' := Lib.hid (Rp.out.next hb)
            have Rq' := Lib.hid (Rq.out.next hb)
            have Rr' := Lib.hid (Rr.out.next hb)
            clear T XM LM Rm Ro Rx Ry Rz Xc Lc Ic Rp Rq Rr hb
            have T := T'
            have XM := XM'
            have LM := LM'
            have Rm := Rm'
            have Ro := Ro'
            have Rx := Rx'
            have Ry := Ry'
            have Rz := Rz'
            have Xc := Xc'
            have Lc := Lc'
            have Ic := Ic'
            have Rp := Rp'
            have Rq := Rq'
            have Rr := Rr'
            clear T' XM' LM' Rm' Ro' Rx' Ry' Rz' Xc' Lc' Ic' Rp' Rq' Rr'
            go_wp2_with fail
            refine (samePages_any Ap Am _ _ cp cm _ _ _ Rp.out Rm.out hnp hnm).mono ?_
            rintro e w32 ⟨rfl, hb⟩
            have T' := Lib.hid (below_next T.out hb)
            have XM' := Lib.hid (XM.out.keep hb LM.out)
            have LM' := Lib.hid (Nat.lt_of_lt_of_le LM.out hb.size)
            have Rm' := Lib.hid (Rm.out.next hb)
            have Ro' := Lib.hid (Ro.out.next hb)
            have Rx' := Lib.hid (Rx.out.next hb)
            have Ry' := Lib.hid (Ry.out.next hb)
            have Rz' := Lib.hid (Rz.out.next hb)
            have Xc' := Lib.hid (Xc.out.keep hb Lc.out)
            have Lc' := Lib.hid (Nat.lt_of_lt_of_le Lc.out hb.size)
            have Ic' := Lib.hid (Ic.out.next hb)
            have Rp' := Lib.hid (Rp.out.next hb)
            have Rq' := Lib.hid (Rq.out.next hb)
            have Rr' := Lib.hid (Rr.out.next hb)
            clear T XM LM Rm Ro Rx Ry Rz Xc Lc Ic Rp Rq Rr hb
            have T := T'
            have XM := XM'
            have LM := LM'
            have Rm := Rm'
            have Ro := Ro'
            have Rx := Rx'
            have Ry := Ry'
            have Rz := Rz'
            have Xc := Xc'
            have Lc := Lc'
            have Ic := Ic'
            have Rp := Rp'
            have Rq := Rq'
            have Rr := Rr'
            clear T' XM' LM' Rm' Ro' Rx' Ry' Rz' Xc' Lc' Ic' Rp' Rq' Rr'
            try simp only [decide_true]
            go_wp2_with fail
            refine (samePages_any Ar Ao _ _ cr co _ _ _ Rr.out Ro.out hnr hno).mono ?_
            rintro e w33 ⟨rfl, hb⟩
            have T' := Lib.hid (below_next T.out hb)
            have XM' := Lib.hid (XM.out.keep hb LM.out)
            have LM' := Lib.hid (Nat.lt_of_lt_of_le LM.out hb.size)
            have Rm' := Lib.hid (Rm.out.next hb)
            have Ro' := Lib.hid (Ro.out.next hb)
            have Rx' := Lib.hid (Rx.out.next hb)
            have Ry' := Lib.hid (Ry.out.next hb)
            have Rz' := Lib.hid (Rz.out.next hb)
            have Xc' := Lib.hid (Xc.out.keep hb Lc.out)
            have Lc' := Lib.hid (Nat.lt_of_lt_of_le Lc.out hb.size)
            have Ic' := Lib.hid (Ic.out.next hb)
            have Rp' := Lib.hid (Rp.out.next hb)
            have Rq' := Lib.hid (Rq.out.next hb)
            have Rr' := Lib.hid (Rr.out.next hb)
            clear T XM LM Rm Ro Rx Ry Rz Xc Lc Ic Rp Rq Rr hb
            have T := T'
            have XM := XM'
            have LM := LM'
            have Rm := Rm'
            have Ro := Ro'
            have Rx := Rx'
            have Ry := Ry'
            have Rz := Rz'
            have Xc := Xc'
            have Lc := Lc'
            have Ic := Ic'
            have Rp := Rp'
            have Rq := Rq'
            have Rr := Rr'
            clear T' XM' LM' Rm' Ro' Rx' Ry' Rz' Xc' Lc' Ic' Rp' Rq' Rr'
            try simp only [decide_true]
            go_wp2_with fail
            go_ret
            exact ⟨rfl, T.out⟩
          · obtain ⟨h3, h3'⟩ := h3
            go_wp2_with fail
            generalize (w23.alloc (.cells #[.int .i64 zc.guest, .slice crA crn crc, .slice csA csn csc, .slice cfA cfn cfc, .slice cpA cpn cpc] 26)) = W24 at *
            refine (snapsBegun_any _).mono ?_
            rintro e w25 ⟨rfl, hb⟩
            have T' := Lib.hid (below_next T.out hb)
            have XM' := Lib.hid (XM.out.keep hb LM.out)
            have LM' := Lib.hid (Nat.lt_of_lt_of_le LM.out hb.size)
            have Rm' := Lib.hid (Rm.out.next hb)
            have Ro' := Lib.hid (Ro.out.next hb)
            have Rx' := Lib.hid (Rx.out.next hb)
            have Ry' := Lib.hid (Ry.out.next hb)
            have Rz' := Lib.hid (Rz.out.next hb)
            have Xc' := Lib.hid (Xc.out.keep hb Lc.out)
            have Lc' := Lib.hid (Nat.lt_of_lt_of_le Lc.out hb.size)
            have Ic' := Lib.hid (Ic.out.next hb)
            clear T XM LM Rm Ro Rx Ry Rz Xc Lc Ic hb
            have T := T'
            have XM := XM'
            have LM := LM'
            have Rm := Rm'
            have Ro := Ro'
            have Rx := Rx'
            have Ry := Ry'
            have Rz := Rz'
            have Xc := Xc'
            have Lc := Lc'
            have Ic := Ic'
            clear T' XM' LM' Rm' Ro' Rx' Ry' Rz' Xc' Lc' Ic'
            go_wp2_with fail
            go_ret
            exact ⟨rfl, T.out⟩
      · obtain ⟨h1, h1'⟩ := h1
        clear HFa1 HFa2
        clear Xa La Ia
        obtain ⟨c9_0, c9_1, c9_2, c9_3, c9_4⟩ := XM.out
        try dsimp only at c9_0 c9_1 c9_2 c9_3 c9_4
        go_wp2_with fail
        generalize (w8.alloc (.cells #[.int .i64 za.guest, .slice arA arn arc, .slice asA asn asc, .slice afA afn afc, .slice apA apn apc] 26)) = W10 at *
        refine (Kb.out _ T.out).mono ?_
        rintro e w11 ⟨v, rfl, hF, hb⟩
        clear c9_0 c9_1 c9_2 c9_3 c9_4
        have T' := Lib.hid (below_next T.out hb)
        have XM' := Lib.hid (XM.out.keep hb LM.out)
        have LM' := Lib.hid (Nat.lt_of_lt_of_le LM.out hb.size)
        have Rm' := Lib.hid (Rm.out.next hb)
        have Ro' := Lib.hid (Ro.out.next hb)
        clear T XM LM Rm Ro hb
        have T := T'
        have XM := XM'
        have LM := LM'
        have Rm := Rm'
        have Ro := Ro'
        clear T' XM' LM' Rm' Ro'
        have hx := Box.new w11 zb.guest v 26
        have b1 := below1 w11 (.cells #[.int .i64 zb.guest, .slice v.rA v.rn v.rc, .slice v.sA v.sn v.sc, .slice v.fA v.fn v.fc, .slice v.pA v.pn v.pc] 26)
        have hi2 := hF.imgR.next b1
        have hlt : w11.heap.size < (w11.alloc (.cells #[.int .i64 zb.guest, .slice v.rA v.rn v.rc, .slice v.sA v.sn v.sc, .slice v.fA v.fn v.fc, .slice v.pA v.pn v.pc] 26)).heap.size := by simp
        have T' := Lib.hid (below_next T.out b1)
        have XM' := Lib.hid (XM.out.keep b1 LM.out)
        have LM' := Lib.hid (Nat.lt_of_lt_of_le LM.out b1.size)
        have Rm' := Lib.hid (Rm.out.next b1)
        have Ro' := Lib.hid (Ro.out.next b1)
        clear T XM LM Rm Ro b1
        have T := T'
        have XM := XM'
        have LM := LM'
        have Rm := Rm'
        have Ro := Ro'
        clear T' XM' LM' Rm' Ro'
        obtain ⟨brA, brn, brc, bsA, bsn, bsc, bfA, bfn, bfc, bpA, bpn, bpc⟩ := v
        have Ib := Lib.hid hi2
        have Xb := Lib.hid hx
        have Lb := Lib.hid hlt
        dsimp only [imgV] at Ib Xb Lb T XM LM Rm Ro ⊢
        clear hF hx hi2 hlt
        rcases Cpo with h2 | h2
        · subst h2
          obtain ⟨f1, f2, f3, f4⟩ := Fb.out rfl
          subst f1 f2 f3 f4
          clear Fb
          obtain ⟨c12_0, c12_1, c12_2, c12_3, c12_4⟩ := Xb.out
          try dsimp only at c12_0 c12_1 c12_2 c12_3 c12_4
          go_wp2_with fail
          generalize (w11.alloc (.cells #[.int .i64 zb.guest, .slice brA brn brc, .slice bsA bsn bsc, .slice bfA bfn bfc, .slice bpA bpn bpc] 26)) = W13 at *
          refine (Qb.out _ _ Ib.out).mono ?_
          rintro e w14 ⟨As, ns, cs, rfl, ho, hb, hnc, hcm⟩
          clear c12_0 c12_1 c12_2 c12_3 c12_4
          have T' := Lib.hid (below_next T.out hb)
          have XM' := Lib.hid (XM.out.keep hb LM.out)
          have LM' := Lib.hid (Nat.lt_of_lt_of_le LM.out hb.size)
          have Rm' := Lib.hid (Rm.out.next hb)
          have Ro' := Lib.hid (Ro.out.next hb)
          have Xb' := Lib.hid (Xb.out.keep hb Lb.out)
          have Lb' := Lib.hid (Nat.lt_of_lt_of_le Lb.out hb.size)
          have Ib' := Lib.hid (Ib.out.next hb)
          clear T XM LM Rm Ro Xb Lb Ib hb
          have T := T'
          have XM := XM'
          have LM := LM'
          have Rm := Rm'
          have Ro := Ro'
          have Xb := Xb'
          have Lb := Lb'
          have Ib := Ib'
          clear T' XM' LM' Rm' Ro' Xb' Lb' Ib'
          have hr := own_strsS ho E2
          clear ho hnc hcm
          have Rs := Lib.hid hr.2
          have hns := hr.1
          clear hr
          obtain ⟨c15_0, c15_1, c15_2, c15_3, c15_4⟩ := Xb.out
          try dsimp only at c15_0 c15_1 c15_2 c15_3 c15_4
          go_wp2_with fail
          refine (Sb.out _ _ Ib.out).mono ?_
          rintro e w16 ⟨At, nt, ct, rfl, ho, hb, hnc, hcm⟩
          clear c15_0 c15_1 c15_2 c15_3 c15_4
          have T' := Lib.hid (below_next T.out hb)
          have XM' := Lib.hid (XM.out.keep hb LM.out)
          have LM' := Lib.hid (Nat.lt_of_lt_of_le LM.out hb.size)
          have Rm' := Lib.hid (Rm.out.next hb)
          have Ro' := Lib.hid (Ro.out.next hb)
          have Xb' := Lib.hid (Xb.out.keep hb Lb.out)
          have Lb' := Lib.hid (Nat.lt_of_lt_of_le Lb.out hb.size)
          have Ib' := Lib.hid (Ib.out.next hb)
          have Rs' := Lib.hid (Rs.out.next hb)
          clear T XM LM Rm Ro Xb Lb Ib Rs hb
          have T := T'
          have XM := XM'
          have LM := LM'
          have Rm := Rm'
          have Ro := Ro'
          have Xb := Xb'
          have Lb := Lb'
          have Ib := Ib'
          have Rs := Rs'
          clear T' XM' LM' Rm' Ro' Xb' Lb' Ib' Rs'
          have hr := own_strsS ho E2
          clear ho hnc hcm
          have Rt := Lib.hid hr.2
          have hnt := hr.1
          clear hr
          go_wp2_with fail
          refine (samePages_any As Ao _ _ cs co _ _ _ Rs.out Ro.out hns hno).mono ?_
          rintro e w17 ⟨rfl, hb⟩
          have T' := Lib.hid (below_next T.out hb)
          have XM' := Lib.hid (XM.out.keep hb LM.out)
          have LM' := Lib.hid (Nat.lt_of_lt_of_le LM.out hb.size)
          have Rm' := Lib.hid (Rm.out.next hb)
          have Ro' := Lib.hid (Ro.out.next hb)
          have Xb' := Lib.hid (Xb.out.keep hb Lb.out)
          have Lb' := Lib.hid (Nat.lt_of_lt_of_le Lb.out hb.size)
          have Ib' := Lib.hid (Ib.out.next hb)
          have Rs' := Lib.hid (Rs.out.next hb)
          have Rt' := Lib.hid (Rt.out.next hb)
          clear T XM LM Rm Ro Xb Lb Ib Rs Rt hb
          have T := T'
          have XM := XM'
          have LM := LM'
          have Rm := Rm'
          have Ro := Ro'
          have Xb := Xb'
          have Lb := Lb'
          have Ib := Ib'
          have Rs := Rs'
          have Rt := Rt'
          clear T' XM' LM' Rm' Ro' Xb' Lb' Ib' Rs' Rt'
          try simp only [decide_true]
          go_wp2_with fail
          refine (samePages_any At Ao _ _ ct co _ _ _ Rt.out Ro.out hnt hno).mono ?_
          rintro e w18 ⟨rfl, hb⟩
          have T' := Lib.hid (below_next T.out hb)
          have XM' := Lib.hid (XM.out.keep hb LM.out)
          have LM' := Lib.hid (Nat.lt_of_lt_of_le LM.out hb.size)
          have Rm' := Lib.hid (Rm.out.next hb)
          have Ro' := Lib.hid (Ro.out.next hb)
          have Xb' := Lib.hid (Xb.out.keep hb Lb.out)
          have Lb' := Lib.hid (Nat.lt_of_lt_of_le Lb.out hb.size)
          have Ib' := Lib.hid (Ib.out.next hb)
          have Rs' := Lib.hid (Rs.out.next hb)
          have Rt' := Lib.hid (Rt.out.next hb)
          clear T XM LM Rm Ro Xb Lb Ib Rs Rt hb
          have T := T'
          have XM := XM'
          have LM := LM'
          have Rm := Rm'
          have Ro := Ro'
          have Xb := Xb'
          have Lb := Lb'
          have Ib := Ib'
          have Rs := Rs'
          have Rt := Rt'
          clear T' XM' LM' Rm' Ro' Xb' Lb' Ib' Rs' Rt'
          try simp only [decide_true]
          clear Xb Lb Ib
          obtain ⟨c19_0, c19_1, c19_2, c19_3, c19_4⟩ := XM.out
          try dsimp only at c19_0 c19_1 c19_2 c19_3 c19_4
          go_wp2_with fail
          refine (Kc.out _ T.out).mono ?_
          rintro e w20 ⟨v, rfl, hF, hb⟩
          clear c19_0 c19_1 c19_2 c19_3 c19_4
          have T' := Lib.hid (below_next T.out hb)
          have XM' := Lib.hid (XM.out.keep hb LM.out)
          have LM' := Lib.hid (Nat.lt_of_lt_of_le LM.out hb.size)
          have Rm' := Lib.hid (Rm.out.next hb)
          have Ro' := Lib.hid (Ro.out.next hb)
          have Rs' := Lib.hid (Rs.out.next hb)
          have Rt' := Lib.hid (Rt.out.next hb)
          clear T XM LM Rm Ro Rs Rt hb
          have T := T'
          have XM := XM'
          have LM := LM'
          have Rm := Rm'
          have Ro := Ro'
          have Rs := Rs'
          have Rt := Rt'
          clear T' XM' LM' Rm' Ro' Rs' Rt'
          have hx := Box.new w20 zc.guest v 26
          have b1 := below1 w20 (.cells #[.int .i64 zc.guest, .slice v.rA v.rn v.rc, .slice v.sA v.sn v.sc, .slice v.fA v.fn v.fc, .slice v.pA v.pn v.pc] 26)
          have hi2 := hF.imgR.next b1
          have hlt : w20.heap.size < (w20.alloc (.cells #[.int .i64 zc.guest, .slice v.rA v.rn v.rc, .slice v.sA v.sn v.sc, .slice v.fA v.fn v.fc, .slice v.pA v.pn v.pc] 26)).heap.size := by simp
          have T' := Lib.hid (below_next T.out b1)
          have XM' := Lib.hid (XM.out.keep b1 LM.out)
          have LM' := Lib.hid (Nat.lt_of_lt_of_le LM.out b1.size)
          have Rm' := Lib.hid (Rm.out.next b1)
          have Ro' := Lib.hid (Ro.out.next b1)
          have Rs' := Lib.hid (Rs.out.next b1)
          have Rt' := Lib.hid (Rt.out.next b1)
          clear T XM LM Rm Ro Rs Rt b1
          have T := T'
          have XM := XM'
          have LM := LM'
          have Rm := Rm'
          have Ro := Ro'
          have Rs := Rs'
          have Rt := Rt'
          clear T' XM' LM' Rm' Ro' Rs' Rt'
          obtain ⟨crA, crn, crc, csA, csn, csc, cfA, cfn, cfc, cpA, cpn, cpc⟩ := v
          have Ic := Lib.hid hi2
          have Xc := Lib.hid hx
          have Lc := Lib.hid hlt
          dsimp only [imgV] at Ic Xc Lc T XM LM Rm Ro Rs Rt ⊢
          clear hF hx hi2 hlt
          rcases Cpn' with h3 | h3
          · subst h3
            obtain ⟨f1, f2, f3⟩ := HFc1.out rfl
            subst f1 f2 f3
            obtain ⟨f5, f6⟩ := HFc2.out rfl hN
            subst f5 f6
            clear HFc1 HFc2
            obtain ⟨c21_0, c21_1, c21_2, c21_3, c21_4⟩ := Xc.out
            try dsimp only at c21_0 c21_1 c21_2 c21_3 c21_4
            go_wp2_with fail
            generalize (w20.alloc (.cells #[.int .i64 zc.guest, .slice crA crn crc, .slice csA csn csc, .slice cfA cfn cfc, .slice cpA cpn cpc] 26)) = W22 at *
            refine (Qc.out _ _ Ic.out).mono ?_
            rintro e w23 ⟨Ap, np, cp, rfl, ho, hb, hnc, hcm⟩
            clear c21_0 c21_1 c21_2 c21_3 c21_4
            have T' := Lib.hid (below_next T.out hb)
            have XM' := Lib.hid (XM.out.keep hb LM.out)
            have LM' := Lib.hid (Nat.lt_of_lt_of_le LM.out hb.size)
            have Rm' := Lib.hid (Rm.out.next hb)
            have Ro' := Lib.hid (Ro.out.next hb)
            have Rs' := Lib.hid (Rs.out.next hb)
            have Rt' := Lib.hid (Rt.out.next hb)
            have Xc' := Lib.hid (Xc.out.keep hb Lc.out)
            have Lc' := Lib.hid (Nat.lt_of_lt_of_le Lc.out hb.size)
            have Ic' := Lib.hid (Ic.out.next hb)
            clear T XM LM Rm Ro Rs Rt Xc Lc Ic hb
            have T := T'
            have XM := XM'
            have LM := LM'
            have Rm := Rm'
            have Ro := Ro'
            have Rs := Rs'
            have Rt := Rt'
            have Xc := Xc'
            have Lc := Lc'
            have Ic := Ic'
            clear T' XM' LM' Rm' Ro' Rs' Rt' Xc' Lc' Ic'
            have hr := own_strsS ho E1
            clear ho hnc hcm
            have Rp := Lib.hid hr.2
            have hnp := hr.1
            clear hr
            obtain ⟨c24_0, c24_1, c24_2, c24_3, c24_4⟩ := Xc.out
            try dsimp only at c24_0 c24_1 c24_2 c24_3 c24_4
            go_wp2_with fail
            refine (Pc.out _ _ Ic.out).mono ?_
            rintro e w25 ⟨Aq, nq, cq, rfl, ho, hb, hnc, hcm⟩
            clear c24_0 c24_1 c24_2 c24_3 c24_4
            have T' := Lib.hid (below_next T.out hb)
            have XM' := Lib.hid (XM.out.keep hb LM.out)
            have LM' := Lib.hid (Nat.lt_of_lt_of_le LM.out hb.size)
            have Rm' := Lib.hid (Rm.out.next hb)
            have Ro' := Lib.hid (Ro.out.next hb)
            have Rs' := Lib.hid (Rs.out.next hb)
            have Rt' := Lib.hid (Rt.out.next hb)
            have Xc' := Lib.hid (Xc.out.keep hb Lc.out)
            have Lc' := Lib.hid (Nat.lt_of_lt_of_le Lc.out hb.size)
            have Ic' := Lib.hid (Ic.out.next hb)
            have Rp' := Lib.hid (Rp.out.next hb)
            clear T XM LM Rm Ro Rs Rt Xc Lc Ic Rp hb
            have T := T'
            have XM := XM'
            have LM := LM'
            have Rm := Rm'
            have Ro := Ro'
            have Rs := Rs'
            have Rt := Rt'
            have Xc := Xc'
            have Lc := Lc'
            have Ic := Ic'
            have Rp := Rp'
            clear T' XM' LM' Rm' Ro' Rs' Rt' Xc' Lc' Ic' Rp'
            have hr := own_strsS ho E3
            clear ho hnc hcm
            have Rq := Lib.hid hr.2
            have hnq := hr.1
            clear hr
            obtain ⟨c26_0, c26_1, c26_2, c26_3, c26_4⟩ := Xc.out
            try dsimp only at c26_0 c26_1 c26_2 c26_3 c26_4
            go_wp2_with fail
            refine (Sc.out _ _ Ic.out).mono ?_
            rintro e w27 ⟨Ar, nr, cr, rfl, ho, hb, hnc, hcm⟩
            clear c26_0 c26_1 c26_2 c26_3 c26_4
            have T' := Lib.hid (below_next T.out hb)
            have XM' := Lib.hid (XM.out.keep hb LM.out)
            have LM' := Lib.hid (Nat.lt_of_lt_of_le LM.out hb.size)
            have Rm' := Lib.hid (Rm.out.next hb)
            have Ro' := Lib.hid (Ro.out.next hb)
            have Rs' := Lib.hid (Rs.out.next hb)
            have Rt' := Lib.hid (Rt.out.next hb)
            have Xc' := Lib.hid (Xc.out.keep hb Lc.out)
            have Lc' := Lib.hid (Nat.lt_of_lt_of_le Lc.out hb.size)
            have Ic' := Lib.hid (Ic.out.next hb)
            have Rp' := Lib.hid (Rp.out.next hb)
            have Rq' := Lib.hid (Rq.out.next hb)
            clear T XM LM Rm Ro Rs Rt Xc Lc Ic Rp Rq hb
            have T := T'
            have XM := XM'
            have LM := LM'
            have Rm := Rm'
            have Ro := Ro'
            have Rs := Rs'
            have Rt := Rt'
            have Xc := Xc'
            have Lc := Lc'
            have Ic := Ic'
            have Rp := Rp'
            have Rq := Rq'
            clear T' XM' LM' Rm' Ro' Rs' Rt' Xc' Lc' Ic' Rp' Rq'
            have hr := own_strsS ho E2
            clear ho hnc hcm
            have Rr := Lib.hid hr.2
            have hnr := hr.1
            clear hr
            go_wp2_with fail
            refine (snapsBegun_any _).mono ?_
            rintro e w28 ⟨rfl, hb⟩
            have T' := Lib.hid (below_next T.out hb)
            have XM' := Lib.hid (XM.out.keep hb LM.out)
            have LM' := Lib.hid (Nat.lt_of_lt_of_le LM.out hb.size)
            have Rm' := Lib.hid (Rm.out.next hb)
            have Ro' := Lib.hid (Ro.out.next hb)
            have Rs' := Lib.hid (Rs.out.next hb)
            have Rt' := Lib.hid (Rt.out.next hb)
            have Xc' := Lib.hid (Xc.out.keep hb Lc.out)
            have Lc' := Lib.hid (Nat.lt_of_lt_of_le Lc.out hb.size)
            have Ic' := Lib.hid (Ic.out.next hb)
            have Rp' := Lib.hid (Rp.out.next hb)
            have Rq' := Lib.hid (Rq.out.next hb)
            have Rr' := Lib.hid (Rr.out.next hb)
            clear T XM LM Rm Ro Rs Rt Xc Lc Ic Rp Rq Rr hb
            have T := T'
            have XM := XM'
            have LM := LM'
            have Rm := Rm'
            have Ro := Ro'
            have Rs := Rs'
            have Rt := Rt'
            have Xc := Xc'
            have Lc := Lc'
            have Ic := Ic'
            have Rp := Rp'
            have Rq := Rq'
            have Rr := Rr'
            clear T' XM' LM' Rm' Ro' Rs' Rt' Xc' Lc' Ic' Rp' Rq' Rr'
            go_wp2_with fail
            refine (samePages_any Ap Am _ _ cp cm _ _ _ Rp.out Rm.out hnp hnm).mono ?_
            rintro e w29 ⟨rfl, hb⟩
            have T' := Lib.hid (below_next T.out hb)
            have XM' := Lib.hid (XM.out.keep hb LM.out)
            have LM' := Lib.hid (Nat.lt_of_lt_of_le LM.out hb.size)
            have Rm' := Lib.hid (Rm.out.next hb)
            have Ro' := Lib.hid (Ro.out.next hb)
            have Rs' := Lib.hid (Rs.out.next hb)
            have Rt' := Lib.hid (Rt.out.next hb)
            have Xc' := Lib.hid (Xc.out.keep hb Lc.out)
            have Lc' := Lib.hid (Nat.lt_of_lt_of_le Lc.out hb.size)
            have Ic' := Lib.hid (Ic.out.next hb)
            have Rp' := Lib.hid (Rp.out.next hb)
            have Rq' := Lib.hid (Rq.out.next hb)
            have Rr' := Lib.hid (Rr.out.next hb)
            clear T XM LM Rm Ro Rs Rt Xc Lc Ic Rp Rq Rr hb
            have T := T'
            have XM := XM'
            have LM := LM'
            have Rm := Rm'
            have Ro := Ro'
            have Rs := Rs'
            have Rt := Rt'
            have Xc := Xc'
            have Lc := Lc'
            have Ic := Ic'
            have Rp := Rp'
            have Rq := Rq'
            have Rr := Rr'
            clear T' XM' LM' Rm' Ro' Rs' Rt' Xc' Lc' Ic' Rp' Rq' Rr'
            try simp only [decide_true]
            go_wp2_with fail
            refine (samePages_any Ar Ao _ _ cr co _ _ _ Rr.out Ro.out hnr hno).mono ?_
            rintro e w30 ⟨rfl, hb⟩
            have T' := Lib.hid (below_next T.out hb)
            have XM' := Lib.hid (XM.out.keep hb LM.out)
            have LM' := Lib.hid (Nat.lt_of_lt_of_le LM.out hb.size)
            have Rm' := Lib.hid (Rm.out.next hb)
            have Ro' := Lib.hid (Ro.out.next hb)
            have Rs' := Lib.hid (Rs.out.next hb)
            have Rt' := Lib.hid (Rt.out.next hb)
            have Xc' := Lib.hid (Xc.out.keep hb Lc.out)
            have Lc' := Lib.hid (Nat.lt_of_lt_of_le Lc.out hb.size)
            have Ic' := Lib.hid (Ic.out.next hb)
            have Rp' := Lib.hid (Rp.out.next hb)
            have Rq' := Lib.hid (Rq.out.next hb)
            have Rr' := Lib.hid (Rr.out.next hb)
            clear T XM LM Rm Ro Rs Rt Xc Lc Ic Rp Rq Rr hb
            have T := T'
            have XM := XM'
            have LM := LM'
            have Rm := Rm'
            have Ro := Ro'
            have Rs := Rs'
            have Rt := Rt'
            have Xc := Xc'
            have Lc := Lc'
            have Ic := Ic'
            have Rp := Rp'
            have Rq := Rq'
            have Rr := Rr'
            clear T' XM' LM' Rm' Ro' Rs' Rt' Xc' Lc' Ic' Rp' Rq' Rr'
            try simp only [decide_true]
            go_wp2_with fail
            go_ret
            exact ⟨rfl, T.out⟩
          · obtain ⟨h3, h3'⟩ := h3
            go_wp2_with fail
            generalize (w20.alloc (.cells #[.int .i64 zc.guest, .slice crA crn crc, .slice csA csn csc, .slice cfA cfn cfc, .slice cpA cpn cpc] 26)) = W21 at *
            refine (snapsBegun_any _).mono ?_
            rintro e w22 ⟨rfl, hb⟩
            have T' := Lib.hid (below_next T.out hb)
            have XM' := Lib.hid (XM.out.keep hb LM.out)
            have LM' := Lib.hid (Nat.lt_of_lt_of_le LM.out hb.size)
            have Rm' := Lib.hid (Rm.out.next hb)
            have Ro' := Lib.hid (Ro.out.next hb)
            have Rs' := Lib.hid (Rs.out.next hb)
            have Rt' := Lib.hid (Rt.out.next hb)
            have Xc' := Lib.hid (Xc.out.keep hb Lc.out)
            have Lc' := Lib.hid (Nat.lt_of_lt_of_le Lc.out hb.size)
            have Ic' := Lib.hid (Ic.out.next hb)
            clear T XM LM Rm Ro Rs Rt Xc Lc Ic hb
            have T := T'
            have XM := XM'
            have LM := LM'
            have Rm := Rm'
            have Ro := Ro'
            have Rs := Rs'
            have Rt := Rt'
            have Xc := Xc'
            have Lc := Lc'
            have Ic := Ic'
            clear T' XM' LM' Rm' Ro' Rs' Rt' Xc' Lc' Ic'
            go_wp2_with fail
            go_ret
            exact ⟨rfl, T.out⟩
        · obtain ⟨h2, h2'⟩ := h2
          clear Fb
          clear Xb Lb Ib
          obtain ⟨c12_0, c12_1, c12_2, c12_3, c12_4⟩ := XM.out
          try dsimp only at c12_0 c12_1 c12_2 c12_3 c12_4
          go_wp2_with fail
          generalize (w11.alloc (.cells #[.int .i64 zb.guest, .slice brA brn brc, .slice bsA bsn bsc, .slice bfA bfn bfc, .slice bpA bpn bpc] 26)) = W13 at *
          refine (Kc.out _ T.out).mono ?_
          rintro e w14 ⟨v, rfl, hF, hb⟩
          clear c12_0 c12_1 c12_2 c12_3 c12_4
          have T' := Lib.hid (below_next T.out hb)
          have XM' := Lib.hid (XM.out.keep hb LM.out)
          have LM' := Lib.hid (Nat.lt_of_lt_of_le LM.out hb.size)
          have Rm' := Lib.hid (Rm.out.next hb)
          have Ro' := Lib.hid (Ro.out.next hb)
          clear T XM LM Rm Ro hb
          have T := T'
          have XM := XM'
          have LM := LM'
          have Rm := Rm'
          have Ro := Ro'
          clear T' XM' LM' Rm' Ro'
          have hx := Box.new w14 zc.guest v 26
          have b1 := below1 w14 (.cells #[.int .i64 zc.guest, .slice v.rA v.rn v.rc, .slice v.sA v.sn v.sc, .slice v.fA v.fn v.fc, .slice v.pA v.pn v.pc] 26)
          have hi2 := hF.imgR.next b1
          have hlt : w14.heap.size < (w14.alloc (.cells #[.int .i64 zc.guest, .slice v.rA v.rn v.rc, .slice v.sA v.sn v.sc, .slice v.fA v.fn v.fc, .slice v.pA v.pn v.pc] 26)).heap.size := by simp
          have T' := Lib.hid (below_next T.out b1)
          have XM' := Lib.hid (XM.out.keep b1 LM.out)
          have LM' := Lib.hid (Nat.lt_of_lt_of_le LM.out b1.size)
          have Rm' := Lib.hid (Rm.out.next b1)
          have Ro' := Lib.hid (Ro.out.next b1)
          clear T XM LM Rm Ro b1
          have T := T'
          have XM := XM'
          have LM := LM'
          have Rm := Rm'
          have Ro := Ro'
          clear T' XM' LM' Rm' Ro'
          obtain ⟨crA, crn, crc, csA, csn, csc, cfA, cfn, cfc, cpA, cpn, cpc⟩ := v
          have Ic := Lib.hid hi2
          have Xc := Lib.hid hx
          have Lc := Lib.hid hlt
          dsimp only [imgV] at Ic Xc Lc T XM LM Rm Ro ⊢
          clear hF hx hi2 hlt
          rcases Cpn' with h3 | h3
          · subst h3
            obtain ⟨f1, f2, f3⟩ := HFc1.out rfl
            subst f1 f2 f3
            obtain ⟨f5, f6⟩ := HFc2.out rfl hN
            subst f5 f6
            clear HFc1 HFc2
            obtain ⟨c15_0, c15_1, c15_2, c15_3, c15_4⟩ := Xc.out
            try dsimp only at c15_0 c15_1 c15_2 c15_3 c15_4
            go_wp2_with fail
            generalize (w14.alloc (.cells #[.int .i64 zc.guest, .slice crA crn crc, .slice csA csn csc, .slice cfA cfn cfc, .slice cpA cpn cpc] 26)) = W16 at *
            refine (Qc.out _ _ Ic.out).mono ?_
            rintro e w17 ⟨Ap, np, cp, rfl, ho, hb, hnc, hcm⟩
            clear c15_0 c15_1 c15_2 c15_3 c15_4
            have T' := Lib.hid (below_next T.out hb)
            have XM' := Lib.hid (XM.out.keep hb LM.out)
            have LM' := Lib.hid (Nat.lt_of_lt_of_le LM.out hb.size)
            have Rm' := Lib.hid (Rm.out.next hb)
            have Ro' := Lib.hid (Ro.out.next hb)
            have Xc' := Lib.hid (Xc.out.keep hb Lc.out)
            have Lc' := Lib.hid (Nat.lt_of_lt_of_le Lc.out hb.size)
            have Ic' := Lib.hid (Ic.out.next hb)
            clear T XM LM Rm Ro Xc Lc Ic hb
            have T := T'
            have XM := XM'
            have LM := LM'
            have Rm := Rm'
            have Ro := Ro'
            have Xc := Xc'
            have Lc := Lc'
            have Ic := Ic'
            clear T' XM' LM' Rm' Ro' Xc' Lc' Ic'
            have hr := own_strsS ho E1
            clear ho hnc hcm
            have Rp := Lib.hid hr.2
            have hnp := hr.1
            clear hr
            obtain ⟨c18_0, c18_1, c18_2, c18_3, c18_4⟩ := Xc.out
            try dsimp only at c18_0 c18_1 c18_2 c18_3 c18_4
            go_wp2_with fail
            refine (Pc.out _ _ Ic.out).mono ?_
            rintro e w19 ⟨Aq, nq, cq, rfl, ho, hb, hnc, hcm⟩
            clear c18_0 c18_1 c18_2 c18_3 c18_4
            have T' := Lib.hid (below_next T.out hb)
            have XM' := Lib.hid (XM.out.keep hb LM.out)
            have LM' := Lib.hid (Nat.lt_of_lt_of_le LM.out hb.size)
            have Rm' := Lib.hid (Rm.out.next hb)
            have Ro' := Lib.hid (Ro.out.next hb)
            have Xc' := Lib.hid (Xc.out.keep hb Lc.out)
            have Lc' := Lib.hid (Nat.lt_of_lt_of_le Lc.out hb.size)
            have Ic' := Lib.hid (Ic.out.next hb)
            have Rp' := Lib.hid (Rp.out.next hb)
            clear T XM LM Rm Ro Xc Lc Ic Rp hb
            have T := T'
            have XM := XM'
            have LM := LM'
            have Rm := Rm'
            have Ro := Ro'
            have Xc := Xc'
            have Lc := Lc'
            have Ic := Ic'
            have Rp := Rp'
            clear T' XM' LM' Rm' Ro' Xc' Lc' Ic' Rp'
            have hr := own_strsS ho E3
            clear ho hnc hcm
            have Rq := Lib.hid hr.2
            have hnq := hr.1
            clear hr
            obtain ⟨c20_0, c20_1, c20_2, c20_3, c20_4⟩ := Xc.out
            try dsimp only at c20_0 c20_1 c20_2 c20_3 c20_4
            go_wp2_with fail
            refine (Sc.out _ _ Ic.out).mono ?_
            rintro e w21 ⟨Ar, nr, cr, rfl, ho, hb, hnc, hcm⟩
            clear c20_0 c20_1 c20_2 c20_3 c20_4
            have T' := Lib.hid (below_next T.out hb)
            have XM' := Lib.hid (XM.out.keep hb LM.out)
            have LM' := Lib.hid (Nat.lt_of_lt_of_le LM.out hb.size)
            have Rm' := Lib.hid (Rm.out.next hb)
            have Ro' := Lib.hid (Ro.out.next hb)
            have Xc' := Lib.hid (Xc.out.keep hb Lc.out)
            have Lc' := Lib.hid (Nat.lt_of_lt_of_le Lc.out hb.size)
            have Ic' := Lib.hid (Ic.out.next hb)
            have Rp' := Lib.hid (Rp.out.next hb)
            have Rq' := Lib.hid (Rq.out.next hb)
            clear T XM LM Rm Ro Xc Lc Ic Rp Rq hb
            have T := T'
            have XM := XM'
            have LM := LM'
            have Rm := Rm'
            have Ro := Ro'
            have Xc := Xc'
            have Lc := Lc'
            have Ic := Ic'
            have Rp := Rp'
            have Rq := Rq'
            clear T' XM' LM' Rm' Ro' Xc' Lc' Ic' Rp' Rq'
            have hr := own_strsS ho E2
            clear ho hnc hcm
            have Rr := Lib.hid hr.2
            have hnr := hr.1
            clear hr
            go_wp2_with fail
            refine (snapsBegun_any _).mono ?_
            rintro e w22 ⟨rfl, hb⟩
            have T' := Lib.hid (below_next T.out hb)
            have XM' := Lib.hid (XM.out.keep hb LM.out)
            have LM' := Lib.hid (Nat.lt_of_lt_of_le LM.out hb.size)
            have Rm' := Lib.hid (Rm.out.next hb)
            have Ro' := Lib.hid (Ro.out.next hb)
            have Xc' := Lib.hid (Xc.out.keep hb Lc.out)
            have Lc' := Lib.hid (Nat.lt_of_lt_of_le Lc.out hb.size)
            have Ic' := Lib.hid (Ic.out.next hb)
            have Rp' := Lib.hid (Rp.out.next hb)
            have Rq' := Lib.hid (Rq.out.next hb)
            have Rr' := Lib.hid (Rr.out.next hb)
            clear T XM LM Rm Ro Xc Lc Ic Rp Rq Rr hb
            have T := T'
            have XM := XM'
            have LM := LM'
            have Rm := Rm'
            have Ro := Ro'
            have Xc := Xc'
            have Lc := Lc'
            have Ic := Ic'
            have Rp := Rp'
            have Rq := Rq'
            have Rr := Rr'
            clear T' XM' LM' Rm' Ro' Xc' Lc' Ic' Rp' Rq' Rr'
            go_wp2_with fail
            refine (samePages_any Ap Am _ _ cp cm _ _ _ Rp.out Rm.out hnp hnm).mono ?_
            rintro e w23 ⟨rfl, hb⟩
            have T' := Lib.hid (below_next T.out hb)
            have XM' := Lib.hid (XM.out.keep hb LM.out)
            have LM' := Lib.hid (Nat.lt_of_lt_of_le LM.out hb.size)
            have Rm' := Lib.hid (Rm.out.next hb)
            have Ro' := Lib.hid (Ro.out.next hb)
            have Xc' := Lib.hid (Xc.out.keep hb Lc.out)
            have Lc' := Lib.hid (Nat.lt_of_lt_of_le Lc.out hb.size)
            have Ic' := Lib.hid (Ic.out.next hb)
            have Rp' := Lib.hid (Rp.out.next hb)
            have Rq' := Lib.hid (Rq.out.next hb)
            have Rr' := Lib.hid (Rr.out.next hb)
            clear T XM LM Rm Ro Xc Lc Ic Rp Rq Rr hb
            have T := T'
            have XM := XM'
            have LM := LM'
            have Rm := Rm'
            have Ro := Ro'
            have Xc := Xc'
            have Lc := Lc'
            have Ic := Ic'
            have Rp := Rp'
            have Rq := Rq'
            have Rr := Rr'
            clear T' XM' LM' Rm' Ro' Xc' Lc' Ic' Rp' Rq' Rr'
            try simp only [decide_true]
            go_wp2_with fail
            refine (samePages_any Ar Ao _ _ cr co _ _ _ Rr.out Ro.out hnr hno).mono ?_
            rintro e w24 ⟨rfl, hb⟩
            have T' := Lib.hid (below_next T.out hb)
            have XM' := Lib.hid (XM.out.keep hb LM.out)
            have LM' := Lib.hid (Nat.lt_of_lt_of_le LM.out hb.size)
            have Rm' := Lib.hid (Rm.out.next hb)
            have Ro' := Lib.hid (Ro.out.next hb)
            have Xc' := Lib.hid (Xc.out.keep hb Lc.out)
            have Lc' := Lib.hid (Nat.lt_of_lt_of_le Lc.out hb.size)
            have Ic' := Lib.hid (Ic.out.next hb)
            have Rp' := Lib.hid (Rp.out.next hb)
            have Rq' := Lib.hid (Rq.out.next hb)
            have Rr' := Lib.hid (Rr.out.next hb)
            clear T XM LM Rm Ro Xc Lc Ic Rp Rq Rr hb
            have T := T'
            have XM := XM'
            have LM := LM'
            have Rm := Rm'
            have Ro := Ro'
            have Xc := Xc'
            have Lc := Lc'
            have Ic := Ic'
            have Rp := Rp'
            have Rq := Rq'
            have Rr := Rr'
            clear T' XM' LM' Rm' Ro' Xc' Lc' Ic' Rp' Rq' Rr'
            try simp only [decide_true]
            go_wp2_with fail
            go_ret
            exact ⟨rfl, T.out⟩
          · obtain ⟨h3, h3'⟩ := h3
            go_wp2_with fail
            generalize (w14.alloc (.cells #[.int .i64 zc.guest, .slice crA crn crc, .slice csA csn csc, .slice cfA cfn cfc, .slice cpA cpn cpc] 26)) = W15 at *
            refine (snapsBegun_any _).mono ?_
            rintro e w16 ⟨rfl, hb⟩
            have T' := Lib.hid (below_next T.out hb)
            have XM' := Lib.hid (XM.out.keep hb LM.out)
            have LM' := Lib.hid (Nat.lt_of_lt_of_le LM.out hb.size)
            have Rm' := Lib.hid (Rm.out.next hb)
            have Ro' := Lib.hid (Ro.out.next hb)
            have Xc' := Lib.hid (Xc.out.keep hb Lc.out)
            have Lc' := Lib.hid (Nat.lt_of_lt_of_le Lc.out hb.size)
            have Ic' := Lib.hid (Ic.out.next hb)
            clear T XM LM Rm Ro Xc Lc Ic hb
            have T := T'
            have XM := XM'
            have LM := LM'
            have Rm := Rm'
            have Ro := Ro'
            have Xc := Xc'
            have Lc := Lc'
            have Ic := Ic'
            clear T' XM' LM' Rm' Ro' Xc' Lc' Ic'
            go_wp2_with fail
            go_ret
            exact ⟨rfl, T.out⟩
  · obtain ⟨h0, h0'⟩ := h0
    go_wp2_with fail
    refine (snapsBegun_any _).mono ?_
    rintro e w5 ⟨rfl, hb⟩
    have T' := Lib.hid (below_next T.out hb)
    have XM' := Lib.hid (XM.out.keep hb LM.out)
    have LM' := Lib.hid (Nat.lt_of_lt_of_le LM.out hb.size)
    have Rm' := Lib.hid (Rm.out.next hb)
    clear T XM LM Rm hb
    have T := T'
    have XM := XM'
    have LM := LM'
    have Rm := Rm'
    clear T' XM' LM' Rm'
    go_wp2_with fail
    go_ret
    exact ⟨rfl, T.out⟩
end Go.Proofs.Ytfilnnjanhjbeaa
