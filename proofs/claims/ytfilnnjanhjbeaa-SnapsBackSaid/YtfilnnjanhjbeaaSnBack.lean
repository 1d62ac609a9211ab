/- The law SnapsBack. Conditions: what is handed in is read below the heap's size. (Printed by gen_snlaws.py.) -/
import Derived.Test.YtfilnnjanhjbeaaSnBegun
import Derived.Test.YtfilnnjanhjbeaaSameImg
import Derived.Test.YtfilnnjanhjbeaaSame
namespace Go.Proofs.Ytfilnnjanhjbeaa
open Go.RowKit Sl
theorem own_strsS {w : World} {base n c : Nat} {A : Option Addr} {l : List ByteArray} (h : w.ownsRow base 9 1 (.slice A n c) n (l.map Value.string)) (hl : l.length ≤ 16) : n ≤ 4611686018427387903 ∧ Rd w w.heap.size 1 A n (l.map Value.string) := ⟨by have := h.1; simp at this; omega, Rd.of_own h⟩
theorem pastV_lenS (m : Img) (name : ByteArray) : (pastV m name).length ≤ 16 := by
  by_cases hm : checkErr m = 0
  · by_cases hn : m.snaps.any (named name) = true
    · obtain ⟨k, s, _, hs, _, _, _, e⟩ := past_ok hm hn
      rw [e, allV_len]
      have := (snap_facts hm hs).2.1
      omega
    · rw [(past_none hm (by simpa using hn)).2.1]; exact Nat.zero_le _
  · rw [(past_no hm).2]; exact Nat.zero_le _
theorem allM_lenS (m : Img) : (allM m).length ≤ 16 := by
  by_cases h : checkErr m = 0
  · exact (pagesErr_len (allM_facts h).1).1
  · rw [allM_no h]; exact Nat.zero_le _
set_option maxRecDepth 100000 in
set_option maxHeartbeats 8000000 in
theorem law_snapsBack (v : IV) (m : Img) (name : ByteArray) (n : Int) (pg : ByteArray) (w : World) (h : ImgR w w.heap.size v m) (hsz : name.size ≤ 4611686018427387903) :
    Calls Try.prog 6 #[.agg #[.int .i64 m.guest, .slice v.rA v.rn v.rc, .slice v.sA v.sn v.sc, .slice v.fA v.fn v.fc, .slice v.pA v.pn v.pc], .string name, .int .i64 n, .string pg] w fun e w' => e = .returned (.bool true) ∧ Below w.heap.size w w' := by
  have Ka' := fun W (hb : Below w.heap.size w W) => create_any v m name W (h.next hb) hsz
  have Kb' := fun v W (hi : ImgR W W.heap.size v (createI m name)) => write_any v (createI m name) n pg W hi (fun x => write_hw x)
  have Kc' := fun v W (hi : ImgR W W.heap.size v (writeI (createI m name) n pg)) => revert_any v (writeI (createI m name) n pg) name W hi
  have Kd' := fun v W (hi : ImgR W W.heap.size v (revertI (writeI (createI m name) n pg) name)) => delete_any v (revertI (writeI (createI m name) n pg) name) name W hi
  have KU' := fun W (hb : Below w.heap.size w W) => used_any v.sA v.sn v.sc m.slots W (h.next hb).slots h.scap.1
  have KV' := fun v W (hi : ImgR W W.heap.size v (deleteI (revertI (writeI (createI m name) n pg) name) name)) => used_any v.sA v.sn v.sc (deleteI (revertI (writeI (createI m name) n pg) name) name).slots W hi.slots hi.scap.1
  have Km' := fun W (hb : Below w.heap.size w W) => tAll_any v m W (h.next hb)
  have Kl' := fun v W (hi : ImgR W W.heap.size v (deleteI (revertI (writeI (createI m name) n pg) name) name)) => tAll_any v (deleteI (revertI (writeI (createI m name) n pg) name) name) W hi
  have KS' := fun v' W (hb : Below w.heap.size w W) (hi : ImgR W W.heap.size v' (deleteI (revertI (writeI (createI m name) n pg) name) name)) (e : (deleteI (revertI (writeI (createI m name) n pg) name) name).root = m.root) => sameInts_any v'.rA v.rA v'.rn v.rn v'.rc v.rc m.root m.root W (e ▸ hi.root) (h.next hb).root hi.rcap.1 h.rcap.1
  have Fk' := fun h1 h2 => back_true (m := m) (name := name) (n := n) (pg := pg) h1 h2
  have HPL := Lib.hid h.plen
  have E1 := allM_lenS m
  generalize deleteI (revertI (writeI (createI m name) n pg) name) name = zd at *
  generalize pastE (revertI (writeI (createI m name) n pg) name) name = ed at *
  generalize revertI (writeI (createI m name) n pg) name = zc at *
  generalize pastE (writeI (createI m name) n pg) name = ec at *
  generalize writeI (createI m name) n pg = zb at *
  generalize writeE (createI m name) n pg = eb at *
  generalize createI m name = za at *
  generalize createE m name = ea at *
  generalize checkErr m = cm at *
  generalize checkErr zd = cd at *
  generalize slotsErr m.slots = se at *
  generalize slotsErr zd.slots = sd at *
  generalize usedN m.slots = us at *
  generalize usedN zd.slots = ud at *
  generalize allM zd = ld at *
  generalize allM m = al at *
  have Cea : ea = 0 ∨ ((ea == 0) = false ∧ (ea != 0) = true) := by
    by_cases hh : ea = 0
    · exact .inl hh
    · right; simpa using hh
  have Ceb : eb = 0 ∨ ((eb == 0) = false ∧ (eb != 0) = true) := by
    by_cases hh : eb = 0
    · exact .inl hh
    · right; simpa using hh
  obtain ⟨rA, rn, rc, sA, sn, sc, fA, fn, fc, pA, pn, pc⟩ := v
  dsimp only [imgV] at Ka' Kb' Kc' Kd' KU' KV' Km' Kl' KS' ⊢
  have Ka := Lib.hid Ka'
  have Kb := Lib.hid Kb'
  have Kc := Lib.hid Kc'
  have Kd := Lib.hid Kd'
  have KU := Lib.hid KU'
  have KV := Lib.hid KV'
  have Km := Lib.hid Km'
  have Kl := Lib.hid Kl'
  have KS := Lib.hid KS'
  have Fk := Lib.hid Fk'
  clear Ka' Kb' Kc' Kd' KU' KV' Km' Kl' KS' Fk' h
  have T0' := below1 w (.cells #[.int .i64 m.guest, .slice rA rn rc, .slice sA sn sc, .slice fA fn fc, .slice pA pn pc] 26)
  have X0' := Box.new w m.guest ⟨rA, rn, rc, sA, sn, sc, fA, fn, fc, pA, pn, pc⟩ 26
  have L0' : w.heap.size < (w.alloc (.cells #[.int .i64 m.guest, .slice rA rn rc, .slice sA sn sc, .slice fA fn fc, .slice pA pn pc] 26)).heap.size := by simp
  have T := Lib.hid T0'
  have XM := Lib.hid X0'
  have LM := Lib.hid L0'
  clear T0' X0' L0'
  obtain ⟨c1_0, c1_1, c1_2, c1_3, c1_4⟩ := XM.out
  try dsimp only at c1_0 c1_1 c1_2 c1_3 c1_4
  go_enter Try.func6, Try.ntmps6
  try dsimp only [List.append]
  clear c1_0 c1_1 c1_2 c1_3 c1_4
  obtain ⟨c2_0, c2_1, c2_2, c2_3, c2_4⟩ := XM.out
  try dsimp only at c2_0 c2_1 c2_2 c2_3 c2_4
  go_wp2_with fail
  generalize (w.alloc (.cells #[.int .i64 m.guest, .slice rA rn rc, .slice sA sn sc, .slice fA fn fc, .slice pA pn pc] 26)) = W3 at *
  refine (Ka.out _ T.out).mono ?_
  rintro e w4 ⟨v, rfl, hF, hb⟩
  clear c2_0 c2_1 c2_2 c2_3 c2_4
  have T' := Lib.hid (below_next T.out hb)
  have XM' := Lib.hid (XM.out.keep hb LM.out)
  have LM' := Lib.hid (Nat.lt_of_lt_of_le LM.out hb.size)
  clear T XM LM hb
  have T := T'
  have XM := XM'
  have LM := LM'
  clear T' XM' LM'
  have hx := Box.new w4 za.guest v 26
  have b1 := below1 w4 (.cells #[.int .i64 za.guest, .slice v.rA v.rn v.rc, .slice v.sA v.sn v.sc, .slice v.fA v.fn v.fc, .slice v.pA v.pn v.pc] 26)
  have hi2 := hF.imgR.next b1
  have hlt : w4.heap.size < (w4.alloc (.cells #[.int .i64 za.guest, .slice v.rA v.rn v.rc, .slice v.sA v.sn v.sc, .slice v.fA v.fn v.fc, .slice v.pA v.pn v.pc] 26)).heap.size := by simp
  have T' := Lib.hid (below_next T.out b1)
  have XM' := Lib.hid (XM.out.keep b1 LM.out)
  have LM' := Lib.hid (Nat.lt_of_lt_of_le LM.out b1.size)
  clear T XM LM b1
  have T := T'
  have XM := XM'
  have LM := LM'
  clear T' XM' LM'
  obtain ⟨arA, arn, arc, asA, asn, asc, afA, afn, afc, apA, apn, apc⟩ := v
  have Ia := Lib.hid hi2
  have Xa := Lib.hid hx
  have La := Lib.hid hlt
  dsimp only [imgV] at Ia Xa La T XM LM ⊢
  clear hF hx hi2 hlt
  obtain ⟨c5_0, c5_1, c5_2, c5_3, c5_4⟩ := Xa.out
  try dsimp only at c5_0 c5_1 c5_2 c5_3 c5_4
  clear c5_0 c5_1 c5_2 c5_3 c5_4
  obtain ⟨c6_0, c6_1, c6_2, c6_3, c6_4⟩ := Xa.out
  try dsimp only at c6_0 c6_1 c6_2 c6_3 c6_4
  go_wp2_with fail
  generalize (w4.alloc (.cells #[.int .i64 za.guest, .slice arA arn arc, .slice asA asn asc, .slice afA afn afc, .slice apA apn apc] 26)) = W7 at *
  refine (Kb.out _ _ Ia.out).mono ?_
  rintro e w8 ⟨v, rfl, hF, hb⟩
  clear c6_0 c6_1 c6_2 c6_3 c6_4
  have T' := Lib.hid (below_next T.out hb)
  have XM' := Lib.hid (XM.out.keep hb LM.out)
  have LM' := Lib.hid (Nat.lt_of_lt_of_le LM.out hb.size)
  have Xa' := Lib.hid (Xa.out.keep hb La.out)
  have La' := Lib.hid (Nat.lt_of_lt_of_le La.out hb.size)
  have Ia' := Lib.hid (Ia.out.next hb)
  clear T XM LM Xa La Ia hb
  have T := T'
  have XM := XM'
  have LM := LM'
  have Xa := Xa'
  have La := La'
  have Ia := Ia'
  clear T' XM' LM' Xa' La' Ia'
  have hx := Box.new w8 zb.guest v 26
  have b1 := below1 w8 (.cells #[.int .i64 zb.guest, .slice v.rA v.rn v.rc, .slice v.sA v.sn v.sc, .slice v.fA v.fn v.fc, .slice v.pA v.pn v.pc] 26)
  have hi2 := hF.imgR.next b1
  have hlt : w8.heap.size < (w8.alloc (.cells #[.int .i64 zb.guest, .slice v.rA v.rn v.rc, .slice v.sA v.sn v.sc, .slice v.fA v.fn v.fc, .slice v.pA v.pn v.pc] 26)).heap.size := by simp
  have T' := Lib.hid (below_next T.out b1)
  have XM' := Lib.hid (XM.out.keep b1 LM.out)
  have LM' := Lib.hid (Nat.lt_of_lt_of_le LM.out b1.size)
  have Xa' := Lib.hid (Xa.out.keep b1 La.out)
  have La' := Lib.hid (Nat.lt_of_lt_of_le La.out b1.size)
  have Ia' := Lib.hid (Ia.out.next b1)
  clear T XM LM Xa La Ia b1
  have T := T'
  have XM := XM'
  have LM := LM'
  have Xa := Xa'
  have La := La'
  have Ia := Ia'
  clear T' XM' LM' Xa' La' Ia'
  obtain ⟨brA, brn, brc, bsA, bsn, bsc, bfA, bfn, bfc, bpA, bpn, bpc⟩ := v
  have Ib := Lib.hid hi2
  have Xb := Lib.hid hx
  have Lb := Lib.hid hlt
  dsimp only [imgV] at Ib Xb Lb T XM LM Xa La Ia ⊢
  clear hF hx hi2 hlt
  rcases Cea with h1 | h1
  · rcases Ceb with h2 | h2
    · subst h1 h2
      obtain ⟨f1, f2, f3, f4, f5, f6, f7, f8, f9, f10⟩ := Fk.out rfl rfl
      subst f1 f2 f3 f4 f5 f6 f7 f8
      clear Fk
      have HRT := Lib.hid f9
      have HSN := Lib.hid f10
      clear f9 f10
      obtain ⟨c9_0, c9_1, c9_2, c9_3, c9_4⟩ := Xb.out
      try dsimp only at c9_0 c9_1 c9_2 c9_3 c9_4
      go_wp2_with fail
      generalize (w8.alloc (.cells #[.int .i64 zb.guest, .slice brA brn brc, .slice bsA bsn bsc, .slice bfA bfn bfc, .slice bpA bpn bpc] 26)) = W10 at *
      refine (Kc.out _ _ Ib.out).mono ?_
      rintro e w11 ⟨v, rfl, hF, hb⟩
      clear c9_0 c9_1 c9_2 c9_3 c9_4
      have T' := Lib.hid (below_next T.out hb)
      have XM' := Lib.hid (XM.out.keep hb LM.out)
      have LM' := Lib.hid (Nat.lt_of_lt_of_le LM.out hb.size)
      have Xa' := Lib.hid (Xa.out.keep hb La.out)
      have La' := Lib.hid (Nat.lt_of_lt_of_le La.out hb.size)
      have Ia' := Lib.hid (Ia.out.next hb)
      have Xb' := Lib.hid (Xb.out.keep hb Lb.out)
      have Lb' := Lib.hid (Nat.lt_of_lt_of_le Lb.out hb.size)
      have Ib' := Lib.hid (Ib.out.next hb)
      clear T XM LM Xa La Ia Xb Lb Ib hb
      have T := T'
      have XM := XM'
      have LM := LM'
      have Xa := Xa'
      have La := La'
      have Ia := Ia'
      have Xb := Xb'
      have Lb := Lb'
      have Ib := Ib'
      clear T' XM' LM' Xa' La' Ia' Xb' Lb' Ib'
      have hx := Box.new w11 zc.guest v 26
      have b1 := below1 w11 (.cells #[.int .i64 zc.guest, .slice v.rA v.rn v.rc, .slice v.sA v.sn v.sc, .slice v.fA v.fn v.fc, .slice v.pA v.pn v.pc] 26)
      have hi2 := hF.imgR.next b1
      have hlt : w11.heap.size < (w11.alloc (.cells #[.int .i64 zc.guest, .slice v.rA v.rn v.rc, .slice v.sA v.sn v.sc, .slice v.fA v.fn v.fc, .slice v.pA v.pn v.pc] 26)).heap.size := by simp
      have T' := Lib.hid (below_next T.out b1)
      have XM' := Lib.hid (XM.out.keep b1 LM.out)
      have LM' := Lib.hid (Nat.lt_of_lt_of_le LM.out b1.size)
      have Xa' := Lib.hid (Xa.out.keep b1 La.out)
      have La' := Lib.hid (Nat.lt_of_lt_of_le La.out b1.size)
      have Ia' := Lib.hid (Ia.out.next b1)
      have Xb' := Lib.hid (Xb.out.keep b1 Lb.out)
      have Lb' := Lib.hid (Nat.lt_of_lt_of_le Lb.out b1.size)
      have Ib' := Lib.hid (Ib.out.next b1)
      clear T XM LM Xa La Ia Xb Lb Ib b1
      have T := T'
      have XM := XM'
      have LM := LM'
      have Xa := Xa'
      have La := La'
      have Ia := Ia'
      have Xb := Xb'
      have Lb := Lb'
      have Ib := Ib'
      clear T' XM' LM' Xa' La' Ia' Xb' Lb' Ib'
      obtain ⟨crA, crn, crc, csA, csn, csc, cfA, cfn, cfc, cpA, cpn, cpc⟩ := v
      have Ic := Lib.hid hi2
      have Xc := Lib.hid hx
      have Lc := Lib.hid hlt
      dsimp only [imgV] at Ic Xc Lc T XM LM Xa La Ia Xb Lb Ib ⊢
      clear hF hx hi2 hlt
      obtain ⟨c12_0, c12_1, c12_2, c12_3, c12_4⟩ := Xc.out
      try dsimp only at c12_0 c12_1 c12_2 c12_3 c12_4
      go_wp2_with fail
      generalize (w11.alloc (.cells #[.int .i64 zc.guest, .slice crA crn crc, .slice csA csn csc, .slice cfA cfn cfc, .slice cpA cpn cpc] 26)) = W13 at *
      refine (Kd.out _ _ Ic.out).mono ?_
      rintro e w14 ⟨v, rfl, hF, hb⟩
      clear c12_0 c12_1 c12_2 c12_3 c12_4
      have T' := Lib.hid (below_next T.out hb)
      have XM' := Lib.hid (XM.out.keep hb LM.out)
      have LM' := Lib.hid (Nat.lt_of_lt_of_le LM.out hb.size)
      have Xa' := Lib.hid (Xa.out.keep hb La.out)
      have La' := Lib.hid (Nat.lt_of_lt_of_le La.out hb.size)
      have Ia' := Lib.hid (Ia.out.next hb)
      have Xb' := Lib.hid (Xb.out.keep hb Lb.out)
      have Lb' := Lib.hid (Nat.lt_of_lt_of_le Lb.out hb.size)
      have Ib' := Lib.hid (Ib.out.next hb)
      have Xc' := Lib.hid (Xc.out.keep hb Lc.out)
      have Lc' := Lib.hid (Nat.lt_of_lt_of_le Lc.out hb.size)
      have Ic' := Lib.hid (Ic.out.next hb)
      clear T XM LM Xa La Ia Xb Lb Ib Xc Lc Ic hb
      have T := T'
      have XM := XM'
      have LM := LM'
      have Xa := Xa'
      have La := La'
      have Ia := Ia'
      have Xb := Xb'
      have Lb := Lb'
      have Ib := Ib'
      have Xc := Xc'
      have Lc := Lc'
      have Ic := Ic'
      clear T' XM' LM' Xa' La' Ia' Xb' Lb' Ib' Xc' Lc' Ic'
      have hx := Box.new w14 zd.guest v 26
      have b1 := below1 w14 (.cells #[.int .i64 zd.guest, .slice v.rA v.rn v.rc, .slice v.sA v.sn v.sc, .slice v.fA v.fn v.fc, .slice v.pA v.pn v.pc] 26)
      have hi2 := hF.imgR.next b1
      have hlt : w14.heap.size < (w14.alloc (.cells #[.int .i64 zd.guest, .slice v.rA v.rn v.rc, .slice v.sA v.sn v.sc, .slice v.fA v.fn v.fc, .slice v.pA v.pn v.pc] 26)).heap.size := by simp
      have T' := Lib.hid (below_next T.out b1)
      have XM' := Lib.hid (XM.out.keep b1 LM.out)
      have LM' := Lib.hid (Nat.lt_of_lt_of_le LM.out b1.size)
      have Xa' := Lib.hid (Xa.out.keep b1 La.out)
      have La' := Lib.hid (Nat.lt_of_lt_of_le La.out b1.size)
      have Ia' := Lib.hid (Ia.out.next b1)
      have Xb' := Lib.hid (Xb.out.keep b1 Lb.out)
      have Lb' := Lib.hid (Nat.lt_of_lt_of_le Lb.out b1.size)
      have Ib' := Lib.hid (Ib.out.next b1)
      have Xc' := Lib.hid (Xc.out.keep b1 Lc.out)
      have Lc' := Lib.hid (Nat.lt_of_lt_of_le Lc.out b1.size)
      have Ic' := Lib.hid (Ic.out.next b1)
      clear T XM LM Xa La Ia Xb Lb Ib Xc Lc Ic b1
      have T := T'
      have XM := XM'
      have LM := LM'
      have Xa := Xa'
      have La := La'
      have Ia := Ia'
      have Xb := Xb'
      have Lb := Lb'
      have Ib := Ib'
      have Xc := Xc'
      have Lc := Lc'
      have Ic := Ic'
      clear T' XM' LM' Xa' La' Ia' Xb' Lb' Ib' Xc' Lc' Ic'
      obtain ⟨drA, drn, drc, dsA, dsn, dsc, dfA, dfn, dfc, dpA, dpn, dpc⟩ := v
      have Id := Lib.hid hi2
      have Xd := Lib.hid hx
      have Ld := Lib.hid hlt
      dsimp only [imgV] at Id Xd Ld T XM LM Xa La Ia Xb Lb Ib Xc Lc Ic ⊢
      clear hF hx hi2 hlt
      obtain ⟨c15_0, c15_1, c15_2, c15_3, c15_4⟩ := XM.out
      try dsimp only at c15_0 c15_1 c15_2 c15_3 c15_4
      go_wp2_with fail
      generalize (w14.alloc (.cells #[.int .i64 zd.guest, .slice drA drn drc, .slice dsA dsn dsc, .slice dfA dfn dfc, .slice dpA dpn dpc] 26)) = W16 at *
      refine (KU.out _ T.out).mono ?_
      rintro e w17 ⟨rfl, hb⟩
      clear c15_0 c15_1 c15_2 c15_3 c15_4
      have T' := Lib.hid (below_next T.out hb)
      have XM' := Lib.hid (XM.out.keep hb LM.out)
      have LM' := Lib.hid (Nat.lt_of_lt_of_le LM.out hb.size)
      have Xa' := Lib.hid (Xa.out.keep hb La.out)
      have La' := Lib.hid (Nat.lt_of_lt_of_le La.out hb.size)
      have Ia' := Lib.hid (Ia.out.next hb)
      have Xb' := Lib.hid (Xb.out.keep hb Lb.out)
      have Lb' := Lib.hid (Nat.lt_of_lt_of_le Lb.out hb.size)
      have Ib' := Lib.hid (Ib.out.next hb)
      have Xc' := Lib.hid (Xc.out.keep hb Lc.out)
      have Lc' := Lib.hid (Nat.lt_of_lt_of_le Lc.out hb.size)
      have Ic' := Lib.hid (Ic.out.next hb)
      have Xd' := Lib.hid (Xd.out.keep hb Ld.out)
      have Ld' := Lib.hid (Nat.lt_of_lt_of_le Ld.out hb.size)
      have Id' := Lib.hid (Id.out.next hb)
      clear T XM LM Xa La Ia Xb Lb Ib Xc Lc Ic Xd Ld Id hb
      have T := T'
      have XM := XM'
      have LM := LM'
      have Xa := Xa'
      have La := La'
      have Ia := Ia'
      have Xb := Xb'
      have Lb := Lb'
      have Ib := Ib'
      have Xc := Xc'
      have Lc := Lc'
      have Ic := Ic'
      have Xd := Xd'
      have Ld := Ld'
      have Id := Id'
      clear T' XM' LM' Xa' La' Ia' Xb' Lb' Ib' Xc' Lc' Ic' Xd' Ld' Id'
      obtain ⟨c18_0, c18_1, c18_2, c18_3, c18_4⟩ := Xd.out
      try dsimp only at c18_0 c18_1 c18_2 c18_3 c18_4
      go_wp2_with fail
      refine (KV.out _ _ Id.out).mono ?_
      rintro e w19 ⟨rfl, hb⟩
      clear c18_0 c18_1 c18_2 c18_3 c18_4
      have T' := Lib.hid (below_next T.out hb)
      have XM' := Lib.hid (XM.out.keep hb LM.out)
      have LM' := Lib.hid (Nat.lt_of_lt_of_le LM.out hb.size)
      have Xa' := Lib.hid (Xa.out.keep hb La.out)
      have La' := Lib.hid (Nat.lt_of_lt_of_le La.out hb.size)
      have Ia' := Lib.hid (Ia.out.next hb)
      have Xb' := Lib.hid (Xb.out.keep hb Lb.out)
      have Lb' := Lib.hid (Nat.lt_of_lt_of_le Lb.out hb.size)
      have Ib' := Lib.hid (Ib.out.next hb)
      have Xc' := Lib.hid (Xc.out.keep hb Lc.out)
      have Lc' := Lib.hid (Nat.lt_of_lt_of_le Lc.out hb.size)
      have Ic' := Lib.hid (Ic.out.next hb)
      have Xd' := Lib.hid (Xd.out.keep hb Ld.out)
      have Ld' := Lib.hid (Nat.lt_of_lt_of_le Ld.out hb.size)
      have Id' := Lib.hid (Id.out.next hb)
      clear T XM LM Xa La Ia Xb Lb Ib Xc Lc Ic Xd Ld Id hb
      have T := T'
      have XM := XM'
      have LM := LM'
      have Xa := Xa'
      have La := La'
      have Ia := Ia'
      have Xb := Xb'
      have Lb := Lb'
      have Ib := Ib'
      have Xc := Xc'
      have Lc := Lc'
      have Ic := Ic'
      have Xd := Xd'
      have Ld := Ld'
      have Id := Id'
      clear T' XM' LM' Xa' La' Ia' Xb' Lb' Ib' Xc' Lc' Ic' Xd' Ld' Id'
      obtain ⟨c20_0, c20_1, c20_2, c20_3, c20_4⟩ := XM.out
      try dsimp only at c20_0 c20_1 c20_2 c20_3 c20_4
      go_wp2_with fail
      refine (Km.out _ T.out).mono ?_
      rintro e w21 ⟨Ax, nx, cx, rfl, ho, hb, hnc, hcm⟩
      clear c20_0 c20_1 c20_2 c20_3 c20_4
      have T' := Lib.hid (below_next T.out hb)
      have XM' := Lib.hid (XM.out.keep hb LM.out)
      have LM' := Lib.hid (Nat.lt_of_lt_of_le LM.out hb.size)
      have Xa' := Lib.hid (Xa.out.keep hb La.out)
      have La' := Lib.hid (Nat.lt_of_lt_of_le La.out hb.size)
      have Ia' := Lib.hid (Ia.out.next hb)
      have Xb' := Lib.hid (Xb.out.keep hb Lb.out)
      have Lb' := Lib.hid (Nat.lt_of_lt_of_le Lb.out hb.size)
      have Ib' := Lib.hid (Ib.out.next hb)
      have Xc' := Lib.hid (Xc.out.keep hb Lc.out)
      have Lc' := Lib.hid (Nat.lt_of_lt_of_le Lc.out hb.size)
      have Ic' := Lib.hid (Ic.out.next hb)
      have Xd' := Lib.hid (Xd.out.keep hb Ld.out)
      have Ld' := Lib.hid (Nat.lt_of_lt_of_le Ld.out hb.size)
      have Id' := Lib.hid (Id.out.next hb)
      clear T XM LM Xa La Ia Xb Lb Ib Xc Lc Ic Xd Ld Id hb
      have T := T'
      have XM := XM'
      have LM := LM'
      have Xa := Xa'
      have La := La'
      have Ia := Ia'
      have Xb := Xb'
      have Lb := Lb'
      have Ib := Ib'
      have Xc := Xc'
      have Lc := Lc'
      have Ic := Ic'
      have Xd := Xd'
      have Ld := Ld'
      have Id := Id'
      clear T' XM' LM' Xa' La' Ia' Xb' Lb' Ib' Xc' Lc' Ic' Xd' Ld' Id'
      have hr := own_strsS ho E1
      clear ho hnc hcm
      have Rx := Lib.hid hr.2
      have hnx := hr.1
      clear hr
      obtain ⟨c22_0, c22_1, c22_2, c22_3, c22_4⟩ := Xd.out
      try dsimp only at c22_0 c22_1 c22_2 c22_3 c22_4
      go_wp2_with fail
      refine (Kl.out _ _ Id.out).mono ?_
      rintro e w23 ⟨Ay, ny, cy, rfl, ho, hb, hnc, hcm⟩
      clear c22_0 c22_1 c22_2 c22_3 c22_4
      have T' := Lib.hid (below_next T.out hb)
      have XM' := Lib.hid (XM.out.keep hb LM.out)
      have LM' := Lib.hid (Nat.lt_of_lt_of_le LM.out hb.size)
      have Xa' := Lib.hid (Xa.out.keep hb La.out)
      have La' := Lib.hid (Nat.lt_of_lt_of_le La.out hb.size)
      have Ia' := Lib.hid (Ia.out.next hb)
      have Xb' := Lib.hid (Xb.out.keep hb Lb.out)
      have Lb' := Lib.hid (Nat.lt_of_lt_of_le Lb.out hb.size)
      have Ib' := Lib.hid (Ib.out.next hb)
      have Xc' := Lib.hid (Xc.out.keep hb Lc.out)
      have Lc' := Lib.hid (Nat.lt_of_lt_of_le Lc.out hb.size)
      have Ic' := Lib.hid (Ic.out.next hb)
      have Xd' := Lib.hid (Xd.out.keep hb Ld.out)
      have Ld' := Lib.hid (Nat.lt_of_lt_of_le Ld.out hb.size)
      have Id' := Lib.hid (Id.out.next hb)
      have Rx' := Lib.hid (Rx.out.next hb)
      clear T XM LM Xa La Ia Xb Lb Ib Xc Lc Ic Xd Ld Id Rx hb
      have T := T'
      have XM := XM'
      have LM := LM'
      have Xa := Xa'
      have La := La'
      have Ia := Ia'
      have Xb := Xb'
      have Lb := Lb'
      have Ib := Ib'
      have Xc := Xc'
      have Lc := Lc'
      have Ic := Ic'
      have Xd := Xd'
      have Ld := Ld'
      have Id := Id'
      have Rx := Rx'
      clear T' XM' LM' Xa' La' Ia' Xb' Lb' Ib' Xc' Lc' Ic' Xd' Ld' Id' Rx'
      have hr := own_strsS ho E1
      clear ho hnc hcm
      have Ry := Lib.hid hr.2
      have hny := hr.1
      clear hr
      go_wp2_with fail
      refine (snapsBegun_any _).mono ?_
      rintro e w24 ⟨rfl, hb⟩
      have T' := Lib.hid (below_next T.out hb)
      have XM' := Lib.hid (XM.out.keep hb LM.out)
      have LM' := Lib.hid (Nat.lt_of_lt_of_le LM.out hb.size)
      have Xa' := Lib.hid (Xa.out.keep hb La.out)
      have La' := Lib.hid (Nat.lt_of_lt_of_le La.out hb.size)
      have Ia' := Lib.hid (Ia.out.next hb)
      have Xb' := Lib.hid (Xb.out.keep hb Lb.out)
      have Lb' := Lib.hid (Nat.lt_of_lt_of_le Lb.out hb.size)
      have Ib' := Lib.hid (Ib.out.next hb)
      have Xc' := Lib.hid (Xc.out.keep hb Lc.out)
      have Lc' := Lib.hid (Nat.lt_of_lt_of_le Lc.out hb.size)
      have Ic' := Lib.hid (Ic.out.next hb)
      have Xd' := Lib.hid (Xd.out.keep hb Ld.out)
      have Ld' := Lib.hid (Nat.lt_of_lt_of_le Ld.out hb.size)
      have Id' := Lib.hid (Id.out.next hb)
      have Rx' := Lib.hid (Rx.out.next hb)
      have Ry' := Lib.hid (Ry.out.next hb)
      clear T XM LM Xa La Ia Xb Lb Ib Xc Lc Ic Xd Ld Id Rx Ry hb
      have T := T'
      have XM := XM'
      have LM := LM'
      have Xa := Xa'
      have La := La'
      have Ia := Ia'
      have Xb := Xb'
      have Lb := Lb'
      have Ib := Ib'
      have Xc := Xc'
      have Lc := Lc'
      have Ic := Ic'
      have Xd := Xd'
      have Ld := Ld'
      have Id := Id'
      have Rx := Rx'
      have Ry := Ry'
      clear T' XM' LM' Xa' La' Ia' Xb' Lb' Ib' Xc' Lc' Ic' Xd' Ld' Id' Rx' Ry'
      go_wp2_with fail
      refine (samePages_any Ax Ay _ _ cx cy _ _ _ Rx.out Ry.out hnx hny).mono ?_
      rintro e w25 ⟨rfl, hb⟩
      have T' := Lib.hid (below_next T.out hb)
      have XM' := Lib.hid (XM.out.keep hb LM.out)
      have LM' := Lib.hid (Nat.lt_of_lt_of_le LM.out hb.size)
      have Xa' := Lib.hid (Xa.out.keep hb La.out)
      have La' := Lib.hid (Nat.lt_of_lt_of_le La.out hb.size)
      have Ia' := Lib.hid (Ia.out.next hb)
      have Xb' := Lib.hid (Xb.out.keep hb Lb.out)
      have Lb' := Lib.hid (Nat.lt_of_lt_of_le Lb.out hb.size)
      have Ib' := Lib.hid (Ib.out.next hb)
      have Xc' := Lib.hid (Xc.out.keep hb Lc.out)
      have Lc' := Lib.hid (Nat.lt_of_lt_of_le Lc.out hb.size)
      have Ic' := Lib.hid (Ic.out.next hb)
      have Xd' := Lib.hid (Xd.out.keep hb Ld.out)
      have Ld' := Lib.hid (Nat.lt_of_lt_of_le Ld.out hb.size)
      have Id' := Lib.hid (Id.out.next hb)
      have Rx' := Lib.hid (Rx.out.next hb)
      have Ry' := Lib.hid (Ry.out.next hb)
      clear T XM LM Xa La Ia Xb Lb Ib Xc Lc Ic Xd Ld Id Rx Ry hb
      have T := T'
      have XM := XM'
      have LM := LM'
      have Xa := Xa'
      have La := La'
      have Ia := Ia'
      have Xb := Xb'
      have Lb := Lb'
      have Ib := Ib'
      have Xc := Xc'
      have Lc := Lc'
      have Ic := Ic'
      have Xd := Xd'
      have Ld := Ld'
      have Id := Id'
      have Rx := Rx'
      have Ry := Ry'
      clear T' XM' LM' Xa' La' Ia' Xb' Lb' Ib' Xc' Lc' Ic' Xd' Ld' Id' Rx' Ry'
      try simp only [decide_true]
      obtain ⟨c26_0, c26_1, c26_2, c26_3, c26_4⟩ := XM.out
      try dsimp only at c26_0 c26_1 c26_2 c26_3 c26_4
      obtain ⟨c27_0, c27_1, c27_2, c27_3, c27_4⟩ := Xd.out
      try dsimp only at c27_0 c27_1 c27_2 c27_3 c27_4
      go_wp2_with fail
      refine (KS.out _ _ T.out Id.out HRT.out).mono ?_
      rintro e w28 ⟨rfl, hb⟩
      clear c26_0 c26_1 c26_2 c26_3 c26_4 c27_0 c27_1 c27_2 c27_3 c27_4
      have T' := Lib.hid (below_next T.out hb)
      have XM' := Lib.hid (XM.out.keep hb LM.out)
      have LM' := Lib.hid (Nat.lt_of_lt_of_le LM.out hb.size)
      have Xa' := Lib.hid (Xa.out.keep hb La.out)
      have La' := Lib.hid (Nat.lt_of_lt_of_le La.out hb.size)
      have Ia' := Lib.hid (Ia.out.next hb)
      have Xb' := Lib.hid (Xb.out.keep hb Lb.out)
      have Lb' := Lib.hid (Nat.lt_of_lt_of_le Lb.out hb.size)
      have Ib' := Lib.hid (Ib.out.next hb)
      have Xc' := Lib.hid (Xc.out.keep hb Lc.out)
      have Lc' := Lib.hid (Nat.lt_of_lt_of_le Lc.out hb.size)
      have Ic' := Lib.hid (Ic.out.next hb)
      have Xd' := Lib.hid (Xd.out.keep hb Ld.out)
      have Ld' := Lib.hid (Nat.lt_of_lt_of_le Ld.out hb.size)
      have Id' := Lib.hid (Id.out.next hb)
      have Rx' := Lib.hid (Rx.out.next hb)
      have Ry' := Lib.hid (Ry.out.next hb)
      clear T XM LM Xa La Ia Xb Lb Ib Xc Lc Ic Xd Ld Id Rx Ry hb
      have T := T'
      have XM := XM'
      have LM := LM'
      have Xa := Xa'
      have La := La'
      have Ia := Ia'
      have Xb := Xb'
      have Lb := Lb'
      have Ib := Ib'
      have Xc := Xc'
      have Lc := Lc'
      have Ic := Ic'
      have Xd := Xd'
      have Ld := Ld'
      have Id := Id'
      have Rx := Rx'
      have Ry := Ry'
      clear T' XM' LM' Xa' La' Ia' Xb' Lb' Ib' Xc' Lc' Ic' Xd' Ld' Id' Rx' Ry'
      have hdp : dpn = pn := by have h1 := Id.out.plen; have h2 := HPL.out; dsimp only at h1 h2; rw [HSN.out] at h1; omega
      subst hdp
      obtain ⟨c29_0, c29_1, c29_2, c29_3, c29_4⟩ := XM.out
      try dsimp only at c29_0 c29_1 c29_2 c29_3 c29_4
      obtain ⟨c30_0, c30_1, c30_2, c30_3, c30_4⟩ := Xd.out
      try dsimp only at c30_0 c30_1 c30_2 c30_3 c30_4
      go_wp2_with fail
      go_ret
      exact ⟨rfl, T.out⟩
    · obtain ⟨h2, h2'⟩ := h2
      subst h1
      go_wp2_with fail
      generalize (w8.alloc (.cells #[.int .i64 zb.guest, .slice brA brn brc, .slice bsA bsn bsc, .slice bfA bfn bfc, .slice bpA bpn bpc] 26)) = W9 at *
      refine (snapsBegun_any _).mono ?_
      rintro e w10 ⟨rfl, hb⟩
      have T' := Lib.hid (below_next T.out hb)
      have XM' := Lib.hid (XM.out.keep hb LM.out)
      have LM' := Lib.hid (Nat.lt_of_lt_of_le LM.out hb.size)
      have Xa' := Lib.hid (Xa.out.keep hb La.out)
      have La' := Lib.hid (Nat.lt_of_lt_of_le La.out hb.size)
      have Ia' := Lib.hid (Ia.out.next hb)
      have Xb' := Lib.hid (Xb.out.keep hb Lb.out)
      have Lb' := Lib.hid (Nat.lt_of_lt_of_le Lb.out hb.size)
      have Ib' := Lib.hid (Ib.out.next hb)
      clear T XM LM Xa La Ia Xb Lb Ib hb
      have T := T'
      have XM := XM'
      have LM := LM'
      have Xa := Xa'
      have La := La'
      have Ia := Ia'
      have Xb := Xb'
      have Lb := Lb'
      have Ib := Ib'
      clear T' XM' LM' Xa' La' Ia' Xb' Lb' Ib'
      go_wp2_with fail
      go_ret
      exact ⟨rfl, T.out⟩
  · obtain ⟨h1, h1'⟩ := h1
    go_wp2_with fail
    generalize (w8.alloc (.cells #[.int .i64 zb.guest, .slice brA brn brc, .slice bsA bsn bsc, .slice bfA bfn bfc, .slice bpA bpn bpc] 26)) = W9 at *
    refine (snapsBegun_any _).mono ?_
    rintro e w10 ⟨rfl, hb⟩
    have T' := Lib.hid (below_next T.out hb)
    have XM' := Lib.hid (XM.out.keep hb LM.out)
    have LM' := Lib.hid (Nat.lt_of_lt_of_le LM.out hb.size)
    have Xa' := Lib.hid (Xa.out.keep hb La.out)
    have La' := Lib.hid (Nat.lt_of_lt_of_le La.out hb.size)
    have Ia' := Lib.hid (Ia.out.next hb)
    have Xb' := Lib.hid (Xb.out.keep hb Lb.out)
    have Lb' := Lib.hid (Nat.lt_of_lt_of_le Lb.out hb.size)
    have Ib' := Lib.hid (Ib.out.next hb)
    clear T XM LM Xa La Ia Xb Lb Ib hb
    have T := T'
    have XM := XM'
    have LM := LM'
    have Xa := Xa'
    have La := La'
    have Ia := Ia'
    have Xb := Xb'
    have Lb := Lb'
    have Ib := Ib'
    clear T' XM' LM' Xa' La' Ia' Xb' Lb' Ib'
    go_wp2_with fail
    go_ret
    exact ⟨rfl, T.out⟩
end Go.Proofs.Ytfilnnjanhjbeaa
