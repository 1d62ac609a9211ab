/- Texts of the proof of restImages_holds: RestLaw. Conditions: as each text says. -/
import Derived.Test.YtfilnnjanhjbeaaGreatRI40
import Derived.Test.YtfilnnjanhjbeaaGreatRI43
import Derived.Test.YtfilnnjanhjbeaaGreatRI46
import Derived.Test.YtfilnnjanhjbeaaGreatRI49
import Derived.Test.YtfilnnjanhjbeaaGreatRI50
import Derived.Test.YtfilnnjanhjbeaaGreatRI32
import Derived.Test.YtfilnnjanhjbeaaGreatRI51
namespace Go.Proofs.YtfilnnjanhjbeaaGreat
open Go.RowKit Sl
def ImgOut (z : Img) (W : World) (e : Ending) (W' : World) : Prop := ∃ (rA : Option Addr) (rn rc : Nat) (sA : Option Addr) (sn sc : Nat) (fA : Option Addr) (fn fc : Nat) (pA : Option Addr) (pn pc : Nat),
  e = .returned (.agg #[.int .i64 z.guest, .slice rA rn rc, .slice sA sn sc, .slice fA fn fc, .slice pA pn pc]) ∧ ImgR W' W'.heap.size ⟨rA, rn, rc, sA, sn, sc, fA, fn, fc, pA, pn, pc⟩ z ∧ Below W.heap.size W W'
theorem imgOut_of {z : Img} {W W' : World} {e : Ending} (h : OwnOut W z e W') : ImgOut z W e W' := by
  obtain ⟨⟨rA, rn, rc, sA, sn, sc, fA, fn, fc, pA, pn, pc⟩, tg, q, p, rfl, ho, hb⟩ := h
  exact ⟨rA, rn, rc, sA, sn, sc, fA, fn, fc, pA, pn, pc, rfl, ho.imgR, hb⟩
theorem imgOut_ofB {z : Img} {W W' : World} {e : Ending} (h : OwnOutB W.heap.size z W e W') : ImgOut z W e W' := by
  obtain ⟨⟨rA, rn, rc, sA, sn, sc, fA, fn, fc, pA, pn, pc⟩, tg, q, p, rfl, ho, hb⟩ := h
  exact ⟨rA, rn, rc, sA, sn, sc, fA, fn, fc, pA, pn, pc, rfl, ho.imgR, hb⟩
def vsel (a b c d : IV) (i : Nat) : IV := if i = 0 then a else if i = 1 then b else if i = 2 then c else d
set_option maxRecDepth 100000 in
set_option maxHeartbeats 8000000 in
theorem law_restImages (v : IV) (m : Img) (n : Int) (pg name : ByteArray) (w : World) (h : ImgR w w.heap.size v m) (hsz : name.size ≤ 4611686018427387903) :
    Calls Tryz.prog 3 #[.agg #[.int .i64 m.guest, .slice v.rA v.rn v.rc, .slice v.sA v.sn v.sc, .slice v.fA v.fn v.fc, .slice v.pA v.pn v.pc], .int .i64 n, .string pg, .string name] w fun e w' => e = .returned (.bool true) ∧ Below w.heap.size w w' := by
  have KC' := fun W (hb : Below w.heap.size w W) => rcheckimg_any v m W (h.next hb)
  by_cases he : checkErr m = 0
  · have SS := sound_of (check_is he).1
    have hfl : m.refs.length ≤ 40 := by rw [(sh_is (check_is he).1).1.refs]; exact SS.cbd.slots
    have KO' := fun W (hb : Below w.heap.size w W) => ownImg_any v m W (h.next hb) SS.cbd hfl
    have Ka' := fun W (hb : Below w.heap.size w W) => write_any v m n pg W (h.next hb) (fun x => write_hw x)
    have Kb' := fun W (hb : Below w.heap.size w W) => create_any v m name W (h.next hb) hsz
    have Kc' := fun W (hb : Below w.heap.size w W) => mpack_any v m W (h.next hb)
    have Kd' := fun W (hb : Below w.heap.size w W) => repairF_any v m W (h.next hb)
    have Kx' := fun W (hb : Below w.heap.size w W) => writeOf_any v m n pg W (h.next hb)
    have Ky' := fun W (hb : Below w.heap.size w W) => rcreate_any v m name W (h.next hb) hsz
    have KP' := fun W (hb : Below w.heap.size w W) => packOf_any v m W (h.next hb) he
    have KR' := fun W (hb : Below w.heap.size w W) => rrepair_any v m W (h.next hb) SS.cbd hfl
    rw [he] at KC' Kc'
    rw [packI_ok he] at Kc'
    rw [(check_is he).1, show repairV m = settled m from by unfold repairV; rw [if_pos (check_is he).1]] at Kd'
    have HI := Lib.hid (fun W (hb : Below w.heap.size w W) => h.next hb)
    generalize writeI m n pg = za at *
    generalize writeE m n pg = ea at *
    generalize createI m name = zb at *
    generalize createE m name = eb at *
    generalize packM m = zc at *
    generalize settled m = zd at *
    obtain ⟨rA, rn, rc, sA, sn, sc, fA, fn, fc, pA, pn, pc⟩ := v
    dsimp only [imgV] at KC' KO' Ka' Kb' Kc' Kd' Kx' Ky' KP' KR' HI ⊢
    have KC := Lib.hid KC'
    have KO := Lib.hid KO'
    have Ka := Lib.hid Ka'
    have Kb := Lib.hid Kb'
    have Kc := Lib.hid Kc'
    have Kd := Lib.hid Kd'
    have Kx := Lib.hid Kx'
    have Ky := Lib.hid Ky'
    have KP := Lib.hid KP'
    have KR := Lib.hid KR'
    clear KC' KO' Ka' Kb' Kc' Kd' Kx' Ky' KP' KR' h he SS hfl
    have T0' := below1 w (.cells #[.int .i64 m.guest, .slice rA rn rc, .slice sA sn sc, .slice fA fn fc, .slice pA pn pc] 26)
    have X0' := Box.new w m.guest ⟨rA, rn, rc, sA, sn, sc, fA, fn, fc, pA, pn, pc⟩ 26
    have L0' : w.heap.size < (w.alloc (.cells #[.int .i64 m.guest, .slice rA rn rc, .slice sA sn sc, .slice fA fn fc, .slice pA pn pc] 26)).heap.size := by simp
    have T := Lib.hid T0'
    have XM := Lib.hid X0'
    have LM := Lib.hid L0'
    clear T0' X0' L0'
    obtain ⟨c1_0, c1_1, c1_2, c1_3, c1_4⟩ := XM.out
    try dsimp only at c1_0 c1_1 c1_2 c1_3 c1_4
    go_enter Tryz.func3, Tryz.ntmps3
    try dsimp only [List.append]
    go_wp2_with fail
    generalize (w.alloc (.cells #[.int .i64 m.guest, .slice rA rn rc, .slice sA sn sc, .slice fA fn fc, .slice pA pn pc] 26)) = W2 at *
    refine (KC.out _ T.out).mono ?_
    rintro e w3 ⟨rfl, hb⟩
    clear c1_0 c1_1 c1_2 c1_3 c1_4
    replace T := Lib.hid (below_next T.out hb)
    replace XM := Lib.hid (XM.out.keep hb LM.out)
    replace LM := Lib.hid (Nat.lt_of_lt_of_le LM.out hb.size)
    clear hb
    obtain ⟨c4_0, c4_1, c4_2, c4_3, c4_4⟩ := XM.out
    try dsimp only at c4_0 c4_1 c4_2 c4_3 c4_4
    go_wp2_with fail
    refine (KO.out _ T.out).mono ?_
    rintro e w5 ⟨v, tg, q, p, rfl, hF, hb⟩
    clear c4_0 c4_1 c4_2 c4_3 c4_4
    replace T := Lib.hid (below_next T.out hb)
    replace XM := Lib.hid (XM.out.keep hb LM.out)
    replace LM := Lib.hid (Nat.lt_of_lt_of_le LM.out hb.size)
    clear hb
    have hx := Box.new w5 m.guest v 26
    have b1 := below1 w5 (.cells #[.int .i64 m.guest, .slice v.rA v.rn v.rc, .slice v.sA v.sn v.sc, .slice v.fA v.fn v.fc, .slice v.pA v.pn v.pc] 26)
    have hi2 := hF.imgR.next b1
    have hlt : w5.heap.size < (w5.alloc (.cells #[.int .i64 m.guest, .slice v.rA v.rn v.rc, .slice v.sA v.sn v.sc, .slice v.fA v.fn v.fc, .slice v.pA v.pn v.pc] 26)).heap.size := by simp
    replace T := Lib.hid (below_next T.out b1)
    replace XM := Lib.hid (XM.out.keep b1 LM.out)
    replace LM := Lib.hid (Nat.lt_of_lt_of_le LM.out b1.size)
    clear b1
    obtain ⟨orA, orn, orc, osA, osn, osc, ofA, ofn, ofc, opA, opn, opc⟩ := v
    have Io := Lib.hid hi2
    have Xo := Lib.hid hx
    have Lo := Lib.hid hlt
    dsimp only [imgV] at Io Xo Lo T XM LM ⊢
    clear hF hx hi2 hlt
    obtain ⟨c6_0, c6_1, c6_2, c6_3, c6_4⟩ := XM.out
    try dsimp only at c6_0 c6_1 c6_2 c6_3 c6_4
    go_wp2_with fail
    generalize (w5.alloc (.cells #[.int .i64 m.guest, .slice orA orn orc, .slice osA osn osc, .slice ofA ofn ofc, .slice opA opn opc] 26)) = W7 at *
    clear c6_0 c6_1 c6_2 c6_3 c6_4
    have ST := T
    have SXM := XM
    have SLM := LM
    have SXo := Xo
    have SLo := Lo
    have SIo := Io
    have HU : Hid (Below W7.heap.size W7 W7) := Lib.hid (Below.refl _ _)
    generalize hB : W7.heap.size = B at HU
    have HLE := Lib.hid (show B ≤ W7.heap.size from Nat.le_of_eq hB.symm)
    clear Xo Lo Io
    obtain ⟨c8_0, c8_1, c8_2, c8_3, c8_4⟩ := XM.out
    try dsimp only at c8_0 c8_1 c8_2 c8_3 c8_4
    go_wp2_with fail
    refine (Ka.out _ T.out).mono ?_
    rintro e w9 ⟨v, rfl, hF, hb⟩
    have hk := (Wk.fresh hF).lower HLE.out
    replace HU := Lib.hid (HU.out.trans (hb.mono HLE.out))
    replace HLE := Lib.hid (Nat.le_trans HLE.out hb.size)
    clear c8_0 c8_1 c8_2 c8_3 c8_4
    replace T := Lib.hid (below_next T.out hb)
    replace XM := Lib.hid (XM.out.keep hb LM.out)
    replace LM := Lib.hid (Nat.lt_of_lt_of_le LM.out hb.size)
    clear hb
    have hx := Box.new w9 za.guest v 26
    have b1 := below1 w9 (.cells #[.int .i64 za.guest, .slice v.rA v.rn v.rc, .slice v.sA v.sn v.sc, .slice v.fA v.fn v.fc, .slice v.pA v.pn v.pc] 26)
    have hk2 := hk.next b1
    have hlt : w9.heap.size < (w9.alloc (.cells #[.int .i64 za.guest, .slice v.rA v.rn v.rc, .slice v.sA v.sn v.sc, .slice v.fA v.fn v.fc, .slice v.pA v.pn v.pc] 26)).heap.size := by simp
    replace HU := Lib.hid (HU.out.trans (b1.mono HLE.out))
    replace HLE := Lib.hid (Nat.le_trans HLE.out b1.size)
    replace T := Lib.hid (below_next T.out b1)
    replace XM := Lib.hid (XM.out.keep b1 LM.out)
    replace LM := Lib.hid (Nat.lt_of_lt_of_le LM.out b1.size)
    clear b1
    obtain ⟨arA, arn, arc, asA, asn, asc, afA, afn, afc, apA, apn, apc⟩ := v
    have Ja := Lib.hid hk2
    have Xa := Lib.hid hx
    have La := Lib.hid hlt
    dsimp only [imgV] at Ja Xa La T XM LM HLE HU ⊢
    clear hF hk hk2 hx hlt
    obtain ⟨c10_0, c10_1, c10_2, c10_3, c10_4⟩ := XM.out
    try dsimp only at c10_0 c10_1 c10_2 c10_3 c10_4
    go_wp2_with fail
    generalize (w9.alloc (.cells #[.int .i64 za.guest, .slice arA arn arc, .slice asA asn asc, .slice afA afn afc, .slice apA apn apc] 26)) = W11 at *
    refine (Kb.out _ T.out).mono ?_
    rintro e w12 ⟨v, rfl, hF, hb⟩
    have hk := (Wk.fresh hF).lower HLE.out
    replace HU := Lib.hid (HU.out.trans (hb.mono HLE.out))
    replace HLE := Lib.hid (Nat.le_trans HLE.out hb.size)
    clear c10_0 c10_1 c10_2 c10_3 c10_4
    replace T := Lib.hid (below_next T.out hb)
    replace XM := Lib.hid (XM.out.keep hb LM.out)
    replace LM := Lib.hid (Nat.lt_of_lt_of_le LM.out hb.size)
    replace Xa := Lib.hid (Xa.out.keep hb La.out)
    replace La := Lib.hid (Nat.lt_of_lt_of_le La.out hb.size)
    replace Ja := Lib.hid (Ja.out.next hb)
    clear hb
    have hx := Box.new w12 zb.guest v 26
    have b1 := below1 w12 (.cells #[.int .i64 zb.guest, .slice v.rA v.rn v.rc, .slice v.sA v.sn v.sc, .slice v.fA v.fn v.fc, .slice v.pA v.pn v.pc] 26)
    have hk2 := hk.next b1
    have hlt : w12.heap.size < (w12.alloc (.cells #[.int .i64 zb.guest, .slice v.rA v.rn v.rc, .slice v.sA v.sn v.sc, .slice v.fA v.fn v.fc, .slice v.pA v.pn v.pc] 26)).heap.size := by simp
    replace HU := Lib.hid (HU.out.trans (b1.mono HLE.out))
    replace HLE := Lib.hid (Nat.le_trans HLE.out b1.size)
    replace T := Lib.hid (below_next T.out b1)
    replace XM := Lib.hid (XM.out.keep b1 LM.out)
    replace LM := Lib.hid (Nat.lt_of_lt_of_le LM.out b1.size)
    replace Xa := Lib.hid (Xa.out.keep b1 La.out)
    replace La := Lib.hid (Nat.lt_of_lt_of_le La.out b1.size)
    replace Ja := Lib.hid (Ja.out.next b1)
    clear b1
    obtain ⟨brA, brn, brc, bsA, bsn, bsc, bfA, bfn, bfc, bpA, bpn, bpc⟩ := v
    have Jb := Lib.hid hk2
    have Xb := Lib.hid hx
    have Lb := Lib.hid hlt
    dsimp only [imgV] at Jb Xb Lb T XM LM Xa La Ja HLE HU ⊢
    clear hF hk hk2 hx hlt
    obtain ⟨c13_0, c13_1, c13_2, c13_3, c13_4⟩ := XM.out
    try dsimp only at c13_0 c13_1 c13_2 c13_3 c13_4
    go_wp2_with fail
    generalize (w12.alloc (.cells #[.int .i64 zb.guest, .slice brA brn brc, .slice bsA bsn bsc, .slice bfA bfn bfc, .slice bpA bpn bpc] 26)) = W14 at *
    refine (Kc.out _ T.out).mono ?_
    rintro e w15 ⟨v, rfl, hF, hb⟩
    have hk := (Wk.fresh hF).lower HLE.out
    replace HU := Lib.hid (HU.out.trans (hb.mono HLE.out))
    replace HLE := Lib.hid (Nat.le_trans HLE.out hb.size)
    clear c13_0 c13_1 c13_2 c13_3 c13_4
    replace T := Lib.hid (below_next T.out hb)
    replace XM := Lib.hid (XM.out.keep hb LM.out)
    replace LM := Lib.hid (Nat.lt_of_lt_of_le LM.out hb.size)
    replace Xa := Lib.hid (Xa.out.keep hb La.out)
    replace La := Lib.hid (Nat.lt_of_lt_of_le La.out hb.size)
    replace Ja := Lib.hid (Ja.out.next hb)
    replace Xb := Lib.hid (Xb.out.keep hb Lb.out)
    replace Lb := Lib.hid (Nat.lt_of_lt_of_le Lb.out hb.size)
    replace Jb := Lib.hid (Jb.out.next hb)
    clear hb
    have hx := Box.new w15 zc.guest v 26
    have b1 := below1 w15 (.cells #[.int .i64 zc.guest, .slice v.rA v.rn v.rc, .slice v.sA v.sn v.sc, .slice v.fA v.fn v.fc, .slice v.pA v.pn v.pc] 26)
    have hk2 := hk.next b1
    have hlt : w15.heap.size < (w15.alloc (.cells #[.int .i64 zc.guest, .slice v.rA v.rn v.rc, .slice v.sA v.sn v.sc, .slice v.fA v.fn v.fc, .slice v.pA v.pn v.pc] 26)).heap.size := by simp
    replace HU := Lib.hid (HU.out.trans (b1.mono HLE.out))
    replace HLE := Lib.hid (Nat.le_trans HLE.out b1.size)
    replace T := Lib.hid (below_next T.out b1)
    replace XM := Lib.hid (XM.out.keep b1 LM.out)
    replace LM := Lib.hid (Nat.lt_of_lt_of_le LM.out b1.size)
    replace Xa := Lib.hid (Xa.out.keep b1 La.out)
    replace La := Lib.hid (Nat.lt_of_lt_of_le La.out b1.size)
    replace Ja := Lib.hid (Ja.out.next b1)
    replace Xb := Lib.hid (Xb.out.keep b1 Lb.out)
    replace Lb := Lib.hid (Nat.lt_of_lt_of_le Lb.out b1.size)
    replace Jb := Lib.hid (Jb.out.next b1)
    clear b1
    obtain ⟨crA, crn, crc, csA, csn, csc, cfA, cfn, cfc, cpA, cpn, cpc⟩ := v
    have Jc := Lib.hid hk2
    have Xc := Lib.hid hx
    have Lc := Lib.hid hlt
    dsimp only [imgV] at Jc Xc Lc T XM LM Xa La Ja Xb Lb Jb HLE HU ⊢
    clear hF hk hk2 hx hlt
    obtain ⟨c16_0, c16_1, c16_2, c16_3, c16_4⟩ := XM.out
    try dsimp only at c16_0 c16_1 c16_2 c16_3 c16_4
    go_wp2_with fail
    generalize (w15.alloc (.cells #[.int .i64 zc.guest, .slice crA crn crc, .slice csA csn csc, .slice cfA cfn cfc, .slice cpA cpn cpc] 26)) = W17 at *
    refine (Kd.out _ T.out).mono ?_
    rintro e w18 ⟨v, rfl, hF, hb⟩
    have hk := (Wk.fresh hF).lower HLE.out
    replace HU := Lib.hid (HU.out.trans (hb.mono HLE.out))
    replace HLE := Lib.hid (Nat.le_trans HLE.out hb.size)
    clear c16_0 c16_1 c16_2 c16_3 c16_4
    replace T := Lib.hid (below_next T.out hb)
    replace XM := Lib.hid (XM.out.keep hb LM.out)
    replace LM := Lib.hid (Nat.lt_of_lt_of_le LM.out hb.size)
    replace Xa := Lib.hid (Xa.out.keep hb La.out)
    replace La := Lib.hid (Nat.lt_of_lt_of_le La.out hb.size)
    replace Ja := Lib.hid (Ja.out.next hb)
    replace Xb := Lib.hid (Xb.out.keep hb Lb.out)
    replace Lb := Lib.hid (Nat.lt_of_lt_of_le Lb.out hb.size)
    replace Jb := Lib.hid (Jb.out.next hb)
    replace Xc := Lib.hid (Xc.out.keep hb Lc.out)
    replace Lc := Lib.hid (Nat.lt_of_lt_of_le Lc.out hb.size)
    replace Jc := Lib.hid (Jc.out.next hb)
    clear hb
    have hx := Box.new w18 zd.guest v 26
    have b1 := below1 w18 (.cells #[.int .i64 zd.guest, .slice v.rA v.rn v.rc, .slice v.sA v.sn v.sc, .slice v.fA v.fn v.fc, .slice v.pA v.pn v.pc] 26)
    have hk2 := hk.next b1
    have hlt : w18.heap.size < (w18.alloc (.cells #[.int .i64 zd.guest, .slice v.rA v.rn v.rc, .slice v.sA v.sn v.sc, .slice v.fA v.fn v.fc, .slice v.pA v.pn v.pc] 26)).heap.size := by simp
    replace HU := Lib.hid (HU.out.trans (b1.mono HLE.out))
    replace HLE := Lib.hid (Nat.le_trans HLE.out b1.size)
    replace T := Lib.hid (below_next T.out b1)
    replace XM := Lib.hid (XM.out.keep b1 LM.out)
    replace LM := Lib.hid (Nat.lt_of_lt_of_le LM.out b1.size)
    replace Xa := Lib.hid (Xa.out.keep b1 La.out)
    replace La := Lib.hid (Nat.lt_of_lt_of_le La.out b1.size)
    replace Ja := Lib.hid (Ja.out.next b1)
    replace Xb := Lib.hid (Xb.out.keep b1 Lb.out)
    replace Lb := Lib.hid (Nat.lt_of_lt_of_le Lb.out b1.size)
    replace Jb := Lib.hid (Jb.out.next b1)
    replace Xc := Lib.hid (Xc.out.keep b1 Lc.out)
    replace Lc := Lib.hid (Nat.lt_of_lt_of_le Lc.out b1.size)
    replace Jc := Lib.hid (Jc.out.next b1)
    clear b1
    obtain ⟨drA, drn, drc, dsA, dsn, dsc, dfA, dfn, dfc, dpA, dpn, dpc⟩ := v
    have Jd := Lib.hid hk2
    have Xd := Lib.hid hx
    have Ld := Lib.hid hlt
    dsimp only [imgV] at Jd Xd Ld T XM LM Xa La Ja Xb Lb Jb Xc Lc Jc HLE HU ⊢
    clear hF hk hk2 hx hlt
    obtain ⟨c19_0, c19_1, c19_2, c19_3, c19_4⟩ := Xa.out
    try dsimp only at c19_0 c19_1 c19_2 c19_3 c19_4
    obtain ⟨c20_0, c20_1, c20_2, c20_3, c20_4⟩ := Xb.out
    try dsimp only at c20_0 c20_1 c20_2 c20_3 c20_4
    obtain ⟨c21_0, c21_1, c21_2, c21_3, c21_4⟩ := Xc.out
    try dsimp only at c21_0 c21_1 c21_2 c21_3 c21_4
    obtain ⟨c22_0, c22_1, c22_2, c22_3, c22_4⟩ := Xd.out
    try dsimp only at c22_0 c22_1 c22_2 c22_3 c22_4
    go_upto_region 9 with fail
    have hsz : (w18.alloc (.cells #[.int .i64 zd.guest, .slice drA drn drc, .slice dsA dsn dsc, .slice dfA dfn dfc, .slice dpA dpn dpc] 26)).heap.size = w18.heap.size + 1 := by simp
    generalize (w18.alloc (.cells #[.int .i64 zd.guest, .slice drA drn drc, .slice dsA dsn dsc, .slice dfA dfn dfc, .slice dpA dpn dpc] 26)) = W23 at *
    clear c19_0 c19_1 c19_2 c19_3 c19_4 c20_0 c20_1 c20_2 c20_3 c20_4 c21_0 c21_1 c21_2 c21_3 c21_4 c22_0 c22_1 c22_2 c22_3 c22_4
    have hbL := below1 W23 (.cells #[.int .i64 za.guest, .slice arA arn arc, .slice asA asn asc, .slice afA afn afc, .slice apA apn apc, .int .i64 zb.guest, .slice brA brn brc, .slice bsA bsn bsc, .slice bfA bfn bfc, .slice bpA bpn bpc, .int .i64 zc.guest, .slice crA crn crc, .slice csA csn csc, .slice cfA cfn cfc, .slice cpA cpn cpc, .int .i64 zd.guest, .slice drA drn drc, .slice dsA dsn dsc, .slice dfA dfn dfc, .slice dpA dpn dpc] 26)
    have HL0 := heap_alloc_new W23 (.cells #[.int .i64 za.guest, .slice arA arn arc, .slice asA asn asc, .slice afA afn afc, .slice apA apn apc, .int .i64 zb.guest, .slice brA brn brc, .slice bsA bsn bsc, .slice bfA bfn bfc, .slice bpA bpn bpc, .int .i64 zc.guest, .slice crA crn crc, .slice csA csn csc, .slice cfA cfn cfc, .slice cpA cpn cpc, .int .i64 zd.guest, .slice drA drn drc, .slice dsA dsn dsc, .slice dfA dfn dfc, .slice dpA dpn dpc] 26)
    have HS : Hid (RSt W7 B W23.heap.size (vsel ⟨arA, arn, arc, asA, asn, asc, afA, afn, afc, apA, apn, apc⟩ ⟨brA, brn, brc, bsA, bsn, bsc, bfA, bfn, bfc, bpA, bpn, bpc⟩ ⟨crA, crn, crc, csA, csn, csc, cfA, cfn, cfc, cpA, cpn, cpc⟩ ⟨drA, drn, drc, dsA, dsn, dsc, dfA, dfn, dfc, dpA, dpn, dpc⟩) (W23.alloc (.cells #[.int .i64 za.guest, .slice arA arn arc, .slice asA asn asc, .slice afA afn afc, .slice apA apn apc, .int .i64 zb.guest, .slice brA brn brc, .slice bsA bsn bsc, .slice bfA bfn bfc, .slice bpA bpn bpc, .int .i64 zc.guest, .slice crA crn crc, .slice csA csn csc, .slice cfA cfn cfc, .slice cpA cpn cpc, .int .i64 zd.guest, .slice drA drn drc, .slice dsA dsn dsc, .slice dfA dfn dfc, .slice dpA dpn dpc] 26))) := Lib.hid (by
      refine ⟨⟨_, _, HL0⟩, fun i hi => ?_, fun i hi => ?_, fun i hi => ?_, fun i hi => ?_, fun i hi => ?_, HU.out.trans (hbL.mono HLE.out)⟩
      · rw [cell_of_row _ _ _ _ _ _ HL0]
        match i, hi with
        | 0, _ => rfl
        | 1, _ => rfl
        | 2, _ => rfl
        | 3, _ => rfl
      · rw [cell_of_row _ _ _ _ _ _ HL0]
        match i, hi with
        | 0, _ => rfl
        | 1, _ => rfl
        | 2, _ => rfl
        | 3, _ => rfl
      · rw [cell_of_row _ _ _ _ _ _ HL0]
        match i, hi with
        | 0, _ => rfl
        | 1, _ => rfl
        | 2, _ => rfl
        | 3, _ => rfl
      · rw [cell_of_row _ _ _ _ _ _ HL0]
        match i, hi with
        | 0, _ => rfl
        | 1, _ => rfl
        | 2, _ => rfl
        | 3, _ => rfl
      · match i, hi with
        | 0, _ => exact Ja.out.next hbL
        | 1, _ => exact Jb.out.next hbL
        | 2, _ => exact Jc.out.next hbL
        | 3, _ => exact Jd.out.next hbL)
    clear hbL HL0 Ja Jb Jc Jd Xa La Xb Lb Xc Lc Xd Ld XM LM T HU HLE
    generalize W23.alloc (.cells #[.int .i64 za.guest, .slice arA arn arc, .slice asA asn asc, .slice afA afn afc, .slice apA apn apc, .int .i64 zb.guest, .slice brA brn brc, .slice bsA bsn bsc, .slice bfA bfn bfc, .slice bpA bpn bpc, .int .i64 zc.guest, .slice crA crn crc, .slice csA csn csc, .slice cfA cfn cfc, .slice cpA cpn cpc, .int .i64 zd.guest, .slice drA drn drc, .slice dsA dsn dsc, .slice dfA dfn dfc, .slice dpA dpn dpc] 26) = WL at *
    rw [hsz] at HS
    generalize w18.heap.size + 1 = L at HS ⊢
    generalize vsel ⟨arA, arn, arc, asA, asn, asc, afA, afn, afc, apA, apn, apc⟩ ⟨brA, brn, brc, bsA, bsn, bsc, bfA, bfn, bfc, bpA, bpn, bpc⟩ ⟨crA, crn, crc, csA, csn, csc, cfA, cfn, cfc, cpA, cpn, cpc⟩ ⟨drA, drn, drc, dsA, dsn, dsc, dfA, dfn, dfc, dpA, dpn, dpc⟩ = vs at *
    go_wp2_with fail
    go_loopw [19] (fun i wr => ∃ i' : Nat, i' ≤ 4 ∧ i = .int .i64 i' ∧ RSt W7 B L vs wr) (fun i _ => 4 - (intOf i).toNat)
    case atStart => exact ⟨0, by omega, rfl, HS.out⟩
    case round =>
      obtain ⟨i, hi, rfl, hs⟩ := hrel
      clear HS
      have HS := Lib.hid hs
      clear hs
      by_cases hi4 : i < 4
      · have ei0 : (0 : Int) ≤ (i : Int) := by omega
        have ei1 : (i : Int) < 4 := by omega
        go_upto_region 13 with fail
        go_loopw [20] (fun k wr => ∃ k' : Nat, k' ≤ (vs i).rn ∧ k = .int .i64 k' ∧ RSt W7 B L vs wr) (fun k _ => (vs i).rn - (intOf k).toNat)
        case atStart => exact ⟨0, Nat.zero_le _, rfl, HS.out⟩
        case round =>
          obtain ⟨k, hk, rfl, hs⟩ := hrel
          clear HS
          have HS := Lib.hid hs
          clear hs
          have hw := (HS.out.wk i hi4).lens
          have hL := HS.out.root i hi4
          by_cases hlt : k < (vs i).rn
          · obtain ⟨gg, cur, u, hA, hBg, hg, hc, hf⟩ := ((HS.out.wk i hi4).root).at_ hlt
            rw [hA] at hL
            have HN := Lib.hid (HS.out.int (i := k) hg hBg (.int .i64 (-9))).1
            have ek0 : (0 : Int) ≤ (k : Int) := by omega
            have ek1 : (k : Int) < ((vs i).rn : Int) := by omega
            clear hg hA
            go_wp2_with fail
            go_roundw
            case rel => exact ⟨k + 1, by omega, by go_num, HN.out⟩
            case measure => simp [intOf]; omega
          · have hkn : k = (vs i).rn := by omega
            go_wp2_with fail
            clear hL hw hkn hlt
            go_loopw [21] (fun j wr => ∃ j' : Nat, j' ≤ (vs i).sn ∧ j = .int .i64 j' ∧ RSt W7 B L vs wr) (fun j _ => (vs i).sn - (intOf j).toNat)
            case atStart => exact ⟨0, Nat.zero_le _, rfl, HS.out⟩
            case round =>
              obtain ⟨j, hj, rfl, hs⟩ := hrel
              clear HS
              have HS := Lib.hid hs
              clear hs
              have hw := (HS.out.wk i hi4).lens
              have hL := HS.out.slots i hi4
              by_cases hlt : j < (vs i).sn
              · obtain ⟨gg, cur, u0, u1, A', n', c', hA, hBg, hg, d0, d1, d2, hfz, hn', hrow⟩ := ((HS.out.wk i hi4).slots).at_ hlt
                have HG := Lib.hid (And.intro hA (show TypeB wr gg 37 from ⟨_, _, hg⟩))
                have HD := Lib.hid (And.intro d2 hrow)
                have ej0 : (0 : Int) ≤ (j : Int) := by omega
                have ej1 : (j : Int) < ((vs i).sn : Int) := by omega
                rw [hA] at hL
                clear hA hg d0 d1 hrow hfz
                go_upto_region 20 with fail
                clear d2 hL
                go_loopw [22] (fun k wr => ∃ k' : Nat, k' ≤ n' ∧ k = .int .i64 k' ∧ RSt W7 B L vs wr ∧ TypeB wr gg 37 ∧ wr.cell? ⟨gg, j * 3 + 2, none⟩ = some (.slice A' n' c') ∧ IntRow wr B A' n') (fun k _ => n' - (intOf k).toNat)
                case atStart => exact ⟨0, Nat.zero_le _, rfl, HS.out, HG.out.2, HD.out⟩
                case round =>
                  obtain ⟨k, hk, rfl, hs, hty, hd2, hrow⟩ := hrel
                  clear HS
                  have HS := Lib.hid hs
                  have HTY := Lib.hid hty
                  have HRW := Lib.hid hrow
                  clear hs hty hrow
                  have hL := HS.out.slots i hi4
                  rw [HG.out.1] at hL
                  by_cases hltk : k < n'
                  · obtain ⟨gk, curk, u, hAk, hBk, hgk, hck, hfk⟩ := HRW.out.at_ hltk
                    rw [hAk] at hd2
                    obtain ⟨hN1, hN2⟩ := HS.out.int (i := k) hgk hBk (.int .i64 (-9))
                    have HN := Lib.hid hN1
                    have e := hN2.same HTY.out (by decide)
                    have HTN : Hid (TypeB _ gg 37) := Lib.hid (by obtain ⟨c, f, hh⟩ := HTY.out; exact ⟨c, f, e.trans hh⟩)
                    have HDN := Lib.hid ((cell_heap (i := j * 3 + 2) e).trans hd2)
                    have HRN := Lib.hid (HRW.out.chg hN2)
                    have ek0 : (0 : Int) ≤ (k : Int) := by omega
                    have ek1 : (k : Int) < (n' : Int) := by omega
                    have HAK := Lib.hid hAk
                    clear hgk hN1 hN2 e hAk
                    go_wp2_with fail
                    go_roundw
                    case rel => exact ⟨k + 1, by omega, by go_num, HN.out, HTN.out, by rw [HAK.out]; exact HDN.out, HRN.out⟩
                    case measure => simp [intOf]; omega
                  · have hkn : k = n' := by omega
                    obtain ⟨gg2, cur2, w0, w1, A2, n2, c2, hA2, hBg2, hg2, q0, q1, q2, hfz, _, _⟩ := ((HS.out.wk i hi4).slots).at_ hlt
                    have hgg : gg2 = gg := by have := hA2.symm.trans HG.out.1; injection this with this; injection this
                    subst hgg
                    have HN := Lib.hid (HS.out.zero (k := j) hg2 hBg2 (.int .i64 0) (.string { data := #[] }))
                    have fz0 := hfz (j * 3)
                    have fz1 := hfz (j * 3 + 1)
                    have fz2 := hfz (j * 3 + 2)
                    clear hA2 hg2 hfz q2 hltk
                    go_wp2_with fail
                    go_roundw
                    case rel => exact ⟨j + 1, by omega, by go_num, HN.out⟩
                    case measure => simp [intOf]; omega
              · have hjn : j = (vs i).sn := by omega
                go_wp2_with fail
                clear hL hw hjn hlt
                go_loopw [23] (fun k wr => ∃ k' : Nat, k' ≤ (vs i).fn ∧ k = .int .i64 k' ∧ RSt W7 B L vs wr) (fun k _ => (vs i).fn - (intOf k).toNat)
                case atStart => exact ⟨0, Nat.zero_le _, rfl, HS.out⟩
                case round =>
                  obtain ⟨k, hk, rfl, hs⟩ := hrel
                  clear HS
                  have HS := Lib.hid hs
                  clear hs
                  have hw := (HS.out.wk i hi4).lens
                  have hL := HS.out.refs i hi4
                  by_cases hlt : k < (vs i).fn
                  · obtain ⟨gg, cur, u, hA, hBg, hg, hc, hf⟩ := ((HS.out.wk i hi4).refs).at_ hlt
                    rw [hA] at hL
                    have HN := Lib.hid (HS.out.int (i := k) hg hBg (.int .i64 (-9))).1
                    have ek0 : (0 : Int) ≤ (k : Int) := by omega
                    have ek1 : (k : Int) < ((vs i).fn : Int) := by omega
                    clear hg hA
                    go_wp2_with fail
                    go_roundw
                    case rel => exact ⟨k + 1, by omega, by go_num, HN.out⟩
                    case measure => simp [intOf]; omega
                  · have hkn : k = (vs i).fn := by omega
                    go_wp2_with fail
                    clear hL hw hkn hlt
                    go_loopw [24] (fun j wr => ∃ j' : Nat, j' ≤ (vs i).pn ∧ j = .int .i64 j' ∧ RSt W7 B L vs wr) (fun j _ => (vs i).pn - (intOf j).toNat)
                    case atStart => exact ⟨0, Nat.zero_le _, rfl, HS.out⟩
                    case round =>
                      obtain ⟨j, hj, rfl, hs⟩ := hrel
                      clear HS
                      have HS := Lib.hid hs
                      clear hs
                      have hw := (HS.out.wk i hi4).lens
                      have hL := HS.out.snaps i hi4
                      by_cases hlt : j < (vs i).pn
                      · obtain ⟨gg, cur, u0, u1, A', n', c', hA, hBg, hg, d0, d1, d2, hfz, hn', hrow⟩ := ((HS.out.wk i hi4).snaps).at_ hlt
                        have HG := Lib.hid (And.intro hA (show TypeB wr gg 39 from ⟨_, _, hg⟩))
                        have HD := Lib.hid (And.intro d2 hrow)
                        have ej0 : (0 : Int) ≤ (j : Int) := by omega
                        have ej1 : (j : Int) < ((vs i).pn : Int) := by omega
                        rw [hA] at hL
                        clear hA hg d0 d1 hrow hfz
                        go_upto_region 32 with fail
                        clear d2 hL
                        go_loopw [25] (fun k wr => ∃ k' : Nat, k' ≤ n' ∧ k = .int .i64 k' ∧ RSt W7 B L vs wr ∧ TypeB wr gg 39 ∧ wr.cell? ⟨gg, j * 3 + 2, none⟩ = some (.slice A' n' c') ∧ IntRow wr B A' n') (fun k _ => n' - (intOf k).toNat)
                        case atStart => exact ⟨0, Nat.zero_le _, rfl, HS.out, HG.out.2, HD.out⟩
                        case round =>
                          obtain ⟨k, hk, rfl, hs, hty, hd2, hrow⟩ := hrel
                          clear HS
                          have HS := Lib.hid hs
                          have HTY := Lib.hid hty
                          have HRW := Lib.hid hrow
                          clear hs hty hrow
                          have hL := HS.out.snaps i hi4
                          rw [HG.out.1] at hL
                          by_cases hltk : k < n'
                          · obtain ⟨gk, curk, u, hAk, hBk, hgk, hck, hfk⟩ := HRW.out.at_ hltk
                            rw [hAk] at hd2
                            obtain ⟨hN1, hN2⟩ := HS.out.int (i := k) hgk hBk (.int .i64 (-9))
                            have HN := Lib.hid hN1
                            have e := hN2.same HTY.out (by decide)
                            have HTN : Hid (TypeB _ gg 39) := Lib.hid (by obtain ⟨c, f, hh⟩ := HTY.out; exact ⟨c, f, e.trans hh⟩)
                            have HDN := Lib.hid ((cell_heap (i := j * 3 + 2) e).trans hd2)
                            have HRN := Lib.hid (HRW.out.chg hN2)
                            have ek0 : (0 : Int) ≤ (k : Int) := by omega
                            have ek1 : (k : Int) < (n' : Int) := by omega
                            have HAK := Lib.hid hAk
                            clear hgk hN1 hN2 e hAk
                            go_wp2_with fail
                            go_roundw
                            case rel => exact ⟨k + 1, by omega, by go_num, HN.out, HTN.out, by rw [HAK.out]; exact HDN.out, HRN.out⟩
                            case measure => simp [intOf]; omega
                          · have hkn : k = n' := by omega
                            go_wp2_with fail
                            go_roundw
                            case rel => exact ⟨j + 1, by omega, by go_num, HS.out⟩
                            case measure => simp [intOf]; omega
                      · have hjn : j = (vs i).pn := by omega
                        go_wp2_with fail
                        clear hL hw hjn hlt
                        go_roundw
                        case rel => exact ⟨i + 1, by omega, by go_num, HS.out⟩
                        case measure => simp [intOf]; omega
      · obtain rfl : i = 4 := by omega
        have hbW := HS.out.below
        have T := Lib.hid (ST.out.trans (hbW.mono (by have := ST.out.size; omega)))
        have hBw : B = W7.heap.size := hB.symm
        have hb0 : Below W7.heap.size W7 wr := hBw ▸ hbW
        have XM := Lib.hid (SXM.out.keep hb0 SLM.out)
        have LM := Lib.hid (Nat.lt_of_lt_of_le SLM.out hb0.size)
        have Xo := Lib.hid (SXo.out.keep hb0 SLo.out)
        have Lo := Lib.hid (Nat.lt_of_lt_of_le SLo.out hb0.size)
        have Io := Lib.hid (SIo.out.next hb0)
        clear hbW hb0 ST SXM SLM SXo SLo SIo HS hBw hB
        obtain ⟨c24_0, c24_1, c24_2, c24_3, c24_4⟩ := XM.out
        try dsimp only at c24_0 c24_1 c24_2 c24_3 c24_4
        go_wp2_with fail
        refine (Ka.out _ T.out).mono ?_
        rintro e w25 ⟨v, rfl, hF, hb⟩
        clear c24_0 c24_1 c24_2 c24_3 c24_4
        replace T := Lib.hid (below_next T.out hb)
        replace XM := Lib.hid (XM.out.keep hb LM.out)
        replace LM := Lib.hid (Nat.lt_of_lt_of_le LM.out hb.size)
        replace Xo := Lib.hid (Xo.out.keep hb Lo.out)
        replace Lo := Lib.hid (Nat.lt_of_lt_of_le Lo.out hb.size)
        replace Io := Lib.hid (Io.out.next hb)
        clear hb
        have hx := Box.new w25 za.guest v 26
        have b1 := below1 w25 (.cells #[.int .i64 za.guest, .slice v.rA v.rn v.rc, .slice v.sA v.sn v.sc, .slice v.fA v.fn v.fc, .slice v.pA v.pn v.pc] 26)
        have hi2 := hF.imgR.next b1
        have hlt : w25.heap.size < (w25.alloc (.cells #[.int .i64 za.guest, .slice v.rA v.rn v.rc, .slice v.sA v.sn v.sc, .slice v.fA v.fn v.fc, .slice v.pA v.pn v.pc] 26)).heap.size := by simp
        replace T := Lib.hid (below_next T.out b1)
        replace XM := Lib.hid (XM.out.keep b1 LM.out)
        replace LM := Lib.hid (Nat.lt_of_lt_of_le LM.out b1.size)
        replace Xo := Lib.hid (Xo.out.keep b1 Lo.out)
        replace Lo := Lib.hid (Nat.lt_of_lt_of_le Lo.out b1.size)
        replace Io := Lib.hid (Io.out.next b1)
        clear b1
        obtain ⟨wrA, wrn, wrc, wsA, wsn, wsc, wfA, wfn, wfc, wpA, wpn, wpc⟩ := v
        have Iw := Lib.hid hi2
        have Xw := Lib.hid hx
        have Lw := Lib.hid hlt
        dsimp only [imgV] at Iw Xw Lw T XM LM Xo Lo Io ⊢
        clear hF hx hi2 hlt
        obtain ⟨c26_0, c26_1, c26_2, c26_3, c26_4⟩ := XM.out
        try dsimp only at c26_0 c26_1 c26_2 c26_3 c26_4
        go_wp2_with fail
        generalize (w25.alloc (.cells #[.int .i64 za.guest, .slice wrA wrn wrc, .slice wsA wsn wsc, .slice wfA wfn wfc, .slice wpA wpn wpc] 26)) = W27 at *
        refine (Kb.out _ T.out).mono ?_
        rintro e w28 ⟨v, rfl, hF, hb⟩
        clear c26_0 c26_1 c26_2 c26_3 c26_4
        replace T := Lib.hid (below_next T.out hb)
        replace XM := Lib.hid (XM.out.keep hb LM.out)
        replace LM := Lib.hid (Nat.lt_of_lt_of_le LM.out hb.size)
        replace Xo := Lib.hid (Xo.out.keep hb Lo.out)
        replace Lo := Lib.hid (Nat.lt_of_lt_of_le Lo.out hb.size)
        replace Io := Lib.hid (Io.out.next hb)
        replace Xw := Lib.hid (Xw.out.keep hb Lw.out)
        replace Lw := Lib.hid (Nat.lt_of_lt_of_le Lw.out hb.size)
        replace Iw := Lib.hid (Iw.out.next hb)
        clear hb
        have hx := Box.new w28 zb.guest v 26
        have b1 := below1 w28 (.cells #[.int .i64 zb.guest, .slice v.rA v.rn v.rc, .slice v.sA v.sn v.sc, .slice v.fA v.fn v.fc, .slice v.pA v.pn v.pc] 26)
        have hi2 := hF.imgR.next b1
        have hlt : w28.heap.size < (w28.alloc (.cells #[.int .i64 zb.guest, .slice v.rA v.rn v.rc, .slice v.sA v.sn v.sc, .slice v.fA v.fn v.fc, .slice v.pA v.pn v.pc] 26)).heap.size := by simp
        replace T := Lib.hid (below_next T.out b1)
        replace XM := Lib.hid (XM.out.keep b1 LM.out)
        replace LM := Lib.hid (Nat.lt_of_lt_of_le LM.out b1.size)
        replace Xo := Lib.hid (Xo.out.keep b1 Lo.out)
        replace Lo := Lib.hid (Nat.lt_of_lt_of_le Lo.out b1.size)
        replace Io := Lib.hid (Io.out.next b1)
        replace Xw := Lib.hid (Xw.out.keep b1 Lw.out)
        replace Lw := Lib.hid (Nat.lt_of_lt_of_le Lw.out b1.size)
        replace Iw := Lib.hid (Iw.out.next b1)
        clear b1
        obtain ⟨xrA, xrn, xrc, xsA, xsn, xsc, xfA, xfn, xfc, xpA, xpn, xpc⟩ := v
        have Ix := Lib.hid hi2
        have Xx := Lib.hid hx
        have Lx := Lib.hid hlt
        dsimp only [imgV] at Ix Xx Lx T XM LM Xo Lo Io Xw Lw Iw ⊢
        clear hF hx hi2 hlt
        obtain ⟨c29_0, c29_1, c29_2, c29_3, c29_4⟩ := XM.out
        try dsimp only at c29_0 c29_1 c29_2 c29_3 c29_4
        go_wp2_with fail
        generalize (w28.alloc (.cells #[.int .i64 zb.guest, .slice xrA xrn xrc, .slice xsA xsn xsc, .slice xfA xfn xfc, .slice xpA xpn xpc] 26)) = W30 at *
        refine (Kc.out _ T.out).mono ?_
        rintro e w31 ⟨v, rfl, hF, hb⟩
        clear c29_0 c29_1 c29_2 c29_3 c29_4
        replace T := Lib.hid (below_next T.out hb)
        replace XM := Lib.hid (XM.out.keep hb LM.out)
        replace LM := Lib.hid (Nat.lt_of_lt_of_le LM.out hb.size)
        replace Xo := Lib.hid (Xo.out.keep hb Lo.out)
        replace Lo := Lib.hid (Nat.lt_of_lt_of_le Lo.out hb.size)
        replace Io := Lib.hid (Io.out.next hb)
        replace Xw := Lib.hid (Xw.out.keep hb Lw.out)
        replace Lw := Lib.hid (Nat.lt_of_lt_of_le Lw.out hb.size)
        replace Iw := Lib.hid (Iw.out.next hb)
        replace Xx := Lib.hid (Xx.out.keep hb Lx.out)
        replace Lx := Lib.hid (Nat.lt_of_lt_of_le Lx.out hb.size)
        replace Ix := Lib.hid (Ix.out.next hb)
        clear hb
        have hx := Box.new w31 zc.guest v 26
        have b1 := below1 w31 (.cells #[.int .i64 zc.guest, .slice v.rA v.rn v.rc, .slice v.sA v.sn v.sc, .slice v.fA v.fn v.fc, .slice v.pA v.pn v.pc] 26)
        have hi2 := hF.imgR.next b1
        have hlt : w31.heap.size < (w31.alloc (.cells #[.int .i64 zc.guest, .slice v.rA v.rn v.rc, .slice v.sA v.sn v.sc, .slice v.fA v.fn v.fc, .slice v.pA v.pn v.pc] 26)).heap.size := by simp
        replace T := Lib.hid (below_next T.out b1)
        replace XM := Lib.hid (XM.out.keep b1 LM.out)
        replace LM := Lib.hid (Nat.lt_of_lt_of_le LM.out b1.size)
        replace Xo := Lib.hid (Xo.out.keep b1 Lo.out)
        replace Lo := Lib.hid (Nat.lt_of_lt_of_le Lo.out b1.size)
        replace Io := Lib.hid (Io.out.next b1)
        replace Xw := Lib.hid (Xw.out.keep b1 Lw.out)
        replace Lw := Lib.hid (Nat.lt_of_lt_of_le Lw.out b1.size)
        replace Iw := Lib.hid (Iw.out.next b1)
        replace Xx := Lib.hid (Xx.out.keep b1 Lx.out)
        replace Lx := Lib.hid (Nat.lt_of_lt_of_le Lx.out b1.size)
        replace Ix := Lib.hid (Ix.out.next b1)
        clear b1
        obtain ⟨yrA, yrn, yrc, ysA, ysn, ysc, yfA, yfn, yfc, ypA, ypn, ypc⟩ := v
        have Iy := Lib.hid hi2
        have Xy := Lib.hid hx
        have Ly := Lib.hid hlt
        dsimp only [imgV] at Iy Xy Ly T XM LM Xo Lo Io Xw Lw Iw Xx Lx Ix ⊢
        clear hF hx hi2 hlt
        obtain ⟨c32_0, c32_1, c32_2, c32_3, c32_4⟩ := XM.out
        try dsimp only at c32_0 c32_1 c32_2 c32_3 c32_4
        go_wp2_with fail
        generalize (w31.alloc (.cells #[.int .i64 zc.guest, .slice yrA yrn yrc, .slice ysA ysn ysc, .slice yfA yfn yfc, .slice ypA ypn ypc] 26)) = W33 at *
        refine (Kd.out _ T.out).mono ?_
        rintro e w34 ⟨v, rfl, hF, hb⟩
        clear c32_0 c32_1 c32_2 c32_3 c32_4
        replace T := Lib.hid (below_next T.out hb)
        replace XM := Lib.hid (XM.out.keep hb LM.out)
        replace LM := Lib.hid (Nat.lt_of_lt_of_le LM.out hb.size)
        replace Xo := Lib.hid (Xo.out.keep hb Lo.out)
        replace Lo := Lib.hid (Nat.lt_of_lt_of_le Lo.out hb.size)
        replace Io := Lib.hid (Io.out.next hb)
        replace Xw := Lib.hid (Xw.out.keep hb Lw.out)
        replace Lw := Lib.hid (Nat.lt_of_lt_of_le Lw.out hb.size)
        replace Iw := Lib.hid (Iw.out.next hb)
        replace Xx := Lib.hid (Xx.out.keep hb Lx.out)
        replace Lx := Lib.hid (Nat.lt_of_lt_of_le Lx.out hb.size)
        replace Ix := Lib.hid (Ix.out.next hb)
        replace Xy := Lib.hid (Xy.out.keep hb Ly.out)
        replace Ly := Lib.hid (Nat.lt_of_lt_of_le Ly.out hb.size)
        replace Iy := Lib.hid (Iy.out.next hb)
        clear hb
        have hx := Box.new w34 zd.guest v 26
        have b1 := below1 w34 (.cells #[.int .i64 zd.guest, .slice v.rA v.rn v.rc, .slice v.sA v.sn v.sc, .slice v.fA v.fn v.fc, .slice v.pA v.pn v.pc] 26)
        have hi2 := hF.imgR.next b1
        have hlt : w34.heap.size < (w34.alloc (.cells #[.int .i64 zd.guest, .slice v.rA v.rn v.rc, .slice v.sA v.sn v.sc, .slice v.fA v.fn v.fc, .slice v.pA v.pn v.pc] 26)).heap.size := by simp
        replace T := Lib.hid (below_next T.out b1)
        replace XM := Lib.hid (XM.out.keep b1 LM.out)
        replace LM := Lib.hid (Nat.lt_of_lt_of_le LM.out b1.size)
        replace Xo := Lib.hid (Xo.out.keep b1 Lo.out)
        replace Lo := Lib.hid (Nat.lt_of_lt_of_le Lo.out b1.size)
        replace Io := Lib.hid (Io.out.next b1)
        replace Xw := Lib.hid (Xw.out.keep b1 Lw.out)
        replace Lw := Lib.hid (Nat.lt_of_lt_of_le Lw.out b1.size)
        replace Iw := Lib.hid (Iw.out.next b1)
        replace Xx := Lib.hid (Xx.out.keep b1 Lx.out)
        replace Lx := Lib.hid (Nat.lt_of_lt_of_le Lx.out b1.size)
        replace Ix := Lib.hid (Ix.out.next b1)
        replace Xy := Lib.hid (Xy.out.keep b1 Ly.out)
        replace Ly := Lib.hid (Nat.lt_of_lt_of_le Ly.out b1.size)
        replace Iy := Lib.hid (Iy.out.next b1)
        clear b1
        obtain ⟨zrA, zrn, zrc, zsA, zsn, zsc, zfA, zfn, zfc, zpA, zpn, zpc⟩ := v
        have Iz := Lib.hid hi2
        have Xz := Lib.hid hx
        have Lz := Lib.hid hlt
        dsimp only [imgV] at Iz Xz Lz T XM LM Xo Lo Io Xw Lw Iw Xx Lx Ix Xy Ly Iy ⊢
        clear hF hx hi2 hlt
        obtain ⟨c35_0, c35_1, c35_2, c35_3, c35_4⟩ := XM.out
        try dsimp only at c35_0 c35_1 c35_2 c35_3 c35_4
        go_wp2_with fail
        generalize (w34.alloc (.cells #[.int .i64 zd.guest, .slice zrA zrn zrc, .slice zsA zsn zsc, .slice zfA zfn zfc, .slice zpA zpn zpc] 26)) = W36 at *
        refine (Kx.out _ T.out).mono ?_
        rintro e w37 ⟨v, rfl, hF, hb⟩
        clear c35_0 c35_1 c35_2 c35_3 c35_4
        replace T := Lib.hid (below_next T.out hb)
        replace XM := Lib.hid (XM.out.keep hb LM.out)
        replace LM := Lib.hid (Nat.lt_of_lt_of_le LM.out hb.size)
        replace Xo := Lib.hid (Xo.out.keep hb Lo.out)
        replace Lo := Lib.hid (Nat.lt_of_lt_of_le Lo.out hb.size)
        replace Io := Lib.hid (Io.out.next hb)
        replace Xw := Lib.hid (Xw.out.keep hb Lw.out)
        replace Lw := Lib.hid (Nat.lt_of_lt_of_le Lw.out hb.size)
        replace Iw := Lib.hid (Iw.out.next hb)
        replace Xx := Lib.hid (Xx.out.keep hb Lx.out)
        replace Lx := Lib.hid (Nat.lt_of_lt_of_le Lx.out hb.size)
        replace Ix := Lib.hid (Ix.out.next hb)
        replace Xy := Lib.hid (Xy.out.keep hb Ly.out)
        replace Ly := Lib.hid (Nat.lt_of_lt_of_le Ly.out hb.size)
        replace Iy := Lib.hid (Iy.out.next hb)
        replace Xz := Lib.hid (Xz.out.keep hb Lz.out)
        replace Lz := Lib.hid (Nat.lt_of_lt_of_le Lz.out hb.size)
        replace Iz := Lib.hid (Iz.out.next hb)
        clear hb
        have hx := Box.new w37 za.guest v 26
        have b1 := below1 w37 (.cells #[.int .i64 za.guest, .slice v.rA v.rn v.rc, .slice v.sA v.sn v.sc, .slice v.fA v.fn v.fc, .slice v.pA v.pn v.pc] 26)
        have hi2 := hF.imgR.next b1
        have hlt : w37.heap.size < (w37.alloc (.cells #[.int .i64 za.guest, .slice v.rA v.rn v.rc, .slice v.sA v.sn v.sc, .slice v.fA v.fn v.fc, .slice v.pA v.pn v.pc] 26)).heap.size := by simp
        replace T := Lib.hid (below_next T.out b1)
        replace XM := Lib.hid (XM.out.keep b1 LM.out)
        replace LM := Lib.hid (Nat.lt_of_lt_of_le LM.out b1.size)
        replace Xo := Lib.hid (Xo.out.keep b1 Lo.out)
        replace Lo := Lib.hid (Nat.lt_of_lt_of_le Lo.out b1.size)
        replace Io := Lib.hid (Io.out.next b1)
        replace Xw := Lib.hid (Xw.out.keep b1 Lw.out)
        replace Lw := Lib.hid (Nat.lt_of_lt_of_le Lw.out b1.size)
        replace Iw := Lib.hid (Iw.out.next b1)
        replace Xx := Lib.hid (Xx.out.keep b1 Lx.out)
        replace Lx := Lib.hid (Nat.lt_of_lt_of_le Lx.out b1.size)
        replace Ix := Lib.hid (Ix.out.next b1)
        replace Xy := Lib.hid (Xy.out.keep b1 Ly.out)
        replace Ly := Lib.hid (Nat.lt_of_lt_of_le Ly.out b1.size)
        replace Iy := Lib.hid (Iy.out.next b1)
        replace Xz := Lib.hid (Xz.out.keep b1 Lz.out)
        replace Lz := Lib.hid (Nat.lt_of_lt_of_le Lz.out b1.size)
        replace Iz := Lib.hid (Iz.out.next b1)
        clear b1
        obtain ⟨srA, srn, src, ssA, ssn, ssc, sfA, sfn, sfc, spA, spn, spc⟩ := v
        have Is := Lib.hid hi2
        have Xs := Lib.hid hx
        have Ls := Lib.hid hlt
        dsimp only [imgV] at Is Xs Ls T XM LM Xo Lo Io Xw Lw Iw Xx Lx Ix Xy Ly Iy Xz Lz Iz ⊢
        clear hF hx hi2 hlt
        obtain ⟨c38_0, c38_1, c38_2, c38_3, c38_4⟩ := XM.out
        try dsimp only at c38_0 c38_1 c38_2 c38_3 c38_4
        go_wp2_with fail
        generalize (w37.alloc (.cells #[.int .i64 za.guest, .slice srA srn src, .slice ssA ssn ssc, .slice sfA sfn sfc, .slice spA spn spc] 26)) = W39 at *
        refine (Ky.out _ T.out).mono ?_
        rintro e w40 ⟨v, rfl, hF, hb⟩
        clear c38_0 c38_1 c38_2 c38_3 c38_4
        replace T := Lib.hid (below_next T.out hb)
        replace XM := Lib.hid (XM.out.keep hb LM.out)
        replace LM := Lib.hid (Nat.lt_of_lt_of_le LM.out hb.size)
        replace Xo := Lib.hid (Xo.out.keep hb Lo.out)
        replace Lo := Lib.hid (Nat.lt_of_lt_of_le Lo.out hb.size)
        replace Io := Lib.hid (Io.out.next hb)
        replace Xw := Lib.hid (Xw.out.keep hb Lw.out)
        replace Lw := Lib.hid (Nat.lt_of_lt_of_le Lw.out hb.size)
        replace Iw := Lib.hid (Iw.out.next hb)
        replace Xx := Lib.hid (Xx.out.keep hb Lx.out)
        replace Lx := Lib.hid (Nat.lt_of_lt_of_le Lx.out hb.size)
        replace Ix := Lib.hid (Ix.out.next hb)
        replace Xy := Lib.hid (Xy.out.keep hb Ly.out)
        replace Ly := Lib.hid (Nat.lt_of_lt_of_le Ly.out hb.size)
        replace Iy := Lib.hid (Iy.out.next hb)
        replace Xz := Lib.hid (Xz.out.keep hb Lz.out)
        replace Lz := Lib.hid (Nat.lt_of_lt_of_le Lz.out hb.size)
        replace Iz := Lib.hid (Iz.out.next hb)
        replace Xs := Lib.hid (Xs.out.keep hb Ls.out)
        replace Ls := Lib.hid (Nat.lt_of_lt_of_le Ls.out hb.size)
        replace Is := Lib.hid (Is.out.next hb)
        clear hb
        have hx := Box.new w40 zb.guest v 26
        have b1 := below1 w40 (.cells #[.int .i64 zb.guest, .slice v.rA v.rn v.rc, .slice v.sA v.sn v.sc, .slice v.fA v.fn v.fc, .slice v.pA v.pn v.pc] 26)
        have hi2 := hF.imgR.next b1
        have hlt : w40.heap.size < (w40.alloc (.cells #[.int .i64 zb.guest, .slice v.rA v.rn v.rc, .slice v.sA v.sn v.sc, .slice v.fA v.fn v.fc, .slice v.pA v.pn v.pc] 26)).heap.size := by simp
        replace T := Lib.hid (below_next T.out b1)
        replace XM := Lib.hid (XM.out.keep b1 LM.out)
        replace LM := Lib.hid (Nat.lt_of_lt_of_le LM.out b1.size)
        replace Xo := Lib.hid (Xo.out.keep b1 Lo.out)
        replace Lo := Lib.hid (Nat.lt_of_lt_of_le Lo.out b1.size)
        replace Io := Lib.hid (Io.out.next b1)
        replace Xw := Lib.hid (Xw.out.keep b1 Lw.out)
        replace Lw := Lib.hid (Nat.lt_of_lt_of_le Lw.out b1.size)
        replace Iw := Lib.hid (Iw.out.next b1)
        replace Xx := Lib.hid (Xx.out.keep b1 Lx.out)
        replace Lx := Lib.hid (Nat.lt_of_lt_of_le Lx.out b1.size)
        replace Ix := Lib.hid (Ix.out.next b1)
        replace Xy := Lib.hid (Xy.out.keep b1 Ly.out)
        replace Ly := Lib.hid (Nat.lt_of_lt_of_le Ly.out b1.size)
        replace Iy := Lib.hid (Iy.out.next b1)
        replace Xz := Lib.hid (Xz.out.keep b1 Lz.out)
        replace Lz := Lib.hid (Nat.lt_of_lt_of_le Lz.out b1.size)
        replace Iz := Lib.hid (Iz.out.next b1)
        replace Xs := Lib.hid (Xs.out.keep b1 Ls.out)
        replace Ls := Lib.hid (Nat.lt_of_lt_of_le Ls.out b1.size)
        replace Is := Lib.hid (Is.out.next b1)
        clear b1
        obtain ⟨trA, trn, trc, tsA, tsn, tsc, tfA, tfn, tfc, tpA, tpn, tpc⟩ := v
        have It := Lib.hid hi2
        have Xt := Lib.hid hx
        have Lt := Lib.hid hlt
        dsimp only [imgV] at It Xt Lt T XM LM Xo Lo Io Xw Lw Iw Xx Lx Ix Xy Ly Iy Xz Lz Iz Xs Ls Is ⊢
        clear hF hx hi2 hlt
        go_wp2_with fail
        generalize (w40.alloc (.cells #[.int .i64 zb.guest, .slice trA trn trc, .slice tsA tsn tsc, .slice tfA tfn tfc, .slice tpA tpn tpc] 26)) = W41 at *
        have HBd : Hid (Below W41.heap.size W41 W41.drew) := Lib.hid (Below.refl _ _).drew
        have MV := Lib.hid (fun (W' : World) (hb : Below W41.heap.size W41 W') => (show W'.cell? ⟨w.heap.size, 0, none⟩ = some (.int .i64 m.guest) ∧ W'.cell? ⟨w.heap.size, 1, none⟩ = some (.slice rA rn rc) ∧ W'.cell? ⟨w.heap.size, 2, none⟩ = some (.slice sA sn sc) ∧ W'.cell? ⟨w.heap.size, 3, none⟩ = some (.slice fA fn fc) ∧ W'.cell? ⟨w.heap.size, 4, none⟩ = some (.slice pA pn pc) ∧ W'.cell? ⟨w5.heap.size, 0, none⟩ = some (.int .i64 m.guest) ∧ W'.cell? ⟨w5.heap.size, 1, none⟩ = some (.slice orA orn orc) ∧ W'.cell? ⟨w5.heap.size, 2, none⟩ = some (.slice osA osn osc) ∧ W'.cell? ⟨w5.heap.size, 3, none⟩ = some (.slice ofA ofn ofc) ∧ W'.cell? ⟨w5.heap.size, 4, none⟩ = some (.slice opA opn opc) ∧ W'.cell? ⟨w25.heap.size, 0, none⟩ = some (.int .i64 za.guest) ∧ W'.cell? ⟨w25.heap.size, 1, none⟩ = some (.slice wrA wrn wrc) ∧ W'.cell? ⟨w25.heap.size, 2, none⟩ = some (.slice wsA wsn wsc) ∧ W'.cell? ⟨w25.heap.size, 3, none⟩ = some (.slice wfA wfn wfc) ∧ W'.cell? ⟨w25.heap.size, 4, none⟩ = some (.slice wpA wpn wpc) ∧ W'.cell? ⟨w28.heap.size, 0, none⟩ = some (.int .i64 zb.guest) ∧ W'.cell? ⟨w28.heap.size, 1, none⟩ = some (.slice xrA xrn xrc) ∧ W'.cell? ⟨w28.heap.size, 2, none⟩ = some (.slice xsA xsn xsc) ∧ W'.cell? ⟨w28.heap.size, 3, none⟩ = some (.slice xfA xfn xfc) ∧ W'.cell? ⟨w28.heap.size, 4, none⟩ = some (.slice xpA xpn xpc) ∧ W'.cell? ⟨w31.heap.size, 0, none⟩ = some (.int .i64 zc.guest) ∧ W'.cell? ⟨w31.heap.size, 1, none⟩ = some (.slice yrA yrn yrc) ∧ W'.cell? ⟨w31.heap.size, 2, none⟩ = some (.slice ysA ysn ysc) ∧ W'.cell? ⟨w31.heap.size, 3, none⟩ = some (.slice yfA yfn yfc) ∧ W'.cell? ⟨w31.heap.size, 4, none⟩ = some (.slice ypA ypn ypc) ∧ W'.cell? ⟨w34.heap.size, 0, none⟩ = some (.int .i64 zd.guest) ∧ W'.cell? ⟨w34.heap.size, 1, none⟩ = some (.slice zrA zrn zrc) ∧ W'.cell? ⟨w34.heap.size, 2, none⟩ = some (.slice zsA zsn zsc) ∧ W'.cell? ⟨w34.heap.size, 3, none⟩ = some (.slice zfA zfn zfc) ∧ W'.cell? ⟨w34.heap.size, 4, none⟩ = some (.slice zpA zpn zpc) ∧ W'.cell? ⟨w37.heap.size, 0, none⟩ = some (.int .i64 za.guest) ∧ W'.cell? ⟨w37.heap.size, 1, none⟩ = some (.slice srA srn src) ∧ W'.cell? ⟨w37.heap.size, 2, none⟩ = some (.slice ssA ssn ssc) ∧ W'.cell? ⟨w37.heap.size, 3, none⟩ = some (.slice sfA sfn sfc) ∧ W'.cell? ⟨w37.heap.size, 4, none⟩ = some (.slice spA spn spc) ∧ W'.cell? ⟨w40.heap.size, 0, none⟩ = some (.int .i64 zb.guest) ∧ W'.cell? ⟨w40.heap.size, 1, none⟩ = some (.slice trA trn trc) ∧ W'.cell? ⟨w40.heap.size, 2, none⟩ = some (.slice tsA tsn tsc) ∧ W'.cell? ⟨w40.heap.size, 3, none⟩ = some (.slice tfA tfn tfc) ∧ W'.cell? ⟨w40.heap.size, 4, none⟩ = some (.slice tpA tpn tpc) ∧ Below W41.heap.size W41 W' from by
          obtain ⟨a0_0, a0_1, a0_2, a0_3, a0_4⟩ := XM.out.keep hb LM.out
          obtain ⟨a1_0, a1_1, a1_2, a1_3, a1_4⟩ := Xo.out.keep hb Lo.out
          obtain ⟨a2_0, a2_1, a2_2, a2_3, a2_4⟩ := Xw.out.keep hb Lw.out
          obtain ⟨a3_0, a3_1, a3_2, a3_3, a3_4⟩ := Xx.out.keep hb Lx.out
          obtain ⟨a4_0, a4_1, a4_2, a4_3, a4_4⟩ := Xy.out.keep hb Ly.out
          obtain ⟨a5_0, a5_1, a5_2, a5_3, a5_4⟩ := Xz.out.keep hb Lz.out
          obtain ⟨a6_0, a6_1, a6_2, a6_3, a6_4⟩ := Xs.out.keep hb Ls.out
          obtain ⟨a7_0, a7_1, a7_2, a7_3, a7_4⟩ := Xt.out.keep hb Lt.out
          exact ⟨a0_0, a0_1, a0_2, a0_3, a0_4, a1_0, a1_1, a1_2, a1_3, a1_4, a2_0, a2_1, a2_2, a2_3, a2_4, a3_0, a3_1, a3_2, a3_3, a3_4, a4_0, a4_1, a4_2, a4_3, a4_4, a5_0, a5_1, a5_2, a5_3, a5_4, a6_0, a6_1, a6_2, a6_3, a6_4, a7_0, a7_1, a7_2, a7_3, a7_4, hb⟩))
        have KPo := Lib.hid (fun W hb => (KP.out W hb).mono (fun e W' h => imgOut_of h))
        have KRo := Lib.hid (fun W hb => (KR.out W hb).mono (fun e W' h => imgOut_ofB h))
        have T0 := T.out
        have Jo := Io.out
        have Jw := Iw.out
        have Jx := Ix.out
        have Jy := Iy.out
        have Jz := Iz.out
        have Js := Is.out
        have Jt := It.out
        clear XM Xo Xw Xx Xy Xz Xs Xt LM Lo Lw Lx Ly Lz Ls Lt KP KR Ka Kb Kc Kd Kx Ky T Io Iw Ix Iy Iz Is It
        go_region_held3 (fun W' => W'.cell? ⟨w.heap.size, 0, none⟩ = some (.int .i64 m.guest) ∧ W'.cell? ⟨w.heap.size, 1, none⟩ = some (.slice rA rn rc) ∧ W'.cell? ⟨w.heap.size, 2, none⟩ = some (.slice sA sn sc) ∧ W'.cell? ⟨w.heap.size, 3, none⟩ = some (.slice fA fn fc) ∧ W'.cell? ⟨w.heap.size, 4, none⟩ = some (.slice pA pn pc) ∧ W'.cell? ⟨w5.heap.size, 0, none⟩ = some (.int .i64 m.guest) ∧ W'.cell? ⟨w5.heap.size, 1, none⟩ = some (.slice orA orn orc) ∧ W'.cell? ⟨w5.heap.size, 2, none⟩ = some (.slice osA osn osc) ∧ W'.cell? ⟨w5.heap.size, 3, none⟩ = some (.slice ofA ofn ofc) ∧ W'.cell? ⟨w5.heap.size, 4, none⟩ = some (.slice opA opn opc) ∧ W'.cell? ⟨w25.heap.size, 0, none⟩ = some (.int .i64 za.guest) ∧ W'.cell? ⟨w25.heap.size, 1, none⟩ = some (.slice wrA wrn wrc) ∧ W'.cell? ⟨w25.heap.size, 2, none⟩ = some (.slice wsA wsn wsc) ∧ W'.cell? ⟨w25.heap.size, 3, none⟩ = some (.slice wfA wfn wfc) ∧ W'.cell? ⟨w25.heap.size, 4, none⟩ = some (.slice wpA wpn wpc) ∧ W'.cell? ⟨w28.heap.size, 0, none⟩ = some (.int .i64 zb.guest) ∧ W'.cell? ⟨w28.heap.size, 1, none⟩ = some (.slice xrA xrn xrc) ∧ W'.cell? ⟨w28.heap.size, 2, none⟩ = some (.slice xsA xsn xsc) ∧ W'.cell? ⟨w28.heap.size, 3, none⟩ = some (.slice xfA xfn xfc) ∧ W'.cell? ⟨w28.heap.size, 4, none⟩ = some (.slice xpA xpn xpc) ∧ W'.cell? ⟨w31.heap.size, 0, none⟩ = some (.int .i64 zc.guest) ∧ W'.cell? ⟨w31.heap.size, 1, none⟩ = some (.slice yrA yrn yrc) ∧ W'.cell? ⟨w31.heap.size, 2, none⟩ = some (.slice ysA ysn ysc) ∧ W'.cell? ⟨w31.heap.size, 3, none⟩ = some (.slice yfA yfn yfc) ∧ W'.cell? ⟨w31.heap.size, 4, none⟩ = some (.slice ypA ypn ypc) ∧ W'.cell? ⟨w34.heap.size, 0, none⟩ = some (.int .i64 zd.guest) ∧ W'.cell? ⟨w34.heap.size, 1, none⟩ = some (.slice zrA zrn zrc) ∧ W'.cell? ⟨w34.heap.size, 2, none⟩ = some (.slice zsA zsn zsc) ∧ W'.cell? ⟨w34.heap.size, 3, none⟩ = some (.slice zfA zfn zfc) ∧ W'.cell? ⟨w34.heap.size, 4, none⟩ = some (.slice zpA zpn zpc) ∧ W'.cell? ⟨w37.heap.size, 0, none⟩ = some (.int .i64 za.guest) ∧ W'.cell? ⟨w37.heap.size, 1, none⟩ = some (.slice srA srn src) ∧ W'.cell? ⟨w37.heap.size, 2, none⟩ = some (.slice ssA ssn ssc) ∧ W'.cell? ⟨w37.heap.size, 3, none⟩ = some (.slice sfA sfn sfc) ∧ W'.cell? ⟨w37.heap.size, 4, none⟩ = some (.slice spA spn spc) ∧ W'.cell? ⟨w40.heap.size, 0, none⟩ = some (.int .i64 zb.guest) ∧ W'.cell? ⟨w40.heap.size, 1, none⟩ = some (.slice trA trn trc) ∧ W'.cell? ⟨w40.heap.size, 2, none⟩ = some (.slice tsA tsn tsc) ∧ W'.cell? ⟨w40.heap.size, 3, none⟩ = some (.slice tfA tfn tfc) ∧ W'.cell? ⟨w40.heap.size, 4, none⟩ = some (.slice tpA tpn tpc) ∧ Below W41.heap.size W41 W')
          (first | exact MV.out _ (below_next (below_next (below_next (below_next (below_next (below_next (below_next (below_next HBd.out hb1) hb2) hb3) hb4) hb5) hb6) hb7) hb8) | exact MV.out _ (below_next (below_next (below_next (below_next (below_next (below_next (below_next HBd.out hb1) hb2) hb3) hb4) hb5) hb6) hb7) | exact MV.out _ (below_next (below_next (below_next (below_next (below_next (below_next HBd.out hb1) hb2) hb3) hb4) hb5) hb6) | exact MV.out _ (below_next (below_next (below_next (below_next (below_next HBd.out hb1) hb2) hb3) hb4) hb5) | exact MV.out _ (below_next (below_next (below_next (below_next HBd.out hb1) hb2) hb3) hb4) | exact MV.out _ (below_next (below_next (below_next HBd.out hb1) hb2) hb3) | exact MV.out _ (below_next (below_next HBd.out hb1) hb2) | exact MV.out _ (below_next HBd.out hb1) | exact MV.out _ HBd.out)
          (first
            | (have _ := hb7; go_at_call 13; refine (sameImg_any _ _ zd _ (Jz.next (below_next (below_next (below_next (below_next (below_next (below_next (below_next HBd.out hb1) hb2) hb3) hb4) hb5) hb6) hb7)) Jh).mono ?_; rintro e v8 ⟨rfl, hb8⟩)
            | (have _ := hb6; go_at_call 15; refine (KRo.out _ (below_next T0 (below_next (below_next (below_next (below_next (below_next (below_next HBd.out hb1) hb2) hb3) hb4) hb5) hb6))).mono ?_; rintro e v7 ⟨hrA, hrn, hrc, hsA, hsn, hsc, hfA, hfn, hfc, hpA, hpn, hpc, rfl, Jh, hb7⟩)
            | (have _ := hb5; go_at_call 13; refine (sameImg_any _ _ zc _ (Jy.next (below_next (below_next (below_next (below_next (below_next HBd.out hb1) hb2) hb3) hb4) hb5)) Jg).mono ?_; rintro e v6 ⟨rfl, hb6⟩)
            | (have _ := hb4; go_at_call 14; refine (KPo.out _ (below_next T0 (below_next (below_next (below_next (below_next HBd.out hb1) hb2) hb3) hb4))).mono ?_; rintro e v5 ⟨grA, grn, grc, gsA, gsn, gsc, gfA, gfn, gfc, gpA, gpn, gpc, rfl, Jg, hb5⟩)
            | (have _ := hb3; go_at_call 13; refine (sameImg_any _ _ zb _ (Jx.next (below_next (below_next (below_next HBd.out hb1) hb2) hb3)) (Jt.next (below_next (below_next (below_next HBd.out hb1) hb2) hb3))).mono ?_; rintro e v4 ⟨rfl, hb4⟩)
            | (have _ := hb2; go_at_call 13; refine (sameImg_any _ _ za _ (Jw.next (below_next (below_next HBd.out hb1) hb2)) (Js.next (below_next (below_next HBd.out hb1) hb2))).mono ?_; rintro e v3 ⟨rfl, hb3⟩)
            | (have _ := hb1; go_at_call 13; refine (sameImg_any _ _ m _ (HI.out _ (below_next T0 (below_next HBd.out hb1))) (Jo.next (below_next HBd.out hb1))).mono ?_; rintro e v2 ⟨rfl, hb2⟩)
            | (go_at_call 5; refine (writesBegun_any _).mono ?_; rintro e v1 ⟨rfl, hb1⟩))
        go_wp2_with fail
        go_ret
        exact ⟨rfl, below_next T0 (below_next (below_next (below_next (below_next (below_next (below_next (below_next (below_next HBd.out hb1) hb2) hb3) hb4) hb5) hb6) hb7) hb8)⟩
  · have lz : (checkErr m != 0) = true := by simpa using he
    generalize checkErr m = er at *
    obtain ⟨rA, rn, rc, sA, sn, sc, fA, fn, fc, pA, pn, pc⟩ := v
    dsimp only [imgV] at KC' ⊢
    have KC := Lib.hid KC'
    clear KC' h he
    have T0' := below1 w (.cells #[.int .i64 m.guest, .slice rA rn rc, .slice sA sn sc, .slice fA fn fc, .slice pA pn pc] 26)
    have X0' := Box.new w m.guest ⟨rA, rn, rc, sA, sn, sc, fA, fn, fc, pA, pn, pc⟩ 26
    have L0' : w.heap.size < (w.alloc (.cells #[.int .i64 m.guest, .slice rA rn rc, .slice sA sn sc, .slice fA fn fc, .slice pA pn pc] 26)).heap.size := by simp
    have T := Lib.hid T0'
    have XM := Lib.hid X0'
    have LM := Lib.hid L0'
    clear T0' X0' L0'
    obtain ⟨c1_0, c1_1, c1_2, c1_3, c1_4⟩ := XM.out
    try dsimp only at c1_0 c1_1 c1_2 c1_3 c1_4
    go_enter Tryz.func3, Tryz.ntmps3
    try dsimp only [List.append]
    go_wp2_with fail
    generalize (w.alloc (.cells #[.int .i64 m.guest, .slice rA rn rc, .slice sA sn sc, .slice fA fn fc, .slice pA pn pc] 26)) = W2 at *
    refine (KC.out _ T.out).mono ?_
    rintro e w3 ⟨rfl, hb⟩
    clear c1_0 c1_1 c1_2 c1_3 c1_4
    replace T := Lib.hid (below_next T.out hb)
    replace XM := Lib.hid (XM.out.keep hb LM.out)
    replace LM := Lib.hid (Nat.lt_of_lt_of_le LM.out hb.size)
    clear hb
    go_wp2_with fail
    refine (writesBegun_any _).mono ?_
    rintro e w4 ⟨rfl, hb⟩
    replace T := Lib.hid (below_next T.out hb)
    replace XM := Lib.hid (XM.out.keep hb LM.out)
    replace LM := Lib.hid (Nat.lt_of_lt_of_le LM.out hb.size)
    clear hb
    go_wp2_with fail
    go_ret
    exact ⟨rfl, T.out⟩
end Go.Proofs.YtfilnnjanhjbeaaGreat
