/- The laws' snapsBegun. No conditions. (Printed by gen_snbegun.py.) -/
import Derived.Test.YtfilnnjanhjbeaaSnAll
import Derived.Test.YtfilnnjanhjbeaaWBegun
import Derived.Test.YtfilnnjanhjbeaaTreeBegun
namespace Go.Proofs.Ytfilnnjanhjbeaa
open Go.RowKit Sl
def Sb_a (z : Img) : Prop := z.snaps.length = 2 ∧ (z.snaps[0]?).map (·.name) = some { data := #[110, 101, 119] } ∧ z.refs = [0, 2, 3, 1, 2]
theorem sb_a0 : Sb_a (createI (pImg 6 [2, 4] [0, 2, 2, 1, 1] [3, 0, 0, 0]) { data := #[110, 101, 119] }) ∧ createE (pImg 6 [2, 4] [0, 2, 2, 1, 1] [3, 0, 0, 0]) { data := #[110, 101, 119] } = 0 := by unfold Sb_a; decide +kernel
theorem sb_a (W : World) (h : Nat) (p : PairAt W h [2, 4] [0, 2, 2, 1, 1] [3, 0, 0, 0]) : Calls Try.prog 7 #[.agg #[.int .i64 6, .slice (some ⟨h + 1, 0, none⟩) 2 2, .slice (some ⟨h + 1 + 1 + 1 + 1, 0, none⟩) 5 5, .slice (some ⟨h + 1 + 1 + 1 + 1 + 1, 0, none⟩) 5 5, .slice (some ⟨h + 1 + 1 + 1 + 1 + 1 + 1 + 1, 0, none⟩) 1 1], .string { data := #[110, 101, 119] }] W fun e w' => ∃ v z, e = .returned (.tuple #[imgV z v, .int .i64 0]) ∧ Sb_a z ∧ ImgR w' w'.heap.size v z ∧ Below W.heap.size W w' := by
  have := create_any (pV h) _ { data := #[110, 101, 119] } W (p.img 6 rfl rfl rfl) (by decide)
  rw [sb_a0.2] at this
  exact this.mono fun e w' ⟨v, h1, h2, h3⟩ => ⟨v, _, h1, sb_a0.1, h2.imgR, h3⟩
def Sb_b (z : Img) : Prop := z.guest = 4 ∧ z.root = [2] ∧ z.slots.length = 5 ∧ (z.slots[3]?).map (·.kind) = some 0 ∧ (z.slots[4]?).map (·.kind) = some 0
theorem sb_b0 : Sb_b (revertI (pImg 6 [2, 4] [0, 2, 2, 1, 1] [3, 0, 0, 0]) { data := #[111, 108, 100] }) ∧ pastE (pImg 6 [2, 4] [0, 2, 2, 1, 1] [3, 0, 0, 0]) { data := #[111, 108, 100] } = 0 := by unfold Sb_b; decide +kernel
theorem sb_b (W : World) (h : Nat) (p : PairAt W h [2, 4] [0, 2, 2, 1, 1] [3, 0, 0, 0]) : Calls Try.prog 8 #[.agg #[.int .i64 6, .slice (some ⟨h + 1, 0, none⟩) 2 2, .slice (some ⟨h + 1 + 1 + 1 + 1, 0, none⟩) 5 5, .slice (some ⟨h + 1 + 1 + 1 + 1 + 1, 0, none⟩) 5 5, .slice (some ⟨h + 1 + 1 + 1 + 1 + 1 + 1 + 1, 0, none⟩) 1 1], .string { data := #[111, 108, 100] }] W fun e w' => ∃ v z, e = .returned (.tuple #[imgV z v, .int .i64 0]) ∧ Sb_b z ∧ ImgR w' w'.heap.size v z ∧ Below W.heap.size W w' := by
  have := revert_any (pV h) _ { data := #[111, 108, 100] } W (p.img 6 rfl rfl rfl)
  rw [sb_b0.2] at this
  exact this.mono fun e w' ⟨v, h1, h2, h3⟩ => ⟨v, _, h1, sb_b0.1, h2.imgR, h3⟩
def Sb_c (z : Img) : Prop := z.snaps.length = 0 ∧ z.refs = [0, 2, 1, 1, 1]
theorem sb_c0 : Sb_c (deleteI (pImg 6 [2, 4] [0, 2, 2, 1, 1] [3, 0, 0, 0]) { data := #[111, 108, 100] }) ∧ pastE (pImg 6 [2, 4] [0, 2, 2, 1, 1] [3, 0, 0, 0]) { data := #[111, 108, 100] } = 0 := by unfold Sb_c; decide +kernel
theorem sb_c (W : World) (h : Nat) (p : PairAt W h [2, 4] [0, 2, 2, 1, 1] [3, 0, 0, 0]) : Calls Try.prog 9 #[.agg #[.int .i64 6, .slice (some ⟨h + 1, 0, none⟩) 2 2, .slice (some ⟨h + 1 + 1 + 1 + 1, 0, none⟩) 5 5, .slice (some ⟨h + 1 + 1 + 1 + 1 + 1, 0, none⟩) 5 5, .slice (some ⟨h + 1 + 1 + 1 + 1 + 1 + 1 + 1, 0, none⟩) 1 1], .string { data := #[111, 108, 100] }] W fun e w' => ∃ v z, e = .returned (.tuple #[imgV z v, .int .i64 0]) ∧ Sb_c z ∧ ImgR w' w'.heap.size v z ∧ Below W.heap.size W w' := by
  have := delete_any (pV h) _ { data := #[111, 108, 100] } W (p.img 6 rfl rfl rfl)
  rw [sb_c0.2] at this
  exact this.mono fun e w' ⟨v, h1, h2, h3⟩ => ⟨v, _, h1, sb_c0.1, h2.imgR, h3⟩
def Sb_d (z : Img) : Prop := z.guest = 0
theorem sb_d0 : Sb_d (createI (pImg 6 [2, 4] [0, 2, 2, 1, 1] [3, 0, 0, 0]) { data := #[111, 108, 100] }) ∧ createE (pImg 6 [2, 4] [0, 2, 2, 1, 1] [3, 0, 0, 0]) { data := #[111, 108, 100] } = 6 := by unfold Sb_d; decide +kernel
theorem sb_d (W : World) (h : Nat) (p : PairAt W h [2, 4] [0, 2, 2, 1, 1] [3, 0, 0, 0]) : Calls Try.prog 7 #[.agg #[.int .i64 6, .slice (some ⟨h + 1, 0, none⟩) 2 2, .slice (some ⟨h + 1 + 1 + 1 + 1, 0, none⟩) 5 5, .slice (some ⟨h + 1 + 1 + 1 + 1 + 1, 0, none⟩) 5 5, .slice (some ⟨h + 1 + 1 + 1 + 1 + 1 + 1 + 1, 0, none⟩) 1 1], .string { data := #[111, 108, 100] }] W fun e w' => ∃ v z, e = .returned (.tuple #[imgV z v, .int .i64 6]) ∧ Sb_d z ∧ ImgR w' w'.heap.size v z ∧ Below W.heap.size W w' := by
  have := create_any (pV h) _ { data := #[111, 108, 100] } W (p.img 6 rfl rfl rfl) (by decide)
  rw [sb_d0.2] at this
  exact this.mono fun e w' ⟨v, h1, h2, h3⟩ => ⟨v, _, h1, sb_d0.1, h2.imgR, h3⟩
def Sb_x (z : Img) : Prop := z.guest = 0
theorem sb_x0 : Sb_x (deleteI (pImg 6 [2, 4] [0, 2, 2, 1, 1] [3, 0, 0, 0]) { data := #[120] }) ∧ pastE (pImg 6 [2, 4] [0, 2, 2, 1, 1] [3, 0, 0, 0]) { data := #[120] } = 5 := by unfold Sb_x; decide +kernel
theorem sb_x (W : World) (h : Nat) (p : PairAt W h [2, 4] [0, 2, 2, 1, 1] [3, 0, 0, 0]) : Calls Try.prog 9 #[.agg #[.int .i64 6, .slice (some ⟨h + 1, 0, none⟩) 2 2, .slice (some ⟨h + 1 + 1 + 1 + 1, 0, none⟩) 5 5, .slice (some ⟨h + 1 + 1 + 1 + 1 + 1, 0, none⟩) 5 5, .slice (some ⟨h + 1 + 1 + 1 + 1 + 1 + 1 + 1, 0, none⟩) 1 1], .string { data := #[120] }] W fun e w' => ∃ v z, e = .returned (.tuple #[imgV z v, .int .i64 5]) ∧ Sb_x z ∧ ImgR w' w'.heap.size v z ∧ Below W.heap.size W w' := by
  have := delete_any (pV h) _ { data := #[120] } W (p.img 6 rfl rfl rfl)
  rw [sb_x0.2] at this
  exact this.mono fun e w' ⟨v, h1, h2, h3⟩ => ⟨v, _, h1, sb_x0.1, h2.imgR, h3⟩
theorem slot_atS {W : World} {v : IV} {z : Img} (h : ImgR W W.heap.size v z) {k : Nat} (hk : k < z.slots.length) : ∃ b o s tA tn tc, v.sA = some ⟨b, o, none⟩ ∧ b < W.heap.size ∧ z.slots[k]? = some s ∧ W.cell? ⟨b, o + k * 3, none⟩ = some (.int .i64 s.kind) ∧ W.cell? ⟨b, o + k * 3 + 1, none⟩ = some (.string s.data) ∧ W.cell? ⟨b, o + k * 3 + 2, none⟩ = some (.slice tA tn tc) := by
  obtain ⟨b, o, s, tA, tn, tc, hA, hb, hx, d0, d1, d2, hsv⟩ := h.slots.at_ (k := k) (by have := h.slen; omega)
  exact ⟨b, o, s, tA, tn, tc, hA, hb, hx, d0, d1, d2⟩
theorem snap_atS {W : World} {v : IV} {z : Img} (h : ImgR W W.heap.size v z) (hk : 0 < z.snaps.length) : ∃ b o s, v.pA = some ⟨b, o, none⟩ ∧ b < W.heap.size ∧ z.snaps[0]? = some s ∧ W.cell? ⟨b, o, none⟩ = some (.string s.name) := by
  obtain ⟨b, o, s, tA, tn, tc, hA, hb, hx, d0, d1, d2, hsv⟩ := h.snaps.at_ (k := 0) (by have := h.plen; omega)
  exact ⟨b, o, s, hA, hb, hx, by simpa using d0⟩
set_option maxRecDepth 100000 in
set_option maxHeartbeats 4000000 in
theorem snapsBegun_any (w : World) : Calls Try.prog 13 #[] w fun e w' => e = .returned (.bool true) ∧ Below w.heap.size w w' := by
  go_enter Try.func13, Try.ntmps13
  dsimp only [List.append]
  go_wp2_with fail
  refine (pair_any _).mono ?_
  rintro e wa1 ⟨rfl, hp, hb⟩
  have Sa1 := Lib.hid hb
  have Ka := Lib.hid (sb_a _ _ hp)
  clear hp hb
  go_wp2_with fail
  refine Ka.out.mono ?_
  rintro e wa2 ⟨v, za, rfl, hf, hi, hb⟩
  have Sa2 := Lib.hid (below_next Sa1.out hb)
  have Fa := Lib.hid hf
  have hx := Box.new wa2 za.guest v 26
  have hi2 := hi.next (below1 wa2 (.cells #[.int .i64 za.guest, .slice v.rA v.rn v.rc, .slice v.sA v.sn v.sc, .slice v.fA v.fn v.fc, .slice v.pA v.pn v.pc] 26))
  have Sa3 := Lib.hid (below_next Sa2.out (below1 wa2 (.cells #[.int .i64 za.guest, .slice v.rA v.rn v.rc, .slice v.sA v.sn v.sc, .slice v.fA v.fn v.fc, .slice v.pA v.pn v.pc] 26)))
  have hlt : wa2.heap.size < (wa2.alloc (.cells #[.int .i64 za.guest, .slice v.rA v.rn v.rc, .slice v.sA v.sn v.sc, .slice v.fA v.fn v.fc, .slice v.pA v.pn v.pc] 26)).heap.size := by simp
  obtain ⟨arA, arn, arc, asA, asn, asc, afA, afn, afc, apA, apn, apc⟩ := v
  have Ia := Lib.hid hi2
  have Xa := Lib.hid hx
  have La := Lib.hid hlt
  dsimp only [imgV] at Ia Xa Sa3 La ⊢
  clear hf hi hb hx hi2 hlt Ka Sa1 Sa2
  go_wp2_with fail
  generalize hWa : wa2.alloc (.cells #[.int .i64 za.guest, .slice arA arn arc, .slice asA asn asc, .slice afA afn afc, .slice apA apn apc] 26) = Wa at *
  clear hWa
  refine (pair_any _).mono ?_
  rintro e wb1 ⟨rfl, hp, hb⟩
  have Sb1 := Lib.hid hb
  have Kb := Lib.hid (sb_b _ _ hp)
  clear hp hb
  go_wp2_with fail
  refine Kb.out.mono ?_
  rintro e wb2 ⟨v, zb, rfl, hf, hi, hb⟩
  have Sb2 := Lib.hid (below_next Sb1.out hb)
  have Fb := Lib.hid hf
  have hx := Box.new wb2 zb.guest v 26
  have hi2 := hi.next (below1 wb2 (.cells #[.int .i64 zb.guest, .slice v.rA v.rn v.rc, .slice v.sA v.sn v.sc, .slice v.fA v.fn v.fc, .slice v.pA v.pn v.pc] 26))
  have Sb3 := Lib.hid (below_next Sb2.out (below1 wb2 (.cells #[.int .i64 zb.guest, .slice v.rA v.rn v.rc, .slice v.sA v.sn v.sc, .slice v.fA v.fn v.fc, .slice v.pA v.pn v.pc] 26)))
  have hlt : wb2.heap.size < (wb2.alloc (.cells #[.int .i64 zb.guest, .slice v.rA v.rn v.rc, .slice v.sA v.sn v.sc, .slice v.fA v.fn v.fc, .slice v.pA v.pn v.pc] 26)).heap.size := by simp
  obtain ⟨brA, brn, brc, bsA, bsn, bsc, bfA, bfn, bfc, bpA, bpn, bpc⟩ := v
  have Ib := Lib.hid hi2
  have Xb := Lib.hid hx
  have Lb := Lib.hid hlt
  dsimp only [imgV] at Ib Xb Sb3 Lb ⊢
  clear hf hi hb hx hi2 hlt Kb Sb1 Sb2
  go_wp2_with fail
  generalize hWb : wb2.alloc (.cells #[.int .i64 zb.guest, .slice brA brn brc, .slice bsA bsn bsc, .slice bfA bfn bfc, .slice bpA bpn bpc] 26) = Wb at *
  clear hWb
  refine (pair_any _).mono ?_
  rintro e wc1 ⟨rfl, hp, hb⟩
  have Sc1 := Lib.hid hb
  have Kc := Lib.hid (sb_c _ _ hp)
  clear hp hb
  go_wp2_with fail
  refine Kc.out.mono ?_
  rintro e wc2 ⟨v, zc, rfl, hf, hi, hb⟩
  have Sc2 := Lib.hid (below_next Sc1.out hb)
  have Fc := Lib.hid hf
  have hx := Box.new wc2 zc.guest v 26
  have hi2 := hi.next (below1 wc2 (.cells #[.int .i64 zc.guest, .slice v.rA v.rn v.rc, .slice v.sA v.sn v.sc, .slice v.fA v.fn v.fc, .slice v.pA v.pn v.pc] 26))
  have Sc3 := Lib.hid (below_next Sc2.out (below1 wc2 (.cells #[.int .i64 zc.guest, .slice v.rA v.rn v.rc, .slice v.sA v.sn v.sc, .slice v.fA v.fn v.fc, .slice v.pA v.pn v.pc] 26)))
  have hlt : wc2.heap.size < (wc2.alloc (.cells #[.int .i64 zc.guest, .slice v.rA v.rn v.rc, .slice v.sA v.sn v.sc, .slice v.fA v.fn v.fc, .slice v.pA v.pn v.pc] 26)).heap.size := by simp
  obtain ⟨crA, crn, crc, csA, csn, csc, cfA, cfn, cfc, cpA, cpn, cpc⟩ := v
  have Ic := Lib.hid hi2
  have Xc := Lib.hid hx
  have Lc := Lib.hid hlt
  dsimp only [imgV] at Ic Xc Sc3 Lc ⊢
  clear hf hi hb hx hi2 hlt Kc Sc1 Sc2
  go_wp2_with fail
  generalize hWc : wc2.alloc (.cells #[.int .i64 zc.guest, .slice crA crn crc, .slice csA csn csc, .slice cfA cfn cfc, .slice cpA cpn cpc] 26) = Wc at *
  clear hWc
  refine (pair_any _).mono ?_
  rintro e wd1 ⟨rfl, hp, hb⟩
  have Sd1 := Lib.hid hb
  have Kd := Lib.hid (sb_d _ _ hp)
  clear hp hb
  go_wp2_with fail
  refine Kd.out.mono ?_
  rintro e wd2 ⟨v, zd, rfl, hf, hi, hb⟩
  have Sd2 := Lib.hid (below_next Sd1.out hb)
  have Fd := Lib.hid hf
  have hx := Box.new wd2 zd.guest v 26
  have hi2 := hi.next (below1 wd2 (.cells #[.int .i64 zd.guest, .slice v.rA v.rn v.rc, .slice v.sA v.sn v.sc, .slice v.fA v.fn v.fc, .slice v.pA v.pn v.pc] 26))
  have Sd3 := Lib.hid (below_next Sd2.out (below1 wd2 (.cells #[.int .i64 zd.guest, .slice v.rA v.rn v.rc, .slice v.sA v.sn v.sc, .slice v.fA v.fn v.fc, .slice v.pA v.pn v.pc] 26)))
  have hlt : wd2.heap.size < (wd2.alloc (.cells #[.int .i64 zd.guest, .slice v.rA v.rn v.rc, .slice v.sA v.sn v.sc, .slice v.fA v.fn v.fc, .slice v.pA v.pn v.pc] 26)).heap.size := by simp
  obtain ⟨drA, drn, drc, dsA, dsn, dsc, dfA, dfn, dfc, dpA, dpn, dpc⟩ := v
  have Id := Lib.hid hi2
  have Xd := Lib.hid hx
  have Ld := Lib.hid hlt
  dsimp only [imgV] at Id Xd Sd3 Ld ⊢
  clear hf hi hb hx hi2 hlt Kd Sd1 Sd2
  go_wp2_with fail
  generalize hWd : wd2.alloc (.cells #[.int .i64 zd.guest, .slice drA drn drc, .slice dsA dsn dsc, .slice dfA dfn dfc, .slice dpA dpn dpc] 26) = Wd at *
  clear hWd
  refine (pair_any _).mono ?_
  rintro e wx1 ⟨rfl, hp, hb⟩
  have Sx1 := Lib.hid hb
  have Kx := Lib.hid (sb_x _ _ hp)
  clear hp hb
  go_wp2_with fail
  refine Kx.out.mono ?_
  rintro e wx2 ⟨v, zx, rfl, hf, hi, hb⟩
  have Sx2 := Lib.hid (below_next Sx1.out hb)
  have Fx := Lib.hid hf
  have hx := Box.new wx2 zx.guest v 26
  have hi2 := hi.next (below1 wx2 (.cells #[.int .i64 zx.guest, .slice v.rA v.rn v.rc, .slice v.sA v.sn v.sc, .slice v.fA v.fn v.fc, .slice v.pA v.pn v.pc] 26))
  have Sx3 := Lib.hid (below_next Sx2.out (below1 wx2 (.cells #[.int .i64 zx.guest, .slice v.rA v.rn v.rc, .slice v.sA v.sn v.sc, .slice v.fA v.fn v.fc, .slice v.pA v.pn v.pc] 26)))
  have hlt : wx2.heap.size < (wx2.alloc (.cells #[.int .i64 zx.guest, .slice v.rA v.rn v.rc, .slice v.sA v.sn v.sc, .slice v.fA v.fn v.fc, .slice v.pA v.pn v.pc] 26)).heap.size := by simp
  obtain ⟨xrA, xrn, xrc, xsA, xsn, xsc, xfA, xfn, xfc, xpA, xpn, xpc⟩ := v
  have Ix := Lib.hid hi2
  have Xx := Lib.hid hx
  have Lx := Lib.hid hlt
  dsimp only [imgV] at Ix Xx Sx3 Lx ⊢
  clear hf hi hb hx hi2 hlt Kx Sx1 Sx2
  have Dd := Sx3.out
  have Dc := below_next Sd3.out Dd
  have Db := below_next Sc3.out Dc
  have Da := below_next Sb3.out Db
  have HT := Lib.hid (below_next Sa3.out Da)
  have Xa' := Xa.out.keep Da La.out
  have Ia' := Ia.out.next Da
  have Xb' := Xb.out.keep Db Lb.out
  have Ib' := Ib.out.next Db
  have Xc' := Xc.out.keep Dc Lc.out
  have Ic' := Ic.out.next Dc
  have La' : wa2.heap.size < _ := Nat.lt_of_lt_of_le La.out Da.size
  have Lb' : wb2.heap.size < _ := Nat.lt_of_lt_of_le Lb.out Db.size
  have Lc' : wc2.heap.size < _ := Nat.lt_of_lt_of_le Lc.out Dc.size
  clear Dd Dc Db Da Sa3 Sb3 Sc3 Sd3 Sx3 Xa Xb Xc Xd Xx Ia Ib Ic Id Ix La Lb Lc Ld Lx Fd Fx
  obtain ⟨fa0, fa1, fa2⟩ := Fa.out
  obtain ⟨fb0, fb1, fb2, fb3, fb4⟩ := Fb.out
  obtain ⟨fc0, fc1⟩ := Fc.out
  obtain ⟨ab, ao, sa, hAa, la, hsa, d0a⟩ := snap_atS Ia' (by omega)
  rw [hsa, Option.map_some] at fa1
  injection fa1 with fa1
  rw [fa1] at d0a
  obtain ⟨bb3, bo3, s3, bt3, btn3, btc3, hAb3, lb3, hs3, d0b3, d1b3, d2b3⟩ := slot_atS Ib' (k := 3) (by omega)
  rw [hs3, Option.map_some] at fb3
  injection fb3 with fb3
  rw [fb3] at d0b3
  clear d1b3 d2b3
  obtain ⟨bb4, bo4, s4, bt4, btn4, btc4, hAb4, lb4, hs4, d0b4, d1b4, d2b4⟩ := slot_atS Ib' (k := 4) (by omega)
  rw [hs4, Option.map_some] at fb4
  injection fb4 with fb4
  rw [fb4] at d0b4
  clear d1b4 d2b4
  have hna : apn = 2 := by have := Ia'.plen; dsimp only at this; omega
  dsimp only at hAa
  subst hna hAa
  have hnb : bsn = 5 := by have := Ib'.slen; dsimp only at this; omega
  dsimp only at hAb3 hAb4
  subst hnb hAb3
  injection hAb4 with hAb4
  injection hAb4 with ex1 ex2
  subst ex1 ex2
  have hnc : cpn = 0 := by have := Ic'.plen; dsimp only at this; omega
  subst hnc
  have Raf := Ia'.refs
  rw [fa2] at Raf
  dsimp only at Raf
  have hmaf : afn = 5 := by have := Raf.1; simp [ints] at this; omega
  subst hmaf
  have Rbr := Ib'.root
  rw [fb1] at Rbr
  dsimp only at Rbr
  have hmbr : brn = 1 := by have := Rbr.1; simp [ints] at this; omega
  subst hmbr
  have Rcf := Ic'.refs
  rw [fc1] at Rcf
  dsimp only at Rcf
  have hmcf : cfn = 5 := by have := Rcf.1; simp [ints] at this; omega
  subst hmcf
  rw [fb0] at Xb'
  have MV := Lib.hid (fun (W' : World) (hb : Below (wx2.alloc (.cells #[.int .i64 zx.guest, .slice xrA xrn xrc, .slice xsA xsn xsc, .slice xfA xfn xfc, .slice xpA xpn xpc] 26)).heap.size (wx2.alloc (.cells #[.int .i64 zx.guest, .slice xrA xrn xrc, .slice xsA xsn xsc, .slice xfA xfn xfc, .slice xpA xpn xpc] 26)) W') => (show W'.cell? ⟨wa2.heap.size, 4, none⟩ = some (.slice (some ⟨ab, ao, none⟩) 2 apc) ∧ W'.cell? ⟨ab, ao, none⟩ = some (.string { data := #[110, 101, 119] }) ∧ W'.cell? ⟨wa2.heap.size, 3, none⟩ = some (.slice afA 5 afc) ∧ W'.cell? ⟨wb2.heap.size, 0, none⟩ = some (.int .i64 4) ∧ W'.cell? ⟨wb2.heap.size, 1, none⟩ = some (.slice brA 1 brc) ∧ W'.cell? ⟨wb2.heap.size, 2, none⟩ = some (.slice (some ⟨bb3, bo3, none⟩) 5 bsc) ∧ W'.cell? ⟨bb3, bo3 + 3 * 3, none⟩ = some (.int .i64 0) ∧ W'.cell? ⟨bb3, bo3 + 4 * 3, none⟩ = some (.int .i64 0) ∧ W'.cell? ⟨wc2.heap.size, 4, none⟩ = some (.slice cpA 0 cpc) ∧ W'.cell? ⟨wc2.heap.size, 3, none⟩ = some (.slice cfA 5 cfc) from ⟨(hb.cell (p := ⟨wa2.heap.size, 4, none⟩) La').trans Xa'.2.2.2.2, (hb.cell (p := ⟨ab, ao, none⟩) la).trans d0a, (hb.cell (p := ⟨wa2.heap.size, 3, none⟩) La').trans Xa'.2.2.2.1, (hb.cell (p := ⟨wb2.heap.size, 0, none⟩) Lb').trans Xb'.1, (hb.cell (p := ⟨wb2.heap.size, 1, none⟩) Lb').trans Xb'.2.1, (hb.cell (p := ⟨wb2.heap.size, 2, none⟩) Lb').trans Xb'.2.2.1, (hb.cell (p := ⟨bb3, bo3 + 3 * 3, none⟩) lb3).trans d0b3, (hb.cell (p := ⟨bb3, bo3 + 4 * 3, none⟩) lb3).trans d0b4, (hb.cell (p := ⟨wc2.heap.size, 4, none⟩) Lc').trans Xc'.2.2.2.2, (hb.cell (p := ⟨wc2.heap.size, 3, none⟩) Lc').trans Xc'.2.2.2.1⟩))
  have HR := Lib.hid (And.intro Raf (And.intro Rbr Rcf))
  obtain ⟨k1, k2, k3, k4, k5, k6, k7, k8, k9, k10⟩ := MV.out _ (Below.refl _ _)
  clear Xa' Xb' Xc' Ia' Ib' Ic' La' Lb' Lc' d0a d0b3 d0b4 Raf Rbr Rcf fa0 fa1 fa2 fb0 fb1 fb2 fb3 fb4 fc0 fc1 Fa Fb Fc hsa hs3 hs4
  have S0' := (fun (T : TypeId) => sameInts_any afA (some ⟨(wx2.alloc (.cells #[.int .i64 zx.guest, .slice xrA xrn xrc, .slice xsA xsn xsc, .slice xfA xfn xfc, .slice xpA xpn xpc] 26)).heap.size, 0, none⟩) 5 5 afc 5 [0, 2, 3, 1, 2] [0, 2, 3, 1, 2] ((wx2.alloc (.cells #[.int .i64 zx.guest, .slice xrA xrn xrc, .slice xsA xsn xsc, .slice xfA xfn xfc, .slice xpA xpn xpc] 26)).alloc (.cells #[.int .i64 0, .int .i64 2, .int .i64 3, .int .i64 1, .int .i64 2] T)) ((Rd.next HR.out.1 (Below.refl _ _)).next (below1 _ _)) (Rd.of_block (heap_alloc_new (wx2.alloc (.cells #[.int .i64 zx.guest, .slice xrA xrn xrc, .slice xsA xsn xsc, .slice xfA xfn xfc, .slice xpA xpn xpc] 26)) _) (by simp) rfl rfl) (by omega) (by omega))
  simp only [World.size_alloc] at S0'
  have S0 := Lib.hid S0'
  clear S0'
  go_wp2_with fail
  refine (S0.out _).mono ?_
  rintro e u0 ⟨rfl, hb⟩
  have D0 := Lib.hid ((below1 (wx2.alloc (.cells #[.int .i64 zx.guest, .slice xrA xrn xrc, .slice xsA xsn xsc, .slice xfA xfn xfc, .slice xpA xpn xpc] 26)) _).trans (hb.mono (by simp)))
  clear hb S0 k1 k2 k3 k4 k5 k6 k7 k8 k9 k10
  obtain ⟨k1, k2, k3, k4, k5, k6, k7, k8, k9, k10⟩ := MV.out _ D0.out
  have S1' := (fun (T : TypeId) => sameInts_any brA (some ⟨u0.heap.size, 0, none⟩) 1 1 brc 1 [2] [2] (u0.alloc (.cells #[.int .i64 2] T)) ((Rd.next HR.out.2.1 D0.out).next (below1 _ _)) (Rd.of_block (heap_alloc_new u0 _) (by simp) rfl rfl) (by omega) (by omega))
  have S1 := Lib.hid S1'
  clear S1'
  go_wp2_with fail
  refine (S1.out _).mono ?_
  rintro e u1 ⟨rfl, hb⟩
  have D1 := Lib.hid (below_next D0.out ((below1 u0 _).trans (hb.mono (by simp))))
  clear hb S1 k1 k2 k3 k4 k5 k6 k7 k8 k9 k10
  obtain ⟨k1, k2, k3, k4, k5, k6, k7, k8, k9, k10⟩ := MV.out _ D1.out
  have S2' := (fun (T : TypeId) => sameInts_any cfA (some ⟨u1.heap.size, 0, none⟩) 5 5 cfc 5 [0, 2, 1, 1, 1] [0, 2, 1, 1, 1] (u1.alloc (.cells #[.int .i64 0, .int .i64 2, .int .i64 1, .int .i64 1, .int .i64 1] T)) ((Rd.next HR.out.2.2 D1.out).next (below1 _ _)) (Rd.of_block (heap_alloc_new u1 _) (by simp) rfl rfl) (by omega) (by omega))
  have S2 := Lib.hid S2'
  clear S2'
  go_wp2_with fail
  refine (S2.out _).mono ?_
  rintro e u2 ⟨rfl, hb⟩
  have D2 := Lib.hid (below_next D1.out ((below1 u1 _).trans (hb.mono (by simp))))
  clear hb S2 k1 k2 k3 k4 k5 k6 k7 k8 k9 k10
  obtain ⟨k1, k2, k3, k4, k5, k6, k7, k8, k9, k10⟩ := MV.out _ D2.out
  go_wp2_with fail
  go_ret
  exact ⟨rfl, below_next HT.out D2.out⟩
end Go.Proofs.Ytfilnnjanhjbeaa
