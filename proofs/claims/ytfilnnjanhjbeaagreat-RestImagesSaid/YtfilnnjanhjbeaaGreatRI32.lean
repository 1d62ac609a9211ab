/- Texts of the proof of restImages_holds: WBegun. Conditions: as each text says. -/
import Derived.Test.YtfilnnjanhjbeaaGreatRI30
import Derived.Test.YtfilnnjanhjbeaaGreatRI31
import Derived.Test.YtfilnnjanhjbeaaGreatRI13
namespace Go.Proofs.YtfilnnjanhjbeaaGreat
open Go.RowKit Sl
def Bg_a (z : Img) : Prop := z.slots.length = 5 ∧ (z.slots[3]?).map (·.data) = some { data := #[99, 99, 99, 99] }
theorem bg_a0 : Bg_a (writeI (pImg 6 [2, 4] [0, 2, 2, 1, 1] [3, 0, 0, 0]) 4 { data := #[99, 99, 99, 99] }) ∧ writeE (pImg 6 [2, 4] [0, 2, 2, 1, 1] [3, 0, 0, 0]) 4 { data := #[99, 99, 99, 99] } = 0 := by unfold Bg_a; decide +kernel
theorem bg_a (W : World) (h : Nat) (p : PairAt W h [2, 4] [0, 2, 2, 1, 1] [3, 0, 0, 0]) : Calls Tryz.prog 7 #[.agg #[.int .i64 6, .slice (some ⟨h + 1, 0, none⟩) 2 2, .slice (some ⟨h + 1 + 1 + 1 + 1, 0, none⟩) 5 5, .slice (some ⟨h + 1 + 1 + 1 + 1 + 1, 0, none⟩) 5 5, .slice (some ⟨h + 1 + 1 + 1 + 1 + 1 + 1 + 1, 0, none⟩) 1 1], .int .i64 4, .string { data := #[99, 99, 99, 99] }] W fun e w' => ∃ v z, e = .returned (.tuple #[imgV z v, .int .i64 0]) ∧ Bg_a z ∧ ImgR w' w'.heap.size v z ∧ Below W.heap.size W w' := by
  have := write_any (pV h) _ 4 { data := #[99, 99, 99, 99] } W (p.img 6 rfl rfl rfl) (fun x => write_hw x)
  rw [bg_a0.2] at this
  exact this.mono fun e w' ⟨v, h1, h2, h3⟩ => ⟨v, _, h1, bg_a0.1, h2.imgR, h3⟩
def Bg_b (z : Img) : Prop := z.slots.length = 7 ∧ z.root = [5, 4] ∧ (z.slots[5]?).map (·.table) = some [6, 0, -1, 1] ∧ z.refs = [0, 3, 1, 1, 1, 1, 1]
theorem bg_b0 : Bg_b (writeI (pImg 6 [2, 4] [0, 2, 2, 1, 1] [3, 0, 0, 0]) 0 { data := #[100, 100, 100, 100] }) ∧ writeE (pImg 6 [2, 4] [0, 2, 2, 1, 1] [3, 0, 0, 0]) 0 { data := #[100, 100, 100, 100] } = 0 := by unfold Bg_b; decide +kernel
theorem bg_b (W : World) (h : Nat) (p : PairAt W h [2, 4] [0, 2, 2, 1, 1] [3, 0, 0, 0]) : Calls Tryz.prog 7 #[.agg #[.int .i64 6, .slice (some ⟨h + 1, 0, none⟩) 2 2, .slice (some ⟨h + 1 + 1 + 1 + 1, 0, none⟩) 5 5, .slice (some ⟨h + 1 + 1 + 1 + 1 + 1, 0, none⟩) 5 5, .slice (some ⟨h + 1 + 1 + 1 + 1 + 1 + 1 + 1, 0, none⟩) 1 1], .int .i64 0, .string { data := #[100, 100, 100, 100] }] W fun e w' => ∃ v z, e = .returned (.tuple #[imgV z v, .int .i64 0]) ∧ Bg_b z ∧ ImgR w' w'.heap.size v z ∧ Below W.heap.size W w' := by
  have := write_any (pV h) _ 0 { data := #[100, 100, 100, 100] } W (p.img 6 rfl rfl rfl) (fun x => write_hw x)
  rw [bg_b0.2] at this
  exact this.mono fun e w' ⟨v, h1, h2, h3⟩ => ⟨v, _, h1, bg_b0.1, h2.imgR, h3⟩
def Bg_c (z : Img) : Prop := z.slots.length = 5 ∧ z.root = [2, 0] ∧ (z.slots[3]?).map (·.kind) = some 0
theorem bg_c0 : Bg_c (setI (pImg 6 [2, 4] [0, 2, 2, 1, 1] [3, 0, 0, 0]) 4 0) ∧ setE (pImg 6 [2, 4] [0, 2, 2, 1, 1] [3, 0, 0, 0]) 4 0 = 0 := by unfold Bg_c; decide +kernel
theorem bg_c (W : World) (h : Nat) (p : PairAt W h [2, 4] [0, 2, 2, 1, 1] [3, 0, 0, 0]) : Calls Tryz.prog 19 #[.agg #[.int .i64 6, .slice (some ⟨h + 1, 0, none⟩) 2 2, .slice (some ⟨h + 1 + 1 + 1 + 1, 0, none⟩) 5 5, .slice (some ⟨h + 1 + 1 + 1 + 1 + 1, 0, none⟩) 5 5, .slice (some ⟨h + 1 + 1 + 1 + 1 + 1 + 1 + 1, 0, none⟩) 1 1], .int .i64 4] W fun e w' => ∃ v z, e = .returned (.tuple #[imgV z v, .int .i64 0]) ∧ Bg_c z ∧ ImgR w' w'.heap.size v z ∧ Below W.heap.size W w' := by
  have := punch_any (pV h) _ 4 W (p.img 6 rfl rfl rfl) (fun x => set_hw rfl (by decide) x)
  rw [bg_c0.2] at this
  exact this.mono fun e w' ⟨v, h1, h2, h3⟩ => ⟨v, _, h1, bg_c0.1, h2.imgR, h3⟩
def Bg_d (z : Img) : Prop := z.slots.length = 5 ∧ (z.slots[4]?).map (·.table) = some [3, -1, 0, 0]
theorem bg_d0 : Bg_d (setI (pImg 6 [2, 4] [0, 2, 2, 1, 1] [3, 0, 0, 0]) 5 (-1)) ∧ setE (pImg 6 [2, 4] [0, 2, 2, 1, 1] [3, 0, 0, 0]) 5 (-1) = 0 := by unfold Bg_d; decide +kernel
theorem bg_d (W : World) (h : Nat) (p : PairAt W h [2, 4] [0, 2, 2, 1, 1] [3, 0, 0, 0]) : Calls Tryz.prog 20 #[.agg #[.int .i64 6, .slice (some ⟨h + 1, 0, none⟩) 2 2, .slice (some ⟨h + 1 + 1 + 1 + 1, 0, none⟩) 5 5, .slice (some ⟨h + 1 + 1 + 1 + 1 + 1, 0, none⟩) 5 5, .slice (some ⟨h + 1 + 1 + 1 + 1 + 1 + 1 + 1, 0, none⟩) 1 1], .int .i64 5] W fun e w' => ∃ v z, e = .returned (.tuple #[imgV z v, .int .i64 0]) ∧ Bg_d z ∧ ImgR w' w'.heap.size v z ∧ Below W.heap.size W w' := by
  have := wipe_any (pV h) _ 5 W (p.img 6 rfl rfl rfl) (fun x => set_hw rfl (by decide) x)
  rw [bg_d0.2] at this
  exact this.mono fun e w' ⟨v, h1, h2, h3⟩ => ⟨v, _, h1, bg_d0.1, h2.imgR, h3⟩
def Bg_x (z : Img) : Prop := z.slots.length = 6 ∧ z.root = [5] ∧ (z.slots[5]?).map (·.table) = some [1, 0, -1, 0] ∧ (z.slots[4]?).map (·.kind) = some 0
theorem bg_x0 : Bg_x (resizeI (pImg 6 [2, 4] [0, 2, 2, 1, 1] [3, 0, 0, 0]) 3) ∧ resizeE (pImg 6 [2, 4] [0, 2, 2, 1, 1] [3, 0, 0, 0]) 3 = 0 := by unfold Bg_x; decide +kernel
theorem bg_x (W : World) (h : Nat) (p : PairAt W h [2, 4] [0, 2, 2, 1, 1] [3, 0, 0, 0]) : Calls Tryz.prog 21 #[.agg #[.int .i64 6, .slice (some ⟨h + 1, 0, none⟩) 2 2, .slice (some ⟨h + 1 + 1 + 1 + 1, 0, none⟩) 5 5, .slice (some ⟨h + 1 + 1 + 1 + 1 + 1, 0, none⟩) 5 5, .slice (some ⟨h + 1 + 1 + 1 + 1 + 1 + 1 + 1, 0, none⟩) 1 1], .int .i64 3] W fun e w' => ∃ v z, e = .returned (.tuple #[imgV z v, .int .i64 0]) ∧ Bg_x z ∧ ImgR w' w'.heap.size v z ∧ Below W.heap.size W w' := by
  have := resize_any (pV h) _ 3 W (p.img 6 rfl rfl rfl) (fun x => resize_hw x)
  rw [bg_x0.2] at this
  exact this.mono fun e w' ⟨v, h1, h2, h3⟩ => ⟨v, _, h1, bg_x0.1, h2.imgR, h3⟩
theorem slot_at {W : World} {v : IV} {z : Img} (h : ImgR W W.heap.size v z) {k : Nat} (hk : k < z.slots.length) : ∃ b o s tA tn tc, v.sA = some ⟨b, o, none⟩ ∧ b < W.heap.size ∧ z.slots[k]? = some s ∧ W.cell? ⟨b, o + k * 3, none⟩ = some (.int .i64 s.kind) ∧ W.cell? ⟨b, o + k * 3 + 1, none⟩ = some (.string s.data) ∧ W.cell? ⟨b, o + k * 3 + 2, none⟩ = some (.slice tA tn tc) ∧ Rd W W.heap.size 1 tA tn (ints s.table) := by
  obtain ⟨b, o, s, tA, tn, tc, hA, hb, hx, d0, d1, d2, hsv⟩ := h.slots.at_ (k := k) (by have := h.slen; omega)
  refine ⟨b, o, s, tA, tn, tc, hA, hb, hx, ?_, ?_, ?_, hsv.table⟩
  · exact d0
  · exact d1
  · exact d2
set_option maxRecDepth 100000 in
set_option maxHeartbeats 4000000 in
theorem writesBegun_any (w : World) : Calls Tryz.prog 5 #[] w fun e w' => e = .returned (.bool true) ∧ Below w.heap.size w w' := by
  go_enter Tryz.func5, Tryz.ntmps5
  dsimp only [List.append]
  go_wp2_with fail
  refine (pair_any _).mono ?_
  rintro e wa1 ⟨rfl, hp, hb⟩
  have Sa1 := Lib.hid hb
  have Ka := Lib.hid (bg_a _ _ hp)
  clear hp hb
  go_wp2_with fail
  refine Ka.out.mono ?_
  rintro e wa2 ⟨v, za, rfl, hf, hi, hb⟩
  have Sa2 := Lib.hid (below_next Sa1.out hb)
  have Fa := Lib.hid hf
  have hx := Box.new wa2 za.guest v 26
  have hi2 := hi.next (below1 wa2 (.cells #[.int .i64 za.guest, .slice v.rA v.rn v.rc, .slice v.sA v.sn v.sc, .slice v.fA v.fn v.fc, .slice v.pA v.pn v.pc] 26))
  have Sa3 := Lib.hid (below_next Sa2.out (below1 wa2 (.cells #[.int .i64 za.guest, .slice v.rA v.rn v.rc, .slice v.sA v.sn v.sc, .slice v.fA v.fn v.fc, .slice v.pA v.pn v.pc] 26)))
  have hlt : wa2.heap.size < (wa2.alloc (.cells #[.int .i64 za.guest, .slice v.rA v.rn v.rc, .slice v.sA v.sn v.sc, .slice v.fA v.fn v.fc, .slice v.pA v.pn v.pc] 26)).heap.size := by simp
  obtain ⟨arA, arn, arc, asA, asn, asc, afA, afn, afc, apA, apn, apc⟩ := v
  have Ia := Lib.hid hi2
  have Xa := Lib.hid hx
  have La := Lib.hid hlt
  dsimp only [imgV] at Ia Xa Sa3 La ⊢
  clear hf hi hb hx hi2 hlt Ka Sa1 Sa2
  go_wp2_with fail
  generalize hWa : wa2.alloc (.cells #[.int .i64 za.guest, .slice arA arn arc, .slice asA asn asc, .slice afA afn afc, .slice apA apn apc] 26) = Wa at *
  clear hWa
  refine (pair_any _).mono ?_
  rintro e wb1 ⟨rfl, hp, hb⟩
  have Sb1 := Lib.hid hb
  have Kb := Lib.hid (bg_b _ _ hp)
  clear hp hb
  go_wp2_with fail
  refine Kb.out.mono ?_
  rintro e wb2 ⟨v, zb, rfl, hf, hi, hb⟩
  have Sb2 := Lib.hid (below_next Sb1.out hb)
  have Fb := Lib.hid hf
  have hx := Box.new wb2 zb.guest v 26
  have hi2 := hi.next (below1 wb2 (.cells #[.int .i64 zb.guest, .slice v.rA v.rn v.rc, .slice v.sA v.sn v.sc, .slice v.fA v.fn v.fc, .slice v.pA v.pn v.pc] 26))
  have Sb3 := Lib.hid (below_next Sb2.out (below1 wb2 (.cells #[.int .i64 zb.guest, .slice v.rA v.rn v.rc, .slice v.sA v.sn v.sc, .slice v.fA v.fn v.fc, .slice v.pA v.pn v.pc] 26)))
  have hlt : wb2.heap.size < (wb2.alloc (.cells #[.int .i64 zb.guest, .slice v.rA v.rn v.rc, .slice v.sA v.sn v.sc, .slice v.fA v.fn v.fc, .slice v.pA v.pn v.pc] 26)).heap.size := by simp
  obtain ⟨brA, brn, brc, bsA, bsn, bsc, bfA, bfn, bfc, bpA, bpn, bpc⟩ := v
  have Ib := Lib.hid hi2
  have Xb := Lib.hid hx
  have Lb := Lib.hid hlt
  dsimp only [imgV] at Ib Xb Sb3 Lb ⊢
  clear hf hi hb hx hi2 hlt Kb Sb1 Sb2
  go_wp2_with fail
  generalize hWb : wb2.alloc (.cells #[.int .i64 zb.guest, .slice brA brn brc, .slice bsA bsn bsc, .slice bfA bfn bfc, .slice bpA bpn bpc] 26) = Wb at *
  clear hWb
  refine (pair_any _).mono ?_
  rintro e wc1 ⟨rfl, hp, hb⟩
  have Sc1 := Lib.hid hb
  have Kc := Lib.hid (bg_c _ _ hp)
  clear hp hb
  go_wp2_with fail
  refine Kc.out.mono ?_
  rintro e wc2 ⟨v, zc, rfl, hf, hi, hb⟩
  have Sc2 := Lib.hid (below_next Sc1.out hb)
  have Fc := Lib.hid hf
  have hx := Box.new wc2 zc.guest v 26
  have hi2 := hi.next (below1 wc2 (.cells #[.int .i64 zc.guest, .slice v.rA v.rn v.rc, .slice v.sA v.sn v.sc, .slice v.fA v.fn v.fc, .slice v.pA v.pn v.pc] 26))
  have Sc3 := Lib.hid (below_next Sc2.out (below1 wc2 (.cells #[.int .i64 zc.guest, .slice v.rA v.rn v.rc, .slice v.sA v.sn v.sc, .slice v.fA v.fn v.fc, .slice v.pA v.pn v.pc] 26)))
  have hlt : wc2.heap.size < (wc2.alloc (.cells #[.int .i64 zc.guest, .slice v.rA v.rn v.rc, .slice v.sA v.sn v.sc, .slice v.fA v.fn v.fc, .slice v.pA v.pn v.pc] 26)).heap.size := by simp
  obtain ⟨crA, crn, crc, csA, csn, csc, cfA, cfn, cfc, cpA, cpn, cpc⟩ := v
  have Ic := Lib.hid hi2
  have Xc := Lib.hid hx
  have Lc := Lib.hid hlt
  dsimp only [imgV] at Ic Xc Sc3 Lc ⊢
  clear hf hi hb hx hi2 hlt Kc Sc1 Sc2
  go_wp2_with fail
  generalize hWc : wc2.alloc (.cells #[.int .i64 zc.guest, .slice crA crn crc, .slice csA csn csc, .slice cfA cfn cfc, .slice cpA cpn cpc] 26) = Wc at *
  clear hWc
  refine (pair_any _).mono ?_
  rintro e wd1 ⟨rfl, hp, hb⟩
  have Sd1 := Lib.hid hb
  have Kd := Lib.hid (bg_d _ _ hp)
  clear hp hb
  go_wp2_with fail
  refine Kd.out.mono ?_
  rintro e wd2 ⟨v, zd, rfl, hf, hi, hb⟩
  have Sd2 := Lib.hid (below_next Sd1.out hb)
  have Fd := Lib.hid hf
  have hx := Box.new wd2 zd.guest v 26
  have hi2 := hi.next (below1 wd2 (.cells #[.int .i64 zd.guest, .slice v.rA v.rn v.rc, .slice v.sA v.sn v.sc, .slice v.fA v.fn v.fc, .slice v.pA v.pn v.pc] 26))
  have Sd3 := Lib.hid (below_next Sd2.out (below1 wd2 (.cells #[.int .i64 zd.guest, .slice v.rA v.rn v.rc, .slice v.sA v.sn v.sc, .slice v.fA v.fn v.fc, .slice v.pA v.pn v.pc] 26)))
  have hlt : wd2.heap.size < (wd2.alloc (.cells #[.int .i64 zd.guest, .slice v.rA v.rn v.rc, .slice v.sA v.sn v.sc, .slice v.fA v.fn v.fc, .slice v.pA v.pn v.pc] 26)).heap.size := by simp
  obtain ⟨drA, drn, drc, dsA, dsn, dsc, dfA, dfn, dfc, dpA, dpn, dpc⟩ := v
  have Id := Lib.hid hi2
  have Xd := Lib.hid hx
  have Ld := Lib.hid hlt
  dsimp only [imgV] at Id Xd Sd3 Ld ⊢
  clear hf hi hb hx hi2 hlt Kd Sd1 Sd2
  go_wp2_with fail
  generalize hWd : wd2.alloc (.cells #[.int .i64 zd.guest, .slice drA drn drc, .slice dsA dsn dsc, .slice dfA dfn dfc, .slice dpA dpn dpc] 26) = Wd at *
  clear hWd
  refine (pair_any _).mono ?_
  rintro e wx1 ⟨rfl, hp, hb⟩
  have Sx1 := Lib.hid hb
  have Kx := Lib.hid (bg_x _ _ hp)
  clear hp hb
  go_wp2_with fail
  refine Kx.out.mono ?_
  rintro e wx2 ⟨v, zx, rfl, hf, hi, hb⟩
  have Sx2 := Lib.hid (below_next Sx1.out hb)
  have Fx := Lib.hid hf
  have hx := Box.new wx2 zx.guest v 26
  have hi2 := hi.next (below1 wx2 (.cells #[.int .i64 zx.guest, .slice v.rA v.rn v.rc, .slice v.sA v.sn v.sc, .slice v.fA v.fn v.fc, .slice v.pA v.pn v.pc] 26))
  have Sx3 := Lib.hid (below_next Sx2.out (below1 wx2 (.cells #[.int .i64 zx.guest, .slice v.rA v.rn v.rc, .slice v.sA v.sn v.sc, .slice v.fA v.fn v.fc, .slice v.pA v.pn v.pc] 26)))
  have hlt : wx2.heap.size < (wx2.alloc (.cells #[.int .i64 zx.guest, .slice v.rA v.rn v.rc, .slice v.sA v.sn v.sc, .slice v.fA v.fn v.fc, .slice v.pA v.pn v.pc] 26)).heap.size := by simp
  obtain ⟨xrA, xrn, xrc, xsA, xsn, xsc, xfA, xfn, xfc, xpA, xpn, xpc⟩ := v
  have Ix := Lib.hid hi2
  have Xx := Lib.hid hx
  have Lx := Lib.hid hlt
  dsimp only [imgV] at Ix Xx Sx3 Lx ⊢
  clear hf hi hb hx hi2 hlt Kx Sx1 Sx2
  have Dd := Sx3.out
  have Dc := below_next Sd3.out Dd
  have Db := below_next Sc3.out Dc
  have Da := below_next Sb3.out Db
  have HT := Lib.hid (below_next Sa3.out Da)
  have Xx' := Xx.out
  have Ix' := Ix.out
  have Xa' := Xa.out.keep Da La.out
  have Ia' := Ia.out.next Da
  have Xb' := Xb.out.keep Db Lb.out
  have Ib' := Ib.out.next Db
  have Xc' := Xc.out.keep Dc Lc.out
  have Ic' := Ic.out.next Dc
  have Xd' := Xd.out.keep Dd Ld.out
  have Id' := Id.out.next Dd
  have Lx' := Lx.out
  have La' : wa2.heap.size < _ := Nat.lt_of_lt_of_le La.out Da.size
  have Lb' : wb2.heap.size < _ := Nat.lt_of_lt_of_le Lb.out Db.size
  have Lc' : wc2.heap.size < _ := Nat.lt_of_lt_of_le Lc.out Dc.size
  have Ld' : wd2.heap.size < _ := Nat.lt_of_lt_of_le Ld.out Dd.size
  clear Dd Dc Db Da Sa3 Sb3 Sc3 Sd3 Sx3 Xa Xb Xc Xd Xx Ia Ib Ic Id Ix La Lb Lc Ld Lx
  obtain ⟨fa0, fa1⟩ := Fa.out
  obtain ⟨fb0, fb1, fb2, fb3⟩ := Fb.out
  obtain ⟨fc0, fc1, fc2⟩ := Fc.out
  obtain ⟨fd0, fd1⟩ := Fd.out
  obtain ⟨fx0, fx1, fx2, fx3⟩ := Fx.out
  obtain ⟨ab3, ao3, sa3, atA3, atn3, atc3, hAa3, la3, hsa3, d0a3, d1a3, d2a3, ra3⟩ := slot_at Ia' (k := 3) (by omega)
  rw [hsa3, Option.map_some] at fa1
  injection fa1 with fa1
  rw [fa1] at d1a3
  obtain ⟨bb5, bo5, sb5, btA5, btn5, btc5, hAb5, lb5, hsb5, d0b5, d1b5, d2b5, rb5⟩ := slot_at Ib' (k := 5) (by omega)
  rw [hsb5, Option.map_some] at fb2
  injection fb2 with fb2
  rw [fb2] at rb5
  have eb5 : btn5 = 4 := by have := rb5.1; simp [ints] at this; omega
  subst eb5
  obtain ⟨cb3, co3, sc3, ctA3, ctn3, ctc3, hAc3, lc3, hsc3, d0c3, d1c3, d2c3, rc3⟩ := slot_at Ic' (k := 3) (by omega)
  rw [hsc3, Option.map_some] at fc2
  injection fc2 with fc2
  rw [fc2] at d0c3
  obtain ⟨db4, do4, sd4, dtA4, dtn4, dtc4, hAd4, ld4, hsd4, d0d4, d1d4, d2d4, rd4⟩ := slot_at Id' (k := 4) (by omega)
  rw [hsd4, Option.map_some] at fd1
  injection fd1 with fd1
  rw [fd1] at rd4
  have ed4 : dtn4 = 4 := by have := rd4.1; simp [ints] at this; omega
  subst ed4
  obtain ⟨xb5, xo5, sx5, xtA5, xtn5, xtc5, hAx5, lx5, hsx5, d0x5, d1x5, d2x5, rx5⟩ := slot_at Ix' (k := 5) (by omega)
  rw [hsx5, Option.map_some] at fx2
  injection fx2 with fx2
  rw [fx2] at rx5
  have ex5 : xtn5 = 4 := by have := rx5.1; simp [ints] at this; omega
  subst ex5
  obtain ⟨xb4, xo4, sx4, xtA4, xtn4, xtc4, hAx4, lx4, hsx4, d0x4, d1x4, d2x4, rx4⟩ := slot_at Ix' (k := 4) (by omega)
  rw [hsx4, Option.map_some] at fx3
  injection fx3 with fx3
  rw [fx3] at d0x4
  have hna : asn = 5 := by have := Ia'.slen; dsimp only at this; omega
  dsimp only at hAa3
  subst hna hAa3
  have hnb : bsn = 7 := by have := Ib'.slen; dsimp only at this; omega
  dsimp only at hAb5
  subst hnb hAb5
  have hnc : csn = 5 := by have := Ic'.slen; dsimp only at this; omega
  dsimp only at hAc3
  subst hnc hAc3
  have hnd : dsn = 5 := by have := Id'.slen; dsimp only at this; omega
  dsimp only at hAd4
  subst hnd hAd4
  have hnx : xsn = 6 := by have := Ix'.slen; dsimp only at this; omega
  dsimp only at hAx5
  subst hnx hAx5
  dsimp only at hAx4
  injection hAx4 with hAx4
  injection hAx4 with ex1 ex2
  subst ex1 ex2
  have Rbr := Ib'.root
  rw [fb1] at Rbr
  dsimp only at Rbr
  have hmbr : brn = 2 := by have := Rbr.1; simp [ints] at this; omega
  subst hmbr
  have Rbf := Ib'.refs
  rw [fb3] at Rbf
  dsimp only at Rbf
  have hmbf : bfn = 7 := by have := Rbf.1; simp [ints] at this; omega
  subst hmbf
  have Rcr := Ic'.root
  rw [fc1] at Rcr
  dsimp only at Rcr
  have hmcr : crn = 2 := by have := Rcr.1; simp [ints] at this; omega
  subst hmcr
  have Rxr := Ix'.root
  rw [fx1] at Rxr
  dsimp only at Rxr
  have hmxr : xrn = 1 := by have := Rxr.1; simp [ints] at this; omega
  subst hmxr
  have MV := Lib.hid (fun (W' : World) (hb : Below (wx2.alloc (.cells #[.int .i64 zx.guest, .slice xrA 1 xrc, .slice (some ⟨xb5, xo5, none⟩) 6 xsc, .slice xfA xfn xfc, .slice xpA xpn xpc] 26)).heap.size (wx2.alloc (.cells #[.int .i64 zx.guest, .slice xrA 1 xrc, .slice (some ⟨xb5, xo5, none⟩) 6 xsc, .slice xfA xfn xfc, .slice xpA xpn xpc] 26)) W') => (show W'.cell? ⟨wa2.heap.size, 2, none⟩ = some (.slice (some ⟨ab3, ao3, none⟩) 5 asc) ∧ W'.cell? ⟨ab3, ao3 + 3 * 3 + 1, none⟩ = some (.string { data := #[99, 99, 99, 99] }) ∧ W'.cell? ⟨wb2.heap.size, 1, none⟩ = some (.slice brA 2 brc) ∧ W'.cell? ⟨wb2.heap.size, 2, none⟩ = some (.slice (some ⟨bb5, bo5, none⟩) 7 bsc) ∧ W'.cell? ⟨wb2.heap.size, 3, none⟩ = some (.slice bfA 7 bfc) ∧ W'.cell? ⟨bb5, bo5 + 5 * 3 + 2, none⟩ = some (.slice btA5 4 btc5) ∧ W'.cell? ⟨wc2.heap.size, 1, none⟩ = some (.slice crA 2 crc) ∧ W'.cell? ⟨wc2.heap.size, 2, none⟩ = some (.slice (some ⟨cb3, co3, none⟩) 5 csc) ∧ W'.cell? ⟨cb3, co3 + 3 * 3, none⟩ = some (.int .i64 0) ∧ W'.cell? ⟨wd2.heap.size, 2, none⟩ = some (.slice (some ⟨db4, do4, none⟩) 5 dsc) ∧ W'.cell? ⟨db4, do4 + 4 * 3 + 2, none⟩ = some (.slice dtA4 4 dtc4) ∧ W'.cell? ⟨wx2.heap.size, 1, none⟩ = some (.slice xrA 1 xrc) ∧ W'.cell? ⟨wx2.heap.size, 2, none⟩ = some (.slice (some ⟨xb5, xo5, none⟩) 6 xsc) ∧ W'.cell? ⟨xb5, xo5 + 5 * 3 + 2, none⟩ = some (.slice xtA5 4 xtc5) ∧ W'.cell? ⟨xb5, xo5 + 4 * 3, none⟩ = some (.int .i64 0) from ⟨(hb.cell (p := ⟨wa2.heap.size, 2, none⟩) La').trans Xa'.2.2.1, (hb.cell (p := ⟨ab3, ao3 + 3 * 3 + 1, none⟩) la3).trans d1a3, (hb.cell (p := ⟨wb2.heap.size, 1, none⟩) Lb').trans Xb'.2.1, (hb.cell (p := ⟨wb2.heap.size, 2, none⟩) Lb').trans Xb'.2.2.1, (hb.cell (p := ⟨wb2.heap.size, 3, none⟩) Lb').trans Xb'.2.2.2.1, (hb.cell (p := ⟨bb5, bo5 + 5 * 3 + 2, none⟩) lb5).trans d2b5, (hb.cell (p := ⟨wc2.heap.size, 1, none⟩) Lc').trans Xc'.2.1, (hb.cell (p := ⟨wc2.heap.size, 2, none⟩) Lc').trans Xc'.2.2.1, (hb.cell (p := ⟨cb3, co3 + 3 * 3, none⟩) lc3).trans d0c3, (hb.cell (p := ⟨wd2.heap.size, 2, none⟩) Ld').trans Xd'.2.2.1, (hb.cell (p := ⟨db4, do4 + 4 * 3 + 2, none⟩) ld4).trans d2d4, (hb.cell (p := ⟨wx2.heap.size, 1, none⟩) Lx').trans Xx'.2.1, (hb.cell (p := ⟨wx2.heap.size, 2, none⟩) Lx').trans Xx'.2.2.1, (hb.cell (p := ⟨xb5, xo5 + 5 * 3 + 2, none⟩) lx5).trans d2x5, (hb.cell (p := ⟨xb5, xo5 + 4 * 3, none⟩) lx5).trans d0x4⟩))
  have HR := Lib.hid (And.intro Rbr (And.intro rb5 (And.intro Rbf (And.intro Rcr (And.intro rd4 (And.intro Rxr rx5))))))
  obtain ⟨k1, k2, k3, k4, k5, k6, k7, k8, k9, k10, k11, k12, k13, k14, k15⟩ := MV.out _ (Below.refl _ _)
  clear Xa' Xb' Xc' Xd' Xx' Ia' Ib' Ic' Id' Ix' La' Lb' Lc' Ld' Lx' d0a3 d1a3 d2a3 ra3 d0b5 d1b5 d2b5 rb5 d0c3 d1c3 d2c3 rc3 d0d4 d1d4 d2d4 rd4 d0x5 d1x5 d2x5 rx5 d0x4 d1x4 d2x4 rx4 Rbr Rbf Rcr Rxr fa0 fa1 fb0 fb1 fb2 fb3 fc0 fc1 fc2 fd0 fd1 fx0 fx1 fx2 fx3 Fa Fb Fc Fd Fx hsa3 hsb5 hsc3 hsd4 hsx5 hsx4
  have S0' := (fun (T : TypeId) => sameInts_any brA (some ⟨(wx2.alloc (.cells #[.int .i64 zx.guest, .slice xrA 1 xrc, .slice (some ⟨xb5, xo5, none⟩) 6 xsc, .slice xfA xfn xfc, .slice xpA xpn xpc] 26)).heap.size, 0, none⟩) 2 2 brc 2 [5, 4] [5, 4] ((wx2.alloc (.cells #[.int .i64 zx.guest, .slice xrA 1 xrc, .slice (some ⟨xb5, xo5, none⟩) 6 xsc, .slice xfA xfn xfc, .slice xpA xpn xpc] 26)).alloc (.cells #[.int .i64 5, .int .i64 4] T)) ((Rd.next HR.out.1 (Below.refl _ _)).next (below1 _ _)) (Rd.of_block (heap_alloc_new (wx2.alloc (.cells #[.int .i64 zx.guest, .slice xrA 1 xrc, .slice (some ⟨xb5, xo5, none⟩) 6 xsc, .slice xfA xfn xfc, .slice xpA xpn xpc] 26)) _) (by simp) rfl rfl) (by omega) (by omega))
  simp only [World.size_alloc] at S0'
  have S0 := Lib.hid S0'
  clear S0'
  go_wp2_with fail
  refine (S0.out _).mono ?_
  rintro e u0 ⟨rfl, hb⟩
  have D0 := Lib.hid ((below1 (wx2.alloc (.cells #[.int .i64 zx.guest, .slice xrA 1 xrc, .slice (some ⟨xb5, xo5, none⟩) 6 xsc, .slice xfA xfn xfc, .slice xpA xpn xpc] 26)) _).trans (hb.mono (by simp)))
  clear hb S0 k1 k2 k3 k4 k5 k6 k7 k8 k9 k10 k11 k12 k13 k14 k15
  obtain ⟨k1, k2, k3, k4, k5, k6, k7, k8, k9, k10, k11, k12, k13, k14, k15⟩ := MV.out _ D0.out
  have S1' := (fun (T : TypeId) => sameInts_any btA5 (some ⟨u0.heap.size, 0, none⟩) 4 4 btc5 4 [6, 0, -1, 1] [6, 0, -1, 1] (u0.alloc (.cells #[.int .i64 6, .int .i64 0, .int .i64 (-1), .int .i64 1] T)) ((Rd.next HR.out.2.1 D0.out).next (below1 _ _)) (Rd.of_block (heap_alloc_new u0 _) (by simp) rfl rfl) (by omega) (by omega))
  have S1 := Lib.hid S1'
  clear S1'
  go_wp2_with fail
  refine (S1.out _).mono ?_
  rintro e u1 ⟨rfl, hb⟩
  have D1 := Lib.hid (below_next D0.out ((below1 u0 _).trans (hb.mono (by simp))))
  clear hb S1 k1 k2 k3 k4 k5 k6 k7 k8 k9 k10 k11 k12 k13 k14 k15
  obtain ⟨k1, k2, k3, k4, k5, k6, k7, k8, k9, k10, k11, k12, k13, k14, k15⟩ := MV.out _ D1.out
  have S2' := (fun (T : TypeId) => sameInts_any bfA (some ⟨u1.heap.size, 0, none⟩) 7 7 bfc 7 [0, 3, 1, 1, 1, 1, 1] [0, 3, 1, 1, 1, 1, 1] (u1.alloc (.cells #[.int .i64 0, .int .i64 3, .int .i64 1, .int .i64 1, .int .i64 1, .int .i64 1, .int .i64 1] T)) ((Rd.next HR.out.2.2.1 D1.out).next (below1 _ _)) (Rd.of_block (heap_alloc_new u1 _) (by simp) rfl rfl) (by omega) (by omega))
  have S2 := Lib.hid S2'
  clear S2'
  go_wp2_with fail
  refine (S2.out _).mono ?_
  rintro e u2 ⟨rfl, hb⟩
  have D2 := Lib.hid (below_next D1.out ((below1 u1 _).trans (hb.mono (by simp))))
  clear hb S2 k1 k2 k3 k4 k5 k6 k7 k8 k9 k10 k11 k12 k13 k14 k15
  obtain ⟨k1, k2, k3, k4, k5, k6, k7, k8, k9, k10, k11, k12, k13, k14, k15⟩ := MV.out _ D2.out
  have S3' := (fun (T : TypeId) => sameInts_any crA (some ⟨u2.heap.size, 0, none⟩) 2 2 crc 2 [2, 0] [2, 0] (u2.alloc (.cells #[.int .i64 2, .int .i64 0] T)) ((Rd.next HR.out.2.2.2.1 D2.out).next (below1 _ _)) (Rd.of_block (heap_alloc_new u2 _) (by simp) rfl rfl) (by omega) (by omega))
  have S3 := Lib.hid S3'
  clear S3'
  go_wp2_with fail
  refine (S3.out _).mono ?_
  rintro e u3 ⟨rfl, hb⟩
  have D3 := Lib.hid (below_next D2.out ((below1 u2 _).trans (hb.mono (by simp))))
  clear hb S3 k1 k2 k3 k4 k5 k6 k7 k8 k9 k10 k11 k12 k13 k14 k15
  obtain ⟨k1, k2, k3, k4, k5, k6, k7, k8, k9, k10, k11, k12, k13, k14, k15⟩ := MV.out _ D3.out
  have S4' := (fun (T : TypeId) => sameInts_any dtA4 (some ⟨u3.heap.size, 0, none⟩) 4 4 dtc4 4 [3, -1, 0, 0] [3, -1, 0, 0] (u3.alloc (.cells #[.int .i64 3, .int .i64 (-1), .int .i64 0, .int .i64 0] T)) ((Rd.next HR.out.2.2.2.2.1 D3.out).next (below1 _ _)) (Rd.of_block (heap_alloc_new u3 _) (by simp) rfl rfl) (by omega) (by omega))
  have S4 := Lib.hid S4'
  clear S4'
  go_wp2_with fail
  refine (S4.out _).mono ?_
  rintro e u4 ⟨rfl, hb⟩
  have D4 := Lib.hid (below_next D3.out ((below1 u3 _).trans (hb.mono (by simp))))
  clear hb S4 k1 k2 k3 k4 k5 k6 k7 k8 k9 k10 k11 k12 k13 k14 k15
  obtain ⟨k1, k2, k3, k4, k5, k6, k7, k8, k9, k10, k11, k12, k13, k14, k15⟩ := MV.out _ D4.out
  have S5' := (fun (T : TypeId) => sameInts_any xrA (some ⟨u4.heap.size, 0, none⟩) 1 1 xrc 1 [5] [5] (u4.alloc (.cells #[.int .i64 5] T)) ((Rd.next HR.out.2.2.2.2.2.1 D4.out).next (below1 _ _)) (Rd.of_block (heap_alloc_new u4 _) (by simp) rfl rfl) (by omega) (by omega))
  have S5 := Lib.hid S5'
  clear S5'
  go_wp2_with fail
  refine (S5.out _).mono ?_
  rintro e u5 ⟨rfl, hb⟩
  have D5 := Lib.hid (below_next D4.out ((below1 u4 _).trans (hb.mono (by simp))))
  clear hb S5 k1 k2 k3 k4 k5 k6 k7 k8 k9 k10 k11 k12 k13 k14 k15
  obtain ⟨k1, k2, k3, k4, k5, k6, k7, k8, k9, k10, k11, k12, k13, k14, k15⟩ := MV.out _ D5.out
  have S6' := (fun (T : TypeId) => sameInts_any xtA5 (some ⟨u5.heap.size, 0, none⟩) 4 4 xtc5 4 [1, 0, -1, 0] [1, 0, -1, 0] (u5.alloc (.cells #[.int .i64 1, .int .i64 0, .int .i64 (-1), .int .i64 0] T)) ((Rd.next HR.out.2.2.2.2.2.2 D5.out).next (below1 _ _)) (Rd.of_block (heap_alloc_new u5 _) (by simp) rfl rfl) (by omega) (by omega))
  have S6 := Lib.hid S6'
  clear S6'
  go_wp2_with fail
  refine (S6.out _).mono ?_
  rintro e u6 ⟨rfl, hb⟩
  have D6 := Lib.hid (below_next D5.out ((below1 u5 _).trans (hb.mono (by simp))))
  clear hb S6 k1 k2 k3 k4 k5 k6 k7 k8 k9 k10 k11 k12 k13 k14 k15
  obtain ⟨k1, k2, k3, k4, k5, k6, k7, k8, k9, k10, k11, k12, k13, k14, k15⟩ := MV.out _ D6.out
  go_wp2_with fail
  go_ret
  exact ⟨rfl, below_next HT.out D6.out⟩
end Go.Proofs.YtfilnnjanhjbeaaGreat
namespace Go.Proofs.YtfilnnjanhjbeaaGreat
open Sl
structure WOk (m y : Img) (n : Nat) (pg : ByteArray) : Prop where
  right : checkErr y = 0
  guest : y.guest = m.guest
  snaps : y.snaps = m.snaps
  new : pageAt y y.root n = pg
  else_ : ∀ i, i ≠ n → pageAt y y.root i = pageAt m m.root i
  past : ∀ s ∈ m.snaps, ∀ i, pageAt y s.root i = pageAt m s.root i
theorem WEff.ok {m x : Img} {n : Nat} {pg : ByteArray} (h : WEff m x n pg) : WOk m (settled x) n pg := by
  have hr : (settled x).root = x.root := rfl
  refine ⟨settled_right h.sound, h.guest, h.snaps, ?_, fun i hi => ?_, fun s hs i => ?_⟩
  · rw [hr, settled_pages h.sound (mem_root x)]; exact h.new
  · rw [hr, settled_pages h.sound (mem_root x)]; exact h.else_ i hi
  · rw [settled_pages h.sound (mem_snap (by rw [h.snaps]; exact hs))]; exact h.past s hs i
end Go.Proofs.YtfilnnjanhjbeaaGreat
