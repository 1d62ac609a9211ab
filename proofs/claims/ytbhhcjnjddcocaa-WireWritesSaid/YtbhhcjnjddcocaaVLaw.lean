/- The laws WireWrites, WireBack. Conditions: the image is read below the heap's size. -/
import Derived.Test.YtbhhcjnjddcocaaVRead
import Derived.Test.YtbhhcjnjddcocaaVWrite
import Derived.Test.YtbhhcjnjddcocaaVFrom
import Derived.Test.YtbhhcjnjddcocaaSameImg
import Derived.Test.YtbhhcjnjddcocaaTreeBegun
namespace Go.Proofs.Ytbhhcjnjddcocaa
open Go.RowKit Sl
def wbP : Img := pImg 6 [2, 4] [0, 2, 2, 1, 1] [3, 0, 0, 0]
theorem wb_facts : checkErr wbP = 0 ∧ (imgB wbP).length = 32 ∧ (readW (imgB wbP ++ [120])).isNone = true := by decide +kernel
theorem rd_back {m : Img} (h : checkErr m = 0) : rdI (wrS m) = m ∧ rdE (wrS m) = 0 := by
  have hs : (wrS m).size ≤ 4096 := by unfold wrS; rw [if_pos h, ofL_size]; have := imgB_small h; omega
  have ht : toL (wrS m) = imgB m := by unfold wrS; rw [if_pos h, toL_ofL]
  unfold rdI rdE
  rw [if_pos hs, if_pos hs, ht, read_back h]
  exact ⟨rfl, rfl⟩
theorem wb_more : rdE (wrS wbP ++ { data := #[120] }) = 1 ∧ (wrS wbP).size = 32 := by
  have e : wrS wbP = ofL (imgB wbP) := by unfold wrS; rw [if_pos wb_facts.1]
  have h1 : toL (ofL (imgB wbP) ++ { data := #[120] }) = imgB wbP ++ [120] := by simp [toL, ofL]
  have h2 : (ofL (imgB wbP) ++ { data := #[120] }).size ≤ 4096 := by rw [← toL_len, h1, List.length_append, wb_facts.2.1]; decide
  rw [e]
  refine ⟨?_, by rw [ofL_size]; exact wb_facts.2.1⟩
  unfold rdE
  rw [if_pos h2, h1]
  have := wb_facts.2.2
  cases hr : readW (imgB wbP ++ [120]) with
  | none => rfl
  | some x => rw [hr] at this; cases this
set_option maxRecDepth 100000 in
set_option maxHeartbeats 4000000 in
theorem wireBegun_any (w : World) : Calls Try.prog 9 #[] w fun e w' => e = .returned (.bool true) ∧ Below w.heap.size w w' := by
  have KW' := fun h W (p : PairAt W h [2, 4] [0, 2, 2, 1, 1] [3, 0, 0, 0]) => wwrite_any (pV h) wbP W (p.img 6 rfl rfl rfl)
  rw [wb_facts.1] at KW'
  have KR' := fun W => read_any (wrS wbP) W
  rw [(rd_back wb_facts.1).1, (rd_back wb_facts.1).2] at KR'
  have KX' := fun W => read_any (wrS wbP ++ { data := #[120] }) W
  rw [wb_more.1] at KX'
  have KS' := fun v h W (hi : ImgR W W.heap.size v wbP) (p : PairAt W h [2, 4] [0, 2, 2, 1, 1] [3, 0, 0, 0]) => sameImg_any v (pV h) wbP W hi (p.img 6 rfl rfl rfl)
  have ht := wb_more.2
  generalize rdI (wrS wbP ++ { data := #[120] }) = zx at *
  generalize wrS wbP = t at *
  have KW := Lib.hid KW'
  have KR := Lib.hid KR'
  have KX := Lib.hid KX'
  have KS := Lib.hid KS'
  clear KW' KR' KX' KS'
  go_enter Try.func9, Try.ntmps9
  go_wp2_with fail
  refine (pair_any _).mono ?_
  rintro e w1 ⟨rfl, hp, hb⟩
  have T1 := Lib.hid hb
  have K1 := Lib.hid (KW.out _ _ hp)
  clear hp hb
  go_wp2_with fail
  refine K1.out.mono ?_
  rintro e w2 ⟨rfl, hb⟩
  have T2 := Lib.hid (below_next T1.out hb)
  clear hb K1 T1
  go_wp2_with fail
  refine (KR.out _).mono ?_
  rintro e w3 ⟨v, rfl, hi, hb⟩
  have T3 := Lib.hid (below_next T2.out hb)
  have X4' := Box.new w3 wbP.guest v 26
  have b4 := below1 w3 (.cells #[.int .i64 wbP.guest, .slice v.rA v.rn v.rc, .slice v.sA v.sn v.sc, .slice v.fA v.fn v.fc, .slice v.pA v.pn v.pc] 26)
  have I4' := hi.next b4
  have L4' : w3.heap.size < (w3.alloc (.cells #[.int .i64 wbP.guest, .slice v.rA v.rn v.rc, .slice v.sA v.sn v.sc, .slice v.fA v.fn v.fc, .slice v.pA v.pn v.pc] 26)).heap.size := by simp
  have T4' := below_next T3.out b4
  obtain ⟨xrA, xrn, xrc, xsA, xsn, xsc, xfA, xfn, xfc, xpA, xpn, xpc⟩ := v
  dsimp only [imgV] at X4' I4' L4' T4' ⊢
  have X4 := Lib.hid X4'
  have I4 := Lib.hid I4'
  have L4 := Lib.hid L4'
  have T4 := Lib.hid T4'
  clear hi hb X4' I4' L4' T4' b4 T3 T2 KR
  go_wp2_with fail
  generalize w3.alloc (.cells #[.int .i64 wbP.guest, .slice xrA xrn xrc, .slice xsA xsn xsc, .slice xfA xfn xfc, .slice xpA xpn xpc] 26) = w4 at *
  refine (KX.out _).mono ?_
  rintro e w5 ⟨v, rfl, hi, hb⟩
  have b6 := below1 w5 (.cells #[.int .i64 zx.guest, .slice v.rA v.rn v.rc, .slice v.sA v.sn v.sc, .slice v.fA v.fn v.fc, .slice v.pA v.pn v.pc] 26)
  have B6 := below_next hb b6
  have X6 := Lib.hid (X4.out.keep B6 L4.out)
  have I6 := Lib.hid (I4.out.next B6)
  have L6 := Lib.hid (Nat.lt_of_lt_of_le L4.out B6.size)
  have T6 := Lib.hid (below_next T4.out B6)
  obtain ⟨yrA, yrn, yrc, ysA, ysn, ysc, yfA, yfn, yfc, ypA, ypn, ypc⟩ := v
  dsimp only [imgV] at X6 I6 L6 T6 ⊢
  clear hi hb b6 B6 X4 I4 L4 T4 KX
  go_upto_region 4 with fail
  generalize w5.alloc (.cells #[.int .i64 zx.guest, .slice yrA yrn yrc, .slice ysA ysn ysc, .slice yfA yfn yfc, .slice ypA ypn ypc] 26) = w6 at *
  have LX := L6.out
  obtain ⟨x0, x1, x2, x3, x4⟩ := X6.out
  dsimp only at x0 x1 x2 x3 x4
  have hS0 : w6.cell? ⟨w3.heap.size, 0, none⟩ = some (.int .i64 wbP.guest) ∧ w6.cell? ⟨w3.heap.size, 1, none⟩ = some (.slice xrA xrn xrc) ∧ w6.cell? ⟨w3.heap.size, 2, none⟩ = some (.slice xsA xsn xsc) ∧ w6.cell? ⟨w3.heap.size, 3, none⟩ = some (.slice xfA xfn xfc) ∧ w6.cell? ⟨w3.heap.size, 4, none⟩ = some (.slice xpA xpn xpc) ∧ Below w6.heap.size w6 w6 := ⟨x0, x1, x2, x3, x4, Below.refl _ _⟩
  have hB0 := (Below.refl w6.heap.size w6).drew
  have KS2 := fun h W (hb : Below w6.heap.size w6 W) p => KS.out ⟨xrA, xrn, xrc, xsA, xsn, xsc, xfA, xfn, xfc, xpA, xpn, xpc⟩ h W (I6.out.next hb) p
  dsimp only [imgV, pV] at KS2
  have KS3 := Lib.hid KS2
  clear KS KS2 x0 x1 x2 x3 x4 X6
  go_region_held3 (fun w' => w'.cell? ⟨w3.heap.size, 0, none⟩ = some (.int .i64 wbP.guest) ∧ w'.cell? ⟨w3.heap.size, 1, none⟩ = some (.slice xrA xrn xrc) ∧ w'.cell? ⟨w3.heap.size, 2, none⟩ = some (.slice xsA xsn xsc) ∧ w'.cell? ⟨w3.heap.size, 3, none⟩ = some (.slice xfA xfn xfc) ∧ w'.cell? ⟨w3.heap.size, 4, none⟩ = some (.slice xpA xpn xpc) ∧ Below w6.heap.size w6 w')
    (first | (with_reducible assumption) | ((repeat (first | (with_reducible apply img_keepN LX hb8) | (with_reducible apply img_keepN LX hb7) | (with_reducible apply img_keepD))); with_reducible assumption))
    (first
      | (go_at_call 24; refine (pair_any _).mono ?_; rintro e w7 ⟨rfl, hp7, hb7⟩)
      | (go_at_call 10; refine (KS3.out _ _ (hB0.trans (hb7.mono hB0.size)) hp7).mono ?_; rintro e w8 ⟨rfl, hb8⟩))
  all_goals
    go_wp2_with fail
    go_ret
    exact ⟨rfl, below_next (below_next T6.out (hB0.trans (hb7.mono hB0.size))) hb8⟩
-- the laws (printed by gen_vlaw.py)
theorem rd_fm {s : ByteArray} (h : s.size ≤ 4096) : fmI s = rdI s ∧ ((fmB s = true ∧ rdE s = 0) ∨ (fmB s = false ∧ rdE s = 1)) := by
  have e := read_from (toL s)
  unfold fmI fmB rdI rdE
  rw [if_pos h, if_pos h, ← e]
  refine ⟨rfl, ?_⟩
  cases readW (toL s) with
  | none => exact .inr ⟨rfl, rfl⟩
  | some x => exact .inl ⟨rfl, rfl⟩
theorem rd_far {s : ByteArray} (h : 4096 < s.size) : rdI s = noImg ∧ rdE s = 2 := by
  unfold rdI rdE
  rw [if_neg (by omega), if_neg (by omega)]
  exact ⟨rfl, rfl⟩
theorem wr_no {m : Img} (h : checkErr m ≠ 0) : wrS m = { data := #[] } := by unfold wrS; rw [if_neg h]; rfl
theorem rd_right {s : ByteArray} (h : rdE s = 0) : checkErr (rdI s) = 0 ∧ wrS (rdI s) = s := by
  unfold rdE at h
  split at h
  · rename_i hs
    cases hr : readW (toL s) with
    | none => rw [hr] at h; cases h
    | some x =>
      have e : rdI s = x := by unfold rdI; rw [if_pos hs, hr]; rfl
      have hx := read_is hr
      rw [e]
      refine ⟨hx.1, ?_⟩
      unfold wrS
      rw [if_pos hx.1, hx.2, ofL_toL]
  · cases h
set_option maxRecDepth 100000 in
set_option maxHeartbeats 4000000 in
theorem law_wireWrites (v : IV) (m : Img) (s : ByteArray) (w : World) (h : ImgR w w.heap.size v m) :
    Calls Try.prog 3 #[.agg #[.int .i64 m.guest, .slice v.rA v.rn v.rc, .slice v.sA v.sn v.sc, .slice v.fA v.fn v.fc, .slice v.pA v.pn v.pc], .string s] w fun e w' => e = .returned (.bool true) ∧ Below w.heap.size w w' := by
  have KW' := fun W (hb : Below w.heap.size w W) => wwrite_any v m W (h.next hb)
  have KC' := fun W (hb : Below w.heap.size w W) => rcheckimg_any v m W (h.next hb)
  have KB' := fun W (hb : Below w.heap.size w W) (he : checkErr m = 0) => imageBytes_any v m W (h.next hb) he
  have KR' := fun W => read_any s W
  have KF' := fun W => imageFrom_any s W
  have FM' := fun hh => rd_fm (s := s) hh
  have FF' := fun hh => rd_far (s := s) hh
  have WN' := fun hh => wr_no (m := m) hh
  have WY' := fun (hh : checkErr m = 0) => (show ofL (imgB m) = wrS m from by unfold wrS; rw [if_pos hh])
  generalize wrS m = t at *
  generalize ofL (imgB m) = t2 at *
  generalize rdI s = z at *
  generalize rdE s = re at *
  generalize fmI s = zf at *
  generalize fmB s = bf at *
  generalize checkErr m = ep at *
  have Cep : ep = 0 ∨ ((ep == 0) = false ∧ ep ≠ 0) := by
    by_cases hh : ep = 0
    · exact .inl hh
    · exact .inr ⟨by simpa using hh, hh⟩
  have Csz : (4096 : Int) < (s.size : Int) ∨ (s.size : Int) ≤ 4096 := by omega
  obtain ⟨rA, rn, rc, sA, sn, sc, fA, fn, fc, pA, pn, pc⟩ := v
  dsimp only [imgV] at KW' KC' KB' ⊢
  have KW := Lib.hid KW'
  have KC := Lib.hid KC'
  have KB := Lib.hid KB'
  have KR := Lib.hid KR'
  have KF := Lib.hid KF'
  have FM := Lib.hid FM'
  have FF := Lib.hid FF'
  have WN := Lib.hid WN'
  have WY := Lib.hid WY'
  clear KW' KC' KB' KR' KF' FM' FF' WN' WY' h
  have T0' := below1 w (.cells #[.int .i64 m.guest, .slice rA rn rc, .slice sA sn sc, .slice fA fn fc, .slice pA pn pc] 26)
  have X0' := Box.new w m.guest ⟨rA, rn, rc, sA, sn, sc, fA, fn, fc, pA, pn, pc⟩ 26
  have L0' : w.heap.size < (w.alloc (.cells #[.int .i64 m.guest, .slice rA rn rc, .slice sA sn sc, .slice fA fn fc, .slice pA pn pc] 26)).heap.size := by simp
  have T := Lib.hid T0'
  have XM := Lib.hid X0'
  have LM := Lib.hid L0'
  clear T0' X0' L0'
  obtain ⟨c1_0, c1_1, c1_2, c1_3, c1_4⟩ := XM.out
  try dsimp only at c1_0 c1_1 c1_2 c1_3 c1_4
  go_enter Try.func3, Try.ntmps3
  go_wp2_with fail
  generalize (w.alloc (.cells #[.int .i64 m.guest, .slice rA rn rc, .slice sA sn sc, .slice fA fn fc, .slice pA pn pc] 26)) = W2 at *
  refine (KW.out _ T.out).mono ?_
  rintro e wa ⟨rfl, hb⟩
  clear c1_0 c1_1 c1_2 c1_3 c1_4
  replace T := Lib.hid (below_next T.out hb)
  replace XM := Lib.hid (XM.out.keep hb LM.out)
  replace LM := Lib.hid (Nat.lt_of_lt_of_le LM.out hb.size)
  clear hb
  obtain ⟨c3_0, c3_1, c3_2, c3_3, c3_4⟩ := XM.out
  try dsimp only at c3_0 c3_1 c3_2 c3_3 c3_4
  go_wp2_with fail
  refine (KC.out _ T.out).mono ?_
  rintro e w4 ⟨rfl, hb⟩
  clear c3_0 c3_1 c3_2 c3_3 c3_4
  replace T := Lib.hid (below_next T.out hb)
  replace XM := Lib.hid (XM.out.keep hb LM.out)
  replace LM := Lib.hid (Nat.lt_of_lt_of_le LM.out hb.size)
  clear hb
  rcases Cep with h0 | h0
  · subst h0
    have e9 := WY.out rfl
    subst e9
    clear WN WY
    obtain ⟨c5_0, c5_1, c5_2, c5_3, c5_4⟩ := XM.out
    try dsimp only at c5_0 c5_1 c5_2 c5_3 c5_4
    go_wp2_with fail
    refine (KB.out _ T.out trivial).mono ?_
    rintro e w6 ⟨rfl, hb⟩
    clear c5_0 c5_1 c5_2 c5_3 c5_4
    replace T := Lib.hid (below_next T.out hb)
    replace XM := Lib.hid (XM.out.keep hb LM.out)
    replace LM := Lib.hid (Nat.lt_of_lt_of_le LM.out hb.size)
    clear hb
    go_wp2_with fail
    refine (KR.out _).mono ?_
    rintro e w7 ⟨v, rfl, hi, hb⟩
    replace T := Lib.hid (below_next T.out hb)
    replace XM := Lib.hid (XM.out.keep hb LM.out)
    replace LM := Lib.hid (Nat.lt_of_lt_of_le LM.out hb.size)
    clear hb
    have hx := Box.new w7 z.guest v 26
    have b1 := below1 w7 (.cells #[.int .i64 z.guest, .slice v.rA v.rn v.rc, .slice v.sA v.sn v.sc, .slice v.fA v.fn v.fc, .slice v.pA v.pn v.pc] 26)
    have hi2 := hi.next b1
    have hlt : w7.heap.size < (w7.alloc (.cells #[.int .i64 z.guest, .slice v.rA v.rn v.rc, .slice v.sA v.sn v.sc, .slice v.fA v.fn v.fc, .slice v.pA v.pn v.pc] 26)).heap.size := by simp
    replace T := Lib.hid (below_next T.out b1)
    replace XM := Lib.hid (XM.out.keep b1 LM.out)
    replace LM := Lib.hid (Nat.lt_of_lt_of_le LM.out b1.size)
    clear b1
    obtain ⟨xrA, xrn, xrc, xsA, xsn, xsc, xfA, xfn, xfc, xpA, xpn, xpc⟩ := v
    have Ix := Lib.hid hi2
    have Xx := Lib.hid hx
    have Lx := Lib.hid hlt
    dsimp only [imgV] at Ix Xx Lx T XM LM ⊢
    clear hi hx hi2 hlt
    rcases Csz with hz | hz
    · obtain ⟨e1, e2⟩ := FF.out (by omega)
      subst e1 e2
      clear FM FF KF
      go_wp2_with fail
      generalize (w7.alloc (.cells #[.int .i64 noImg.guest, .slice xrA xrn xrc, .slice xsA xsn xsc, .slice xfA xfn xfc, .slice xpA xpn xpc] 26)) = W8 at *
      refine (wireBegun_any _).mono ?_
      rintro e w9 ⟨rfl, hb⟩
      replace T := Lib.hid (below_next T.out hb)
      replace XM := Lib.hid (XM.out.keep hb LM.out)
      replace LM := Lib.hid (Nat.lt_of_lt_of_le LM.out hb.size)
      replace Xx := Lib.hid (Xx.out.keep hb Lx.out)
      replace Lx := Lib.hid (Nat.lt_of_lt_of_le Lx.out hb.size)
      replace Ix := Lib.hid (Ix.out.next hb)
      clear hb
      obtain ⟨c10_0, c10_1, c10_2, c10_3, c10_4⟩ := Xx.out
      try dsimp only at c10_0 c10_1 c10_2 c10_3 c10_4
      dsimp only [noImg] at c10_0 c10_1 c10_2 c10_3 c10_4
      go_wp2_with fail
      have KSS := sameImg_any _ noV noImg _ Ix.out (noImg_R _)
      dsimp only [imgV, noImg, noV] at KSS
      refine KSS.mono ?_
      rintro e wc ⟨rfl, hb⟩
      clear c10_0 c10_1 c10_2 c10_3 c10_4
      replace T := Lib.hid (below_next T.out hb)
      replace XM := Lib.hid (XM.out.keep hb LM.out)
      replace LM := Lib.hid (Nat.lt_of_lt_of_le LM.out hb.size)
      replace Xx := Lib.hid (Xx.out.keep hb Lx.out)
      replace Lx := Lib.hid (Nat.lt_of_lt_of_le Lx.out hb.size)
      replace Ix := Lib.hid (Ix.out.next hb)
      clear hb
      go_wp2_with fail
      go_ret
      exact ⟨rfl, T.out⟩
    · obtain ⟨e1, e2⟩ := FM.out (by omega)
      have e1 := e1.symm
      subst e1
      clear FM FF
      go_wp2_with fail
      generalize (w7.alloc (.cells #[.int .i64 z.guest, .slice xrA xrn xrc, .slice xsA xsn xsc, .slice xfA xfn xfc, .slice xpA xpn xpc] 26)) = W8 at *
      refine (KF.out _).mono ?_
      rintro e w9 ⟨v, rfl, hi, hb⟩
      replace T := Lib.hid (below_next T.out hb)
      replace XM := Lib.hid (XM.out.keep hb LM.out)
      replace LM := Lib.hid (Nat.lt_of_lt_of_le LM.out hb.size)
      replace Xx := Lib.hid (Xx.out.keep hb Lx.out)
      replace Lx := Lib.hid (Nat.lt_of_lt_of_le Lx.out hb.size)
      replace Ix := Lib.hid (Ix.out.next hb)
      clear hb
      have hx := Box.new w9 z.guest v 26
      have b1 := below1 w9 (.cells #[.int .i64 z.guest, .slice v.rA v.rn v.rc, .slice v.sA v.sn v.sc, .slice v.fA v.fn v.fc, .slice v.pA v.pn v.pc] 26)
      have hi2 := hi.next b1
      have hlt : w9.heap.size < (w9.alloc (.cells #[.int .i64 z.guest, .slice v.rA v.rn v.rc, .slice v.sA v.sn v.sc, .slice v.fA v.fn v.fc, .slice v.pA v.pn v.pc] 26)).heap.size := by simp
      replace T := Lib.hid (below_next T.out b1)
      replace XM := Lib.hid (XM.out.keep b1 LM.out)
      replace LM := Lib.hid (Nat.lt_of_lt_of_le LM.out b1.size)
      replace Xx := Lib.hid (Xx.out.keep b1 Lx.out)
      replace Lx := Lib.hid (Nat.lt_of_lt_of_le Lx.out b1.size)
      replace Ix := Lib.hid (Ix.out.next b1)
      clear b1
      obtain ⟨yrA, yrn, yrc, ysA, ysn, ysc, yfA, yfn, yfc, ypA, ypn, ypc⟩ := v
      have Iy := Lib.hid hi2
      have Xy := Lib.hid hx
      have Ly := Lib.hid hlt
      dsimp only [imgV] at Iy Xy Ly T XM LM Xx Lx Ix ⊢
      clear hi hx hi2 hlt
      go_upto_region 10 with fail
      generalize (w9.alloc (.cells #[.int .i64 z.guest, .slice yrA yrn yrc, .slice ysA ysn ysc, .slice yfA yfn yfc, .slice ypA ypn ypc] 26)) = W10 at *
      rcases e2 with ⟨h5, h6⟩ | ⟨h5, h6⟩
      · subst h5 h6
        go_wp2_with fail
        refine (wireBegun_any _).mono ?_
        rintro e w11 ⟨rfl, hb⟩
        replace T := Lib.hid (below_next T.out hb)
        replace XM := Lib.hid (XM.out.keep hb LM.out)
        replace LM := Lib.hid (Nat.lt_of_lt_of_le LM.out hb.size)
        replace Xx := Lib.hid (Xx.out.keep hb Lx.out)
        replace Lx := Lib.hid (Nat.lt_of_lt_of_le Lx.out hb.size)
        replace Ix := Lib.hid (Ix.out.next hb)
        replace Xy := Lib.hid (Xy.out.keep hb Ly.out)
        replace Ly := Lib.hid (Nat.lt_of_lt_of_le Ly.out hb.size)
        replace Iy := Lib.hid (Iy.out.next hb)
        clear hb
        obtain ⟨c12_0, c12_1, c12_2, c12_3, c12_4⟩ := Xx.out
        try dsimp only at c12_0 c12_1 c12_2 c12_3 c12_4
        obtain ⟨c13_0, c13_1, c13_2, c13_3, c13_4⟩ := Xy.out
        try dsimp only at c13_0 c13_1 c13_2 c13_3 c13_4
        go_wp2_with fail
        refine (sameImg_any _ _ z _ Ix.out Iy.out).mono ?_
        rintro e wc ⟨rfl, hb⟩
        clear c12_0 c12_1 c12_2 c12_3 c12_4 c13_0 c13_1 c13_2 c13_3 c13_4
        replace T := Lib.hid (below_next T.out hb)
        replace XM := Lib.hid (XM.out.keep hb LM.out)
        replace LM := Lib.hid (Nat.lt_of_lt_of_le LM.out hb.size)
        replace Xx := Lib.hid (Xx.out.keep hb Lx.out)
        replace Lx := Lib.hid (Nat.lt_of_lt_of_le Lx.out hb.size)
        replace Ix := Lib.hid (Ix.out.next hb)
        replace Xy := Lib.hid (Xy.out.keep hb Ly.out)
        replace Ly := Lib.hid (Nat.lt_of_lt_of_le Ly.out hb.size)
        replace Iy := Lib.hid (Iy.out.next hb)
        clear hb
        go_wp2_with fail
        go_ret
        exact ⟨rfl, T.out⟩
      · subst h5 h6
        go_wp2_with fail
        refine (wireBegun_any _).mono ?_
        rintro e w11 ⟨rfl, hb⟩
        replace T := Lib.hid (below_next T.out hb)
        replace XM := Lib.hid (XM.out.keep hb LM.out)
        replace LM := Lib.hid (Nat.lt_of_lt_of_le LM.out hb.size)
        replace Xx := Lib.hid (Xx.out.keep hb Lx.out)
        replace Lx := Lib.hid (Nat.lt_of_lt_of_le Lx.out hb.size)
        replace Ix := Lib.hid (Ix.out.next hb)
        replace Xy := Lib.hid (Xy.out.keep hb Ly.out)
        replace Ly := Lib.hid (Nat.lt_of_lt_of_le Ly.out hb.size)
        replace Iy := Lib.hid (Iy.out.next hb)
        clear hb
        obtain ⟨c12_0, c12_1, c12_2, c12_3, c12_4⟩ := Xx.out
        try dsimp only at c12_0 c12_1 c12_2 c12_3 c12_4
        obtain ⟨c13_0, c13_1, c13_2, c13_3, c13_4⟩ := Xy.out
        try dsimp only at c13_0 c13_1 c13_2 c13_3 c13_4
        go_wp2_with fail
        refine (sameImg_any _ _ z _ Ix.out Iy.out).mono ?_
        rintro e wc ⟨rfl, hb⟩
        clear c12_0 c12_1 c12_2 c12_3 c12_4 c13_0 c13_1 c13_2 c13_3 c13_4
        replace T := Lib.hid (below_next T.out hb)
        replace XM := Lib.hid (XM.out.keep hb LM.out)
        replace LM := Lib.hid (Nat.lt_of_lt_of_le LM.out hb.size)
        replace Xx := Lib.hid (Xx.out.keep hb Lx.out)
        replace Lx := Lib.hid (Nat.lt_of_lt_of_le Lx.out hb.size)
        replace Ix := Lib.hid (Ix.out.next hb)
        replace Xy := Lib.hid (Xy.out.keep hb Ly.out)
        replace Ly := Lib.hid (Nat.lt_of_lt_of_le Ly.out hb.size)
        replace Iy := Lib.hid (Iy.out.next hb)
        clear hb
        go_wp2_with fail
        go_ret
        exact ⟨rfl, T.out⟩
  · obtain ⟨h0, h1⟩ := h0
    have e9 := WN.out h1
    subst e9
    clear WN WY KB
    go_wp2_with fail
    refine (KR.out _).mono ?_
    rintro e w5 ⟨v, rfl, hi, hb⟩
    replace T := Lib.hid (below_next T.out hb)
    replace XM := Lib.hid (XM.out.keep hb LM.out)
    replace LM := Lib.hid (Nat.lt_of_lt_of_le LM.out hb.size)
    clear hb
    have hx := Box.new w5 z.guest v 26
    have b1 := below1 w5 (.cells #[.int .i64 z.guest, .slice v.rA v.rn v.rc, .slice v.sA v.sn v.sc, .slice v.fA v.fn v.fc, .slice v.pA v.pn v.pc] 26)
    have hi2 := hi.next b1
    have hlt : w5.heap.size < (w5.alloc (.cells #[.int .i64 z.guest, .slice v.rA v.rn v.rc, .slice v.sA v.sn v.sc, .slice v.fA v.fn v.fc, .slice v.pA v.pn v.pc] 26)).heap.size := by simp
    replace T := Lib.hid (below_next T.out b1)
    replace XM := Lib.hid (XM.out.keep b1 LM.out)
    replace LM := Lib.hid (Nat.lt_of_lt_of_le LM.out b1.size)
    clear b1
    obtain ⟨xrA, xrn, xrc, xsA, xsn, xsc, xfA, xfn, xfc, xpA, xpn, xpc⟩ := v
    have Ix := Lib.hid hi2
    have Xx := Lib.hid hx
    have Lx := Lib.hid hlt
    dsimp only [imgV] at Ix Xx Lx T XM LM ⊢
    clear hi hx hi2 hlt
    rcases Csz with hz | hz
    · obtain ⟨e1, e2⟩ := FF.out (by omega)
      subst e1 e2
      clear FM FF KF
      go_wp2_with fail
      generalize (w5.alloc (.cells #[.int .i64 noImg.guest, .slice xrA xrn xrc, .slice xsA xsn xsc, .slice xfA xfn xfc, .slice xpA xpn xpc] 26)) = W6 at *
      refine (wireBegun_any _).mono ?_
      rintro e w7 ⟨rfl, hb⟩
      replace T := Lib.hid (below_next T.out hb)
      replace XM := Lib.hid (XM.out.keep hb LM.out)
      replace LM := Lib.hid (Nat.lt_of_lt_of_le LM.out hb.size)
      replace Xx := Lib.hid (Xx.out.keep hb Lx.out)
      replace Lx := Lib.hid (Nat.lt_of_lt_of_le Lx.out hb.size)
      replace Ix := Lib.hid (Ix.out.next hb)
      clear hb
      obtain ⟨c8_0, c8_1, c8_2, c8_3, c8_4⟩ := Xx.out
      try dsimp only at c8_0 c8_1 c8_2 c8_3 c8_4
      dsimp only [noImg] at c8_0 c8_1 c8_2 c8_3 c8_4
      go_wp2_with fail
      have KSS := sameImg_any _ noV noImg _ Ix.out (noImg_R _)
      dsimp only [imgV, noImg, noV] at KSS
      refine KSS.mono ?_
      rintro e wc ⟨rfl, hb⟩
      clear c8_0 c8_1 c8_2 c8_3 c8_4
      replace T := Lib.hid (below_next T.out hb)
      replace XM := Lib.hid (XM.out.keep hb LM.out)
      replace LM := Lib.hid (Nat.lt_of_lt_of_le LM.out hb.size)
      replace Xx := Lib.hid (Xx.out.keep hb Lx.out)
      replace Lx := Lib.hid (Nat.lt_of_lt_of_le Lx.out hb.size)
      replace Ix := Lib.hid (Ix.out.next hb)
      clear hb
      go_wp2_with fail
      go_ret
      exact ⟨rfl, T.out⟩
    · obtain ⟨e1, e2⟩ := FM.out (by omega)
      have e1 := e1.symm
      subst e1
      clear FM FF
      go_wp2_with fail
      generalize (w5.alloc (.cells #[.int .i64 z.guest, .slice xrA xrn xrc, .slice xsA xsn xsc, .slice xfA xfn xfc, .slice xpA xpn xpc] 26)) = W6 at *
      refine (KF.out _).mono ?_
      rintro e w7 ⟨v, rfl, hi, hb⟩
      replace T := Lib.hid (below_next T.out hb)
      replace XM := Lib.hid (XM.out.keep hb LM.out)
      replace LM := Lib.hid (Nat.lt_of_lt_of_le LM.out hb.size)
      replace Xx := Lib.hid (Xx.out.keep hb Lx.out)
      replace Lx := Lib.hid (Nat.lt_of_lt_of_le Lx.out hb.size)
      replace Ix := Lib.hid (Ix.out.next hb)
      clear hb
      have hx := Box.new w7 z.guest v 26
      have b1 := below1 w7 (.cells #[.int .i64 z.guest, .slice v.rA v.rn v.rc, .slice v.sA v.sn v.sc, .slice v.fA v.fn v.fc, .slice v.pA v.pn v.pc] 26)
      have hi2 := hi.next b1
      have hlt : w7.heap.size < (w7.alloc (.cells #[.int .i64 z.guest, .slice v.rA v.rn v.rc, .slice v.sA v.sn v.sc, .slice v.fA v.fn v.fc, .slice v.pA v.pn v.pc] 26)).heap.size := by simp
      replace T := Lib.hid (below_next T.out b1)
      replace XM := Lib.hid (XM.out.keep b1 LM.out)
      replace LM := Lib.hid (Nat.lt_of_lt_of_le LM.out b1.size)
      replace Xx := Lib.hid (Xx.out.keep b1 Lx.out)
      replace Lx := Lib.hid (Nat.lt_of_lt_of_le Lx.out b1.size)
      replace Ix := Lib.hid (Ix.out.next b1)
      clear b1
      obtain ⟨yrA, yrn, yrc, ysA, ysn, ysc, yfA, yfn, yfc, ypA, ypn, ypc⟩ := v
      have Iy := Lib.hid hi2
      have Xy := Lib.hid hx
      have Ly := Lib.hid hlt
      dsimp only [imgV] at Iy Xy Ly T XM LM Xx Lx Ix ⊢
      clear hi hx hi2 hlt
      go_upto_region 10 with fail
      generalize (w7.alloc (.cells #[.int .i64 z.guest, .slice yrA yrn yrc, .slice ysA ysn ysc, .slice yfA yfn yfc, .slice ypA ypn ypc] 26)) = W8 at *
      rcases e2 with ⟨h5, h6⟩ | ⟨h5, h6⟩
      · subst h5 h6
        go_wp2_with fail
        refine (wireBegun_any _).mono ?_
        rintro e w9 ⟨rfl, hb⟩
        replace T := Lib.hid (below_next T.out hb)
        replace XM := Lib.hid (XM.out.keep hb LM.out)
        replace LM := Lib.hid (Nat.lt_of_lt_of_le LM.out hb.size)
        replace Xx := Lib.hid (Xx.out.keep hb Lx.out)
        replace Lx := Lib.hid (Nat.lt_of_lt_of_le Lx.out hb.size)
        replace Ix := Lib.hid (Ix.out.next hb)
        replace Xy := Lib.hid (Xy.out.keep hb Ly.out)
        replace Ly := Lib.hid (Nat.lt_of_lt_of_le Ly.out hb.size)
        replace Iy := Lib.hid (Iy.out.next hb)
        clear hb
        obtain ⟨c10_0, c10_1, c10_2, c10_3, c10_4⟩ := Xx.out
        try dsimp only at c10_0 c10_1 c10_2 c10_3 c10_4
        obtain ⟨c11_0, c11_1, c11_2, c11_3, c11_4⟩ := Xy.out
        try dsimp only at c11_0 c11_1 c11_2 c11_3 c11_4
        go_wp2_with fail
        refine (sameImg_any _ _ z _ Ix.out Iy.out).mono ?_
        rintro e wc ⟨rfl, hb⟩
        clear c10_0 c10_1 c10_2 c10_3 c10_4 c11_0 c11_1 c11_2 c11_3 c11_4
        replace T := Lib.hid (below_next T.out hb)
        replace XM := Lib.hid (XM.out.keep hb LM.out)
        replace LM := Lib.hid (Nat.lt_of_lt_of_le LM.out hb.size)
        replace Xx := Lib.hid (Xx.out.keep hb Lx.out)
        replace Lx := Lib.hid (Nat.lt_of_lt_of_le Lx.out hb.size)
        replace Ix := Lib.hid (Ix.out.next hb)
        replace Xy := Lib.hid (Xy.out.keep hb Ly.out)
        replace Ly := Lib.hid (Nat.lt_of_lt_of_le Ly.out hb.size)
        replace Iy := Lib.hid (Iy.out.next hb)
        clear hb
        go_wp2_with fail
        go_ret
        exact ⟨rfl, T.out⟩
      · subst h5 h6
        go_wp2_with fail
        refine (wireBegun_any _).mono ?_
        rintro e w9 ⟨rfl, hb⟩
        replace T := Lib.hid (below_next T.out hb)
        replace XM := Lib.hid (XM.out.keep hb LM.out)
        replace LM := Lib.hid (Nat.lt_of_lt_of_le LM.out hb.size)
        replace Xx := Lib.hid (Xx.out.keep hb Lx.out)
        replace Lx := Lib.hid (Nat.lt_of_lt_of_le Lx.out hb.size)
        replace Ix := Lib.hid (Ix.out.next hb)
        replace Xy := Lib.hid (Xy.out.keep hb Ly.out)
        replace Ly := Lib.hid (Nat.lt_of_lt_of_le Ly.out hb.size)
        replace Iy := Lib.hid (Iy.out.next hb)
        clear hb
        obtain ⟨c10_0, c10_1, c10_2, c10_3, c10_4⟩ := Xx.out
        try dsimp only at c10_0 c10_1 c10_2 c10_3 c10_4
        obtain ⟨c11_0, c11_1, c11_2, c11_3, c11_4⟩ := Xy.out
        try dsimp only at c11_0 c11_1 c11_2 c11_3 c11_4
        go_wp2_with fail
        refine (sameImg_any _ _ z _ Ix.out Iy.out).mono ?_
        rintro e wc ⟨rfl, hb⟩
        clear c10_0 c10_1 c10_2 c10_3 c10_4 c11_0 c11_1 c11_2 c11_3 c11_4
        replace T := Lib.hid (below_next T.out hb)
        replace XM := Lib.hid (XM.out.keep hb LM.out)
        replace LM := Lib.hid (Nat.lt_of_lt_of_le LM.out hb.size)
        replace Xx := Lib.hid (Xx.out.keep hb Lx.out)
        replace Lx := Lib.hid (Nat.lt_of_lt_of_le Lx.out hb.size)
        replace Ix := Lib.hid (Ix.out.next hb)
        replace Xy := Lib.hid (Xy.out.keep hb Ly.out)
        replace Ly := Lib.hid (Nat.lt_of_lt_of_le Ly.out hb.size)
        replace Iy := Lib.hid (Iy.out.next hb)
        clear hb
        go_wp2_with fail
        go_ret
        exact ⟨rfl, T.out⟩
set_option maxRecDepth 100000 in
set_option maxHeartbeats 4000000 in
theorem law_wireBack (v : IV) (m : Img) (s : ByteArray) (w : World) (h : ImgR w w.heap.size v m) :
    Calls Try.prog 4 #[.agg #[.int .i64 m.guest, .slice v.rA v.rn v.rc, .slice v.sA v.sn v.sc, .slice v.fA v.fn v.fc, .slice v.pA v.pn v.pc], .string s] w fun e w' => e = .returned (.bool true) ∧ Below w.heap.size w w' := by
  have KW' := fun W (hb : Below w.heap.size w W) => wwrite_any v m W (h.next hb)
  have KT' := fun W => read_any (wrS m) W
  have KR' := fun W => read_any s W
  have KZ' := fun v W (hi : ImgR W W.heap.size v (rdI s)) => wwrite_any v (rdI s) W hi
  have FB' := fun (hh : checkErr m = 0) => rd_back hh
  have FR' := fun (hh : rdE s = 0) => rd_right hh
  have HM' := h
  generalize rdI (wrS m) = zt at *
  generalize rdE (wrS m) = et at *
  generalize wrS m = t at *
  generalize wrS (rdI s) = t2 at *
  generalize checkErr (rdI s) = ez at *
  generalize rdI s = z at *
  generalize rdE s = re at *
  generalize hep : checkErr m = ep at *
  have Cep : ep = 0 ∨ (ep == 0) = false := by
    by_cases hh : ep = 0
    · exact .inl hh
    · right; simpa using hh
  have Cre : re = 0 ∨ (re != 0) = true := by
    by_cases hh : re = 0
    · exact .inl hh
    · right; simpa using hh
  obtain ⟨rA, rn, rc, sA, sn, sc, fA, fn, fc, pA, pn, pc⟩ := v
  dsimp only [imgV] at KW' KZ' ⊢
  have KW := Lib.hid KW'
  have KT := Lib.hid KT'
  have KR := Lib.hid KR'
  have KZ := Lib.hid KZ'
  have FB := Lib.hid FB'
  have FR := Lib.hid FR'
  have HM := Lib.hid HM'
  clear KW' KT' KR' KZ' FB' FR' HM' h hep
  have T0' := below1 w (.cells #[.int .i64 m.guest, .slice rA rn rc, .slice sA sn sc, .slice fA fn fc, .slice pA pn pc] 26)
  have X0' := Box.new w m.guest ⟨rA, rn, rc, sA, sn, sc, fA, fn, fc, pA, pn, pc⟩ 26
  have L0' : w.heap.size < (w.alloc (.cells #[.int .i64 m.guest, .slice rA rn rc, .slice sA sn sc, .slice fA fn fc, .slice pA pn pc] 26)).heap.size := by simp
  have T := Lib.hid T0'
  have XM := Lib.hid X0'
  have LM := Lib.hid L0'
  clear T0' X0' L0'
  have IM := Lib.hid (HM.out.next T.out)
  clear HM
  obtain ⟨c1_0, c1_1, c1_2, c1_3, c1_4⟩ := XM.out
  try dsimp only at c1_0 c1_1 c1_2 c1_3 c1_4
  go_enter Try.func4, Try.ntmps4
  go_wp2_with fail
  generalize (w.alloc (.cells #[.int .i64 m.guest, .slice rA rn rc, .slice sA sn sc, .slice fA fn fc, .slice pA pn pc] 26)) = W2 at *
  refine (KW.out _ T.out).mono ?_
  rintro e wa ⟨rfl, hb⟩
  clear c1_0 c1_1 c1_2 c1_3 c1_4
  replace T := Lib.hid (below_next T.out hb)
  replace XM := Lib.hid (XM.out.keep hb LM.out)
  replace LM := Lib.hid (Nat.lt_of_lt_of_le LM.out hb.size)
  replace IM := Lib.hid (IM.out.next hb)
  clear hb
  rcases Cep with h0 | h0
  · subst h0
    obtain ⟨e1, e2⟩ := FB.out rfl
    subst e1 e2
    clear FB
    go_wp2_with fail
    refine (KT.out _).mono ?_
    rintro e w3 ⟨v, rfl, hi, hb⟩
    replace T := Lib.hid (below_next T.out hb)
    replace XM := Lib.hid (XM.out.keep hb LM.out)
    replace LM := Lib.hid (Nat.lt_of_lt_of_le LM.out hb.size)
    replace IM := Lib.hid (IM.out.next hb)
    clear hb
    have hx := Box.new w3 zt.guest v 26
    have b1 := below1 w3 (.cells #[.int .i64 zt.guest, .slice v.rA v.rn v.rc, .slice v.sA v.sn v.sc, .slice v.fA v.fn v.fc, .slice v.pA v.pn v.pc] 26)
    have hi2 := hi.next b1
    have hlt : w3.heap.size < (w3.alloc (.cells #[.int .i64 zt.guest, .slice v.rA v.rn v.rc, .slice v.sA v.sn v.sc, .slice v.fA v.fn v.fc, .slice v.pA v.pn v.pc] 26)).heap.size := by simp
    replace T := Lib.hid (below_next T.out b1)
    replace XM := Lib.hid (XM.out.keep b1 LM.out)
    replace LM := Lib.hid (Nat.lt_of_lt_of_le LM.out b1.size)
    replace IM := Lib.hid (IM.out.next b1)
    clear b1
    obtain ⟨trA, trn, trc, tsA, tsn, tsc, tfA, tfn, tfc, tpA, tpn, tpc⟩ := v
    have It := Lib.hid hi2
    have Xt := Lib.hid hx
    have Lt := Lib.hid hlt
    dsimp only [imgV] at It Xt Lt T XM LM IM ⊢
    clear hi hx hi2 hlt
    obtain ⟨c4_0, c4_1, c4_2, c4_3, c4_4⟩ := XM.out
    try dsimp only at c4_0 c4_1 c4_2 c4_3 c4_4
    obtain ⟨c5_0, c5_1, c5_2, c5_3, c5_4⟩ := Xt.out
    try dsimp only at c5_0 c5_1 c5_2 c5_3 c5_4
    go_upto_region 4 with fail
    generalize (w3.alloc (.cells #[.int .i64 zt.guest, .slice trA trn trc, .slice tsA tsn tsc, .slice tfA tfn tfc, .slice tpA tpn tpc] 26)) = W6 at *
    go_wp2_with fail
    refine (sameImg_any _ _ zt _ It.out IM.out).mono ?_
    rintro e wd ⟨rfl, hb⟩
    clear c4_0 c4_1 c4_2 c4_3 c4_4 c5_0 c5_1 c5_2 c5_3 c5_4
    replace T := Lib.hid (below_next T.out hb)
    replace XM := Lib.hid (XM.out.keep hb LM.out)
    replace LM := Lib.hid (Nat.lt_of_lt_of_le LM.out hb.size)
    replace IM := Lib.hid (IM.out.next hb)
    replace Xt := Lib.hid (Xt.out.keep hb Lt.out)
    replace Lt := Lib.hid (Nat.lt_of_lt_of_le Lt.out hb.size)
    replace It := Lib.hid (It.out.next hb)
    clear hb
    go_wp2_with fail
    refine (KR.out _).mono ?_
    rintro e w7 ⟨v, rfl, hi, hb⟩
    replace T := Lib.hid (below_next T.out hb)
    replace XM := Lib.hid (XM.out.keep hb LM.out)
    replace LM := Lib.hid (Nat.lt_of_lt_of_le LM.out hb.size)
    replace IM := Lib.hid (IM.out.next hb)
    replace Xt := Lib.hid (Xt.out.keep hb Lt.out)
    replace Lt := Lib.hid (Nat.lt_of_lt_of_le Lt.out hb.size)
    replace It := Lib.hid (It.out.next hb)
    clear hb
    have hx := Box.new w7 z.guest v 26
    have b1 := below1 w7 (.cells #[.int .i64 z.guest, .slice v.rA v.rn v.rc, .slice v.sA v.sn v.sc, .slice v.fA v.fn v.fc, .slice v.pA v.pn v.pc] 26)
    have hi2 := hi.next b1
    have hlt : w7.heap.size < (w7.alloc (.cells #[.int .i64 z.guest, .slice v.rA v.rn v.rc, .slice v.sA v.sn v.sc, .slice v.fA v.fn v.fc, .slice v.pA v.pn v.pc] 26)).heap.size := by simp
    replace T := Lib.hid (below_next T.out b1)
    replace XM := Lib.hid (XM.out.keep b1 LM.out)
    replace LM := Lib.hid (Nat.lt_of_lt_of_le LM.out b1.size)
    replace IM := Lib.hid (IM.out.next b1)
    replace Xt := Lib.hid (Xt.out.keep b1 Lt.out)
    replace Lt := Lib.hid (Nat.lt_of_lt_of_le Lt.out b1.size)
    replace It := Lib.hid (It.out.next b1)
    clear b1
    obtain ⟨xrA, xrn, xrc, xsA, xsn, xsc, xfA, xfn, xfc, xpA, xpn, xpc⟩ := v
    have Ix := Lib.hid hi2
    have Xx := Lib.hid hx
    have Lx := Lib.hid hlt
    dsimp only [imgV] at Ix Xx Lx T XM LM IM Xt Lt It ⊢
    clear hi hx hi2 hlt
    rcases Cre with h5 | h5
    · subst h5
      obtain ⟨e1, e2⟩ := FR.out rfl
      subst e1 e2
      clear FR
      obtain ⟨c8_0, c8_1, c8_2, c8_3, c8_4⟩ := Xx.out
      try dsimp only at c8_0 c8_1 c8_2 c8_3 c8_4
      go_wp2_with fail
      generalize (w7.alloc (.cells #[.int .i64 z.guest, .slice xrA xrn xrc, .slice xsA xsn xsc, .slice xfA xfn xfc, .slice xpA xpn xpc] 26)) = W9 at *
      refine (KZ.out _ _ Ix.out).mono ?_
      rintro e w10 ⟨rfl, hb⟩
      clear c8_0 c8_1 c8_2 c8_3 c8_4
      replace T := Lib.hid (below_next T.out hb)
      replace XM := Lib.hid (XM.out.keep hb LM.out)
      replace LM := Lib.hid (Nat.lt_of_lt_of_le LM.out hb.size)
      replace IM := Lib.hid (IM.out.next hb)
      replace Xt := Lib.hid (Xt.out.keep hb Lt.out)
      replace Lt := Lib.hid (Nat.lt_of_lt_of_le Lt.out hb.size)
      replace It := Lib.hid (It.out.next hb)
      replace Xx := Lib.hid (Xx.out.keep hb Lx.out)
      replace Lx := Lib.hid (Nat.lt_of_lt_of_le Lx.out hb.size)
      replace Ix := Lib.hid (Ix.out.next hb)
      clear hb
      go_wp2_with fail
      refine (wireBegun_any _).mono ?_
      rintro e w11 ⟨rfl, hb⟩
      replace T := Lib.hid (below_next T.out hb)
      replace XM := Lib.hid (XM.out.keep hb LM.out)
      replace LM := Lib.hid (Nat.lt_of_lt_of_le LM.out hb.size)
      replace IM := Lib.hid (IM.out.next hb)
      replace Xt := Lib.hid (Xt.out.keep hb Lt.out)
      replace Lt := Lib.hid (Nat.lt_of_lt_of_le Lt.out hb.size)
      replace It := Lib.hid (It.out.next hb)
      replace Xx := Lib.hid (Xx.out.keep hb Lx.out)
      replace Lx := Lib.hid (Nat.lt_of_lt_of_le Lx.out hb.size)
      replace Ix := Lib.hid (Ix.out.next hb)
      clear hb
      go_wp2_with fail
      go_ret
      exact ⟨rfl, T.out⟩
    · clear FR
      go_wp2_with fail
      generalize (w7.alloc (.cells #[.int .i64 z.guest, .slice xrA xrn xrc, .slice xsA xsn xsc, .slice xfA xfn xfc, .slice xpA xpn xpc] 26)) = W8 at *
      refine (wireBegun_any _).mono ?_
      rintro e w9 ⟨rfl, hb⟩
      replace T := Lib.hid (below_next T.out hb)
      replace XM := Lib.hid (XM.out.keep hb LM.out)
      replace LM := Lib.hid (Nat.lt_of_lt_of_le LM.out hb.size)
      replace IM := Lib.hid (IM.out.next hb)
      replace Xt := Lib.hid (Xt.out.keep hb Lt.out)
      replace Lt := Lib.hid (Nat.lt_of_lt_of_le Lt.out hb.size)
      replace It := Lib.hid (It.out.next hb)
      replace Xx := Lib.hid (Xx.out.keep hb Lx.out)
      replace Lx := Lib.hid (Nat.lt_of_lt_of_le Lx.out hb.size)
      replace Ix := Lib.hid (Ix.out.next hb)
      clear hb
      go_wp2_with fail
      go_ret
      exact ⟨rfl, T.out⟩
  · clear FB KT
    go_wp2_with fail
    refine (KR.out _).mono ?_
    rintro e w3 ⟨v, rfl, hi, hb⟩
    replace T := Lib.hid (below_next T.out hb)
    replace XM := Lib.hid (XM.out.keep hb LM.out)
    replace LM := Lib.hid (Nat.lt_of_lt_of_le LM.out hb.size)
    replace IM := Lib.hid (IM.out.next hb)
    clear hb
    have hx := Box.new w3 z.guest v 26
    have b1 := below1 w3 (.cells #[.int .i64 z.guest, .slice v.rA v.rn v.rc, .slice v.sA v.sn v.sc, .slice v.fA v.fn v.fc, .slice v.pA v.pn v.pc] 26)
    have hi2 := hi.next b1
    have hlt : w3.heap.size < (w3.alloc (.cells #[.int .i64 z.guest, .slice v.rA v.rn v.rc, .slice v.sA v.sn v.sc, .slice v.fA v.fn v.fc, .slice v.pA v.pn v.pc] 26)).heap.size := by simp
    replace T := Lib.hid (below_next T.out b1)
    replace XM := Lib.hid (XM.out.keep b1 LM.out)
    replace LM := Lib.hid (Nat.lt_of_lt_of_le LM.out b1.size)
    replace IM := Lib.hid (IM.out.next b1)
    clear b1
    obtain ⟨xrA, xrn, xrc, xsA, xsn, xsc, xfA, xfn, xfc, xpA, xpn, xpc⟩ := v
    have Ix := Lib.hid hi2
    have Xx := Lib.hid hx
    have Lx := Lib.hid hlt
    dsimp only [imgV] at Ix Xx Lx T XM LM IM ⊢
    clear hi hx hi2 hlt
    rcases Cre with h5 | h5
    · subst h5
      obtain ⟨e1, e2⟩ := FR.out rfl
      subst e1 e2
      clear FR
      obtain ⟨c4_0, c4_1, c4_2, c4_3, c4_4⟩ := Xx.out
      try dsimp only at c4_0 c4_1 c4_2 c4_3 c4_4
      go_wp2_with fail
      generalize (w3.alloc (.cells #[.int .i64 z.guest, .slice xrA xrn xrc, .slice xsA xsn xsc, .slice xfA xfn xfc, .slice xpA xpn xpc] 26)) = W5 at *
      refine (KZ.out _ _ Ix.out).mono ?_
      rintro e w6 ⟨rfl, hb⟩
      clear c4_0 c4_1 c4_2 c4_3 c4_4
      replace T := Lib.hid (below_next T.out hb)
      replace XM := Lib.hid (XM.out.keep hb LM.out)
      replace LM := Lib.hid (Nat.lt_of_lt_of_le LM.out hb.size)
      replace IM := Lib.hid (IM.out.next hb)
      replace Xx := Lib.hid (Xx.out.keep hb Lx.out)
      replace Lx := Lib.hid (Nat.lt_of_lt_of_le Lx.out hb.size)
      replace Ix := Lib.hid (Ix.out.next hb)
      clear hb
      go_wp2_with fail
      refine (wireBegun_any _).mono ?_
      rintro e w7 ⟨rfl, hb⟩
      replace T := Lib.hid (below_next T.out hb)
      replace XM := Lib.hid (XM.out.keep hb LM.out)
      replace LM := Lib.hid (Nat.lt_of_lt_of_le LM.out hb.size)
      replace IM := Lib.hid (IM.out.next hb)
      replace Xx := Lib.hid (Xx.out.keep hb Lx.out)
      replace Lx := Lib.hid (Nat.lt_of_lt_of_le Lx.out hb.size)
      replace Ix := Lib.hid (Ix.out.next hb)
      clear hb
      go_wp2_with fail
      go_ret
      exact ⟨rfl, T.out⟩
    · clear FR
      go_wp2_with fail
      generalize (w3.alloc (.cells #[.int .i64 z.guest, .slice xrA xrn xrc, .slice xsA xsn xsc, .slice xfA xfn xfc, .slice xpA xpn xpc] 26)) = W4 at *
      refine (wireBegun_any _).mono ?_
      rintro e w5 ⟨rfl, hb⟩
      replace T := Lib.hid (below_next T.out hb)
      replace XM := Lib.hid (XM.out.keep hb LM.out)
      replace LM := Lib.hid (Nat.lt_of_lt_of_le LM.out hb.size)
      replace IM := Lib.hid (IM.out.next hb)
      replace Xx := Lib.hid (Xx.out.keep hb Lx.out)
      replace Lx := Lib.hid (Nat.lt_of_lt_of_le Lx.out hb.size)
      replace Ix := Lib.hid (Ix.out.next hb)
      clear hb
      go_wp2_with fail
      go_ret
      exact ⟨rfl, T.out⟩
end Go.Proofs.Ytbhhcjnjddcocaa
