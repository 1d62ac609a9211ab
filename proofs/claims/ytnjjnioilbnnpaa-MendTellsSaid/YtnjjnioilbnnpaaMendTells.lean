/- The law MendTells, walked. Conditions: the image is read below the heap's size. -/
import Derived.Test.YtnjjnioilbnnpaaMend2
import Derived.Test.YtnjjnioilbnnpaaMendLaws
import Derived.Test.YtnjjnioilbnnpaaRShape
namespace Go.Proofs.Ytnjjnioilbnnpaa
open Go.RowKit Sl

set_option maxRecDepth 100000 in
set_option maxHeartbeats 1000000 in
theorem law_mendTells (v : IV) (m : Img) (w : World) (h : ImgR w w.heap.size v m) :
    Calls Try.prog 7 #[imgV m v] w fun e w' => e = .returned (.bool true) ∧ Below w.heap.size w w' := by
  have KL' := fun W (hb : Below w.heap.size w W) => leaks_any v m W (h.next hb)
  have KR' := fun W (hb : Below w.heap.size w W) => repair_any v m W (h.next hb)
  have KS' := fun W (hb : Below w.heap.size w W) => rshape_any v m W (h.next hb)
  by_cases he : shapeErr m = 0
  · have hcb := shape_cbd he
    have hfl : m.refs.length ≤ 40 := by rw [(sh_is he).1.refs]; exact hcb.slots
    have r1 : repairV m = settled m := by unfold repairV; rw [if_pos he]
    have l1 : leaksV m = (leaksN m : Nat) := by unfold leaksV; rw [if_pos he]
    have KA' := fun W (hb : Below w.heap.size w W) => rleaks_any v m W (h.next hb) hcb
    have KB' := fun W (hb : Below w.heap.size w W) => (rrepair_any v m W (h.next hb) hcb hfl).mono (R' := fun e w' => ∃ yrA yrn yrc ysA ysn ysc yfA yfn yfc ypA ypn ypc tg q p, e = .returned (.agg #[.int .i64 m.guest, .slice yrA yrn yrc, .slice ysA ysn ysc, .slice yfA yfn yfc, .slice ypA ypn ypc]) ∧ OwnI w' W.heap.size tg ⟨yrA, yrn, yrc, ysA, ysn, ysc, yfA, yfn, yfc, ypA, ypn, ypc⟩ q p (settled m) ∧ Below W.heap.size W w')
      (fun e w' ⟨v', tg, q, p, he, hi, hb⟩ => ⟨v'.rA, v'.rn, v'.rc, v'.sA, v'.sn, v'.sc, v'.fA, v'.fn, v'.fc, v'.pA, v'.pn, v'.pc, tg, q, p, he, hi, hb⟩)
    have hgd : (settled m).guest = m.guest := rfl
    have KS2 := fun v v2 W (hI : ImgR W W.heap.size v (settled m)) (hI2 : ImgR W W.heap.size v2 (settled m)) => sameImg_any v v2 (settled m) W hI hI2
    rw [he, l1] at KL'
    rw [he, r1] at KR'
    rw [he] at KS'
    have h40 := hcb.slots
    have hlk : leaksN m ≤ 40 := by have := leaksTo_le (m := m) m.slots.length; have : leaksN m = leaksTo m m.slots.length := rfl; omega
    clear hcb hfl r1 l1 h
    generalize settled m = z at *
    generalize leaksN m = lk at *
    simp only [imgV, hgd] at KS2
    have HGD := Lib.hid hgd
    have KL := Lib.hid KL'
    have KR := Lib.hid KR'
    have KS := Lib.hid KS'
    have KA := Lib.hid KA'
    have KB := Lib.hid KB'
    have KSS := Lib.hid KS2
    clear KL' KR' KS' KA' KB' KS2 hgd
    obtain ⟨rA, rn, rc, sA, sn, sc, fA, fn, fc, pA, pn, pc⟩ := v
    dsimp only [imgV] at *
    have T0 := Lib.hid (below1 w (.cells #[.int .i64 m.guest, .slice rA rn rc, .slice sA sn sc, .slice fA fn fc, .slice pA pn pc] 26))
    have X0 := Lib.hid (Box.new w m.guest ⟨rA, rn, rc, sA, sn, sc, fA, fn, fc, pA, pn, pc⟩ 26)
    have lX0 : w.heap.size < (w.alloc (.cells #[.int .i64 m.guest, .slice rA rn rc, .slice sA sn sc, .slice fA fn fc, .slice pA pn pc] 26)).heap.size := by simp
    go_enter Try.func7, Try.ntmps7
    go_wp2_with fail
    refine (KL.out _ T0.out).mono ?_
    rintro e w1 ⟨rfl, hb1⟩
    have T1 := Lib.hid (below_next T0.out hb1)
    have X1 := Lib.hid (X0.out.keep hb1 lX0)
    have lX1 : w.heap.size < w1.heap.size := by have := hb1.size; omega
    clear X0 T0 lX0
    clear hb1
    obtain ⟨b0, b1, b2, b3, b4⟩ := X1.out
    dsimp only at b0 b1 b2 b3 b4
    go_wp2_with fail
    refine (KR.out _ T1.out).mono ?_
    rintro e w2 ⟨v2, rfl, i2, hb2⟩
    obtain ⟨xrA, xrn, xrc, xsA, xsn, xsc, xfA, xfn, xfc, xpA, xpn, xpc⟩ := v2
    dsimp only [imgV]
    rw [HGD.out]
    have T2 := Lib.hid (below_next T1.out hb2)
    have X2 := Lib.hid (X1.out.keep hb2 lX1)
    have lX2 : w.heap.size < w2.heap.size := by have := hb2.size; omega
    clear b0 b1 b2 b3 b4
    clear X1 T1 lX1
    clear hb2
    have Q2 := Lib.hid i2
    clear i2
    have Y3 := Lib.hid (Box.new w2 m.guest ⟨xrA, xrn, xrc, xsA, xsn, xsc, xfA, xfn, xfc, xpA, xpn, xpc⟩ 26)
    have lY3 : w2.heap.size < (w2.alloc (.cells #[.int .i64 m.guest, .slice xrA xrn xrc, .slice xsA xsn xsc, .slice xfA xfn xfc, .slice xpA xpn xpc] 26)).heap.size := by simp
    have hb3 := below1 w2 (.cells #[.int .i64 m.guest, .slice xrA xrn xrc, .slice xsA xsn xsc, .slice xfA xfn xfc, .slice xpA xpn xpc] 26)
    have T3 := Lib.hid (below_next T2.out hb3)
    have X3 := Lib.hid (X2.out.keep hb3 lX2)
    have lX3 : w.heap.size < (w2.alloc (.cells #[.int .i64 m.guest, .slice xrA xrn xrc, .slice xsA xsn xsc, .slice xfA xfn xfc, .slice xpA xpn xpc] 26)).heap.size := by have := hb3.size; omega
    have Q3 := Lib.hid (Q2.out.next hb3)
    clear X2 Q2 T2 lX2
    clear hb3
    obtain ⟨b0, b1, b2, b3, b4⟩ := X3.out
    dsimp only at b0 b1 b2 b3 b4
    go_wp2_with fail
    refine (KS.out _ T3.out).mono ?_
    rintro e w5 ⟨rfl, hb5⟩
    have T5 := Lib.hid (below_next T3.out hb5)
    have X5 := Lib.hid (X3.out.keep hb5 lX3)
    have lX5 : w.heap.size < w5.heap.size := by have := hb5.size; omega
    have Y5 := Lib.hid (Y3.out.keep hb5 lY3)
    have lY5 : w2.heap.size < w5.heap.size := by have := hb5.size; omega
    have Q5 := Lib.hid (Q3.out.next hb5)
    clear b0 b1 b2 b3 b4
    clear X3 Y3 Q3 T3 lX3 lY3
    clear hb5
    obtain ⟨b0, b1, b2, b3, b4⟩ := X5.out
    dsimp only at b0 b1 b2 b3 b4
    have T5x := Lib.hid T5.out
    have Q5x := Lib.hid Q5.out
    have Y5x := Lib.hid Y5.out
    have lY5x : w2.heap.size < w5.heap.size := lY5
    have lx : w.heap.size < w5.heap.size := lX5
    have ZN := Lib.hid (ZB.new w5)
    have hlz : w5.heap.size < (w5.alloc (.cells #[.int .i64 0, .slice none 0 0, .slice none 0 0, .slice none 0 0, .slice none 0 0] 26)).heap.size := by simp
    have hb6 := below1 w5 (.cells #[.int .i64 0, .slice none 0 0, .slice none 0 0, .slice none 0 0, .slice none 0 0] 26)
    have BN := Lib.hid hb6
    have T6 := Lib.hid (below_next T5.out hb6)
    have X6 := Lib.hid (X5.out.keep hb6 lX5)
    have lX6 : w.heap.size < (w5.alloc (.cells #[.int .i64 0, .slice none 0 0, .slice none 0 0, .slice none 0 0, .slice none 0 0] 26)).heap.size := by have := hb6.size; omega
    have Y6 := Lib.hid (Y5.out.keep hb6 lY5)
    have lY6 : w2.heap.size < (w5.alloc (.cells #[.int .i64 0, .slice none 0 0, .slice none 0 0, .slice none 0 0, .slice none 0 0] 26)).heap.size := by have := hb6.size; omega
    have Q6 := Lib.hid (Q5.out.next hb6)
    clear b0 b1 b2 b3 b4
    clear X5 Y5 Q5 T5 lX5 lY5
    clear hb6
    obtain ⟨b0, b1, b2, b3, b4⟩ := X6.out
    dsimp only at b0 b1 b2 b3 b4
    go_wp2_with fail
    generalize w5.alloc (.cells #[.int .i64 0, .slice none 0 0, .slice none 0 0, .slice none 0 0, .slice none 0 0] 26) = wa at *
    have HBd : Hid (Below w5.heap.size w5 wa.drew) := Lib.hid (BN.out.drew)
    have HBdd := HBd.out
    go_region_held3 (fun w' => w'.cell? ⟨w.heap.size, 0, none⟩ = some (.int .i64 m.guest) ∧ w'.cell? ⟨w.heap.size, 1, none⟩ = some (.slice rA rn rc) ∧ w'.cell? ⟨w.heap.size, 2, none⟩ = some (.slice sA sn sc) ∧ w'.cell? ⟨w.heap.size, 3, none⟩ = some (.slice fA fn fc) ∧ w'.cell? ⟨w.heap.size, 4, none⟩ = some (.slice pA pn pc) ∧ Below w5.heap.size w5 w')
      (first | (with_reducible assumption) | ((repeat (first | (with_reducible apply img_keepN lx hb8) | (with_reducible apply img_keepN lx hb7) | (with_reducible apply img_keepS lx (Nat.le_refl _)) | (with_reducible apply img_keepD))); first | (with_reducible assumption) | (go_split_ands; refine ⟨?_, ?_, ?_, ?_, ?_, ?_⟩ <;> with_reducible assumption) | (refine ⟨?_, ?_, ?_, ?_, ?_, ?_⟩ <;> first | assumption | exact HBd.out)) | (refine ⟨?_, ?_, ?_, ?_, ?_, ?_⟩ <;> first | assumption | exact HBd.out))
      (first | (go_at_call 25; refine (KA.out _ ?_).mono ?_; (refine T5x.out.trans (Below.mono (B := w5.heap.size) ?_ (Nat.le_of_lt lx)); (first | with_reducible assumption | (go_split_ands; with_reducible assumption))); rintro e w7 ⟨rfl, hb7⟩; (have Z7 := (ZN.out.drew').next hb7)) | (go_at_call 26; refine (KB.out _ ?_).mono ?_; (refine T5x.out.trans (Below.mono (B := w5.heap.size) ?_ (Nat.le_of_lt lx)); (first | with_reducible assumption | (go_split_ands; with_reducible assumption))); rintro e w8 ⟨yrA, yrn, yrc, ysA, ysn, ysc, yfA, yfn, yfc, ypA, ypn, ypc, tg8, q8, p8, rfl, i8, hb8⟩; (have Z8 := Z7.next hb8); (obtain ⟨z0, z1, z2, z3, z4⟩ := Z8.cells); (obtain ⟨y0, y1, y2, y3, y4⟩ := Z8.froz)))
    clear b0 b1 b2 b3 b4
    have hd7 : Below wa.heap.size wa w7 := (Below.refl _ _).drew.trans hb7
    have hd8 := below_next hd7 hb8
    have h5 := five Z8.box.1 Z8.box.2 m.guest ⟨yrA, yrn, yrc, ysA, ysn, ysc, yfA, yfn, yfc, ypA, ypn, ypc⟩
    have hs7 := hd8.size
    have hsB := BN.out.size
    have BB : Below w5.heap.size w5 (((((w8.setCell ⟨w5.heap.size, 0, none⟩ (.int .i64 m.guest)).setCell ⟨w5.heap.size, 1, none⟩ (.slice yrA yrn yrc)).setCell ⟨w5.heap.size, 2, none⟩ (.slice ysA ysn ysc)).setCell ⟨w5.heap.size, 3, none⟩ (.slice yfA yfn yfc)).setCell ⟨w5.heap.size, 4, none⟩ (.slice ypA ypn ypc)) := (BN.out.trans (hd8.mono hsB)).grown h5.2.2 (by omega) (fun k e => by injection e with e; omega)
    have O9 := Lib.hid (i8.kept h5.2.2 Z8.box.1.ty (by decide) (by decide) (by decide)).imgR
    have V9 := Lib.hid h5.1
    dsimp only at V9
    have Q9 := Lib.hid (Q5x.out.next BB)
    have Y9 := Lib.hid (Y5x.out.keep BB lY5x)
    have T9 := Lib.hid (T5x.out.trans (BB.mono (Nat.le_of_lt lx)))
    have lV9 : w5.heap.size < (((((w8.setCell ⟨w5.heap.size, 0, none⟩ (.int .i64 m.guest)).setCell ⟨w5.heap.size, 1, none⟩ (.slice yrA yrn yrc)).setCell ⟨w5.heap.size, 2, none⟩ (.slice ysA ysn ysc)).setCell ⟨w5.heap.size, 3, none⟩ (.slice yfA yfn yfc)).setCell ⟨w5.heap.size, 4, none⟩ (.slice ypA ypn ypc)).heap.size := by simp only [World.size_setCell]; have := (Array.getElem?_eq_some_iff.1 Z8.heap).1; omega
    have lY9 : w2.heap.size < (((((w8.setCell ⟨w5.heap.size, 0, none⟩ (.int .i64 m.guest)).setCell ⟨w5.heap.size, 1, none⟩ (.slice yrA yrn yrc)).setCell ⟨w5.heap.size, 2, none⟩ (.slice ysA ysn ysc)).setCell ⟨w5.heap.size, 3, none⟩ (.slice yfA yfn yfc)).setCell ⟨w5.heap.size, 4, none⟩ (.slice ypA ypn ypc)).heap.size := by omega
    clear h5 i8 BB z0 z1 z2 z3 z4 y0 y1 y2 y3 y4 Z7 Z8 hb7 hb8 hd7 hd8
    generalize (((((w8.setCell ⟨w5.heap.size, 0, none⟩ (.int .i64 m.guest)).setCell ⟨w5.heap.size, 1, none⟩ (.slice yrA yrn yrc)).setCell ⟨w5.heap.size, 2, none⟩ (.slice ysA ysn ysc)).setCell ⟨w5.heap.size, 3, none⟩ (.slice yfA yfn yfc)).setCell ⟨w5.heap.size, 4, none⟩ (.slice ypA ypn ypc)) = w9 at *
    go_wp2_with fail
    refine (mendBegun_any _).mono ?_
    rintro e wb ⟨rfl, hbb⟩
    have Ob := Lib.hid (O9.out.next hbb)
    have Qb := Lib.hid (Q9.out.next hbb)
    have Tb := Lib.hid (below_next T9.out hbb)
    obtain ⟨d0, d1, d2, d3, d4⟩ := Y9.out.keep hbb lY9
    obtain ⟨f0, f1, f2, f3, f4⟩ := V9.out.keep hbb lV9
    dsimp only at d0 d1 d2 d3 d4 f0 f1 f2 f3 f4
    clear hbb O9 Q9 T9 Y9 V9
    go_wp2_with fail
    refine (KSS.out ⟨xrA, xrn, xrc, xsA, xsn, xsc, xfA, xfn, xfc, xpA, xpn, xpc⟩ ⟨yrA, yrn, yrc, ysA, ysn, ysc, yfA, yfn, yfc, ypA, ypn, ypc⟩ _ Qb.out Ob.out).mono ?_
    rintro e wc ⟨rfl, hbc⟩
    go_wp2_with fail
    go_ret
    exact ⟨by simp, below_next Tb.out hbc⟩
  · have r1 : repairV m = noImg := by unfold repairV; rw [if_neg he]
    have l1 : leaksV m = 0 := by unfold leaksV; rw [if_neg he]
    have he' : (shapeErr m == 0) = false := by simpa using he
    rw [l1] at KL'
    rw [r1] at KR'
    generalize shapeErr m = er at *
    have KL := Lib.hid KL'
    have KR := Lib.hid KR'
    have KS := Lib.hid KS'
    clear KL' KR' KS' h he r1 l1
    obtain ⟨rA, rn, rc, sA, sn, sc, fA, fn, fc, pA, pn, pc⟩ := v
    dsimp only [imgV] at *
    have T0 := Lib.hid (below1 w (.cells #[.int .i64 m.guest, .slice rA rn rc, .slice sA sn sc, .slice fA fn fc, .slice pA pn pc] 26))
    have X0 := Lib.hid (Box.new w m.guest ⟨rA, rn, rc, sA, sn, sc, fA, fn, fc, pA, pn, pc⟩ 26)
    have lX0 : w.heap.size < (w.alloc (.cells #[.int .i64 m.guest, .slice rA rn rc, .slice sA sn sc, .slice fA fn fc, .slice pA pn pc] 26)).heap.size := by simp
    go_enter Try.func7, Try.ntmps7
    go_wp2_with fail
    refine (KL.out _ T0.out).mono ?_
    rintro e w1 ⟨rfl, hb1⟩
    have T1 := Lib.hid (below_next T0.out hb1)
    have X1 := Lib.hid (X0.out.keep hb1 lX0)
    have lX1 : w.heap.size < w1.heap.size := by have := hb1.size; omega
    clear X0 T0 lX0
    clear hb1
    obtain ⟨b0, b1, b2, b3, b4⟩ := X1.out
    dsimp only at b0 b1 b2 b3 b4
    go_wp2_with fail
    refine (KR.out _ T1.out).mono ?_
    rintro e w2 ⟨v2, rfl, i2, hb2⟩
    obtain ⟨xrA, xrn, xrc, xsA, xsn, xsc, xfA, xfn, xfc, xpA, xpn, xpc⟩ := v2
    dsimp only [imgV, noImg]
    have T2 := Lib.hid (below_next T1.out hb2)
    have X2 := Lib.hid (X1.out.keep hb2 lX1)
    have lX2 : w.heap.size < w2.heap.size := by have := hb2.size; omega
    clear b0 b1 b2 b3 b4
    clear X1 T1 lX1
    clear hb2
    have Q2 := Lib.hid i2
    clear i2
    have Y3 := Lib.hid (Box.new w2 0 ⟨xrA, xrn, xrc, xsA, xsn, xsc, xfA, xfn, xfc, xpA, xpn, xpc⟩ 26)
    have lY3 : w2.heap.size < (w2.alloc (.cells #[.int .i64 0, .slice xrA xrn xrc, .slice xsA xsn xsc, .slice xfA xfn xfc, .slice xpA xpn xpc] 26)).heap.size := by simp
    have hb3 := below1 w2 (.cells #[.int .i64 0, .slice xrA xrn xrc, .slice xsA xsn xsc, .slice xfA xfn xfc, .slice xpA xpn xpc] 26)
    have T3 := Lib.hid (below_next T2.out hb3)
    have X3 := Lib.hid (X2.out.keep hb3 lX2)
    have lX3 : w.heap.size < (w2.alloc (.cells #[.int .i64 0, .slice xrA xrn xrc, .slice xsA xsn xsc, .slice xfA xfn xfc, .slice xpA xpn xpc] 26)).heap.size := by have := hb3.size; omega
    have Q3 := Lib.hid (Q2.out.next hb3)
    clear X2 Q2 T2 lX2
    clear hb3
    obtain ⟨b0, b1, b2, b3, b4⟩ := X3.out
    dsimp only at b0 b1 b2 b3 b4
    go_wp2_with fail
    refine (KS.out _ T3.out).mono ?_
    rintro e w5 ⟨rfl, hb5⟩
    have T5 := Lib.hid (below_next T3.out hb5)
    have X5 := Lib.hid (X3.out.keep hb5 lX3)
    have lX5 : w.heap.size < w5.heap.size := by have := hb5.size; omega
    have Y5 := Lib.hid (Y3.out.keep hb5 lY3)
    have lY5 : w2.heap.size < w5.heap.size := by have := hb5.size; omega
    have Q5 := Lib.hid (Q3.out.next hb5)
    clear b0 b1 b2 b3 b4
    clear X3 Y3 Q3 T3 lX3 lY3
    clear hb5
    have V6 := Lib.hid (ZB.new w5).cells
    have hlz : w5.heap.size < (w5.alloc (.cells #[.int .i64 0, .slice none 0 0, .slice none 0 0, .slice none 0 0, .slice none 0 0] 26)).heap.size := by simp
    have hb6 := below1 w5 (.cells #[.int .i64 0, .slice none 0 0, .slice none 0 0, .slice none 0 0, .slice none 0 0] 26)
    have T6 := Lib.hid (below_next T5.out hb6)
    have X6 := Lib.hid (X5.out.keep hb6 lX5)
    have lX6 : w.heap.size < (w5.alloc (.cells #[.int .i64 0, .slice none 0 0, .slice none 0 0, .slice none 0 0, .slice none 0 0] 26)).heap.size := by have := hb6.size; omega
    have Y6 := Lib.hid (Y5.out.keep hb6 lY5)
    have lY6 : w2.heap.size < (w5.alloc (.cells #[.int .i64 0, .slice none 0 0, .slice none 0 0, .slice none 0 0, .slice none 0 0] 26)).heap.size := by have := hb6.size; omega
    have Q6 := Lib.hid (Q5.out.next hb6)
    clear X5 Y5 Q5 T5 lX5 lY5
    clear hb6
    have V7 := Lib.hid (show Box _ w5.heap.size 0 noV from V6.out)
    clear V6
    go_wp2_with fail
    refine (mendBegun_any _).mono ?_
    rintro e wb ⟨rfl, hbb⟩
    have T8 := Lib.hid (below_next T6.out hbb)
    have X8 := Lib.hid (X6.out.keep hbb lX6)
    have lX8 : w.heap.size < wb.heap.size := by have := hbb.size; omega
    have Y8 := Lib.hid (Y6.out.keep hbb lY6)
    have lY8 : w2.heap.size < wb.heap.size := by have := hbb.size; omega
    have V8 := Lib.hid (V7.out.keep hbb hlz)
    have lV8 : w5.heap.size < wb.heap.size := by have := hbb.size; omega
    have Q8 := Lib.hid (Q6.out.next hbb)
    clear X6 Y6 V7 Q6 T6 lX6 lY6 hlz
    clear hbb
    obtain ⟨d0, d1, d2, d3, d4⟩ := Y8.out
    dsimp only at d0 d1 d2 d3 d4
    obtain ⟨f0, f1, f2, f3, f4⟩ := V8.out
    dsimp only [noV] at f1 f2 f3 f4
    go_wp2_with fail
    have KSS := sameImg_any ⟨xrA, xrn, xrc, xsA, xsn, xsc, xfA, xfn, xfc, xpA, xpn, xpc⟩ noV noImg wb Q8.out (noImg_R wb)
    dsimp only [imgV, noImg, noV] at KSS
    refine KSS.mono ?_
    rintro e wc ⟨rfl, hbc⟩
    go_wp2_with fail
    go_ret
    exact ⟨by simp, below_next T8.out hbc⟩
end Go.Proofs.Ytnjjnioilbnnpaa
