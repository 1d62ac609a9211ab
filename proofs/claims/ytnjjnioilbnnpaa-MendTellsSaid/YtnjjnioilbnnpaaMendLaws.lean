/- The law MendTrue, walked. Conditions: the image is read below the heap's size. -/
import Derived.Test.YtnjjnioilbnnpaaMendBegun
import Derived.Test.YtnjjnioilbnnpaaTreeTrue
import Derived.IntWalk
namespace Go.Proofs.Ytnjjnioilbnnpaa
open Go.RowKit Sl

theorem entOk_sound {m : Img} (h : Sound m) {g : Int} {r : List Int} (hr : rootFine m.slots g r = true) {n : Nat} (hn : (n : Int) < g) : EntOk m.slots r n := by
  obtain ⟨h1, h2⟩ := rootFine_both hr
  have hlt : n / 4 < r.length := by unfold wants at h1; omega
  refine ⟨hlt, ?_⟩
  rcases rootAt_or (h2 _ hlt) with h3 | h3
  · exact .inl h3
  · obtain ⟨k, s, e, k1, ks, kk⟩ := kindOf_in (x := int r (n / 4)) (l := m.slots) (by simp [h3])
    have hl := (List.getElem?_eq_some_iff.1 ks).1
    rw [e]
    refine .inr ⟨by omega, by omega, ?_⟩
    rw [tableAt_at ks, slot_table h.slots ks kk]; omega

theorem sound_own {m : Img} (h : Sound m) : rootFine m.slots m.guest m.root = true := by
  have := h.roots
  unfold rootsOk at this
  rw [Bool.and_eq_true] at this
  exact this.1
theorem read_settled {m : Img} (hS : Sound m) (hR : checkErr (settled m) = 0) {k : Nat} (hk : (k : Int) < m.guest) : lookE (settled m) (k : Nat) = 0 ∧ readV (settled m) (k : Nat) = pageV m.slots (entryOf m.slots m.root k) := by
  have hl := (look_ok hR (n := k) hk).1
  refine ⟨hl, ?_⟩
  rw [read_ok hl]
  have := settled_entry hS (r := m.root) (List.mem_cons_self ..) (n := k) (entOk_sound hS (sound_own hS) hk).lt
  show pageV (settled m).slots (entryOf (settled m).slots m.root k) = _
  rw [this.1, this.2]
set_option maxRecDepth 100000 in
set_option maxHeartbeats 8000000 in
theorem law_mendTrue (v : IV) (m : Img) (x : Int) (w : World) (h : ImgR w w.heap.size v m) (i1 : -9223372036854775808 ≤ x) (i2 : x ≤ 9223372036854775807) :
    Calls Try.prog 8 #[imgV m v, .int .i64 x] w fun e w' => e = .returned (.bool true) ∧ Below w.heap.size w w' := by
  have KR' := fun W (hb : Below w.heap.size w W) => repair_any v m W (h.next hb)
  by_cases he : shapeErr m = 0
  · have hS := sound_of he
    have hT := settled_sound hS
    have hR := settled_right hS
    have hTs : shapeErr (settled m) = 0 := (check_is hR).1
    have r1 : repairV m = settled m := by unfold repairV; rw [if_pos he]
    have r2 : repairV (settled m) = settled m := by unfold repairV; rw [if_pos hTs]; exact settled_id hR
    have l1 : leaksV m = (leaksN m : Nat) := by unfold leaksV; rw [if_pos he]
    have l2 : leaksV (settled m) = 0 := by unfold leaksV; rw [if_pos hTs, leaks_none]; rfl
    have u1 : usedN m.slots = (used m.slots : Nat) := by unfold usedN; rw [if_pos hS.slots]
    have u2 : usedN (settled m).slots = (used (settled m).slots : Nat) := by unfold usedN; rw [if_pos hT.slots]
    have ua := Sl.used_all (m := m)
    have ul := used_le m.slots
    have h40 := hS.cbd.slots
    have hgd : (settled m).guest = m.guest := rfl
    have KL := fun v W (hI : ImgR W W.heap.size v (settled m)) => leaks_any v (settled m) W hI
    have KY := fun v W (hI : ImgR W W.heap.size v (settled m)) => repair_any v (settled m) W hI
    have KU := fun W (hb : Below w.heap.size w W) => used_any v.sA v.sn v.sc m.slots W (h.next hb).slots h.scap.1
    have KV := fun (v : IV) W (hI : ImgR W W.heap.size v (settled m)) => used_any v.sA v.sn v.sc (settled m).slots W hI.slots hI.scap.1
    have KM := fun W (hb : Below w.heap.size w W) => leaks_any v m W (h.next hb)
    have KC := fun v W (hI : ImgR W W.heap.size v (settled m)) => tcheck_any v (settled m) W hI
    have KS := fun v v2 W (hI : ImgR W W.heap.size v (settled m)) (hI2 : ImgR W W.heap.size v2 (settled m)) => sameImg_any v v2 (settled m) W hI hI2
    have KD := fun W (hb : Below w.heap.size w W) => tcheck_any v m W (h.next hb)
    have KN := fun v2 W (hI : ImgR W W.heap.size v2 (settled m)) (hb : Below w.heap.size w W) (hck : checkErr m = 0) => sameImg_any v2 v m W (by rw [settled_id hck] at hI; exact hI) (h.next hb)
    rw [hTs, l2] at KL
    rw [hTs, r2] at KY
    rw [hS.slots, u1] at KU
    rw [hT.slots, u2] at KV
    rw [he, l1] at KM
    rw [hR] at KC
    rw [he, r1] at KR'
    have HS := Lib.hid hS
    have HR := Lib.hid hR
    have HI := Lib.hid h
    have huu : (used m.slots : Int) = (used (settled m).slots : Int) + (leaksN m : Int) := by omega
    have KRd := fun (v : IV) W (y : Int) (hI : ImgR W W.heap.size v (settled m)) => tread_any v (settled m) y W hI
    have KO := fun W (k : Nat) (hb : Below w.heap.size w W) (e1 : EntOk m.slots m.root k) (e2 : PageOk m.slots (entryOf m.slots m.root k)) => rreadOf_any v m k W (h.next hb) e1 e2
    have KRD := Lib.hid (fun (k : Nat) (hk : (k : Int) < m.guest) => read_settled hS hR hk)
    have hgo := hS.guests
    unfold guestsOk at hgo
    rw [Bool.and_eq_true] at hgo
    obtain ⟨gg0, gg16⟩ := guestOk_both hgo.1
    have KE := Lib.hid (fun (k : Nat) (hk : (k : Int) < m.guest) => And.intro (entOk_sound hS (sound_own hS) hk) (sound_page hS (r := m.root) k))
    clear h hS hT hR hTs r1 r2 l1 l2 u1 u2 ua hgo
    generalize settled m = z at *
    generalize hus : used m.slots = us at *
    generalize huz : used z.slots = uz at *
    generalize hlk : leaksN m = lk at *
    clear hus huz hlk
    simp only [imgV, hgd] at KL KY KC KS KRd
    have HGD := Lib.hid hgd
    clear hgd
    have HKL := Lib.hid KL
    have HKY := Lib.hid KY
    have HKU := Lib.hid KU
    have HKV := Lib.hid KV
    have HKM := Lib.hid KM
    have HKC := Lib.hid KC
    have HKS := Lib.hid KS
    have HKD := Lib.hid KD
    have HKN := Lib.hid KN
    have HKRd := Lib.hid KRd
    have HKO := Lib.hid KO
    have HKR := Lib.hid KR'
    clear KL KY KU KV KM KC KS KD KN KRd KO KR'
    obtain ⟨rA, rn, rc, sA, sn, sc, fA, fn, fc, pA, pn, pc⟩ := v
    dsimp only [imgV] at *
    have T0 := Lib.hid (below1 w (.cells #[.int .i64 m.guest, .slice rA rn rc, .slice sA sn sc, .slice fA fn fc, .slice pA pn pc] 26))
    have X0 := Lib.hid (Box.new w m.guest ⟨rA, rn, rc, sA, sn, sc, fA, fn, fc, pA, pn, pc⟩ 26)
    have lX0 : w.heap.size < (w.alloc (.cells #[.int .i64 m.guest, .slice rA rn rc, .slice sA sn sc, .slice fA fn fc, .slice pA pn pc] 26)).heap.size := by simp
    go_enter Try.func8, Try.ntmps8
    go_wp2_with fail
    refine (HKR.out _ T0.out).mono ?_
    rintro e w2 ⟨v2, rfl, i2, hb2⟩
    obtain ⟨xrA, xrn, xrc, xsA, xsn, xsc, xfA, xfn, xfc, xpA, xpn, xpc⟩ := v2
    dsimp only [imgV]
    rw [HGD.out]
    have T2 := Lib.hid (below_next T0.out hb2)
    have X2 := Lib.hid (X0.out.keep hb2 lX0)
    have lX2 : w.heap.size < w2.heap.size := by have := hb2.size; omega
    clear X0 T0 lX0
    clear hb2
    have Q2 := Lib.hid i2
    clear i2
    have Y3 := Lib.hid (Box.new w2 m.guest ⟨xrA, xrn, xrc, xsA, xsn, xsc, xfA, xfn, xfc, xpA, xpn, xpc⟩ 26)
    have lY3 : w2.heap.size < (w2.alloc (.cells #[.int .i64 m.guest, .slice xrA xrn xrc, .slice xsA xsn xsc, .slice xfA xfn xfc, .slice xpA xpn xpc] 26)).heap.size := by simp
    have hb3 := below1 w2 (.cells #[.int .i64 m.guest, .slice xrA xrn xrc, .slice xsA xsn xsc, .slice xfA xfn xfc, .slice xpA xpn xpc] 26)
    have T3 := Lib.hid (below_next T2.out hb3)
    have X3 := Lib.hid (X2.out.keep hb3 lX2)
    have lX3 : w.heap.size < (w2.alloc (.cells #[.int .i64 m.guest, .slice xrA xrn xrc, .slice xsA xsn xsc, .slice xfA xfn xfc, .slice xpA xpn xpc] 26)).heap.size := by have := hb3.size; omega
    have Q3 := Lib.hid (Q2.out.next hb3)
    clear X2 Q2 T2 lX2
    clear hb3
    obtain ⟨b0, b1, b2, b3, b4⟩ := X3.out
    dsimp only at b0 b1 b2 b3 b4
    obtain ⟨d0, d1, d2, d3, d4⟩ := Y3.out
    dsimp only at d0 d1 d2 d3 d4
    go_wp2_with fail
    refine (HKL.out ⟨xrA, xrn, xrc, xsA, xsn, xsc, xfA, xfn, xfc, xpA, xpn, xpc⟩ _ Q3.out).mono ?_
    rintro e w4 ⟨rfl, hb4⟩
    have T4 := Lib.hid (below_next T3.out hb4)
    have X4 := Lib.hid (X3.out.keep hb4 lX3)
    have lX4 : w.heap.size < w4.heap.size := by have := hb4.size; omega
    have Y4 := Lib.hid (Y3.out.keep hb4 lY3)
    have lY4 : w2.heap.size < w4.heap.size := by have := hb4.size; omega
    have Q4 := Lib.hid (Q3.out.next hb4)
    clear b0 b1 b2 b3 b4 d0 d1 d2 d3 d4
    clear X3 Y3 Q3 T3 lX3 lY3
    clear hb4
    obtain ⟨b0, b1, b2, b3, b4⟩ := X4.out
    dsimp only at b0 b1 b2 b3 b4
    obtain ⟨d0, d1, d2, d3, d4⟩ := Y4.out
    dsimp only at d0 d1 d2 d3 d4
    go_wp2_with fail
    refine (HKY.out ⟨xrA, xrn, xrc, xsA, xsn, xsc, xfA, xfn, xfc, xpA, xpn, xpc⟩ _ Q4.out).mono ?_
    rintro e w5 ⟨v3, rfl, i5, hb5⟩
    obtain ⟨yrA, yrn, yrc, ysA, ysn, ysc, yfA, yfn, yfc, ypA, ypn, ypc⟩ := v3
    dsimp only [imgV]
    rw [HGD.out]
    have T5 := Lib.hid (below_next T4.out hb5)
    have X5 := Lib.hid (X4.out.keep hb5 lX4)
    have lX5 : w.heap.size < w5.heap.size := by have := hb5.size; omega
    have Y5 := Lib.hid (Y4.out.keep hb5 lY4)
    have lY5 : w2.heap.size < w5.heap.size := by have := hb5.size; omega
    have Q5 := Lib.hid (Q4.out.next hb5)
    clear b0 b1 b2 b3 b4 d0 d1 d2 d3 d4
    clear X4 Y4 Q4 T4 lX4 lY4
    clear hb5
    have P5 := Lib.hid i5
    clear i5
    have V6 := Lib.hid (Box.new w5 m.guest ⟨yrA, yrn, yrc, ysA, ysn, ysc, yfA, yfn, yfc, ypA, ypn, ypc⟩ 26)
    have lV6 : w5.heap.size < (w5.alloc (.cells #[.int .i64 m.guest, .slice yrA yrn yrc, .slice ysA ysn ysc, .slice yfA yfn yfc, .slice ypA ypn ypc] 26)).heap.size := by simp
    have hb6 := below1 w5 (.cells #[.int .i64 m.guest, .slice yrA yrn yrc, .slice ysA ysn ysc, .slice yfA yfn yfc, .slice ypA ypn ypc] 26)
    have T6 := Lib.hid (below_next T5.out hb6)
    have X6 := Lib.hid (X5.out.keep hb6 lX5)
    have lX6 : w.heap.size < (w5.alloc (.cells #[.int .i64 m.guest, .slice yrA yrn yrc, .slice ysA ysn ysc, .slice yfA yfn yfc, .slice ypA ypn ypc] 26)).heap.size := by have := hb6.size; omega
    have Y6 := Lib.hid (Y5.out.keep hb6 lY5)
    have lY6 : w2.heap.size < (w5.alloc (.cells #[.int .i64 m.guest, .slice yrA yrn yrc, .slice ysA ysn ysc, .slice yfA yfn yfc, .slice ypA ypn ypc] 26)).heap.size := by have := hb6.size; omega
    have Q6 := Lib.hid (Q5.out.next hb6)
    have P6 := Lib.hid (P5.out.next hb6)
    clear X5 Y5 Q5 P5 T5 lX5 lY5
    clear hb6
    obtain ⟨b0, b1, b2, b3, b4⟩ := X6.out
    dsimp only at b0 b1 b2 b3 b4
    obtain ⟨d0, d1, d2, d3, d4⟩ := Y6.out
    dsimp only at d0 d1 d2 d3 d4
    obtain ⟨f0, f1, f2, f3, f4⟩ := V6.out
    dsimp only at f0 f1 f2 f3 f4
    go_wp2_with fail
    refine (HKU.out _ T6.out).mono ?_
    rintro e w7 ⟨rfl, hb7⟩
    have T7 := Lib.hid (below_next T6.out hb7)
    have X7 := Lib.hid (X6.out.keep hb7 lX6)
    have lX7 : w.heap.size < w7.heap.size := by have := hb7.size; omega
    have Y7 := Lib.hid (Y6.out.keep hb7 lY6)
    have lY7 : w2.heap.size < w7.heap.size := by have := hb7.size; omega
    have V7 := Lib.hid (V6.out.keep hb7 lV6)
    have lV7 : w5.heap.size < w7.heap.size := by have := hb7.size; omega
    have Q7 := Lib.hid (Q6.out.next hb7)
    have P7 := Lib.hid (P6.out.next hb7)
    clear b0 b1 b2 b3 b4 d0 d1 d2 d3 d4 f0 f1 f2 f3 f4
    clear X6 Y6 V6 Q6 P6 T6 lX6 lY6 lV6
    clear hb7
    obtain ⟨b0, b1, b2, b3, b4⟩ := X7.out
    dsimp only at b0 b1 b2 b3 b4
    obtain ⟨d0, d1, d2, d3, d4⟩ := Y7.out
    dsimp only at d0 d1 d2 d3 d4
    obtain ⟨f0, f1, f2, f3, f4⟩ := V7.out
    dsimp only at f0 f1 f2 f3 f4
    go_wp2_with fail
    refine (HKV.out ⟨xrA, xrn, xrc, xsA, xsn, xsc, xfA, xfn, xfc, xpA, xpn, xpc⟩ _ Q7.out).mono ?_
    rintro e w8 ⟨rfl, hb8⟩
    have T8 := Lib.hid (below_next T7.out hb8)
    have X8 := Lib.hid (X7.out.keep hb8 lX7)
    have lX8 : w.heap.size < w8.heap.size := by have := hb8.size; omega
    have Y8 := Lib.hid (Y7.out.keep hb8 lY7)
    have lY8 : w2.heap.size < w8.heap.size := by have := hb8.size; omega
    have V8 := Lib.hid (V7.out.keep hb8 lV7)
    have lV8 : w5.heap.size < w8.heap.size := by have := hb8.size; omega
    have Q8 := Lib.hid (Q7.out.next hb8)
    have P8 := Lib.hid (P7.out.next hb8)
    clear b0 b1 b2 b3 b4 d0 d1 d2 d3 d4 f0 f1 f2 f3 f4
    clear X7 Y7 V7 Q7 P7 T7 lX7 lY7 lV7
    clear hb8
    obtain ⟨b0, b1, b2, b3, b4⟩ := X8.out
    dsimp only at b0 b1 b2 b3 b4
    obtain ⟨d0, d1, d2, d3, d4⟩ := Y8.out
    dsimp only at d0 d1 d2 d3 d4
    obtain ⟨f0, f1, f2, f3, f4⟩ := V8.out
    dsimp only at f0 f1 f2 f3 f4
    go_wp2_with fail
    refine (HKM.out _ T8.out).mono ?_
    rintro e w9 ⟨rfl, hb9⟩
    have T9 := Lib.hid (below_next T8.out hb9)
    have X9 := Lib.hid (X8.out.keep hb9 lX8)
    have lX9 : w.heap.size < w9.heap.size := by have := hb9.size; omega
    have Y9 := Lib.hid (Y8.out.keep hb9 lY8)
    have lY9 : w2.heap.size < w9.heap.size := by have := hb9.size; omega
    have V9 := Lib.hid (V8.out.keep hb9 lV8)
    have lV9 : w5.heap.size < w9.heap.size := by have := hb9.size; omega
    have Q9 := Lib.hid (Q8.out.next hb9)
    have P9 := Lib.hid (P8.out.next hb9)
    clear b0 b1 b2 b3 b4 d0 d1 d2 d3 d4 f0 f1 f2 f3 f4
    clear X8 Y8 V8 Q8 P8 T8 lX8 lY8 lV8
    clear hb9
    obtain ⟨b0, b1, b2, b3, b4⟩ := X9.out
    dsimp only at b0 b1 b2 b3 b4
    obtain ⟨d0, d1, d2, d3, d4⟩ := Y9.out
    dsimp only at d0 d1 d2 d3 d4
    obtain ⟨f0, f1, f2, f3, f4⟩ := V9.out
    dsimp only at f0 f1 f2 f3 f4
    go_wp2_with fail
    refine (HKC.out ⟨xrA, xrn, xrc, xsA, xsn, xsc, xfA, xfn, xfc, xpA, xpn, xpc⟩ _ Q9.out).mono ?_
    rintro e w10 ⟨rfl, hb10⟩
    have T10 := Lib.hid (below_next T9.out hb10)
    have X10 := Lib.hid (X9.out.keep hb10 lX9)
    have lX10 : w.heap.size < w10.heap.size := by have := hb10.size; omega
    have Y10 := Lib.hid (Y9.out.keep hb10 lY9)
    have lY10 : w2.heap.size < w10.heap.size := by have := hb10.size; omega
    have V10 := Lib.hid (V9.out.keep hb10 lV9)
    have lV10 : w5.heap.size < w10.heap.size := by have := hb10.size; omega
    have Q10 := Lib.hid (Q9.out.next hb10)
    have P10 := Lib.hid (P9.out.next hb10)
    clear b0 b1 b2 b3 b4 d0 d1 d2 d3 d4 f0 f1 f2 f3 f4
    clear X9 Y9 V9 Q9 P9 T9 lX9 lY9 lV9
    clear hb10
    obtain ⟨b0, b1, b2, b3, b4⟩ := X10.out
    dsimp only at b0 b1 b2 b3 b4
    obtain ⟨d0, d1, d2, d3, d4⟩ := Y10.out
    dsimp only at d0 d1 d2 d3 d4
    obtain ⟨f0, f1, f2, f3, f4⟩ := V10.out
    dsimp only at f0 f1 f2 f3 f4
    go_wp2_with fail
    refine (HKS.out ⟨xrA, xrn, xrc, xsA, xsn, xsc, xfA, xfn, xfc, xpA, xpn, xpc⟩ ⟨yrA, yrn, yrc, ysA, ysn, ysc, yfA, yfn, yfc, ypA, ypn, ypc⟩ _ Q10.out P10.out).mono ?_
    rintro e w11 ⟨rfl, hb11⟩
    have T11 := Lib.hid (below_next T10.out hb11)
    have X11 := Lib.hid (X10.out.keep hb11 lX10)
    have lX11 : w.heap.size < w11.heap.size := by have := hb11.size; omega
    have Y11 := Lib.hid (Y10.out.keep hb11 lY10)
    have lY11 : w2.heap.size < w11.heap.size := by have := hb11.size; omega
    have V11 := Lib.hid (V10.out.keep hb11 lV10)
    have lV11 : w5.heap.size < w11.heap.size := by have := hb11.size; omega
    have Q11 := Lib.hid (Q10.out.next hb11)
    have P11 := Lib.hid (P10.out.next hb11)
    clear b0 b1 b2 b3 b4 d0 d1 d2 d3 d4 f0 f1 f2 f3 f4
    clear X10 Y10 V10 Q10 P10 T10 lX10 lY10 lV10
    clear hb11
    obtain ⟨b0, b1, b2, b3, b4⟩ := X11.out
    dsimp only at b0 b1 b2 b3 b4
    obtain ⟨d0, d1, d2, d3, d4⟩ := Y11.out
    dsimp only at d0 d1 d2 d3 d4
    obtain ⟨f0, f1, f2, f3, f4⟩ := V11.out
    dsimp only at f0 f1 f2 f3 f4
    have hw : IntKind.i64.wrap ((us : Int) - (uz : Int)) = (lk : Int) := by rw [IntWalk.i64_in _ (by omega)]; omega
    go_wp2_with fail
    clear hw
    by_cases hck : checkErr m = 0
    · have HKD0 := HKD.out
      rw [hck] at HKD0
      have HKD1 := Lib.hid HKD0
      have HKN1 := Lib.hid (fun v2 W hI hb => HKN.out v2 W hI hb hck)
      clear HKD0 hck
      refine (HKD1.out _ T11.out).mono ?_
      rintro e w12 ⟨rfl, hb12⟩
      have T12 := Lib.hid (below_next T11.out hb12)
      have X12 := Lib.hid (X11.out.keep hb12 lX11)
      have lX12 : w.heap.size < w12.heap.size := by have := hb12.size; omega
      have Y12 := Lib.hid (Y11.out.keep hb12 lY11)
      have lY12 : w2.heap.size < w12.heap.size := by have := hb12.size; omega
      have V12 := Lib.hid (V11.out.keep hb12 lV11)
      have lV12 : w5.heap.size < w12.heap.size := by have := hb12.size; omega
      have Q12 := Lib.hid (Q11.out.next hb12)
      have P12 := Lib.hid (P11.out.next hb12)
      clear b0 b1 b2 b3 b4 d0 d1 d2 d3 d4 f0 f1 f2 f3 f4
      clear X11 Y11 V11 Q11 P11 T11 lX11 lY11 lV11
      clear hb12
      obtain ⟨b0, b1, b2, b3, b4⟩ := X12.out
      dsimp only at b0 b1 b2 b3 b4
      obtain ⟨d0, d1, d2, d3, d4⟩ := Y12.out
      dsimp only at d0 d1 d2 d3 d4
      go_wp2_with fail
      refine (HKN1.out ⟨xrA, xrn, xrc, xsA, xsn, xsc, xfA, xfn, xfc, xpA, xpn, xpc⟩ _ Q12.out T12.out).mono ?_
      rintro e w13 ⟨rfl, hb13⟩
      have T13 := Lib.hid (below_next T12.out hb13)
      have X13 := Lib.hid (X12.out.keep hb13 lX12)
      have lX13 : w.heap.size < w13.heap.size := by have := hb13.size; omega
      have Y13 := Lib.hid (Y12.out.keep hb13 lY12)
      have lY13 : w2.heap.size < w13.heap.size := by have := hb13.size; omega
      have V13 := Lib.hid (V12.out.keep hb13 lV12)
      have lV13 : w5.heap.size < w13.heap.size := by have := hb13.size; omega
      have Q13 := Lib.hid (Q12.out.next hb13)
      have P13 := Lib.hid (P12.out.next hb13)
      clear b0 b1 b2 b3 b4 d0 d1 d2 d3 d4
      clear X12 Y12 V12 Q12 P12 T12 lX12 lY12 lV12
      clear hb13
      by_cases hg : m.guest < 1
      · obtain ⟨b0, b1, b2, b3, b4⟩ := X13.out
        dsimp only at b0 b1 b2 b3 b4
        go_wp2_with fail
        refine (mendBegun_any _).mono ?_
        rintro e w20 ⟨rfl, hb20⟩
        go_wp2_with fail
        go_ret
        exact ⟨rfl, below_next T13.out hb20⟩
      · obtain ⟨q1, q2⟩ := chooseOf_in x m.guest (by omega)
        obtain ⟨k, hk⟩ := Int.eq_ofNat_of_zero_le q1
        have KC0 := fun W => choose_any x m.guest W i1 i2 (by omega) (by omega)
        rw [hk] at KC0 q2
        obtain ⟨rd1, rd2⟩ := KRD.out k q2
        obtain ⟨ke1, ke2⟩ := KE.out k q2
        have KF := Lib.hid (fun W (hI : ImgR W W.heap.size ⟨xrA, xrn, xrc, xsA, xsn, xsc, xfA, xfn, xfc, xpA, xpn, xpc⟩ z) => HKRd.out ⟨xrA, xrn, xrc, xsA, xsn, xsc, xfA, xfn, xfc, xpA, xpn, xpc⟩ W (k : Nat) hI)
        have KG := Lib.hid (fun W (hb : Below w.heap.size w W) => HKO.out W k hb ke1 ke2)
        have KC1 := Lib.hid KC0
        rw [rd1, rd2] at KF
        generalize pageV m.slots (entryOf m.slots m.root k) = pg at KF KG
        have hg' : ¬ m.guest < 1 := hg
        have hg2 : 1 ≤ m.guest := by omega
        have hg3 : decide (m.guest < 1) = false := decide_eq_false hg
        clear hg' hg
        clear KC0 rd1 rd2 ke1 ke2 hk q1
        obtain ⟨b0, b1, b2, b3, b4⟩ := X13.out
        dsimp only at b0 b1 b2 b3 b4
        go_wp2_with fail
        refine (KC1.out _).mono ?_
        rintro e w20 ⟨rfl, rfl⟩
        obtain ⟨d0, d1, d2, d3, d4⟩ := Y13.out
        dsimp only at d0 d1 d2 d3 d4
        go_wp2_with fail
        refine (KF.out _ Q13.out).mono ?_
        rintro e w21 ⟨rfl, hb21⟩
        have T21 := Lib.hid (below_next T13.out hb21)
        have X21 := Lib.hid (X13.out.keep hb21 lX13)
        have lX21 : w.heap.size < w21.heap.size := by have := hb21.size; omega
        have Y21 := Lib.hid (Y13.out.keep hb21 lY13)
        have lY21 : w2.heap.size < w21.heap.size := by have := hb21.size; omega
        have V21 := Lib.hid (V13.out.keep hb21 lV13)
        have lV21 : w5.heap.size < w21.heap.size := by have := hb21.size; omega
        have Q21 := Lib.hid (Q13.out.next hb21)
        have P21 := Lib.hid (P13.out.next hb21)
        clear b0 b1 b2 b3 b4 d0 d1 d2 d3 d4
        clear X13 Y13 V13 Q13 P13 T13 lX13 lY13 lV13
        clear hb21
        obtain ⟨b0, b1, b2, b3, b4⟩ := X21.out
        dsimp only at b0 b1 b2 b3 b4
        go_wp2_with fail
        refine (mendBegun_any _).mono ?_
        rintro e w22 ⟨rfl, hb22⟩
        have T22 := Lib.hid (below_next T21.out hb22)
        have X22 := Lib.hid (X21.out.keep hb22 lX21)
        have lX22 : w.heap.size < w22.heap.size := by have := hb22.size; omega
        have Y22 := Lib.hid (Y21.out.keep hb22 lY21)
        have lY22 : w2.heap.size < w22.heap.size := by have := hb22.size; omega
        have V22 := Lib.hid (V21.out.keep hb22 lV21)
        have lV22 : w5.heap.size < w22.heap.size := by have := hb22.size; omega
        have Q22 := Lib.hid (Q21.out.next hb22)
        have P22 := Lib.hid (P21.out.next hb22)
        clear b0 b1 b2 b3 b4
        clear X21 Y21 V21 Q21 P21 T21 lX21 lY21 lV21
        clear hb22
        obtain ⟨b0, b1, b2, b3, b4⟩ := X22.out
        dsimp only at b0 b1 b2 b3 b4
        go_wp2_with fail
        refine (KG.out _ T22.out).mono ?_
        rintro e w23 ⟨rfl, hb23⟩
        go_wp2_with fail
        go_ret
        exact ⟨by simp, below_next T22.out hb23⟩
    · have hck' : (checkErr m == 0) = false := by simpa using hck
      have HKD0 := HKD.out
      generalize checkErr m = ce at HKD0 hck'
      have HKD1 := Lib.hid HKD0
      clear HKD0 hck
      refine (HKD1.out _ T11.out).mono ?_
      rintro e w12 ⟨rfl, hb12⟩
      have T12 := Lib.hid (below_next T11.out hb12)
      have X12 := Lib.hid (X11.out.keep hb12 lX11)
      have lX12 : w.heap.size < w12.heap.size := by have := hb12.size; omega
      have Y12 := Lib.hid (Y11.out.keep hb12 lY11)
      have lY12 : w2.heap.size < w12.heap.size := by have := hb12.size; omega
      have V12 := Lib.hid (V11.out.keep hb12 lV11)
      have lV12 : w5.heap.size < w12.heap.size := by have := hb12.size; omega
      have Q12 := Lib.hid (Q11.out.next hb12)
      have P12 := Lib.hid (P11.out.next hb12)
      clear b0 b1 b2 b3 b4 d0 d1 d2 d3 d4 f0 f1 f2 f3 f4
      clear X11 Y11 V11 Q11 P11 T11 lX11 lY11 lV11
      clear hb12
      by_cases hg : m.guest < 1
      · obtain ⟨b0, b1, b2, b3, b4⟩ := X12.out
        dsimp only at b0 b1 b2 b3 b4
        go_wp2_with fail
        refine (mendBegun_any _).mono ?_
        rintro e w20 ⟨rfl, hb20⟩
        go_wp2_with fail
        go_ret
        exact ⟨rfl, below_next T12.out hb20⟩
      · obtain ⟨q1, q2⟩ := chooseOf_in x m.guest (by omega)
        obtain ⟨k, hk⟩ := Int.eq_ofNat_of_zero_le q1
        have KC0 := fun W => choose_any x m.guest W i1 i2 (by omega) (by omega)
        rw [hk] at KC0 q2
        obtain ⟨rd1, rd2⟩ := KRD.out k q2
        obtain ⟨ke1, ke2⟩ := KE.out k q2
        have KF := Lib.hid (fun W (hI : ImgR W W.heap.size ⟨xrA, xrn, xrc, xsA, xsn, xsc, xfA, xfn, xfc, xpA, xpn, xpc⟩ z) => HKRd.out ⟨xrA, xrn, xrc, xsA, xsn, xsc, xfA, xfn, xfc, xpA, xpn, xpc⟩ W (k : Nat) hI)
        have KG := Lib.hid (fun W (hb : Below w.heap.size w W) => HKO.out W k hb ke1 ke2)
        have KC1 := Lib.hid KC0
        rw [rd1, rd2] at KF
        generalize pageV m.slots (entryOf m.slots m.root k) = pg at KF KG
        have hg' : ¬ m.guest < 1 := hg
        have hg2 : 1 ≤ m.guest := by omega
        have hg3 : decide (m.guest < 1) = false := decide_eq_false hg
        clear hg' hg
        clear KC0 rd1 rd2 ke1 ke2 hk q1
        obtain ⟨b0, b1, b2, b3, b4⟩ := X12.out
        dsimp only at b0 b1 b2 b3 b4
        go_wp2_with fail
        refine (KC1.out _).mono ?_
        rintro e w20 ⟨rfl, rfl⟩
        obtain ⟨d0, d1, d2, d3, d4⟩ := Y12.out
        dsimp only at d0 d1 d2 d3 d4
        go_wp2_with fail
        refine (KF.out _ Q12.out).mono ?_
        rintro e w21 ⟨rfl, hb21⟩
        have T21 := Lib.hid (below_next T12.out hb21)
        have X21 := Lib.hid (X12.out.keep hb21 lX12)
        have lX21 : w.heap.size < w21.heap.size := by have := hb21.size; omega
        have Y21 := Lib.hid (Y12.out.keep hb21 lY12)
        have lY21 : w2.heap.size < w21.heap.size := by have := hb21.size; omega
        have V21 := Lib.hid (V12.out.keep hb21 lV12)
        have lV21 : w5.heap.size < w21.heap.size := by have := hb21.size; omega
        have Q21 := Lib.hid (Q12.out.next hb21)
        have P21 := Lib.hid (P12.out.next hb21)
        clear b0 b1 b2 b3 b4 d0 d1 d2 d3 d4
        clear X12 Y12 V12 Q12 P12 T12 lX12 lY12 lV12
        clear hb21
        obtain ⟨b0, b1, b2, b3, b4⟩ := X21.out
        dsimp only at b0 b1 b2 b3 b4
        go_wp2_with fail
        refine (mendBegun_any _).mono ?_
        rintro e w22 ⟨rfl, hb22⟩
        have T22 := Lib.hid (below_next T21.out hb22)
        have X22 := Lib.hid (X21.out.keep hb22 lX21)
        have lX22 : w.heap.size < w22.heap.size := by have := hb22.size; omega
        have Y22 := Lib.hid (Y21.out.keep hb22 lY21)
        have lY22 : w2.heap.size < w22.heap.size := by have := hb22.size; omega
        have V22 := Lib.hid (V21.out.keep hb22 lV21)
        have lV22 : w5.heap.size < w22.heap.size := by have := hb22.size; omega
        have Q22 := Lib.hid (Q21.out.next hb22)
        have P22 := Lib.hid (P21.out.next hb22)
        clear b0 b1 b2 b3 b4
        clear X21 Y21 V21 Q21 P21 T21 lX21 lY21 lV21
        clear hb22
        obtain ⟨b0, b1, b2, b3, b4⟩ := X22.out
        dsimp only at b0 b1 b2 b3 b4
        go_wp2_with fail
        refine (KG.out _ T22.out).mono ?_
        rintro e w23 ⟨rfl, hb23⟩
        go_wp2_with fail
        go_ret
        exact ⟨by simp, below_next T22.out hb23⟩
  · have r1 : repairV m = noImg := by unfold repairV; rw [if_neg he]
    have he' : (shapeErr m != 0) = true := by simpa using he
    rw [r1] at KR'
    generalize shapeErr m = er at *
    have KR := Lib.hid KR'
    clear KR' h he r1
    obtain ⟨rA, rn, rc, sA, sn, sc, fA, fn, fc, pA, pn, pc⟩ := v
    dsimp only [imgV] at *
    have T0 := Lib.hid (below1 w (.cells #[.int .i64 m.guest, .slice rA rn rc, .slice sA sn sc, .slice fA fn fc, .slice pA pn pc] 26))
    go_enter Try.func8, Try.ntmps8
    go_wp2_with fail
    refine (KR.out _ T0.out).mono ?_
    rintro e w2 ⟨v2, rfl, i2, hb2⟩
    have T2 := Lib.hid ((below_next T0.out hb2).trans ((below1 w2 (.cells #[.int .i64 noImg.guest, .slice v2.rA v2.rn v2.rc, .slice v2.sA v2.sn v2.sc, .slice v2.fA v2.fn v2.fc, .slice v2.pA v2.pn v2.pc] 26)).mono (by have := T0.out.size; have := hb2.size; omega)))
    clear i2 hb2
    go_wp2_with fail
    refine (mendBegun_any _).mono ?_
    rintro e w3 ⟨rfl, hb3⟩
    go_wp2_with fail
    go_ret
    exact ⟨rfl, below_next T2.out hb3⟩
end Go.Proofs.Ytnjjnioilbnnpaa
