/- tree.Shape. Conditions: the image is read below the heap's size. -/
import Derived.Test.YtbhhcjnjddcocaaShapeA
namespace Go.Proofs.Ytbhhcjnjddcocaa
open Go.RowKit Go.Shelf Sl

attribute [local go_sem] Oper.semAt_some

theorem cellAt_new (w : World) (cs : Array Value) (T : TypeId) (j : Nat) : (w.alloc (.cells cs T)).cell? ⟨w.heap.size, j, none⟩ = cs[j]? := cell_of_row _ _ j cs T (0, 0) (heap_alloc_new w _)
theorem cell_new_l (W : World) (v : Value) (t : TypeId) : (W.alloc (.cells #[v] t)).cell? ⟨W.heap.size, 0, none⟩ = some v ∧ (W.alloc (.cells #[v] t)).frozen? ⟨W.heap.size, 0, none⟩ = false :=
  ⟨cellAt_new W #[v] t 0, free_of_one (heap_alloc_new W _)⟩
theorem frozen_set {W : World} {p q : Addr} {v : Value} (h : W.frozen? q = false) : (W.setCell p v).frozen? q = false := by rw [World.frozen?_setCell]; exact h

set_option maxRecDepth 100000 in
set_option maxHeartbeats 8000000 in
theorem shape_any (v : IV) (m : Img) (w : World) (h : ImgR w w.heap.size v m) :
    Calls Try.prog 30 #[.agg #[.int .i64 m.guest, .slice v.rA v.rn v.rc, .slice v.sA v.sn v.sc, .slice v.fA v.fn v.fc, .slice v.pA v.pn v.pc]] w fun e w' => e = .returned (.int .i64 (shapeErr m)) ∧ Below w.heap.size w w' := by
  obtain ⟨rA, rn, rc, sA, sn, sc, fA, fn, fc, pA, pn, pc⟩ := v
  have hsl : m.slots.length = sn := h.slen
  have hpl : m.snaps.length = pn := h.plen
  have hfl : m.refs.length = fn := h.flen
  have hsn : sn ≤ 4611686018427387903 := h.scap.1
  have hpn : pn ≤ 4611686018427387903 := h.pcap.1
  have hfn : fn ≤ 4611686018427387903 := h.fcap.1
  have hrn : rn ≤ 4611686018427387903 := h.rcap.1
  dsimp only
  refine (callsIn_wide (n := 8)).1 ?_
  refine callsIn_of_wp_marks Try.func30 rfl trivial ?_ rfl
  simp only [Try.ntmps30, List.size_toArray, List.length_cons, List.length_nil, Nat.reduceAdd, Nat.reduceSub, Array.replicate_succ, Array.replicate_zero, List.push_toArray, List.append_toArray, List.nil_append, List.cons_append]
  by_cases h1 : 1 ≤ sn ∧ sn ≤ 40 ∧ pn ≤ 3
  · obtain ⟨h11, h12, h13⟩ := h1
    have hS := sizesOk_yes (m := m) (by omega)
    have HE' := fun W (hb : Below w.heap.size w W) => used_any sA sn sc m.slots W ((h.slots.below hb (Nat.le_refl _)).more hb.size) hsn
    obtain ⟨wb, hwb⟩ : ∃ wb, (w.alloc (.cells #[.int .i64 m.guest, .slice rA rn rc, .slice sA sn sc, .slice fA fn fc, .slice pA pn pc] 26)).alloc (.cells #[.int .i64 0] 27) = wb := ⟨_, rfl⟩
    have HX0 : Box wb w.heap.size m.guest ⟨rA, rn, rc, sA, sn, sc, fA, fn, fc, pA, pn, pc⟩ := by rw [← hwb]; exact (Box.new w m.guest ⟨rA, rn, rc, sA, sn, sc, fA, fn, fc, pA, pn, pc⟩ 26).keep (below1 _ _) (by simp)
    have hz0 : wb.heap.size = w.heap.size + 1 + 1 := by rw [← hwb]; simp
    have HB0 : Below w.heap.size w wb := by rw [← hwb]; exact ((Below.refl _ _).alloc (Nat.le_refl _) _).alloc (by simp) _
    have ht2 := cell_new_l (w.alloc (.cells #[.int .i64 m.guest, .slice rA rn rc, .slice sA sn sc, .slice fA fn fc, .slice pA pn pc] 26)) (.int .i64 0) 27
    rw [hwb, World.size_alloc] at ht2
    have HWB := Lib.hid hwb
    clear hwb
    by_cases hE : slotsErr m.slots = 0 ∧ fn = sn
    · obtain ⟨hE1, rfl⟩ := hE
      have S1 : Sh1 m := ⟨hS, hE1, by omega⟩
      have HS1 := Lib.hid S1
      rw [hE1] at HE'
      have HE := Lib.hid HE'
      have HI := Lib.hid h
      have HSL := Lib.hid hsl
      have HPL := Lib.hid hpl
      clear S1 HE' h hsl hpl hfl hS
      gi_wp2_with fail
      rw [HWB.out]
      refine ⟨trivial, (callsIn_wide.2 (HE.out _ HB0)).mono ?_⟩
      rintro e w1 ⟨rfl, hb1⟩
      have HX1 := Lib.hid (HX0.keep hb1 (by omega))
      have t2c := (hb1.cell (p := ⟨w.heap.size + 1, 0, none⟩) (by show w.heap.size + 1 < _; omega)).trans ht2.1
      have t2f := (hb1.frozen (p := ⟨w.heap.size + 1, 0, none⟩) (by show w.heap.size + 1 < _; omega)).trans ht2.2
      have HT2 := Lib.hid (And.intro t2c t2f)
      have HB := Lib.hid (below_next HB0 hb1)
      have hz1 : w.heap.size + 1 < w1.heap.size := by have := hb1.size; omega
      obtain ⟨b0, b1, b2, b3, b4⟩ := HX1.out
      dsimp only at b0 b1 b2 b3 b4
      clear hb1 HX0 HB0 ht2 t2c t2f
      gi_wp2_with fail
      clear b0 b1 b2 b3 b4
      gi_loopw [49, 5, 7] (fun i u _ wr => ∃ k : Nat, k ≤ pn ∧ i = .int .i64 k ∧ u = .string (lastName m.snaps k) ∧ upto (nameAt m.snaps) k = true ∧ Below w1.heap.size w1 wr) (fun i _ _ _ => pn - (intOf i).toNat)
      case atStart => exact ⟨0, Nat.zero_le _, rfl, rfl, rfl, Below.refl _ _⟩
      case round =>
        obtain ⟨k, hk, rfl, rfl, ha, hbw⟩ := hrel
        have HA := Lib.hid ha
        clear ha
        obtain ⟨b0, b1, b2, b3, b4⟩ := HX1.out.keep hbw (by omega)
        dsimp only at b0 b1 b2 b3 b4
        have HBr := Lib.hid (HB.out.trans (hbw.mono (by omega)))
        have t2c := (hbw.cell (p := ⟨w.heap.size + 1, 0, none⟩) hz1).trans HT2.out.1
        have t2f := (hbw.frozen (p := ⟨w.heap.size + 1, 0, none⟩) hz1).trans HT2.out.2
        have hzr := hbw.size
        by_cases hlt : k < pn
        · obtain ⟨b, o, s, tA, tn, tc, rfl, hb, hx, c0, c1, c2, hsv⟩ := HI.out.snaps.at_ (k := k) hlt
          have c0' := (HBr.out.cell (p := ⟨b, o + k * 3, none⟩) hb).trans c0
          have c1' := (HBr.out.cell (p := ⟨b, o + k * 3 + 1, none⟩) hb).trans c1
          have c2' := (HBr.out.cell (p := ⟨b, o + k * 3 + 2, none⟩) hb).trans c2
          have hbox := cellAt_new wr #[.string s.name, .int .i64 s.guest, .slice tA tn tc] 48 0
          have hsz : (wr.alloc (.cells #[.string s.name, .int .i64 s.guest, .slice tA tn tc] 48)).heap.size = wr.heap.size + 1 := by simp
          have HBa := Lib.hid (below1 wr (.cells #[.string s.name, .int .i64 s.guest, .slice tA tn tc] 48))
          have KN := name_any s.name (wr.alloc (.cells #[.string s.name, .int .i64 s.guest, .slice tA tn tc] 48)) hsv.name
          have hnl := nameAt_last hx
          have hls := lastName_succ hx
          have hlq := leq_str s.name (lastName m.snaps k)
          generalize lastName m.snaps k = ln at hnl hlq
          have HLS := Lib.hid hls
          have HBOX := Lib.hid hbox
          clear hx c0 c1 c2 hsv hls hbox
          cases hn : isName s.name
          · rw [hn] at KN hnl
            rw [Bool.false_and] at hnl
            have HNL := Lib.hid hnl
            have KN2 := Lib.hid KN
            clear hn hnl KN hlq
            gi_wp2_with fail
            refine ⟨trivial, (callsIn_wide.2 KN2.out).mono ?_⟩
            rintro e w2 ⟨rfl, hb2⟩
            have t2c' := (hb2.cell (p := ⟨w.heap.size + 1, 0, none⟩) (by show w.heap.size + 1 < _; omega)).trans ((HBa.out.cell (p := ⟨w.heap.size + 1, 0, none⟩) (by show w.heap.size + 1 < _; omega)).trans t2c)
            have t2f' := (hb2.frozen (p := ⟨w.heap.size + 1, 0, none⟩) (by show w.heap.size + 1 < _; omega)).trans ((HBa.out.frozen (p := ⟨w.heap.size + 1, 0, none⟩) (by show w.heap.size + 1 < _; omega)).trans t2f)
            clear t2c t2f
            gi_wp2_with fail
            refine ⟨.int .i64 1, ?_, ret_int (sh_names HS1.out (by unfold namesOk; rw [HPL.out]; exact upto_false hlt HNL.out)), ?_⟩
            · simp [results, Try.f30, go_sem, World.cell?_setCell_same' _ _ _ (show (w2.cell? ⟨w.heap.size + 1, 0, none⟩).isSome = true from by rw [t2c']; rfl)]
            · exact ((below_next HBr.out HBa.out).trans (hb2.mono (by have := HBr.out.size; omega))).setCell (p := ⟨w.heap.size + 1, 0, none⟩) (Nat.le_succ _) _
          · rw [hn, Bool.true_and] at hnl
            rw [hn] at KN
            have KN2 := Lib.hid KN
            cases hlt2 : strLt ln s.name
            · rw [hlt2] at hnl hlq
              have HNL := Lib.hid hnl
              clear hn hnl KN hlt2
              gi_wp2_with fail
              refine ⟨trivial, (callsIn_wide.2 KN2.out).mono ?_⟩
              rintro e w2 ⟨rfl, hb2⟩
              have t2c' := (hb2.cell (p := ⟨w.heap.size + 1, 0, none⟩) (by show w.heap.size + 1 < _; omega)).trans ((HBa.out.cell (p := ⟨w.heap.size + 1, 0, none⟩) (by show w.heap.size + 1 < _; omega)).trans t2c)
              have t2f' := (hb2.frozen (p := ⟨w.heap.size + 1, 0, none⟩) (by show w.heap.size + 1 < _; omega)).trans ((HBa.out.frozen (p := ⟨w.heap.size + 1, 0, none⟩) (by show w.heap.size + 1 < _; omega)).trans t2f)
              have hbx := (hb2.cell (p := ⟨wr.heap.size, 0, none⟩) (by show wr.heap.size < _; omega)).trans HBOX.out
              simp only [List.getElem?_toArray, List.getElem?_cons_zero] at hbx
              clear t2c t2f
              gi_wp2_with fail
              refine ⟨.int .i64 1, ?_, ret_int (sh_names HS1.out (by unfold namesOk; rw [HPL.out]; exact upto_false hlt HNL.out)), ?_⟩
              · simp [results, Try.f30, go_sem, World.cell?_setCell_same' _ _ _ (show (w2.cell? ⟨w.heap.size + 1, 0, none⟩).isSome = true from by rw [t2c']; rfl)]
              · exact ((below_next HBr.out HBa.out).trans (hb2.mono (by have := HBr.out.size; omega))).setCell (p := ⟨w.heap.size + 1, 0, none⟩) (Nat.le_succ _) _
            · rw [hlt2] at hnl hlq
              have HNL := Lib.hid hnl
              clear hn hnl KN hlt2
              gi_wp2_with fail
              refine ⟨trivial, (callsIn_wide.2 KN2.out).mono ?_⟩
              rintro e w2 ⟨rfl, hb2⟩
              have hbx := (hb2.cell (p := ⟨wr.heap.size, 0, none⟩) (by show wr.heap.size < _; omega)).trans HBOX.out
              simp only [List.getElem?_toArray, List.getElem?_cons_zero] at hbx
              gi_wp2_with fail
              go_roundw
              case rel => exact ⟨k + 1, by omega, by go_num, by rw [HLS.out], by rw [upto_succ, HA.out, HNL.out]; rfl, hbw.trans ((HBa.out.mono hzr).trans (hb2.mono (by omega)))⟩
              case measure => simp [intOf]; omega
        · have HN := Lib.hid (show namesOk m.snaps = true from by unfold namesOk; rw [HPL.out, show pn = k from by omega]; exact HA.out)
          clear HA
          gi_wp2_with fail
          refine ⟨trivial, (callsIn_wide.2 (roots_any m.guest ⟨rA, rn, rc, sA, fn, sc, fA, fn, fc, pA, pn, pc⟩ wr)).mono ?_⟩
          rintro e wc ⟨rfl, hwc⟩
          gi_wp2_with fail
          obtain ⟨rs, hrs1, hrs2⟩ := roots_full w ⟨rA, rn, rc, sA, fn, sc, fA, fn, fc, pA, pn, pc⟩ m (fun _ _ => True) HI.out (fun _ _ => trivial)
          obtain ⟨x0, hx0⟩ : ∃ x0 : {x : RV // GoodR w (fun _ _ => True) x}, x0.1 = ⟨m.guest, rA, rn, rc, m.root⟩ := ⟨⟨⟨m.guest, rA, rn, rc, m.root⟩, HI.out.root, hrn, trivial⟩, rfl⟩
          have hBx : Box wc wr.heap.size m.guest ⟨rA, rn, rc, sA, fn, sc, fA, fn, fc, pA, pn, pc⟩ := by rw [← hwc]; exact Box.new wr m.guest ⟨rA, rn, rc, sA, fn, sc, fA, fn, fc, pA, pn, pc⟩ 26
          have hzc : wr.heap.size < wc.heap.size := by rw [← hwc]; simp
          have hbc : Below wr.heap.size wr wc := by rw [← hwc]; exact below1 _ _
          have HBc := Lib.hid (below_next HBr.out hbc)
          have hbw1c : Below w1.heap.size w1 wc := hbw.trans (hbc.mono hzr)
          have t2cc := (hbc.cell (p := ⟨w.heap.size + 1, 0, none⟩) (by show w.heap.size + 1 < _; omega)).trans t2c
          have t2fc := (hbc.frozen (p := ⟨w.heap.size + 1, 0, none⟩) (by show w.heap.size + 1 < _; omega)).trans t2f
          have HT2c := Lib.hid (And.intro t2cc t2fc)
          have HWC := Lib.hid hwc
          clear hwc hbc t2c t2f t2cc t2fc b0 b1 b2 b3 b4 hbw
          apply wpIn_rangeFunc_ownF (F := Fence.wide) (n := 8) (w0 := wc) rfl (by omega) (gf := 52) (lb := #[.pointer (some ⟨wr.heap.size, 0, none⟩)]) rfl trivial (enters_of Try.func52 (by kernel_rfl) rfl)
            (roots_stops Fence.wide (8 - 1) trivial rfl (by omega) wr.heap.size w.heap.size m.guest ⟨rA, rn, rc, sA, fn, sc, fA, fn, fc, pA, pn, pc⟩ _ x0 (by rw [hx0]; rfl) rs hpn wc (by omega) HBc.out.size hBx (hrs1.below HBc.out (Nat.le_refl _))) (fun h k => KeepB.t h k) (KeepB.b HBc.out.size (by omega)) (Below.refl _ _) (fun _ => rfl)
            (fun pre W => AllX (fun x : {x : RV // GoodR w (fun _ _ => True) x} => guestOk x.1.g) pre ∧ Below wc.heap.size wc W)
            (fun c pre W => (c = .ret ∧ BadX (fun x : {x : RV // GoodR w (fun _ _ => True) x} => guestOk x.1.g) pre ∧ W.cell? ⟨w.heap.size + 1, 0, none⟩ = some (.int .i64 3)) ∧ Below w.heap.size w W)
            (OwnFrom.and (ownFrom_pure _ _) (ownFrom_below (Nat.le_refl _) (Nat.le_refl _)))
            (fun c => OwnFrom.and (Own.from (fun s A B row hs hg hr => ⟨hs.1, hs.2.1, cell_kept hs.2.2 hg hr⟩) _) (ownFrom_below (Nat.le_refl _) HBc.out.size))
            ⟨AllX.nil, Below.refl _ _⟩
          · intro l x W K hK
            unfold RV.encs
            gi_wp2
            exact hK
          · rintro l pre x W ⟨hI, hB⟩ _
            have t2c := (hB.cell (p := ⟨w.heap.size + 1, 0, none⟩) (by show w.heap.size + 1 < _; omega)).trans HT2c.out.1
            have t2f := (hB.frozen (p := ⟨w.heap.size + 1, 0, none⟩) (by show w.heap.size + 1 < _; omega)).trans HT2c.out.2
            have HII := Lib.hid hI
            have HBW := Lib.hid (HBc.out.trans (hB.mono HBc.out.size))
            clear hI
            by_cases hx1 : x.1.g < 0
            · gi_wp2
              exact ⟨KeepsOthers.setCell _ _ _, ⟨rfl, BadX.snoc (by unfold guestOk; rw [decide_eq_false (by omega)]; rfl), World.cell?_setCell_same' _ _ _ (by rw [t2c]; rfl)⟩, HBW.out.setCell (p := ⟨w.heap.size + 1, 0, none⟩) (Nat.le_succ _) _⟩
            · by_cases hx2 : 16 < x.1.g
              · gi_wp2
                exact ⟨KeepsOthers.setCell _ _ _, ⟨rfl, BadX.snoc (by unfold guestOk; rw [decide_eq_false (by omega : ¬ x.1.g ≤ 16), Bool.and_false]), World.cell?_setCell_same' _ _ _ (by rw [t2c]; rfl)⟩, HBW.out.setCell (p := ⟨w.heap.size + 1, 0, none⟩) (Nat.le_succ _) _⟩
              · have hx2' : x.1.g ≤ 16 := by omega
                gi_wp2
                exact ⟨KeepsOthers.refl _, ⟨Below.refl _ _, rfl⟩, HII.out.snoc (by unfold guestOk; rw [decide_eq_true (by omega), decide_eq_true (by omega)]; rfl), hB⟩
          · rintro D ys W hD rfl ⟨hI, hB⟩ hK
            have HG := Lib.hid (guests_of (by rw [hx0]) hrs2 hI)
            have HHK := Lib.hid hK
            have hbwW : Below w1.heap.size w1 W := hbw1c.trans (hB.mono (by omega))
            have hDW : D < W.heap.size := lt_of_block hK
            have HBW := Lib.hid (HBc.out.trans (hB.mono HBc.out.size))
            have HXW := Lib.hid (HX1.out.keep hbwW (by omega))
            have t2c := (hB.cell (p := ⟨w.heap.size + 1, 0, none⟩) (by show w.heap.size + 1 < _; omega)).trans HT2c.out.1
            have t2f := (hB.frozen (p := ⟨w.heap.size + 1, 0, none⟩) (by show w.heap.size + 1 < _; omega)).trans HT2c.out.2
            have HT2W := Lib.hid (And.intro t2c t2f)
            have hzW := hbwW.size
            clear hK hI hB HT2c t2c t2f
            obtain ⟨b0, b1, b2, b3, b4⟩ := HXW.out
            dsimp only at b0 b1 b2 b3 b4
            gi_wp2
            clear b0 b1 b2 b3 b4
            gi_loopw [79, 10] (fun i _ wq => ∃ k3 : Nat, k3 ≤ fn ∧ i = .int .i64 k3 ∧ (m.slots.take k3).all (fun s => s.table.all (entryOk m.slots)) = true ∧ Below W.heap.size W wq) (fun i _ _ => fn - (intOf i).toNat)
            case atStart => exact ⟨0, Nat.zero_le _, rfl, rfl, Below.refl _ _⟩
            case round =>
              obtain ⟨k3, hk3, rfl, ha, hbq⟩ := hrel
              have HA := Lib.hid ha
              clear ha
              obtain ⟨b0, b1, b2, b3, b4⟩ := HXW.out.keep hbq (by omega)
              dsimp only at b0 b1 b2 b3 b4
              have HBr := Lib.hid (below_next HBW.out hbq)
              have t2c := (hbq.cell (p := ⟨w.heap.size + 1, 0, none⟩) (by show w.heap.size + 1 < _; omega)).trans HT2W.out.1
              have t2f := (hbq.frozen (p := ⟨w.heap.size + 1, 0, none⟩) (by show w.heap.size + 1 < _; omega)).trans HT2W.out.2
              have hKq := Lib.hid ((hbq.block D hDW).trans HHK.out)
              have hzr := hbq.size
              by_cases hlt3 : k3 < fn
              · obtain ⟨b, o, s, tA, tn, tc, rfl, hb, hx, c0, c1, c2, hsv⟩ := HI.out.slots.at_ (k := k3) hlt3
                have c0' := (HBr.out.cell (p := ⟨b, o + k3 * 3, none⟩) hb).trans c0
                have c1' := (HBr.out.cell (p := ⟨b, o + k3 * 3 + 1, none⟩) hb).trans c1
                have c2' := (HBr.out.cell (p := ⟨b, o + k3 * 3 + 2, none⟩) hb).trans c2
                have hsz : (wr.alloc (.cells #[.int .i64 s.kind, .string s.data, .slice tA tn tc] 45)).heap.size = wr.heap.size + 1 := by simp
                have HBa := Lib.hid (below1 wr (.cells #[.int .i64 s.kind, .string s.data, .slice tA tn tc] 45))
                have HBra := Lib.hid (below_next HBr.out HBa.out)
                have HC := containsIntsC 44 (.pointer (some ⟨w.heap.size, 0, none⟩)) (fun e => !entryOk m.slots e) tA tn tc w.heap.size s.table (wr.alloc (.cells #[.int .i64 s.kind, .string s.data, .slice tA tn tc] 45))
                  (hsv.table.below HBra.out (Nat.le_refl _)) HBra.out.size (hsv.cap.1) (fun _ _ => by kernel_rfl)
                  (fun x W' hW' => shapefn_any ⟨rA, rn, rc, some ⟨b, o, none⟩, fn, sc, fA, fn, fc, pA, pn, pc⟩ m w.heap.size x W' (HI.out.next (below_next HBra.out hW')) ((HXW.out.keep ((hbq.trans (HBa.out.mono hzr)).trans (hW'.mono (by omega))) (by omega))))
                rw [any_not] at HC
                have HX := Lib.hid hx
                clear hx c0 c1 c2 hsv
                cases hae : s.table.all (entryOk m.slots)
                · rw [hae] at HC
                  have HCC := Lib.hid HC
                  have HAE := Lib.hid hae
                  clear HC hae
                  gi_wp2_with fail
                  refine ⟨trivial, (callsIn_wide.2 HCC.out).mono ?_⟩
                  rintro e w2 ⟨rfl, hb2⟩
                  have t2c' := (hb2.cell (p := ⟨w.heap.size + 1, 0, none⟩) (by show w.heap.size + 1 < _; omega)).trans ((HBa.out.cell (p := ⟨w.heap.size + 1, 0, none⟩) (by show w.heap.size + 1 < _; omega)).trans t2c)
                  have t2f' := (hb2.frozen (p := ⟨w.heap.size + 1, 0, none⟩) (by show w.heap.size + 1 < _; omega)).trans ((HBa.out.frozen (p := ⟨w.heap.size + 1, 0, none⟩) (by show w.heap.size + 1 < _; omega)).trans t2f)
                  have hK2 := Lib.hid ((hb2.block D (by omega)).trans ((HBa.out.block D (by omega)).trans hKq.out))
                  clear t2c t2f
                  gi_wp2_with fail
                  have hK' := (KeepsOthers.setCell w2 ⟨w.heap.size + 1, 0, none⟩ (.int .i64 1)).same D _ hK2.out rfl
                  refine ⟨by simp, .inl ⟨_, _, rfl, run_takeDeferred hK', ?_⟩⟩
                  have hc5 := cell_kept (World.cell?_setCell_same' w2 ⟨w.heap.size + 1, 0, none⟩ (.int .i64 1) (by rw [t2c']; rfl)) (grownBy_putObj' _ D (.deferred none)) (fun r e => by cases e; exact ⟨_, hK', rfl⟩)
                  refine ⟨.int .i64 1, ?_, ret_int (sh_tables HS1.out HN.out HG.out (all_false _ m.slots k3 s HX.out HAE.out)), ?_⟩
                  · simp [results, Try.f30, go_sem, hc5]
                  · exact ((HBra.out.trans (hb2.mono (by have := HBr.out.size; omega))).setCell (p := ⟨w.heap.size + 1, 0, none⟩) (Nat.le_succ _) _).trans (belowK_b (w := w) (Nat.le_refl _) _ D _ _ (by have := HBc.out.size; omega) hK' rfl rfl)
                · rw [hae] at HC
                  have HCC := Lib.hid HC
                  have HAE := Lib.hid hae
                  clear HC hae
                  gi_wp2_with fail
                  refine ⟨trivial, (callsIn_wide.2 HCC.out).mono ?_⟩
                  rintro e w2 ⟨rfl, hb2⟩
                  gi_wp2_with fail
                  go_roundw
                  case rel => exact ⟨k3 + 1, by omega, by go_num, by rw [all_take_succ _ m.slots k3 s HX.out, HA.out, HAE.out]; rfl, hbq.trans ((HBa.out.mono hzr).trans (hb2.mono (by omega)))⟩
                  case measure => simp [intOf]; omega
              · have HT := Lib.hid (show tablesOk m.slots = true from all_done _ m.slots k3 (by rw [HSL.out]; omega) HA.out)
                gi_wp2_with fail
                refine ⟨trivial, (callsIn_wide.2 (roots_any m.guest ⟨rA, rn, rc, sA, fn, sc, fA, fn, fc, pA, pn, pc⟩ wr)).mono ?_⟩
                rintro e wd ⟨rfl, hwd⟩
                gi_wp2_with fail
                obtain ⟨qs, hqs1, hqs2⟩ := roots_full w ⟨rA, rn, rc, sA, fn, sc, fA, fn, fc, pA, pn, pc⟩ m (fun g _ => guestOk g = true) HI.out (fun s hs => by have := HG.out; unfold guestsOk at this; rw [Bool.and_eq_true, List.all_eq_true] at this; exact this.2 s hs)
                obtain ⟨y0, hy0⟩ : ∃ y0 : {x : RV // GoodR w (fun g _ => guestOk g = true) x}, y0.1 = ⟨m.guest, rA, rn, rc, m.root⟩ := ⟨⟨⟨m.guest, rA, rn, rc, m.root⟩, HI.out.root, hrn, by have := HG.out; unfold guestsOk at this; rw [Bool.and_eq_true] at this; exact this.1⟩, rfl⟩
                have hBd : Box wd wr.heap.size m.guest ⟨rA, rn, rc, sA, fn, sc, fA, fn, fc, pA, pn, pc⟩ := by rw [← hwd]; exact Box.new wr m.guest ⟨rA, rn, rc, sA, fn, sc, fA, fn, fc, pA, pn, pc⟩ 26
                have hzd : wr.heap.size < wd.heap.size := by rw [← hwd]; simp
                have hbd : Below wr.heap.size wr wd := by rw [← hwd]; exact below1 _ _
                have HBd := Lib.hid (below_next HBr.out hbd)
                have t2cc := (hbd.cell (p := ⟨w.heap.size + 1, 0, none⟩) (by show w.heap.size + 1 < _; omega)).trans t2c
                have t2fc := (hbd.frozen (p := ⟨w.heap.size + 1, 0, none⟩) (by show w.heap.size + 1 < _; omega)).trans t2f
                have HT2d := Lib.hid (And.intro t2cc t2fc)
                have HXd := Lib.hid ((HXW.out.keep hbq (by omega)).keep hbd (by omega))
                have HKd := Lib.hid ((hbd.block D (by omega)).trans hKq.out)
                have hDd : D < wd.heap.size := lt_of_block HKd.out
                have HRT := Lib.hid (fun (g : Int) (A : Option Addr) (n c : Nat) (root : List Int) W (hb : Below w.heap.size w W) (hr : Rd W W.heap.size 1 A n (ints root)) (hn : n ≤ 4611686018427387903) (g0 : 0 ≤ g) (g16 : g ≤ 16) => root_any ⟨rA, rn, rc, sA, fn, sc, fA, fn, fc, pA, pn, pc⟩ m g A n c root W (HI.out.next hb) hr hn HS1.out.slots g0 g16)
                clear hwd hbd t2c t2f t2cc t2fc b0 b1 b2 b3 b4 hbq HA
                apply wpIn_rangeFunc_ownF (F := Fence.wide) (n := 8) (w0 := wd) rfl (by omega) (gf := 52) (lb := #[.pointer (some ⟨wr.heap.size, 0, none⟩)]) rfl trivial (enters_of Try.func52 (by kernel_rfl) rfl)
                  (roots_stops Fence.wide (8 - 1) trivial rfl (by omega) wr.heap.size w.heap.size m.guest ⟨rA, rn, rc, sA, fn, sc, fA, fn, fc, pA, pn, pc⟩ _ y0 (by rw [hy0]; rfl) qs hpn wd (by omega) HBd.out.size hBd (hqs1.below HBd.out (Nat.le_refl _))) (fun h k => KeepB.t h k) (KeepB.b HBd.out.size (by omega)) (Below.refl _ _) (fun _ => rfl)
                  (fun pre W => AllX (fun x : {x : RV // GoodR w (fun g _ => guestOk g = true) x} => rootFine m.slots x.1.g x.1.root) pre ∧ Below wd.heap.size wd W)
                  (fun c pre W => (c = .ret ∧ BadX (fun x : {x : RV // GoodR w (fun g _ => guestOk g = true) x} => rootFine m.slots x.1.g x.1.root) pre ∧ W.cell? ⟨w.heap.size + 1, 0, none⟩ = some (.int .i64 1)) ∧ Below w.heap.size w W ∧ W.heap[D]? = some (.deferred (some [])))
                  (OwnFrom.and (ownFrom_pure _ _) (ownFrom_below (Nat.le_refl _) (Nat.le_refl _)))
                  (fun c => OwnFrom.and (Own.from (fun s A B row hs hg hr => ⟨hs.1, hs.2.1, cell_kept hs.2.2 hg hr⟩) _) (OwnFrom.and (ownFrom_below (Nat.le_refl _) HBd.out.size) (fun s A B row hs hg hr => (hg.block D (lt_of_block hs) (fun e => by have := (hr D e.symm).1; omega)).trans hs)))
                  ⟨AllX.nil, Below.refl _ _⟩
                · intro l x W K hK
                  unfold RV.encs
                  gi_wp2
                  exact hK
                · rintro l pre x W ⟨hI, hB⟩ _
                  have t2c := (hB.cell (p := ⟨w.heap.size + 1, 0, none⟩) (by show w.heap.size + 1 < _; omega)).trans HT2d.out.1
                  have t2f := (hB.frozen (p := ⟨w.heap.size + 1, 0, none⟩) (by show w.heap.size + 1 < _; omega)).trans HT2d.out.2
                  have HKW := Lib.hid ((hB.block D hDd).trans HKd.out)
                  have hzW2 := hB.size
                  obtain ⟨b0, b1, b2, b3, b4⟩ := HXd.out.keep hB (by omega)
                  dsimp only at b0 b1 b2 b3 b4
                  have HII := Lib.hid hI
                  have HBW2 := Lib.hid (HBd.out.trans (hB.mono HBd.out.size))
                  obtain ⟨gg1, gg2⟩ := guestOk_is x.2.2.2
                  have KR := HRT.out x.1.g x.1.A x.1.n x.1.c x.1.root W HBW2.out ((x.2.1.below HBW2.out (Nat.le_refl _)).more HBW2.out.size) x.2.2.1 gg1 gg2
                  clear hI gg1 gg2
                  cases hrf : rootFine m.slots x.1.g x.1.root
                  · rw [hrf] at KR
                    have KRR := Lib.hid KR
                    have HRF := Lib.hid hrf
                    clear KR hrf
                    gi_wp2_with fail
                    refine ⟨trivial, (CallsIn.inRound l (callsIn_wide.2 KRR.out)).mono ?_⟩
                    rintro e w2 ⟨rfl, hb2⟩
                    have t2c' := (hb2.cell (p := ⟨w.heap.size + 1, 0, none⟩) (by show w.heap.size + 1 < _; omega)).trans t2c
                    have t2f' := (hb2.frozen (p := ⟨w.heap.size + 1, 0, none⟩) (by show w.heap.size + 1 < _; omega)).trans t2f
                    have HKW2 := Lib.hid ((hb2.block D (by omega)).trans HKW.out)
                    clear t2c t2f
                    gi_wp2
                    exact ⟨(keeps_of_below hb2).trans (KeepsOthers.setCell _ _ _), ⟨rfl, BadX.snoc HRF.out, World.cell?_setCell_same' _ _ _ (by rw [t2c']; rfl)⟩, (HBW2.out.trans (hb2.mono HBW2.out.size)).setCell (p := ⟨w.heap.size + 1, 0, none⟩) (Nat.le_succ _) _, (KeepsOthers.setCell w2 ⟨w.heap.size + 1, 0, none⟩ (.int .i64 1)).same D _ HKW2.out rfl⟩
                  · rw [hrf] at KR
                    have KRR := Lib.hid KR
                    have HRF := Lib.hid hrf
                    clear KR hrf
                    gi_wp2_with fail
                    refine ⟨trivial, (CallsIn.inRound l (callsIn_wide.2 KRR.out)).mono ?_⟩
                    rintro e w2 ⟨rfl, hb2⟩
                    gi_wp2
                    exact ⟨keeps_of_below hb2, KeepB.of_below hb2 HBW2.out.size (by omega), HII.out.snoc HRF.out, hB.trans (hb2.mono hzW2)⟩
                · rintro D2 ys W2 hD2 rfl ⟨hI, hB⟩ hK2
                  have HR := Lib.hid (roots_of (by rw [hy0]) (by rw [hy0]) hqs2 hI)
                  have t2c := (hB.cell (p := ⟨w.heap.size + 1, 0, none⟩) (by show w.heap.size + 1 < _; omega)).trans HT2d.out.1
                  have t2f := (hB.frozen (p := ⟨w.heap.size + 1, 0, none⟩) (by show w.heap.size + 1 < _; omega)).trans HT2d.out.2
                  have HK1 := Lib.hid ((hB.block D hDd).trans HKd.out)
                  have HK2 := Lib.hid hK2
                  have HBW2 := Lib.hid (HBd.out.trans (hB.mono HBd.out.size))
                  clear hI hK2
                  gi_wp2
                  have hK2' := (KeepsOthers.setCell W2 ⟨w.heap.size + 1, 0, none⟩ (.int .i64 0)).same D2 _ HK2.out rfl
                  have hK1' := (KeepsOthers.setCell W2 ⟨w.heap.size + 1, 0, none⟩ (.int .i64 0)).same D _ HK1.out rfl
                  refine ⟨by simp, .inl ⟨_, _, rfl, run_takeDeferred hK2', ?_⟩⟩
                  have hc4 := cell_kept (World.cell?_setCell_same' W2 ⟨w.heap.size + 1, 0, none⟩ (.int .i64 0) (by rw [t2c]; rfl)) (grownBy_putObj' _ D2 (.deferred none)) (fun r e => by cases e; exact ⟨_, hK2', rfl⟩)
                  have hK1'' := (World.putObj_heap_other (w := W2.setCell ⟨w.heap.size + 1, 0, none⟩ (.int .i64 0)) (r := D2) (k := D) (o := .deferred none) (by omega)).trans hK1'
                  refine ⟨by simp, .inl ⟨_, _, rfl, run_takeDeferred hK1'', ?_⟩⟩
                  have hc5 := cell_kept hc4 (grownBy_putObj' _ D (.deferred none)) (fun r e => by cases e; exact ⟨_, hK1'', rfl⟩)
                  refine ⟨.int .i64 0, ?_, ret_int (sh_ok HS1.out HN.out HG.out HT.out HR.out), ?_⟩
                  · simp [results, Try.f30, go_sem, hc5]
                  · exact ((HBW2.out.setCell (p := ⟨w.heap.size + 1, 0, none⟩) (Nat.le_succ _) _).trans (belowK_b (w := w) (Nat.le_refl _) _ D2 _ _ (by have := HBd.out.size; omega) hK2' rfl rfl)).trans (belowK_b (w := w) (Nat.le_refl _) _ D _ _ (by have := HBc.out.size; omega) hK1'' rfl rfl)
                · rintro D2 c pre W2 hD2 hpre ⟨⟨rfl, ⟨x, hx, hbad⟩, hc⟩, hB, hK1⟩ hK2
                  have HR := Lib.hid (roots_bad (by rw [hy0]) (by rw [hy0]) hqs2 (hpre.subset hx) hbad)
                  gi_wp2
                  refine ⟨by simp, .inl ⟨_, _, rfl, run_takeDeferred hK2, ?_⟩⟩
                  have hc4 := cell_kept hc (grownBy_putObj' _ D2 (.deferred none)) (fun r e => by cases e; exact ⟨_, hK2, rfl⟩)
                  have hK1'' := (World.putObj_heap_other (w := W2) (r := D2) (k := D) (o := .deferred none) (by omega)).trans hK1
                  refine ⟨by simp, .inl ⟨_, _, rfl, run_takeDeferred hK1'', ?_⟩⟩
                  have hc5 := cell_kept hc4 (grownBy_putObj' _ D (.deferred none)) (fun r e => by cases e; exact ⟨_, hK1'', rfl⟩)
                  refine ⟨.int .i64 1, ?_, ret_int (sh_roots HS1.out HN.out HG.out HT.out HR.out), ?_⟩
                  · simp [results, Try.f30, go_sem, hc5]
                  · exact (hB.trans (belowK_b (w := w) (Nat.le_refl _) _ D2 _ _ (by have := HBd.out.size; omega) hK2 rfl rfl)).trans (belowK_b (w := w) (Nat.le_refl _) _ D _ _ (by have := HBc.out.size; omega) hK1'' rfl rfl)
          · rintro D c pre W hD hpre ⟨⟨rfl, ⟨x, hx, hbad⟩, hc⟩, hB⟩ hK
            gi_wp2
            refine ⟨by simp, .inl ⟨_, _, rfl, run_takeDeferred hK, ?_⟩⟩
            have hc5 := cell_kept hc (grownBy_putObj' _ D (.deferred none)) (fun r e => by cases e; exact ⟨_, hK, rfl⟩)
            refine ⟨.int .i64 3, ?_, ret_int (sh_range HS1.out HN.out (guests_bad (by rw [hx0]) hrs2 (hpre.subset hx) hbad)), hB.trans (belowK_b (w := w) (Nat.le_refl _) W D _ _ (by have := HBc.out.size; omega) hK rfl rfl)⟩
            simp [results, Try.f30, go_sem, hc5]
    · have R := Lib.hid (sh_slots (m := m) hS (by omega))
      have hor : (slotsErr m.slots != 0) = true ∨ (slotsErr m.slots = 0 ∧ ((fn : Int) != (sn : Int)) = true) := by
        by_cases h0 : slotsErr m.slots = 0
        · exact .inr ⟨h0, by simp; omega⟩
        · exact .inl (by simpa using h0)
      generalize slotsErr m.slots = er at HE' hor
      clear hE h hsl hpl hfl hS
      rcases hor with hor | ⟨rfl, hor⟩
      all_goals
        have HE := Lib.hid HE'
        clear HE'
        gi_wp2_with fail
        rw [HWB.out]
        refine ⟨trivial, (callsIn_wide.2 (HE.out _ HB0)).mono ?_⟩
        rintro e w1 ⟨rfl, hb1⟩
        obtain ⟨b0, b1, b2, b3, b4⟩ := HX0.keep hb1 (by omega)
        dsimp only at b0 b1 b2 b3 b4
        have t2c := (hb1.cell (p := ⟨w.heap.size + 1, 0, none⟩) (by show w.heap.size + 1 < _; omega)).trans ht2.1
        have t2f := (hb1.frozen (p := ⟨w.heap.size + 1, 0, none⟩) (by show w.heap.size + 1 < _; omega)).trans ht2.2
        have HB := Lib.hid (below_next HB0 hb1)
        clear hb1 HX0 HB0 ht2
        gi_wp2_with fail
        refine ⟨.int .i64 1, ?_, ret_int R.out, HB.out.setCell (p := ⟨w.heap.size + 1, 0, none⟩) (Nat.le_succ _) _⟩
        simp [results, Try.f30, go_sem, World.cell?_setCell_same' _ _ _ (show (w1.cell? ⟨w.heap.size + 1, 0, none⟩).isSome = true from by rw [t2c]; rfl)]
  · have R := Lib.hid (sh_many (sizesOk_no (m := m) (by omega)))
    have h1' : sn < 1 ∨ (1 ≤ sn ∧ 40 < sn) ∨ (1 ≤ sn ∧ sn ≤ 40 ∧ 3 < pn) := by omega
    clear h hsl hpl hfl h1
    rcases h1' with h1 | ⟨h1, h2⟩ | ⟨h1, h2, h3⟩
    · have g1 : decide ((sn : Int) < 1) = true := by simp; omega
      gi_wp2_with fail
      refine ⟨.int .i64 2, ?_, ret_int R.out, ?_⟩
      · simp [results, Try.f30, go_sem]
      · exact ((Below.refl _ _).alloc (Nat.le_refl _) _).alloc (by simp) _
    · gi_wp2_with fail
      refine ⟨.int .i64 2, ?_, ret_int R.out, ?_⟩
      · simp [results, Try.f30, go_sem]
      · exact ((Below.refl _ _).alloc (Nat.le_refl _) _).alloc (by simp) _
    · gi_wp2_with fail
      refine ⟨.int .i64 2, ?_, ret_int R.out, ?_⟩
      · simp [results, Try.f30, go_sem]
      · exact ((Below.refl _ _).alloc (Nat.le_refl _) _).alloc (by simp) _
end Go.Proofs.Ytbhhcjnjddcocaa
