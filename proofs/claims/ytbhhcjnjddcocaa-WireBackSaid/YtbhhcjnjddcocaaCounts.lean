/- tree.counts. Conditions: the image is read below the heap's size; its sizes are bounded; Roots tell tables, tables tell pages. -/
import Derived.Test.YtbhhcjnjddcocaaShapeA
import Derived.Test.YtbhhcjnjddcocaaPureA
namespace Go.Proofs.Ytbhhcjnjddcocaa
open Go.RowKit Go.Shelf Sl

attribute [local go_sem] Oper.semAt_some

theorem cell_set_far {W : World} {a q : Addr} {v u : Value} (h : W.cell? q = some u) (hn : q.block ≠ a.block) : (W.setCell a v).cell? q = some u :=
  (World.cell?_of_block (heap_setCell_other W a q.block v hn)).trans h
theorem KeepB.set {n₀ Bm b k : Nat} {W W' : World} (h : KeepB n₀ Bm W W') (hn : n₀ ≤ b) (hm : Bm ≠ b) (v : Value) : KeepB n₀ Bm W (W'.setCell ⟨b, k, none⟩ v) :=
  ⟨h.1.setCell (p := ⟨b, k, none⟩) hn v, (World.cell?_of_block (heap_setCell_other W' ⟨b, k, none⟩ Bm v hm)).trans h.2⟩
theorem KeepB.refl (n₀ Bm : Nat) (W : World) : KeepB n₀ Bm W W := ⟨Below.refl _ _, rfl⟩
/-- What a Root that counting is handed is good for. -/
def CountQ (m : Img) (_ : Int) (root : List Int) : Prop := root.length ≤ 4 ∧ ∀ t ∈ root, t = 0 ∨ kindOf m.slots t = 2
def flatR {w : World} {Q : Int → List Int → Prop} (pre : List {x : RV // GoodR w Q x}) : List Int := (pre.map (·.1.root)).flatten
theorem flatR_snoc {w : World} {Q : Int → List Int → Prop} (pre : List {x : RV // GoodR w Q x}) (x : {x : RV // GoodR w Q x}) : flatR (pre ++ [x]) = flatR pre ++ x.1.root := by simp [flatR]
theorem flatR_le {w : World} {m : Img} (pre : List {x : RV // GoodR w (CountQ m) x}) : (flatR pre).length ≤ pre.length * 4 := by
  induction pre with
  | nil => simp [flatR]
  | cons a pre ih =>
    have := a.2.2.2.1
    unfold flatR at *
    rw [List.map_cons, List.flatten_cons, List.length_append, List.length_cons, Nat.add_mul]; omega
theorem flatR_all {w : World} {Q : Int → List Int → Prop} {m : Img} {x0 : {x : RV // GoodR w Q x}} {rs : List {x : RV // GoodR w Q x}} (h0 : x0.1.root = m.root) (hm : rs.map (fun x => (x.1.g, x.1.root)) = m.snaps.map (fun s => (s.guest, s.root))) :
    flatR (x0 :: rs) = (rootsOf m).flatten := by
  have : rs.map (·.1.root) = m.snaps.map (·.root) := by
    have := congrArg (List.map Prod.snd) hm
    rwa [List.map_map, List.map_map] at this
  unfold flatR rootsOf
  rw [List.map_cons, h0, this]
/-- The counting's state. -/
def CntAt (w wb : World) (n : Nat) (f : Nat → Nat) (W : World) : Prop :=
  (RowB W (w.heap.size + 1) (row n (fun j => (f j : Int))) ∧ W.cell? ⟨w.heap.size + 1 + 1, 0, none⟩ = some (.slice (some ⟨w.heap.size + 1, 0, none⟩) n n)) ∧ Below (w.heap.size + 1) wb W
theorem CntAt.congr {w wb W : World} {n : Nat} {f g : Nat → Nat} (h : CntAt w wb n f W) (he : ∀ j, j < n → f j = g j) : CntAt w wb n g W := by
  refine ⟨⟨?_, h.1.2⟩, h.2⟩
  have := h.1.1
  rwa [row_congr (fun j hj => by rw [he j hj])] at this
theorem CntAt.set {w wb W : World} {n : Nat} {f : Nat → Nat} (h : CntAt w wb n f W) (k y : Nat) : CntAt w wb n (fun j => if j = k then y else f j) (W.setCell ⟨w.heap.size + 1, k, none⟩ (.int .i64 (y : Nat))) := by
  refine ⟨⟨?_, cell_set_far h.1.2 (by show w.heap.size + 1 + 1 ≠ w.heap.size + 1; omega)⟩, h.2.setCell (p := ⟨w.heap.size + 1, k, none⟩) (Nat.le_refl _) _⟩
  have := h.1.1.set k (y : Nat)
  rw [row_set] at this
  rwa [row_congr (g := fun j => (((fun j => if j = k then y else f j) j : Nat) : Int)) (fun j _ => by dsimp only; split <;> rfl)] at this

set_option maxRecDepth 100000 in
set_option maxHeartbeats 8000000 in
theorem counts_any (v : IV) (m : Img) (w : World) (h : ImgR w w.heap.size v m) (hc : CBd m) (hw : Wired m) :
    Calls Try.prog 31 #[.agg #[.int .i64 m.guest, .slice v.rA v.rn v.rc, .slice v.sA v.sn v.sc, .slice v.fA v.fn v.fc, .slice v.pA v.pn v.pc]] w (OwnRes w.heap.size 3 1 m.slots.length (ints (countsOf m)) w) := by
  obtain ⟨rA, rn, rc, sA, sn, sc, fA, fn, fc, pA, pn, pc⟩ := v
  have hsl : m.slots.length = sn := h.slen
  have hpl : m.snaps.length = pn := h.plen
  have hrl : m.root.length = rn := h.rlen
  have hsn1 : 1 ≤ sn := by rw [← hsl]; exact hc.one
  have hsn : sn ≤ 40 := by rw [← hsl]; exact hc.slots
  have hpn : pn ≤ 4 := by rw [← hpl]; exact hc.snaps
  have hrn : rn ≤ 4 := by rw [← hrl]; exact hc.root
  dsimp only
  have HMK := Lib.hid (make_ints sn (by omega))
  obtain ⟨rs, hrs1, hrs2⟩ := roots_full w ⟨rA, rn, rc, sA, sn, sc, fA, fn, fc, pA, pn, pc⟩ m (CountQ m) h (fun s hs => ⟨hc.roots s hs, hw.roots s.root (List.mem_cons_of_mem _ (List.mem_map.2 ⟨s, hs, rfl⟩))⟩)
  obtain ⟨x0, hx0⟩ : ∃ x0 : {x : RV // GoodR w (CountQ m) x}, x0.1 = ⟨m.guest, rA, rn, rc, m.root⟩ := ⟨⟨⟨m.guest, rA, rn, rc, m.root⟩, h.root, by show rn ≤ _; omega, hc.root, hw.roots m.root (List.mem_cons_self ..)⟩, rfl⟩
  have HI := Lib.hid h
  have HC := Lib.hid hc
  have HW := Lib.hid hw
  have HSL := Lib.hid hsl
  have HX0 := Lib.hid hx0
  have HRS2 := Lib.hid hrs2
  clear h hc hw hsl hpl hrl hx0 hrs2
  have hmk := HMK.out (w.alloc (.cells #[.int .i64 m.guest, .slice rA rn rc, .slice sA sn sc, .slice fA fn fc, .slice pA pn pc] 26))
  refine (callsIn_wide (n := 8)).1 ?_
  refine callsIn_of_wp_marks Try.func31 rfl trivial ?_ rfl
  simp only [Try.ntmps31, List.size_toArray, List.length_cons, List.length_nil, Nat.reduceAdd, Nat.reduceSub, Array.replicate_succ, Array.replicate_zero, List.push_toArray, List.append_toArray, List.nil_append, List.cons_append]
  obtain ⟨wb, hwb⟩ : ∃ wb, ((w.alloc (.cells #[.int .i64 m.guest, .slice rA rn rc, .slice sA sn sc, .slice fA fn fc, .slice pA pn pc] 26)).alloc (.cells (ints (List.replicate sn 0)).toArray 3)).alloc (.cells #[.slice (some ⟨w.heap.size + 1, 0, none⟩) sn sn] 22) = wb := ⟨_, rfl⟩
  have HWB := Lib.hid hwb
  have hz0 : w.heap.size + 1 + 1 < wb.heap.size := by rw [← hwb]; simp
  have HXb : Box wb w.heap.size m.guest ⟨rA, rn, rc, sA, sn, sc, fA, fn, fc, pA, pn, pc⟩ := by
    rw [← hwb]; exact ((Box.new w m.guest ⟨rA, rn, rc, sA, sn, sc, fA, fn, fc, pA, pn, pc⟩ 26).keep (below1 _ _) (by simp)).keep (below1 _ _) (by simp; omega)
  have HRb : RowB wb (w.heap.size + 1) (row sn (fun _ => 0)) := by
    rw [row_zero, ← hwb]
    have := RowB.new (w.alloc (.cells #[.int .i64 m.guest, .slice rA rn rc, .slice sA sn sc, .slice fA fn fc, .slice pA pn pc] 26)) (List.replicate sn 0)
    rw [World.size_alloc] at this
    exact this.keep (below1 _ _) (by simp)
  have Ht3 : wb.cell? ⟨w.heap.size + 1 + 1, 0, none⟩ = some (.slice (some ⟨w.heap.size + 1, 0, none⟩) sn sn) := by
    rw [← hwb]
    have := cell_of_row _ _ 0 _ _ _ (heap_alloc_new ((w.alloc (.cells #[.int .i64 m.guest, .slice rA rn rc, .slice sA sn sc, .slice fA fn fc, .slice pA pn pc] 26)).alloc (.cells (ints (List.replicate sn 0)).toArray 3)) (.cells #[.slice (some ⟨w.heap.size + 1, 0, none⟩) sn sn] 22))
    simpa using this
  have HBb : Below w.heap.size w wb := by rw [← hwb]; exact (((Below.refl _ _).alloc (Nat.le_refl _) _).alloc (by simp) _).alloc (by simp; omega) _
  clear hwb
  gi_wp2_with fail
  clear hmk
  rw [HWB.out]
  refine ⟨trivial, (callsIn_wide.2 (roots_any m.guest ⟨rA, rn, rc, sA, sn, sc, fA, fn, fc, pA, pn, pc⟩ wb)).mono ?_⟩
  rintro e wc ⟨rfl, hwc⟩
  gi_wp2_with fail
  have hBx : Box wc wb.heap.size m.guest ⟨rA, rn, rc, sA, sn, sc, fA, fn, fc, pA, pn, pc⟩ := by rw [← hwc]; exact Box.new wb m.guest ⟨rA, rn, rc, sA, sn, sc, fA, fn, fc, pA, pn, pc⟩ 26
  have hzc : wb.heap.size < wc.heap.size := by rw [← hwc]; simp
  have hbc : Below wb.heap.size wb wc := by rw [← hwc]; exact below1 _ _
  have HBc := Lib.hid (below_next HBb hbc)
  have HXc := Lib.hid (HXb.keep hbc (by omega))
  have HRc := Lib.hid (HRb.keep hbc (by omega))
  have Htc := Lib.hid ((hbc.cell (p := ⟨w.heap.size + 1 + 1, 0, none⟩) (by show w.heap.size + 1 + 1 < _; omega)).trans Ht3)
  have hz3 : w.heap.size + 1 + 1 < wb.heap.size := by omega
  clear hwc hbc HXb HRb Ht3 HBb hz0
  apply wpIn_rangeFunc_ownF (F := Fence.wide) (n := 8) (w0 := wc) rfl (by omega) (gf := 52) (lb := #[.pointer (some ⟨wb.heap.size, 0, none⟩)]) rfl trivial (enters_of Try.func52 (by kernel_rfl) rfl)
    (roots_stops Fence.wide (8 - 1) trivial rfl (by omega) wb.heap.size w.heap.size m.guest ⟨rA, rn, rc, sA, sn, sc, fA, fn, fc, pA, pn, pc⟩ _ x0 (by rw [HX0.out]; rfl) rs (by show pn ≤ _; omega) wc (by omega) HBc.out.size hBx (hrs1.below HBc.out (Nat.le_refl _))) (fun h k => KeepB.t h k) (KeepB.b HBc.out.size (by omega)) (Below.refl _ _) (fun _ => rfl)
    (fun pre W => CntAt w wc sn (cntPart m.slots (flatR pre)) W)
    (fun _ _ _ => False)
    (OwnFrom.and (Own.from (fun s A B rw_ hs hg hr => ⟨(grownBy_keeps_cells hg hr hs.1 rfl).trans hs.1, cell_kept hs.2 hg hr⟩) _) (ownFrom_below (by omega) (by omega)))
    (fun _ _ _ _ _ hs _ _ => hs)
    ⟨⟨by have := HRc.out; rwa [row_congr (g := fun j => ((cntPart m.slots (flatR (w := w) (Q := CountQ m) []) j : Nat) : Int)) (fun j _ => by rw [show flatR (w := w) (Q := CountQ m) [] = [] from rfl, cntPart_nil]; rfl)] at this, Htc.out⟩, Below.refl _ _⟩
  · intro l x W K hK
    unfold RV.encs
    gi_wp2
    exact hK
  · rintro l pre x W hI hlen
    have hfl := flatR_le pre
    have hfl20 : (flatR pre).length ≤ 16 := by dsimp only at hlen; omega
    generalize hP : flatR pre = P at hI hfl hfl20
    have HPP := Lib.hid (show flatR (pre ++ [x]) = P ++ x.1.root from by rw [flatR_snoc, hP])
    have HI0 := Lib.hid hI
    clear hI hfl hlen hP
    have hxr := x.2.1
    have hxl := x.2.2.2.1
    have hxq := x.2.2.2.2
    generalize x.1.root = xr at hxr hxl hxq HPP
    generalize x.1.A = xA at hxr ⊢
    generalize x.1.n = xn at hxr ⊢
    generalize x.1.c = xc
    have HXR := Lib.hid hxr
    have HXQ := Lib.hid hxq
    have hxlen : xr.length = xn := hxr.len
    have hxn4 : xn ≤ 4 := by omega
    have HXL := Lib.hid hxlen
    clear hxr hxq hxlen hxl
    gi_wp2
    gi_loopw [20] (fun i wq => ∃ q : Nat, q ≤ xn ∧ i = .int .i64 q ∧ CntAt w wc sn (cntPart m.slots (P ++ xr.take q)) wq ∧ KeepsOthers W wq ∧ KeepB w.heap.size wb.heap.size W wq) (fun i _ => xn - (intOf i).toNat)
    case atStart => exact ⟨0, Nat.zero_le _, rfl, by rw [List.take_zero, List.append_nil]; exact HI0.out, KeepsOthers.refl _, KeepB.refl _ _ _⟩
    case round =>
      obtain ⟨q, hq, rfl, hcn, hko, hkb⟩ := hrel
      have HCN := Lib.hid hcn
      have HKO := Lib.hid hko
      have HKB := Lib.hid hkb
      have HBq := Lib.hid (HBc.out.trans (hcn.2.mono (Nat.le_succ _)))
      obtain ⟨b0, b1, b2, b3, b4⟩ := HXc.out.keep hcn.2 (Nat.lt_succ_self _)
      dsimp only at b0 b1 b2 b3 b4
      have t3c := hcn.1.2
      clear hcn hko hkb
      by_cases hlt : q < xn
      · obtain ⟨b, o, t, rfl, hb, hx, hcell⟩ := HXR.out.at1 hlt
        have hcell' := (HBq.out.cell (p := ⟨b, o + q, none⟩) hb).trans hcell
        have htk : P ++ xr.take (q + 1) = (P ++ xr.take q) ++ [t] := by rw [List.take_add_one, hx, List.append_assoc]; rfl
        have hpl : (P ++ xr.take q).length ≤ 20 := by rw [List.length_append, List.length_take]; omega
        have hq2 := HXQ.out t (List.mem_of_getElem? hx)
        generalize hp : P ++ xr.take q = p at HCN htk hpl
        have HTK := Lib.hid htk
        have HPL := Lib.hid hpl
        clear hx hcell htk hp hpl
        cases h0 : (t == 0)
        · have hk2 : (kindOf m.slots t != 2) = false := by
            rcases hq2 with hq2 | hq2
            · rw [hq2] at h0; exact absurd h0 (by decide)
            · simp [hq2]
          obtain ⟨k, s, rfl, hk1, hks, hkk⟩ := kindOf_in hk2
          have hkl : k < sn := by have := (List.getElem?_eq_some_iff.1 hks).1; have := HSL.out; omega
          have hkN := (kindN_at hks).trans hkk
          have hV := cntPart_table HW.out.tables (p := p) hk1 (by have := HSL.out; omega) hkN
          have hVle := cntPart_le (l := m.slots) (p := p) (j := k) HPL.out HC.out.slots HC.out.tables
          have hck := HCN.out.1.1.cell (k := k) (row_at _ hkl)
          have hfk := HCN.out.1.1.frozen k
          have HST := Lib.hid (HCN.out.set k (cntPart m.slots p k + 1))
          have kI0 : (0 : Int) ≤ (k : Int) := by omega
          have kI1 : (k : Int) < (sn : Int) := by omega
          by_cases hpos : 0 < told p (k : Nat)
          · have HAG := Lib.hid (cntPart_again (l := m.slots) hk1 hpos)
            rw [← hV] at hpos
            generalize cntPart m.slots p k = V at hV hVle hck HST hpos HAG
            have hV2 : decide ((1 : Int) < (V : Int) + 1) = true := by simp; omega
            clear hV hks hk2 hq2
            gi_wp2
            go_roundw
            case rel => exact ⟨q + 1, by omega, by go_num, by rw [HTK.out]; exact HST.out.congr (fun j _ => (HAG.out j).symm), HKO.out.trans (KeepsOthers.setCell _ _ _), HKB.out.set (Nat.le_succ _) (by omega) _⟩
            case measure => simp [intOf]; omega
          · obtain ⟨b5, o5, s5, tA, tn, tc, he5, hb5, hx5, d0, d1, d2, hsv⟩ := HI.out.slots.at_ (k := k) hkl
            rw [hks] at hx5
            injection hx5 with hx5
            subst hx5
            subst he5
            have HV0 := Lib.hid (show told p (k : Nat) = 0 from by omega)
            have HSTA := Lib.hid (cntInner_start (l := m.slots) (p := p) hk1)
            have hV0 : cntPart m.slots p k = 0 := by rw [hV]; omega
            have HTN := Lib.hid (tableN_at hks)
            have HKN := Lib.hid hkN
            have d2' := (HBq.out.cell (p := ⟨b5, o5 + k * 3 + 2, none⟩) hb5).trans d2
            have htn := hsv.table.len
            have htn4 := HC.out.tables s (List.mem_of_getElem? hks)
            have htncap : tn ≤ tc := hsv.len
            have htccap : tc ≤ 9223372036854775807 := hsv.cap.2
            have HSV := Lib.hid hsv
            have HKS := Lib.hid hks
            have d2s := cell_set_far (a := ⟨w.heap.size + 1, k, none⟩) (v := .int .i64 1) d2' (by show b5 ≠ w.heap.size + 1; omega)
            have b2s := cell_set_far (a := ⟨w.heap.size + 1, k, none⟩) (v := .int .i64 1) b2 (by show w.heap.size ≠ w.heap.size + 1; omega)
            have t3s := cell_set_far (a := ⟨w.heap.size + 1, k, none⟩) (v := .int .i64 1) t3c (by show w.heap.size + 1 + 1 ≠ w.heap.size + 1; omega)
            rw [hV0] at hck HST
            have HST0 := Lib.hid (show CntAt w wc sn (cntInner m.slots p k 0) (wr.setCell ⟨w.heap.size + 1, k, none⟩ (.int .i64 1)) from HST.out.congr (fun j _ => by have := HSTA.out j; rw [hV0] at this; exact this))
            have htn4' : tn ≤ 4 := by omega
            clear hV hVle hks hk2 hq2 hpos hV0 HST HSTA d0 d1 d2 hsv htn htn4
            gi_wp2
            have HKO0 := Lib.hid (HKO.out.trans (KeepsOthers.setCell wr ⟨w.heap.size + 1, k, none⟩ (.int .i64 1)))
            have HKB0 := Lib.hid (HKB.out.set (b := w.heap.size + 1) (k := k) (Nat.le_succ _) (by omega) (.int .i64 1))
            clear HCN HKO HKB HBq b0 b1 b2 b3 b4 t3c hcell' hck hfk d2' d2s b2s t3s
            generalize wr.setCell ⟨w.heap.size + 1, k, none⟩ (.int .i64 1) = wi at HST0 HKO0 HKB0 ⊢
            gi_loopw [44] (fun i wq => ∃ z : Nat, z ≤ tn ∧ i = .int .i64 z ∧ CntAt w wc sn (cntInner m.slots p k z) wq ∧ KeepsOthers W wq ∧ KeepB w.heap.size wb.heap.size W wq) (fun i _ => tn - (intOf i).toNat)
            case atStart => exact ⟨0, Nat.zero_le _, rfl, HST0.out, HKO0.out, HKB0.out⟩
            case round =>
              clear HST0 HKO0 HKB0
              obtain ⟨z, hz, rfl, hcn, hko, hkb⟩ := hrel
              have HCN := Lib.hid hcn
              have HKO := Lib.hid hko
              have HKB := Lib.hid hkb
              have HBq := Lib.hid (HBc.out.trans (hcn.2.mono (Nat.le_succ _)))
              have t3c := hcn.1.2
              clear hcn hko hkb
              by_cases hltz : z < tn
              · obtain ⟨b6, o6, y, rfl, hb6, hx6, hcell6⟩ := HSV.out.table.at1 hltz
                have hcell6' := (HBq.out.cell (p := ⟨b6, o6 + z, none⟩) hb6).trans hcell6
                have hxt : (tableN m.slots k)[z]? = some y := by rw [HTN.out]; exact hx6
                by_cases hy : 0 < y
                · have hyk : kindOf m.slots y = 1 := by
                    have := List.all_eq_true.1 (List.all_eq_true.1 HW.out.tables s (List.mem_of_getElem? HKS.out)) y (List.mem_of_getElem? hx6)
                    rw [entryOk_hi hy] at this
                    simpa using this
                  obtain ⟨e, rfl⟩ := Int.eq_ofNat_of_zero_le (a := y) (by omega)
                  have he1 : 1 ≤ e := by omega
                  have hel : e < sn := by
                    unfold kindOf at hyk
                    split at hyk
                    · rename_i hh; have := HSL.out; omega
                    · omega
                  have hU := cntInner_le (l := m.slots) (p := p) (k := k) (q := z) (j := e) HPL.out HC.out.slots HC.out.tables
                  have hce := HCN.out.1.1.cell (k := e) (row_at _ hel)
                  have hfe := HCN.out.1.1.frozen e
                  have HST := Lib.hid (HCN.out.set e (cntInner m.slots p k z e + 1))
                  have HSTP := Lib.hid (cntInner_step (p := p) hxt he1)
                  generalize cntInner m.slots p k z e = U at hU hce HST HSTP
                  have e0 : (0 : Int) ≤ (e : Int) := by omega
                  have e1 : (e : Int) < (sn : Int) := by omega
                  clear hyk hxt hx6 hcell6
                  gi_wp2
                  go_roundw
                  case rel => exact ⟨z + 1, by omega, by go_num, HST.out.congr (fun j _ => HSTP.out j), HKO.out.trans (KeepsOthers.setCell _ _ _), HKB.out.set (Nat.le_succ _) (by omega) _⟩
                  case measure => simp [intOf]; omega
                · have HSK := Lib.hid (cntInner_skip (p := p) hxt (by omega : y ≤ 0))
                  have hy' : y ≤ 0 := by omega
                  clear hxt hx6 hcell6 hy
                  gi_wp2
                  go_roundw
                  case rel => exact ⟨z + 1, by omega, by go_num, HCN.out.congr (fun j _ => HSK.out j), HKO.out, HKB.out⟩
                  case measure => simp [intOf]; omega
              · have HEN := Lib.hid (fun j => cntInner_end (l := m.slots) (p := p) (q := z) hk1 (by have := HSL.out; omega) HKN.out HV0.out (by rw [HTN.out, HSV.out.table.len]; omega) j)
                gi_wp2
                go_roundw
                case rel => exact ⟨q + 1, by omega, by go_num, by rw [HTK.out]; exact HCN.out.congr (fun j _ => HEN.out j), HKO.out, HKB.out⟩
                case measure => simp [intOf]; omega
        · have HT0 := Lib.hid (show t = 0 from by simpa using h0)
          gi_wp2
          go_roundw
          case rel => exact ⟨q + 1, by omega, by go_num, by rw [HTK.out, HT0.out]; exact HCN.out.congr (fun j _ => (cntPart_zero _ _ _).symm), HKO.out, HKB.out⟩
          case measure => simp [intOf]; omega
      · have hfin : xr.take q = xr := List.take_of_length_le (by have := HXL.out; omega)
        have HFI := Lib.hid (show CntAt w wc sn (cntPart m.slots (P ++ xr)) wr from by have := HCN.out; rwa [hfin] at this)
        clear hfin
        gi_wp2
        exact ⟨HKO.out, HKB.out, by show CntAt w wc sn (cntPart m.slots (flatR (pre ++ [x]))) wr; rw [HPP.out]; exact HFI.out⟩
  · rintro D ys W hD rfl hI hK
    have hall := flatR_all (by rw [HX0.out]) HRS2.out
    rw [hall] at hI
    have hfin := hI.congr (fun j hj => cntPart_all HW.out.tables (by have := HSL.out; omega))
    have HFIN := Lib.hid (show RowB W (w.heap.size + 1) (countsOf m) from by rw [countsOf_row, HSL.out]; exact hfin.1.1)
    have HBf := Lib.hid (HBc.out.trans (hfin.2.mono (Nat.le_succ _)))
    have HLEN := Lib.hid (show (countsOf m).length = sn from by rw [countsOf_row, row_len, HSL.out])
    have t3c := hI.1.2
    clear hI hall hfin
    gi_wp2
    refine ⟨by simp, .inl ⟨_, _, rfl, run_takeDeferred hK, ?_⟩⟩
    have hro : RowB (W.putObj D (.deferred none)) (w.heap.size + 1) (countsOf m) := (World.putObj_heap_other (w := W) (r := D) (k := w.heap.size + 1) (o := .deferred none) (by omega)).trans HFIN.out
    exact ⟨_, results_tmp rfl _ _ _, some ⟨w.heap.size + 1, 0, none⟩, sn, by rw [HSL.out]; rfl, by rw [HSL.out]; exact hro.own (Nat.le_succ _) HLEN.out (by unfold maxLen; omega), HBf.out.trans (belowK_b (w := w) (Nat.le_refl _) W D _ _ (by omega) hK rfl rfl), by rw [HSL.out]; exact Nat.le_refl _, by unfold maxLen; omega⟩
  · rintro D c pre W _ _ h _
    exact h.elim
end Go.Proofs.Ytbhhcjnjddcocaa
