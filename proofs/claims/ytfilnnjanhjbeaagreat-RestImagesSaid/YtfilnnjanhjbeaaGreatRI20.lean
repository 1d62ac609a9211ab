/- Texts of the proof of restImages_holds: Counted. Conditions: as each text says. -/
import Derived.Test.YtfilnnjanhjbeaaGreatRI19
namespace Go.Proofs.YtfilnnjanhjbeaaGreat
open Go.RowKit Sl
def OwnOutB (base : Nat) (m : Img) (w : World) (e : Ending) (w' : World) : Prop := ∃ v' tg q p, e = .returned (imgV m v') ∧ OwnI w' base tg v' q p m ∧ Below base w w'
set_option maxRecDepth 100000 in
set_option maxHeartbeats 4000000 in
theorem counted_any (base : Nat) (tg : Nat → Nat) (v : IV) (q : List SV) (p : List PV) (m : Img) (w : World) (h : OwnI w base tg v q p m) (hbase : base ≤ w.heap.size) (hc : CBd m) :
    Calls Tryz.prog 43 #[imgV m v] w (OwnOutB base (settled m) w) := by
  have hcl := countsOf_len m
  have hsn : v.sn = m.slots.length := h.imgR.slen.symm
  obtain ⟨sb, hsA, hsb, hsl⟩ := own_some h.slots (by have := hc.one; omega)
  have h40 := hc.slots
  obtain ⟨rA, rn, rc, sA, sn, sc, fA, fn, fc, pA, pn, pc⟩ := v
  dsimp only [imgV] at *
  subst hsn
  subst hsA
  have hcz : CBd { m with refs := List.replicate m.slots.length 0 } := ⟨hc.one, hc.slots, hc.snaps, hc.root, hc.roots, hc.tables⟩
  have HM := fun W => make_ints m.slots.length (by omega) W
  have K1' := fun v W hI => rcounts_any v { m with refs := List.replicate m.slots.length 0 } W hI hcz
  rw [show countsOf { m with refs := List.replicate m.slots.length 0 } = countsOf m from rfl] at K1'
  unfold settled
  generalize countsOf m = cs at *
  have HCL := Lib.hid hcl
  generalize hln : m.slots.length = ln at *
  have HLN := Lib.hid hln
  have K1 := Lib.hid K1'
  have HO := Lib.hid h
  clear h hc hcz hcl hln K1'
  have B3 : Below w.heap.size w (((w.alloc (.cells #[.int .i64 m.guest, .slice rA rn rc, .slice (some ⟨sb, 0, none⟩) ln sc, .slice (some ⟨w.heap.size + 1 + 1, 0, none⟩) ln ln, .slice pA pn pc] 26)).alloc (.cells #[.int .i64 0, .slice none 0 0, .slice none 0 0, .slice none 0 0, .slice none 0 0] 26)).alloc (.cells (ints (List.replicate ln 0)).toArray 3)) := below_next (below_next (below1 w _) (below1 _ _)) (below1 _ _)
  have X3 : Box (((w.alloc (.cells #[.int .i64 m.guest, .slice rA rn rc, .slice (some ⟨sb, 0, none⟩) ln sc, .slice (some ⟨w.heap.size + 1 + 1, 0, none⟩) ln ln, .slice pA pn pc] 26)).alloc (.cells #[.int .i64 0, .slice none 0 0, .slice none 0 0, .slice none 0 0, .slice none 0 0] 26)).alloc (.cells (ints (List.replicate ln 0)).toArray 3)) w.heap.size m.guest ⟨rA, rn, rc, some ⟨sb, 0, none⟩, ln, sc, some ⟨w.heap.size + 1 + 1, 0, none⟩, ln, ln, pA, pn, pc⟩ := (Box.new w m.guest ⟨rA, rn, rc, some ⟨sb, 0, none⟩, ln, sc, some ⟨w.heap.size + 1 + 1, 0, none⟩, ln, ln, pA, pn, pc⟩ 26).keep (below_next (below1 _ (.cells #[.int .i64 0, .slice none 0 0, .slice none 0 0, .slice none 0 0, .slice none 0 0] 26)) (below1 _ (.cells (ints (List.replicate ln 0)).toArray 3))) (by simp)
  have E3 : BoxB (((w.alloc (.cells #[.int .i64 m.guest, .slice rA rn rc, .slice (some ⟨sb, 0, none⟩) ln sc, .slice (some ⟨w.heap.size + 1 + 1, 0, none⟩) ln ln, .slice pA pn pc] 26)).alloc (.cells #[.int .i64 0, .slice none 0 0, .slice none 0 0, .slice none 0 0, .slice none 0 0] 26)).alloc (.cells (ints (List.replicate ln 0)).toArray 3)) w.heap.size := (BoxB.new w _).next (below_next (below1 _ (.cells #[.int .i64 0, .slice none 0 0, .slice none 0 0, .slice none 0 0, .slice none 0 0] 26)) (below1 _ (.cells (ints (List.replicate ln 0)).toArray 3)))
  have Z3 : ZB (((w.alloc (.cells #[.int .i64 m.guest, .slice rA rn rc, .slice (some ⟨sb, 0, none⟩) ln sc, .slice (some ⟨w.heap.size + 1 + 1, 0, none⟩) ln ln, .slice pA pn pc] 26)).alloc (.cells #[.int .i64 0, .slice none 0 0, .slice none 0 0, .slice none 0 0, .slice none 0 0] 26)).alloc (.cells (ints (List.replicate ln 0)).toArray 3)) (w.heap.size + 1) := by have := (ZB.new (w.alloc (.cells #[.int .i64 m.guest, .slice rA rn rc, .slice (some ⟨sb, 0, none⟩) ln sc, .slice (some ⟨w.heap.size + 1 + 1, 0, none⟩) ln ln, .slice pA pn pc] 26))).next (below1 _ (.cells (ints (List.replicate ln 0)).toArray 3)); rwa [World.size_alloc] at this
  have hI3 : (((w.alloc (.cells #[.int .i64 m.guest, .slice rA rn rc, .slice (some ⟨sb, 0, none⟩) ln sc, .slice (some ⟨w.heap.size + 1 + 1, 0, none⟩) ln ln, .slice pA pn pc] 26)).alloc (.cells #[.int .i64 0, .slice none 0 0, .slice none 0 0, .slice none 0 0, .slice none 0 0] 26)).alloc (.cells (ints (List.replicate ln 0)).toArray 3)).heap[w.heap.size + 1 + 1]? = some (.cells (ints (List.replicate ln 0)).toArray 3 (0, 0)) := by have := heap_alloc_new ((w.alloc (.cells #[.int .i64 m.guest, .slice rA rn rc, .slice (some ⟨sb, 0, none⟩) ln sc, .slice (some ⟨w.heap.size + 1 + 1, 0, none⟩) ln ln, .slice pA pn pc] 26)).alloc (.cells #[.int .i64 0, .slice none 0 0, .slice none 0 0, .slice none 0 0, .slice none 0 0] 26)) (.cells (ints (List.replicate ln 0)).toArray 3); rwa [World.size_alloc, World.size_alloc] at this
  have hO3 : OwnI (((w.alloc (.cells #[.int .i64 m.guest, .slice rA rn rc, .slice (some ⟨sb, 0, none⟩) ln sc, .slice (some ⟨w.heap.size + 1 + 1, 0, none⟩) ln ln, .slice pA pn pc] 26)).alloc (.cells #[.int .i64 0, .slice none 0 0, .slice none 0 0, .slice none 0 0, .slice none 0 0] 26)).alloc (.cells (ints (List.replicate ln 0)).toArray 3)) base (fun g => if w.heap.size ≤ g then 1 else tg g) ⟨rA, rn, rc, some ⟨sb, 0, none⟩, ln, sc, some ⟨w.heap.size + 1 + 1, 0, none⟩, ln, ln, pA, pn, pc⟩ q p { m with refs := List.replicate ln 0 } :=
    ((HO.out.retag (tg' := fun g => if w.heap.size ≤ g then 1 else tg g) (fun b' hb' => if_neg (by omega))).next B3).newRefs ⟨Nat.le_refl _, ⟨by omega, by omega⟩, .inr ⟨own_of_block hI3 (by omega) (by simp [ints]) (by unfold maxLen; omega), fun g hg => if_pos (by simp [Value.ownBlock] at hg; omega)⟩⟩
  have K3 := Lib.hid (K1.out _ _ hO3.imgR)
  have H3 := Lib.hid hO3
  have hz3 : w.heap.size + 1 + 1 + 1 = (((w.alloc (.cells #[.int .i64 m.guest, .slice rA rn rc, .slice (some ⟨sb, 0, none⟩) ln sc, .slice (some ⟨w.heap.size + 1 + 1, 0, none⟩) ln ln, .slice pA pn pc] 26)).alloc (.cells #[.int .i64 0, .slice none 0 0, .slice none 0 0, .slice none 0 0, .slice none 0 0] 26)).alloc (.cells (ints (List.replicate ln 0)).toArray 3)).heap.size := by simp
  have HZ3 := Lib.hid hz3
  clear hO3 hI3 hz3 K1
  dsimp only at K3
  go_enter Tryz.func43, Tryz.ntmps43
  go_wp2_with fail
  generalize (((w.alloc (.cells #[.int .i64 m.guest, .slice rA rn rc, .slice (some ⟨sb, 0, none⟩) ln sc, .slice (some ⟨w.heap.size + 1 + 1, 0, none⟩) ln ln, .slice pA pn pc] 26)).alloc (.cells #[.int .i64 0, .slice none 0 0, .slice none 0 0, .slice none 0 0, .slice none 0 0] 26)).alloc (.cells (ints (List.replicate ln 0)).toArray 3)) = w3 at *
  refine K3.out.mono ?_
  rintro e w1 ⟨A, c, rfl, ho, hb1, hc1, hc2⟩
  have hbl : w.heap.size < w3.heap.size := E3.ty.lt
  have X4 := X3.keep hb1 hbl
  have E4 := E3.next hb1
  have Z4 := Z3.next hb1
  have f3 := E4.fz 3
  obtain ⟨b0, b1, b2, b3, b4⟩ := X4
  dsimp only at b0 b1 b2 b3 b4
  have hgs := grown_set w1 w.heap.size 3 (.slice A ln c)
  have hO1 : OwnI w1 base (fun g => if w3.heap.size ≤ g then 1 else if w.heap.size ≤ g then 1 else tg g) ⟨rA, rn, rc, some ⟨sb, 0, none⟩, ln, sc, A, ln, c, pA, pn, pc⟩ q p { m with refs := cs } :=
    ((H3.out.retag (tg' := fun g => if w3.heap.size ≤ g then 1 else if w.heap.size ≤ g then 1 else tg g) (fun b' hb' => if_neg (by omega))).next hb1).newRefs ⟨hc1, ⟨by omega, by unfold maxLen at hc2; omega⟩, .inr ⟨own_base ho (by omega), fun g hg => if_pos (ho.lt g hg).1⟩⟩
  have hO2 := hO1.kept hgs E4.ty (by decide) (by decide) (by decide)
  have hX2 : Box (w1.setCell ⟨w.heap.size, 3, none⟩ (.slice A ln c)) w.heap.size m.guest ⟨rA, rn, rc, some ⟨sb, 0, none⟩, ln, sc, A, ln, c, pA, pn, pc⟩ := by
    refine ⟨?_, ?_, ?_, ?_, ?_⟩ <;> go_simp
  have E5 := E4.set 3 (.slice A ln c)
  have Z5 : ZB (w1.setCell ⟨w.heap.size, 3, none⟩ (.slice A ln c)) (w.heap.size + 1) := ⟨(hgs.block _ (Array.getElem?_eq_some_iff.1 Z4.heap).1 (fun e => by injection e; omega)).trans Z4.heap⟩
  have hB2 : Below base w (w1.setCell ⟨w.heap.size, 3, none⟩ (.slice A ln c)) := ((B3.mono hbase).trans (hb1.mono (by omega))).grown hgs (by have := hb1.size; omega) (fun k e => by injection e; omega)
  generalize (fun g => if w3.heap.size ≤ g then 1 else if w.heap.size ≤ g then 1 else tg g) = tg' at *
  have HO2 := Lib.hid hO2
  clear hO1 hO2 ho hgs B3 K3 H3
  go_wp2_with fail
  clear b0 b1 b2 b3 b4 f3 E4 Z4 hb1
  generalize w1.setCell ⟨w.heap.size, 3, none⟩ (.slice A ln c) = w2 at *
  go_loopw [3] (fun i wr => ∃ k : Nat, k ≤ ln ∧ i = .int .i64 k ∧ OwnI wr base tg' ⟨rA, rn, rc, some ⟨sb, 0, none⟩, ln, sc, A, ln, c, pA, pn, pc⟩ (freeG freeSV q cs k) p { m with refs := cs, slots := freeG freeSlot m.slots cs k } ∧ Box wr w.heap.size m.guest ⟨rA, rn, rc, some ⟨sb, 0, none⟩, ln, sc, A, ln, c, pA, pn, pc⟩ ∧ BoxB wr w.heap.size ∧ ZB wr (w.heap.size + 1) ∧ Below base w wr) (fun i _ => ln - (intOf i).toNat)
  case atStart => exact ⟨0, Nat.zero_le _, rfl, by rw [freeG_zero, freeG_zero]; exact HO2.out, hX2, E5, Z5, hB2⟩
  case round =>
    obtain ⟨k, hk, rfl, ho, hx, hT, hZr, hbw'⟩ := hrel
    obtain ⟨b0, b1, b2, b3, b4⟩ := hx
    dsimp only at b0 b1 b2 b3 b4
    have HOr := Lib.hid ho
    clear ho hX2 E5 Z5 hB2
    by_cases hlt : k < ln
    · obtain ⟨b5, o5, r, rfl, hb5, hx5, c5⟩ := HOr.out.refs.rd.at1 hlt
      have HI := Lib.hid (int_at hx5)
      have e0 : (0 : Int) ≤ (k : Int) := by omega
      have e1 : (k : Int) < (ln : Int) := by omega
      clear hx5
      cases hr : (r == 0)
      · go_wp2_with fail
        go_roundw
        case rel => exact ⟨k + 1, by omega, by go_num, by rw [freeG_no _ _ _ _ (by rw [HI.out]; simpa using hr), freeG_no _ _ _ _ (by rw [HI.out]; simpa using hr)]; exact HOr.out, ⟨b0, b1, b2, b3, b4⟩, hT, hZr, hbw'⟩
        case measure => simp [intOf]; omega
      · have hs := HOr.out.slots
        have x0 := hs.cellAt (k * 3) (by dsimp only; omega)
        have x1 := hs.cellAt (k * 3 + 1) (by dsimp only; omega)
        have x2 := hs.cellAt (k * 3 + 2) (by dsimp only; omega)
        have f0 := hs.frozenAt (k * 3)
        have f1 := hs.frozenAt (k * 3 + 1)
        have f2 := hs.frozenAt (k * 3 + 2)
        have hkq : k < (freeG freeSV q cs k).length := by have := HOr.out.qlen; dsimp only at this; omega
        have hq := List.getElem?_eq_getElem hkq
        generalize (freeG freeSV q cs k)[k] = xk at hq
        have y0 := flat3_at SV.cells SV.cells_len _ k xk hq 0 (by omega)
        rw [Nat.add_zero] at y0
        rw [y0] at x0
        rw [flat3_at SV.cells SV.cells_len _ k xk hq 1 (by omega)] at x1
        rw [flat3_at SV.cells SV.cells_len _ k xk hq 2 (by omega)] at x2
        simp only [SV.cells, slotCells, List.getElem?_cons_zero, List.getElem?_cons_succ] at x0 x1 x2
        obtain ⟨n1, n2⟩ := HOr.out.set3 (x' := freeSV) rfl hq (by decide) (TabO.nil)
        clear hs y0
        go_wp2_with fail
        go_roundw
        case rel =>
          have hz : int cs k = 0 := by have := HI.out; rw [show r = 0 from by simpa using hr] at this; exact this
          have hne : some w.heap.size ≠ some sb := fun e => hT.ty.ne (own_block HOr.out.slots (b := sb) rfl) (by decide) (by injection e)
          have hne2 : some (w.heap.size + 1) ≠ some sb := fun e => (TypeB.ne ⟨_, _, hZr.heap⟩ (own_block HOr.out.slots (b := sb) rfl) (by decide)) (by injection e)
          exact ⟨k + 1, by omega, by go_num, by rw [freeG_yes _ _ _ _ hz, freeG_yes _ _ _ _ hz]; exact n1, (show Box wr w.heap.size m.guest _ from ⟨b0, b1, b2, b3, b4⟩).kept n2 hne, hT.kept n2 hne, ⟨(n2.block _ (Array.getElem?_eq_some_iff.1 hZr.heap).1 hne2).trans hZr.heap⟩, hbw'.grown n2 (by have := hbw'.size; omega) (fun j e => by injection e with e; omega)⟩
        case measure => simp [intOf]; omega
    · obtain rfl : k = ln := by omega
      have h5 := five hZr.box.1 hZr.box.2 m.guest ⟨rA, rn, rc, some ⟨sb, 0, none⟩, k, sc, A, k, c, pA, pn, pc⟩
      have hfin := Lib.hid (HOr.out.kept h5.2.2 hZr.box.1.ty (by decide) (by decide) (by decide))
      have hbf := Lib.hid (hbw'.grown h5.2.2 (by have := hbw'.size; omega) (fun j e => by injection e with e; omega))
      have HK := Lib.hid h5.1
      obtain ⟨y0, y1, y2, y3, y4⟩ := hZr.cells
      obtain ⟨x0, x1, x2, x3, x4⟩ := hZr.froz
      clear h5
      go_wp2_with fail
      obtain ⟨k0, k1, k2, k3, k4⟩ := HK.out
      refine bodyPost_ret (v := imgV m ⟨rA, rn, rc, some ⟨sb, 0, none⟩, k, sc, A, k, c, pA, pn, pc⟩) ?_ rfl ⟨_, tg', _, p, rfl, hfin.out, hbf.out⟩
      simp [results, Tryz.results43, go_sem, k0, k1, k2, k3, k4]
end Go.Proofs.YtfilnnjanhjbeaaGreat
