/- tree.Settle at an image in a box of whatever type. Conditions: the image is the call's own, its sizes are bounded, it is wired. -/
import Derived.Test.YtpboapeoejdipaaOImg2
namespace Go.Proofs.Ytpboapeoejdipaa
open Go.RowKit Sl
/-- The block b is a box of the type T. -/
def BoxG (w : World) (b : Nat) (T : TypeId) : Prop := ∃ cur, w.heap[b]? = some (.cells cur T (0, 0))
section
variable {w w' : World} {b : Nat} {T : TypeId}
theorem BoxG.ty (h : BoxG w b T) : TypeB w b T := by obtain ⟨c, e⟩ := h; exact ⟨c, _, e⟩
theorem BoxG.fz (h : BoxG w b T) (k : Nat) : w.frozen? ⟨b, k, none⟩ = false := by obtain ⟨c, e⟩ := h; exact frozen_of_row w b k c _ e
theorem BoxG.next (h : BoxG w b T) (hb : Below w.heap.size w w') : BoxG w' b T := by obtain ⟨c, e⟩ := h; exact ⟨c, (hb.block b (Array.getElem?_eq_some_iff.1 e).1).trans e⟩
theorem BoxG.set (h : BoxG w b T) (k : Nat) (u : Value) : BoxG (w.setCell ⟨b, k, none⟩ u) b T := by obtain ⟨c, e⟩ := h; exact ⟨_, heap_setCell_same w b k c _ _ e⟩
theorem BoxG.kept {row : Option Nat} (h : BoxG w b T) (hg : w.grownBy w' row) (hn : some b ≠ row) : BoxG w' b T := by obtain ⟨c, e⟩ := h; exact ⟨c, (hg.block b (Array.getElem?_eq_some_iff.1 e).1 hn).trans e⟩
theorem BoxG.new (w : World) (cs : Array Value) (T : TypeId) : BoxG (w.alloc (.cells cs T)) w.heap.size T := ⟨cs, heap_alloc_new w _⟩
end
set_option maxRecDepth 100000 in
set_option maxHeartbeats 1000000 in
theorem settleG_any (T : TypeId) (hT1 : T ≠ 3) (hT2 : T ≠ 56) (hT3 : T ≠ 68) (b base : Nat) (tg : Nat → Nat) (v : IV) (q : List SV) (p : List PV) (m : Img) (w : World) (h : OwnI w base tg v q p m) (hx : Box w b m.guest v) (hBB : BoxG w b T) (hb : base ≤ b) (hc : CBd m) (hw : Wired m) :
    Calls Try.prog 68 #[.pointer (some ⟨b, 0, none⟩)] w fun e w' => e = .returned (.tuple #[]) ∧ ∃ v' tg' q', Box w' b m.guest v' ∧ OwnI w' base tg' v' q' p (settled m) ∧ BoxG w' b T ∧ Below base w w' := by
  have K1 := Lib.hid (counts_any v m w h.imgR hc hw)
  have hcl := countsOf_len m
  have hsn : v.sn = m.slots.length := h.imgR.slen.symm
  obtain ⟨sb, hsA, hsb, hsl⟩ := own_some h.slots (by have := hc.one; omega)
  have h40 := hc.slots
  obtain ⟨rA, rn, rc, sA, sn, sc, fA, fn, fc, pA, pn, pc⟩ := v
  obtain ⟨b0, b1, b2, b3, b4⟩ := hx
  dsimp only at *
  subst hsn
  subst hsA
  have HO := Lib.hid h
  have hT := hBB.ty
  have hbw : base ≤ w.heap.size := by have := hT.lt; omega
  unfold settled
  generalize countsOf m = cs at *
  have HCL := Lib.hid hcl
  clear h hc hw hcl
  generalize hln : m.slots.length = ln at *
  have HLN := Lib.hid hln
  clear hln
  go_enter Try.func68, Try.ntmps68
  go_wp2_with fail
  refine K1.out.mono ?_
  rintro e w1 ⟨A, c, rfl, ho, hb1, hc1, hc2⟩
  have hTy1 := hT.next hb1
  have hBB1 := hBB.next hb1
  have b0' := (hb1.cell (p := ⟨b, 0, none⟩) hT.lt).trans b0
  have b1' := (hb1.cell (p := ⟨b, 1, none⟩) hT.lt).trans b1
  have b2' := (hb1.cell (p := ⟨b, 2, none⟩) hT.lt).trans b2
  have b3' := (hb1.cell (p := ⟨b, 3, none⟩) hT.lt).trans b3
  have b4' := (hb1.cell (p := ⟨b, 4, none⟩) hT.lt).trans b4
  have hf' := hBB1.fz 3
  go_wp2_with fail
  have hgs := grown_set w1 b 3 (.slice A ln c)
  have hO1 : OwnI w1 base (fun g => if w.heap.size ≤ g then 1 else tg g) ⟨rA, rn, rc, some ⟨sb, 0, none⟩, ln, sc, A, ln, c, pA, pn, pc⟩ q p { m with refs := cs } :=
    ((HO.out.retag (tg' := fun g => if w.heap.size ≤ g then 1 else tg g) (fun b' hb' => by simp; omega)).next hb1).newRefs ⟨hc1, ⟨by omega, by unfold maxLen at hc2; omega⟩, .inr ⟨own_base ho hbw, fun g hg => if_pos (ho.lt g hg).1⟩⟩
  have hO2 := hO1.kept hgs hTy1 hT1 hT2 hT3
  have hX2 : Box (w1.setCell ⟨b, 3, none⟩ (.slice A ln c)) b m.guest ⟨rA, rn, rc, some ⟨sb, 0, none⟩, ln, sc, A, ln, c, pA, pn, pc⟩ := by
    refine ⟨?_, ?_, ?_, ?_, ?_⟩ <;> go_simp
  have hBB2 := hBB1.set 3 (.slice A ln c)
  have hB2 := ((hb1.mono hbw).setCell (p := ⟨b, 3, none⟩) hb (.slice A ln c))
  generalize (fun g => if w.heap.size ≤ g then 1 else tg g) = tg' at *
  have HO2 := Lib.hid hO2
  clear hO1 hO2 b0' b1' b2' b3' b4' hf' hgs ho hTy1
  generalize w1.setCell ⟨b, 3, none⟩ (.slice A ln c) = w2 at *
  go_loopw [16] (fun i wr => ∃ k : Nat, k ≤ ln ∧ i = .int .i64 k ∧ OwnI wr base tg' ⟨rA, rn, rc, some ⟨sb, 0, none⟩, ln, sc, A, ln, c, pA, pn, pc⟩ (freeG freeSV q cs k) p { m with refs := cs, slots := freeG freeSlot m.slots cs k } ∧ Box wr b m.guest ⟨rA, rn, rc, some ⟨sb, 0, none⟩, ln, sc, A, ln, c, pA, pn, pc⟩ ∧ BoxG wr b T ∧ Below base w wr) (fun i _ => ln - (intOf i).toNat)
  case atStart => exact ⟨0, Nat.zero_le _, rfl, by rw [freeG_zero, freeG_zero]; exact HO2.out, hX2, hBB2, hB2⟩
  case round =>
    obtain ⟨k, hk, rfl, ho, hx, hT, hbw'⟩ := hrel
    obtain ⟨b0, b1, b2, b3, b4⟩ := hx
    dsimp only at b0 b1 b2 b3 b4
    have HOr := Lib.hid ho
    clear ho
    by_cases hlt : k < ln
    · obtain ⟨b5, o5, r, rfl, hb5, hx5, c5⟩ := HOr.out.refs.rd.at1 hlt
      have HI := Lib.hid (int_at hx5)
      clear hx5
      cases hr : (r == 0)
      · go_wp2_with fail
        go_roundw
        case rel => exact ⟨k + 1, by omega, by go_num, by rw [freeG_no _ _ _ _ (by rw [HI.out]; simpa using hr), freeG_no _ _ _ _ (by rw [HI.out]; simpa using hr)]; exact HOr.out, ⟨b0, b1, b2, b3, b4⟩, hT, hbw'⟩
        case measure => simp [intOf]; omega
      · have hs := HOr.out.slots
        have x0 := hs.cellAt (k * 3) (by dsimp only; omega)
        have x1 := hs.cellAt (k * 3 + 1) (by dsimp only; omega)
        have x2 := hs.cellAt (k * 3 + 2) (by dsimp only; omega)
        have f0 := hs.frozenAt (k * 3)
        have f1 := hs.frozenAt (k * 3 + 1)
        have f2 := hs.frozenAt (k * 3 + 2)
        have hkq : k < (freeG freeSV q cs k).length := by have := HOr.out.qlen; dsimp only at this; omega
        have hq := List.getElem?_eq_getElem hkq
        generalize (freeG freeSV q cs k)[k] = xk at hq
        have y0 := flat3_at SV.cells SV.cells_len _ k xk hq 0 (by omega)
        rw [Nat.add_zero] at y0
        rw [y0] at x0
        rw [flat3_at SV.cells SV.cells_len _ k xk hq 1 (by omega)] at x1
        rw [flat3_at SV.cells SV.cells_len _ k xk hq 2 (by omega)] at x2
        simp only [SV.cells, slotCells, List.getElem?_cons_zero, List.getElem?_cons_succ] at x0 x1 x2
        obtain ⟨n1, n2⟩ := HOr.out.set3 (x' := freeSV) rfl hq (by decide) (TabO.nil)
        clear hs y0
        go_wp2_with fail
        go_roundw
        case rel =>
          have hz : int cs k = 0 := by have := HI.out; rw [show r = 0 from by simpa using hr] at this; exact this
          have hne : some b ≠ some sb := fun e => hT.ty.ne (own_block HOr.out.slots (b := sb) rfl) hT2 (by injection e)
          exact ⟨k + 1, by omega, by go_num, by rw [freeG_yes _ _ _ _ hz, freeG_yes _ _ _ _ hz]; exact n1, (show Box wr b m.guest _ from ⟨b0, b1, b2, b3, b4⟩).kept n2 hne, hT.kept n2 hne, hbw'.grown n2 (by have := hbw'.size; omega) (fun j e => by injection e with e; omega)⟩
        case measure => simp [intOf]; omega
    · obtain rfl : k = ln := by omega
      go_wp2_with fail
      go_end0
      exact ⟨rfl, ⟨rA, rn, rc, some ⟨sb, 0, none⟩, k, sc, A, k, c, pA, pn, pc⟩, tg', _, ⟨b0, b1, b2, b3, b4⟩, HOr.out, hT, hbw'⟩
end Go.Proofs.Ytpboapeoejdipaa
