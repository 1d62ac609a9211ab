/- Texts of the proof of restImages_holds: SnMem. Conditions: as each text says. -/
import Derived.Test.YtfilnnjanhjbeaaGreatRI18
import Derived.Test.YtfilnnjanhjbeaaGreatRI20
namespace Go.Proofs.YtfilnnjanhjbeaaGreat
open Go.RowKit Sl
section
variable {w w' : World} {base : Nat} {tg tg' : Nat → Nat} {v : IV} {q : List SV} {p p' : List PV} {m : Img}
theorem TabO.sh {t n c : Nat} {A : Option Addr} {xs : List Int} {f : Nat → Nat} (h : TabO w base tg t A n c xs) (hf : 4 ≤ t → 4 ≤ f t) : TabO w base (fun b => f (tg b)) (f t) A n c xs :=
  ⟨h.1, h.2.1, h.2.2.imp (fun hh => ⟨hh.1, hh.2.1, hh.2.2.imp hf id⟩) fun ⟨ho, ht⟩ => ⟨ho, fun b e => congrArg f (ht b e)⟩⟩
theorem OwnI.snapsTo (h : OwnI w base tg v q p m) (f : Nat → Nat) (f0 : f 0 = 0) (f1 : f 1 = 1) (f2 : ∀ k, f (2 * k + 4) = 2 * k + 4) {A : Option Addr} {n c : Nat}
    (ho : w'.ownsRow base 39 3 (.slice A n c) n (p'.flatMap PV.cells)) (hg : w.grownBy w' (Value.slice v.pA v.pn v.pc).ownBlock) (hnc : n ≤ c) (hn : n ≤ 1000) (hcm : c ≤ maxLen)
    (hr : ∀ (k : Nat) (x : PV), p'[k]? = some x → x.s.name.size ≤ 4611686018427387903 ∧ TabO w base (fun b => f (tg b)) (2 * k + 5) x.A x.n x.c x.s.root) :
    OwnI w' base (fun b => f (tg b)) { v with pA := A, pn := n, pc := c } q p' { m with snaps := p'.map (·.s) } := by
  unfold maxLen at hcm
  refine ⟨?_, ?_, h.slots.kept hg (own_row_far h.slots h.snaps (by decide)), h.sle, h.scap, ho, hnc, ⟨by dsimp only; omega, by dsimp only; omega⟩, h.hq, rfl, fun k x hx => ⟨(h.tabs k x hx).1, ?_⟩, fun k x hx => ⟨(hr k x hx).1, (hr k x hx).2.far h.snaps (by decide) hg⟩⟩
  · have := (h.root.sh (f := f) (fun h => by omega)).far h.snaps (by decide) hg
    rw [f0] at this; exact this
  · have := (h.refs.sh (f := f) (fun h => by omega)).far h.snaps (by decide) hg
    rw [f1] at this; exact this
  · have := ((h.tabs k x hx).2.sh (f := f) (fun h => by rw [f2]; exact h)).far h.snaps (by decide) hg
    rw [f2] at this; exact this
def fIns (k t : Nat) : Nat := if t = 2 then 2 * k + 5 else if t % 2 = 1 ∧ 2 * k + 5 ≤ t then t + 2 else t
def fSwap (k t : Nat) : Nat := if t = 2 * k + 5 then 2 * k + 3 else if t = 2 * k + 3 then 2 * k + 5 else t
theorem fIns_4 {k t : Nat} (h : 4 ≤ t) : 4 ≤ fIns k t := by unfold fIns; split <;> (try split) <;> omega
theorem fSwap_4 {k t : Nat} (hk : 1 ≤ k) (h : 4 ≤ t) : 4 ≤ fSwap k t := by unfold fSwap; split <;> (try split) <;> omega
theorem OwnI.putSnapN (h : OwnI w base tg v q p m) {k : Nat} (hk : k ≤ p.length) {x : PV} (hx : x.s.name.size ≤ 4611686018427387903) (ht : TabO w base tg 2 x.A x.n x.c x.s.root) {A : Option Addr} {n c : Nat}
    (ho : w'.ownsRow base 39 3 (.slice A n c) n ((p.take k ++ x :: p.drop k).flatMap PV.cells)) (hg : w.grownBy w' (Value.slice v.pA v.pn v.pc).ownBlock) (hnc : n ≤ c) (hn : n ≤ 1000) (hcm : c ≤ maxLen) :
    OwnI w' base (fun b => fIns k (tg b)) { v with pA := A, pn := n, pc := c } q (p.take k ++ x :: p.drop k) { m with snaps := m.snaps.take k ++ x.s :: m.snaps.drop k } := by
  have e : (p.take k ++ x :: p.drop k).map (·.s) = m.snaps.take k ++ x.s :: m.snaps.drop k := by rw [List.map_append, List.map_cons, List.map_take, List.map_drop, h.hp]
  rw [← e]
  refine h.snapsTo (fIns k) (by unfold fIns; simp) (by unfold fIns; simp) (fun j => by unfold fIns; rw [if_neg (by omega), if_neg (by omega)]) ho hg hnc hn hcm fun j y hy => ?_
  have hl : (p.take k).length = k := by rw [List.length_take]; omega
  rcases Nat.lt_trichotomy j k with hj | hj | hj
  · rw [List.getElem?_append_left (by omega), List.getElem?_take_of_lt hj] at hy
    have := (h.roots j y hy).2.sh (f := fIns k) fIns_4
    rw [show fIns k (2 * j + 5) = 2 * j + 5 from by unfold fIns; rw [if_neg (by omega), if_neg (by omega)]] at this
    exact ⟨(h.roots j y hy).1, this⟩
  · subst hj
    rw [List.getElem?_append_right (by omega), hl, Nat.sub_self, List.getElem?_cons_zero] at hy
    injection hy with hy
    subst hy
    have := ht.sh (f := fIns j) (fun h => by omega)
    rw [show fIns j 2 = 2 * j + 5 from by unfold fIns; rw [if_pos rfl]] at this
    exact ⟨hx, this⟩
  · rw [List.getElem?_append_right (by omega), hl, show j - k = (j - k - 1) + 1 from by omega, List.getElem?_cons_succ, List.getElem?_drop, show k + (j - k - 1) = j - 1 from by omega] at hy
    have := (h.roots (j - 1) y hy).2.sh (f := fIns k) fIns_4
    rw [show fIns k (2 * (j - 1) + 5) = 2 * j + 5 from by unfold fIns; rw [if_neg (by omega), if_pos (by omega)]; omega] at this
    exact ⟨(h.roots (j - 1) y hy).1, this⟩
theorem OwnI.swapSnap (h : OwnI w base tg v q p m) {k : Nat} (hk : 1 ≤ k) {x y : PV} (hx : p[k - 1]? = some x) (hy : p[k]? = some y) {A : Option Addr} {n c : Nat}
    (ho : w'.ownsRow base 39 3 (.slice A n c) n (((p.set (k - 1) y).set k x).flatMap PV.cells)) (hg : w.grownBy w' (Value.slice v.pA v.pn v.pc).ownBlock) (hnc : n ≤ c) (hn : n ≤ 1000) (hcm : c ≤ maxLen) :
    OwnI w' base (fun b => fSwap k (tg b)) { v with pA := A, pn := n, pc := c } q ((p.set (k - 1) y).set k x) { m with snaps := (m.snaps.set (k - 1) y.s).set k x.s } := by
  have e : ((p.set (k - 1) y).set k x).map (·.s) = (m.snaps.set (k - 1) y.s).set k x.s := by rw [List.map_set, List.map_set, h.hp]
  rw [← e]
  refine h.snapsTo (fSwap k) (by unfold fSwap; rw [if_neg (by omega), if_neg (by omega)]) (by unfold fSwap; rw [if_neg (by omega), if_neg (by omega)]) (fun j => by unfold fSwap; rw [if_neg (by omega), if_neg (by omega)]) ho hg hnc hn hcm fun j z hz => ?_
  rw [List.getElem?_set] at hz
  split at hz
  · rename_i e1
    subst e1
    split at hz
    · injection hz with hz
      subst hz
      have := (h.roots (k - 1) x hx).2.sh (f := fSwap k) (fSwap_4 hk)
      rw [show fSwap k (2 * (k - 1) + 5) = 2 * k + 5 from by unfold fSwap; rw [if_neg (by omega), if_pos (by omega)]] at this
      exact ⟨(h.roots (k - 1) x hx).1, this⟩
    · cases hz
  · rw [List.getElem?_set] at hz
    split at hz
    · rename_i e1 e2
      subst e2
      split at hz
      · injection hz with hz
        subst hz
        have := (h.roots k y hy).2.sh (f := fSwap k) (fSwap_4 hk)
        rw [show fSwap k (2 * k + 5) = 2 * (k - 1) + 5 from by unfold fSwap; rw [if_pos rfl]; omega] at this
        exact ⟨(h.roots k y hy).1, this⟩
      · cases hz
    · rename_i e1 e2
      have := (h.roots j z hz).2.sh (f := fSwap k) (fSwap_4 hk)
      rw [show fSwap k (2 * j + 5) = 2 * j + 5 from by unfold fSwap; rw [if_neg (by omega), if_neg (by omega)]] at this
      exact ⟨(h.roots j z hz).1, this⟩
end
end Go.Proofs.YtfilnnjanhjbeaaGreat
namespace Go.Proofs.YtfilnnjanhjbeaaGreat
open Go.RowKit Sl
def KeepX (b : Nat) (w w' : World) : Prop := ∀ j, j < w.heap.size → j ≠ b → TypeB w j 26 → w'.heap[j]? = w.heap[j]?
theorem TypeB.of_heap {w w' : World} {j : Nat} {T : TypeId} (h : TypeB w j T) (e : w'.heap[j]? = w.heap[j]?) : TypeB w' j T := by
  obtain ⟨c, f, hh⟩ := h
  exact ⟨c, f, e.trans hh⟩
set_option maxRecDepth 100000 in
set_option maxHeartbeats 1000000 in
theorem settleK_any (b base : Nat) (tg : Nat → Nat) (v : IV) (q : List SV) (p : List PV) (m : Img) (w : World) (h : OwnI w base tg v q p m) (hx : Box w b m.guest v) (hBB : BoxB w b) (hb : base ≤ b) (hc : CBd m) (hw : Wired m) :
    Calls Tryz.prog 37 #[.pointer (some ⟨b, 0, none⟩)] w fun e w' => e = .returned (.tuple #[]) ∧ ∃ v' tg' q', Box w' b m.guest v' ∧ OwnI w' base tg' v' q' p (settled m) ∧ BoxB w' b ∧ Below base w w' ∧ KeepX b w w' := by
  have K1 := Lib.hid (counts_any v m w h.imgR hc hw)
  have hcl := countsOf_len m
  have hsn : v.sn = m.slots.length := h.imgR.slen.symm
  obtain ⟨sb, hsA, hsb, hsl⟩ := own_some h.slots (by have := hc.one; omega)
  have h40 := hc.slots
  obtain ⟨rA, rn, rc, sA, sn, sc, fA, fn, fc, pA, pn, pc⟩ := v
  obtain ⟨b0, b1, b2, b3, b4⟩ := hx
  dsimp only at *
  subst hsn
  subst hsA
  have HO := Lib.hid h
  have hT := hBB.ty
  have hbw : base ≤ w.heap.size := by have := hT.lt; omega
  unfold settled
  generalize countsOf m = cs at *
  have HCL := Lib.hid hcl
  clear h hc hw hcl
  generalize hln : m.slots.length = ln at *
  have HLN := Lib.hid hln
  clear hln
  go_enter Tryz.func37, Tryz.ntmps37
  go_wp2_with fail
  refine K1.out.mono ?_
  rintro e w1 ⟨A, c, rfl, ho, hb1, hc1, hc2⟩
  have hT1 := hT.next hb1
  have hBB1 := hBB.next hb1
  have b0' := (hb1.cell (p := ⟨b, 0, none⟩) hT.lt).trans b0
  have b1' := (hb1.cell (p := ⟨b, 1, none⟩) hT.lt).trans b1
  have b2' := (hb1.cell (p := ⟨b, 2, none⟩) hT.lt).trans b2
  have b3' := (hb1.cell (p := ⟨b, 3, none⟩) hT.lt).trans b3
  have b4' := (hb1.cell (p := ⟨b, 4, none⟩) hT.lt).trans b4
  have hf' := hBB1.fz 3
  go_wp2_with fail
  have hgs := grown_set w1 b 3 (.slice A ln c)
  have hO1 : OwnI w1 base (fun g => if w.heap.size ≤ g then 1 else tg g) ⟨rA, rn, rc, some ⟨sb, 0, none⟩, ln, sc, A, ln, c, pA, pn, pc⟩ q p { m with refs := cs } :=
    ((HO.out.retag (tg' := fun g => if w.heap.size ≤ g then 1 else tg g) (fun b' hb' => by simp; omega)).next hb1).newRefs ⟨hc1, ⟨by omega, by unfold maxLen at hc2; omega⟩, .inr ⟨own_base ho hbw, fun g hg => if_pos (ho.lt g hg).1⟩⟩
  have hO2 := hO1.kept hgs hT1 (by decide) (by decide) (by decide)
  have hX2 : Box (w1.setCell ⟨b, 3, none⟩ (.slice A ln c)) b m.guest ⟨rA, rn, rc, some ⟨sb, 0, none⟩, ln, sc, A, ln, c, pA, pn, pc⟩ := by
    refine ⟨?_, ?_, ?_, ?_, ?_⟩ <;> go_simp
  have hBB2 := hBB1.set 3 (.slice A ln c)
  have hB2 := ((hb1.mono hbw).setCell (p := ⟨b, 3, none⟩) hb (.slice A ln c))
  have hK2 : KeepX b w (w1.setCell ⟨b, 3, none⟩ (.slice A ln c)) := fun j hj hjb _ => (heap_setCell_other w1 ⟨b, 3, none⟩ j _ hjb).trans (hb1.block j hj)
  generalize (fun g => if w.heap.size ≤ g then 1 else tg g) = tg' at *
  have HO2 := Lib.hid hO2
  clear hO1 hO2 b0' b1' b2' b3' b4' hf' hgs ho hT1
  generalize w1.setCell ⟨b, 3, none⟩ (.slice A ln c) = w2 at *
  go_loopw [16] (fun i wr => ∃ k : Nat, k ≤ ln ∧ i = .int .i64 k ∧ OwnI wr base tg' ⟨rA, rn, rc, some ⟨sb, 0, none⟩, ln, sc, A, ln, c, pA, pn, pc⟩ (freeG freeSV q cs k) p { m with refs := cs, slots := freeG freeSlot m.slots cs k } ∧ Box wr b m.guest ⟨rA, rn, rc, some ⟨sb, 0, none⟩, ln, sc, A, ln, c, pA, pn, pc⟩ ∧ BoxB wr b ∧ Below base w wr ∧ KeepX b w wr) (fun i _ => ln - (intOf i).toNat)
  case atStart => exact ⟨0, Nat.zero_le _, rfl, by rw [freeG_zero, freeG_zero]; exact HO2.out, hX2, hBB2, hB2, hK2⟩
  case round =>
    obtain ⟨k, hk, rfl, ho, hx, hT, hbw', hkw⟩ := hrel
    obtain ⟨b0, b1, b2, b3, b4⟩ := hx
    dsimp only at b0 b1 b2 b3 b4
    have HOr := Lib.hid ho
    clear ho
    by_cases hlt : k < ln
    · obtain ⟨b5, o5, r, rfl, hb5, hx5, c5⟩ := HOr.out.refs.rd.at1 hlt
      have HI := Lib.hid (int_at hx5)
      clear hx5
      cases hr : (r == 0)
      · go_wp2_with fail
        go_roundw
        case rel => exact ⟨k + 1, by omega, by go_num, by rw [freeG_no _ _ _ _ (by rw [HI.out]; simpa using hr), freeG_no _ _ _ _ (by rw [HI.out]; simpa using hr)]; exact HOr.out, ⟨b0, b1, b2, b3, b4⟩, hT, hbw', hkw⟩
        case measure => simp [intOf]; omega
      · have hs := HOr.out.slots
        have x0 := hs.cellAt (k * 3) (by dsimp only; omega)
        have x1 := hs.cellAt (k * 3 + 1) (by dsimp only; omega)
        have x2 := hs.cellAt (k * 3 + 2) (by dsimp only; omega)
        have f0 := hs.frozenAt (k * 3)
        have f1 := hs.frozenAt (k * 3 + 1)
        have f2 := hs.frozenAt (k * 3 + 2)
        have hkq : k < (freeG freeSV q cs k).length := by have := HOr.out.qlen; dsimp only at this; omega
        have hq := List.getElem?_eq_getElem hkq
        generalize (freeG freeSV q cs k)[k] = xk at hq
        have y0 := flat3_at SV.cells SV.cells_len _ k xk hq 0 (by omega)
        rw [Nat.add_zero] at y0
        rw [y0] at x0
        rw [flat3_at SV.cells SV.cells_len _ k xk hq 1 (by omega)] at x1
        rw [flat3_at SV.cells SV.cells_len _ k xk hq 2 (by omega)] at x2
        simp only [SV.cells, slotCells, List.getElem?_cons_zero, List.getElem?_cons_succ] at x0 x1 x2
        obtain ⟨n1, n2⟩ := HOr.out.set3 (x' := freeSV) rfl hq (by decide) (TabO.nil)
        clear hs y0
        go_wp2_with fail
        go_roundw
        case rel =>
          have hz : int cs k = 0 := by have := HI.out; rw [show r = 0 from by simpa using hr] at this; exact this
          have hne : some b ≠ some sb := fun e => hT.ty.ne (own_block HOr.out.slots (b := sb) rfl) (by decide) (by injection e)
          exact ⟨k + 1, by omega, by go_num, by rw [freeG_yes _ _ _ _ hz, freeG_yes _ _ _ _ hz]; exact n1, (show Box wr b m.guest _ from ⟨b0, b1, b2, b3, b4⟩).kept n2 hne, hT.kept n2 hne, hbw'.grown n2 (by have := hbw'.size; omega) (fun j e => by injection e with e; omega), fun j hj hjb hTj => (n2.block j (by have := hbw'.size; omega) (fun e => (TypeB.ne (TypeB.of_heap hTj (hkw j hj hjb hTj)) (own_block HOr.out.slots (b := sb) rfl) (by decide)) (by injection e))).trans (hkw j hj hjb hTj)⟩
        case measure => simp [intOf]; omega
    · obtain rfl : k = ln := by omega
      go_wp2_with fail
      go_end0
      exact ⟨rfl, ⟨rA, rn, rc, some ⟨sb, 0, none⟩, k, sc, A, k, c, pA, pn, pc⟩, tg', _, ⟨b0, b1, b2, b3, b4⟩, HOr.out, hT, hbw', hkw⟩
end Go.Proofs.YtfilnnjanhjbeaaGreat
