/- An own image's cells, stored to. No conditions. -/
import Derived.Test.YtmdjoafbckphfaaMemA
import Derived.Test.YtmdjoafbckphfaaReads1
import Derived.Test.YtmdjoafbckphfaaPureM
namespace Go.Proofs.Ytmdjoafbckphfaa
open Go.RowKit Sl
section
variable {W W' : World} {b : Nat} {g : Int} {v : IV} {row : Option Nat}
theorem Box.kept (h : Box W b g v) (hg : W.grownBy W' row) (hn : some b ≠ row) : Box W' b g v :=
  ⟨hg.cell h.1 hn, hg.cell h.2.1 hn, hg.cell h.2.2.1 hn, hg.cell h.2.2.2.1 hn, hg.cell h.2.2.2.2 hn⟩
theorem TypeB.kept {T : TypeId} (h : TypeB W b T) (hg : W.grownBy W' row) (hn : some b ≠ row) : TypeB W' b T := by
  obtain ⟨c, f, e⟩ := h
  exact ⟨c, f, (hg.block b (Array.getElem?_eq_some_iff.1 e).1 hn).trans e⟩
theorem TypeB.ne {b' : Nat} {T T' : TypeId} (h : TypeB W b T) (h' : TypeB W b' T') (hne : T ≠ T') : b ≠ b' := by
  rintro rfl
  obtain ⟨c, f, e⟩ := h
  obtain ⟨c', f', e'⟩ := h'
  rw [e] at e'
  injection e' with e'
  injection e' with _ e2 _
  exact hne e2
end
theorem TypeB.next {W W' : World} {b : Nat} {T : TypeId} (h : TypeB W b T) (hb : Below W.heap.size W W') : TypeB W' b T := by
  obtain ⟨c, f, e⟩ := h
  exact ⟨c, f, (hb.block b (Array.getElem?_eq_some_iff.1 e).1).trans e⟩
theorem grown_below {W W' : World} {base : Nat} {row : Option Nat} (hg : W.grownBy W' row) (hb : base ≤ W.heap.size) (hr : ∀ k, row = some k → base ≤ k) : Below base W W' := (Below.refl _ _).grown hg hb hr
section
variable {w w' : World} {base : Nat} {tg tg' : Nat → Nat} {v : IV} {q : List SV} {p : List PV} {m : Img}
theorem OwnI.kept (h : OwnI w base tg v q p m) {b : Nat} {T : TypeId} (hg : w.grownBy w' (some b)) (hT : TypeB w b T) (h1 : T ≠ 3) (h2 : T ≠ 80) (h3 : T ≠ 83) : OwnI w' base tg v q p m := by
  have ht : ∀ b', some b = some b' → b' < w.heap.size → ∀ t, (∃ T, TypeB w b' T ∧ T ≠ 3) ∨ tg b' ≠ t := fun b' e _ t => by injection e with e; subst e; exact .inl ⟨T, hT, h1⟩
  exact ⟨h.root.kept hg fun b' e hl => ht b' e hl _, h.refs.kept hg fun b' e hl => ht b' e hl _, h.slots.kept hg (own_far h.slots hT h2), h.sle, h.scap, h.snaps.kept hg (own_far h.snaps hT h3), h.ple, h.pcap, h.hq, h.hp,
    fun k x hx => ⟨(h.tabs k x hx).1, (h.tabs k x hx).2.kept hg fun b' e hl => ht b' e hl _⟩, fun k x hx => ⟨(h.roots k x hx).1, (h.roots k x hx).2.kept hg fun b' e hl => ht b' e hl _⟩⟩
theorem OwnI.retag (h : OwnI w base tg v q p m) (ht : ∀ b, b < w.heap.size → tg' b = tg b) : OwnI w base tg' v q p m :=
  ⟨h.root.retag ht, h.refs.retag ht, h.slots, h.sle, h.scap, h.snaps, h.ple, h.pcap, h.hq, h.hp, fun k x hx => ⟨(h.tabs k x hx).1, (h.tabs k x hx).2.retag ht⟩, fun k x hx => ⟨(h.roots k x hx).1, (h.roots k x hx).2.retag ht⟩⟩
theorem OwnI.newRefs (h : OwnI w base tg v q p m) {A : Option Addr} {n c : Nat} {cs : List Int} (ho : TabO w base tg 1 A n c cs) : OwnI w base tg { v with fA := A, fn := n, fc := c } q p { m with refs := cs } :=
  ⟨h.root, ho, h.slots, h.sle, h.scap, h.snaps, h.ple, h.pcap, h.hq, h.hp, h.tabs, h.roots⟩
theorem OwnI.newGuest (h : OwnI w base tg v q p m) (g : Int) : OwnI w base tg v q p { m with guest := g } := ⟨h.root, h.refs, h.slots, h.sle, h.scap, h.snaps, h.ple, h.pcap, h.hq, h.hp, h.tabs, h.roots⟩
/-- The slots' block turned: the k-th slot is another. -/
theorem OwnI.turned (h : OwnI w base tg v q p m) {b k : Nat} (hA : v.sA = some ⟨b, 0, none⟩) {x' : SV} (hg : w.grownBy w' (some b)) (ho : w'.ownsRow base 80 3 (.slice v.sA v.sn v.sc) v.sn ((q.set k x').flatMap SV.cells))
    (hd : x'.s.data.size ≤ 4611686018427387903) (ht : TabO w base tg (2 * k + 4) x'.A x'.n x'.c x'.s.table) : OwnI w' base tg v (q.set k x') p { m with slots := m.slots.set k x'.s } := by
  have hT : TypeB w b 80 := own_block h.slots (by rw [hA]; rfl)
  have ht' : ∀ b', some b = some b' → b' < w.heap.size → ∀ t, (∃ T, TypeB w b' T ∧ T ≠ 3) ∨ tg b' ≠ t := fun b' e _ t => by injection e with e; subst e; exact .inl ⟨_, hT, by decide⟩
  refine ⟨h.root.kept hg fun b' e hl => ht' b' e hl _, h.refs.kept hg fun b' e hl => ht' b' e hl _, ho, h.sle, h.scap, h.snaps.kept hg (own_far h.snaps hT (by decide)), h.ple, h.pcap, ?_, h.hp, fun j x hx => ?_, fun j x hx => ⟨(h.roots j x hx).1, (h.roots j x hx).2.kept hg fun b' e hl => ht' b' e hl _⟩⟩
  · rw [List.map_set, h.hq]
  · rw [List.getElem?_set] at hx
    split at hx
    · rename_i e
      subst e
      split at hx
      · injection hx with hx; subst hx; exact ⟨hd, ht.kept hg fun b' e hl => ht' b' e hl _⟩
      · cases hx
    · exact ⟨(h.tabs j x hx).1, (h.tabs j x hx).2.kept hg fun b' e hl => ht' b' e hl _⟩
/-- Three cells stored: the k-th slot is another. -/
theorem OwnI.set3 (h : OwnI w base tg v q p m) {b k : Nat} {x x' : SV} (hA : v.sA = some ⟨b, 0, none⟩) (hk : q[k]? = some x)
    (hd : x'.s.data.size ≤ 4611686018427387903) (ht : TabO w base tg (2 * k + 4) x'.A x'.n x'.c x'.s.table) :
    OwnI (((w.setCell ⟨b, k * 3, none⟩ (.int .i64 x'.s.kind)).setCell ⟨b, k * 3 + 1, none⟩ (.string x'.s.data)).setCell ⟨b, k * 3 + 2, none⟩ (.slice x'.A x'.n x'.c)) base tg v (q.set k x') p { m with slots := m.slots.set k x'.s } ∧
    w.grownBy (((w.setCell ⟨b, k * 3, none⟩ (.int .i64 x'.s.kind)).setCell ⟨b, k * 3 + 1, none⟩ (.string x'.s.data)).setCell ⟨b, k * 3 + 2, none⟩ (.slice x'.A x'.n x'.c)) (some b) := by
  have h0 := h.slots
  rw [hA] at h0
  obtain ⟨o1, g1⟩ := h0.stored (k * 3) (.int .i64 x'.s.kind)
  obtain ⟨o2, g2⟩ := o1.stored (k * 3 + 1) (.string x'.s.data)
  obtain ⟨o3, g3⟩ := o2.stored (k * 3 + 2) (.slice x'.A x'.n x'.c)
  rw [flat3_set3 SV.cells SV.cells_len q k x x' hk _ _ _ rfl] at o3
  have hg := (g1.trans g2).trans g3
  exact ⟨h.turned hA hg (by rw [hA]; exact o3) hd ht, hg⟩
end
def freeSV : SV := ⟨freeSlot, none, 0, 0⟩
/-- The block b is an image's box. -/
def BoxB (w : World) (b : Nat) : Prop := ∃ cur, w.heap[b]? = some (.cells cur 27 (0, 0))
theorem BoxB.ty {w : World} {b : Nat} (h : BoxB w b) : TypeB w b 27 := by obtain ⟨c, e⟩ := h; exact ⟨c, _, e⟩
theorem BoxB.fz {w : World} {b : Nat} (h : BoxB w b) (k : Nat) : w.frozen? ⟨b, k, none⟩ = false := by obtain ⟨c, e⟩ := h; exact frozen_of_row w b k c _ e
theorem BoxB.next {w w' : World} {b : Nat} (h : BoxB w b) (hb : Below w.heap.size w w') : BoxB w' b := by obtain ⟨c, e⟩ := h; exact ⟨c, (hb.block b (Array.getElem?_eq_some_iff.1 e).1).trans e⟩
theorem BoxB.set {w : World} {b : Nat} (h : BoxB w b) (k : Nat) (u : Value) : BoxB (w.setCell ⟨b, k, none⟩ u) b := by obtain ⟨c, e⟩ := h; exact ⟨_, heap_setCell_same w b k c _ _ e⟩
theorem BoxB.kept {w w' : World} {b : Nat} {row : Option Nat} (h : BoxB w b) (hg : w.grownBy w' row) (hn : some b ≠ row) : BoxB w' b := by obtain ⟨c, e⟩ := h; exact ⟨c, (hg.block b (Array.getElem?_eq_some_iff.1 e).1 hn).trans e⟩
theorem BoxB.new (w : World) (cs : Array Value) : BoxB (w.alloc (.cells cs 27)) w.heap.size := ⟨cs, heap_alloc_new w _⟩
theorem grown_set (w : World) (b k : Nat) (u : Value) : w.grownBy (w.setCell ⟨b, k, none⟩ u) (some b) := ⟨rfl, rfl, rfl, by simp [World.setCell], fun j _ hk => heap_setCell_other w ⟨b, k, none⟩ j _ (fun e => hk (by simp [e]))⟩
set_option maxRecDepth 100000 in
set_option maxHeartbeats 1000000 in
theorem settle_any (b base : Nat) (tg : Nat → Nat) (v : IV) (q : List SV) (p : List PV) (m : Img) (w : World) (h : OwnI w base tg v q p m) (hx : Box w b m.guest v) (hBB : BoxB w b) (hb : base ≤ b) (hc : CBd m) (hw : Wired m) :
    Calls Try.prog 61 #[.pointer (some ⟨b, 0, none⟩)] w fun e w' => e = .returned (.tuple #[]) ∧ ∃ v' tg' q', Box w' b m.guest v' ∧ OwnI w' base tg' v' q' p (settled m) ∧ BoxB w' b ∧ Below base w w' := by
  have K1 := Lib.hid (counts_any v m w h.imgR hc hw)
  have hcl := countsOf_len m
  have hsn : v.sn = m.slots.length := h.imgR.slen.symm
  obtain ⟨sb, hsA, hsb, hsl⟩ := own_some h.slots (by have := hc.one; omega)
  have h40 := hc.slots
  obtain ⟨rA, rn, rc, sA, sn, sc, fA, fn, fc, pA, pn, pc⟩ := v
  obtain ⟨b0, b1, b2, b3, b4⟩ := hx
  dsimp only at *
  subst hsn
  subst hsA
  have HO := Lib.hid h
  have hT := hBB.ty
  have hbw : base ≤ w.heap.size := by have := hT.lt; omega
  unfold settled
  generalize countsOf m = cs at *
  have HCL := Lib.hid hcl
  clear h hc hw hcl
  generalize hln : m.slots.length = ln at *
  have HLN := Lib.hid hln
  clear hln
  go_enter Try.func61, Try.ntmps61
  go_wp2_with fail
  refine K1.out.mono ?_
  rintro e w1 ⟨A, c, rfl, ho, hb1, hc1, hc2⟩
  have hT1 := hT.next hb1
  have hBB1 := hBB.next hb1
  have b0' := (hb1.cell (p := ⟨b, 0, none⟩) hT.lt).trans b0
  have b1' := (hb1.cell (p := ⟨b, 1, none⟩) hT.lt).trans b1
  have b2' := (hb1.cell (p := ⟨b, 2, none⟩) hT.lt).trans b2
  have b3' := (hb1.cell (p := ⟨b, 3, none⟩) hT.lt).trans b3
  have b4' := (hb1.cell (p := ⟨b, 4, none⟩) hT.lt).trans b4
  have hf' := hBB1.fz 3
  go_wp2_with fail
  have hgs := grown_set w1 b 3 (.slice A ln c)
  have hO1 : OwnI w1 base (fun g => if w.heap.size ≤ g then 1 else tg g) ⟨rA, rn, rc, some ⟨sb, 0, none⟩, ln, sc, A, ln, c, pA, pn, pc⟩ q p { m with refs := cs } :=
    ((HO.out.retag (tg' := fun g => if w.heap.size ≤ g then 1 else tg g) (fun b' hb' => by simp; omega)).next hb1).newRefs ⟨hc1, ⟨by omega, by unfold maxLen at hc2; omega⟩, .inr ⟨own_base ho hbw, fun g hg => if_pos (ho.lt g hg).1⟩⟩
  have hO2 := hO1.kept hgs hT1 (by decide) (by decide) (by decide)
  have hX2 : Box (w1.setCell ⟨b, 3, none⟩ (.slice A ln c)) b m.guest ⟨rA, rn, rc, some ⟨sb, 0, none⟩, ln, sc, A, ln, c, pA, pn, pc⟩ := by
    refine ⟨?_, ?_, ?_, ?_, ?_⟩ <;> go_simp
  have hBB2 := hBB1.set 3 (.slice A ln c)
  have hB2 := ((hb1.mono hbw).setCell (p := ⟨b, 3, none⟩) hb (.slice A ln c))
  generalize (fun g => if w.heap.size ≤ g then 1 else tg g) = tg' at *
  have HO2 := Lib.hid hO2
  clear hO1 hO2 b0' b1' b2' b3' b4' hf' hgs ho hT1
  generalize w1.setCell ⟨b, 3, none⟩ (.slice A ln c) = w2 at *
  go_loopw [16] (fun i wr => ∃ k : Nat, k ≤ ln ∧ i = .int .i64 k ∧ OwnI wr base tg' ⟨rA, rn, rc, some ⟨sb, 0, none⟩, ln, sc, A, ln, c, pA, pn, pc⟩ (freeG freeSV q cs k) p { m with refs := cs, slots := freeG freeSlot m.slots cs k } ∧ Box wr b m.guest ⟨rA, rn, rc, some ⟨sb, 0, none⟩, ln, sc, A, ln, c, pA, pn, pc⟩ ∧ BoxB wr b ∧ Below base w wr) (fun i _ => ln - (intOf i).toNat)
  case atStart => exact ⟨0, Nat.zero_le _, rfl, by rw [freeG_zero, freeG_zero]; exact HO2.out, hX2, hBB2, hB2⟩
  case round =>
    obtain ⟨k, hk, rfl, ho, hx, hT, hbw'⟩ := hrel
    obtain ⟨b0, b1, b2, b3, b4⟩ := hx
    dsimp only at b0 b1 b2 b3 b4
    have HOr := Lib.hid ho
    clear ho
    by_cases hlt : k < ln
    · obtain ⟨b5, o5, r, rfl, hb5, hx5, c5⟩ := HOr.out.refs.rd.at1 hlt
      have HI := Lib.hid (int_at hx5)
      clear hx5
      cases hr : (r == 0)
      · go_wp2_with fail
        go_roundw
        case rel => exact ⟨k + 1, by omega, by go_num, by rw [freeG_no _ _ _ _ (by rw [HI.out]; simpa using hr), freeG_no _ _ _ _ (by rw [HI.out]; simpa using hr)]; exact HOr.out, ⟨b0, b1, b2, b3, b4⟩, hT, hbw'⟩
        case measure => simp [intOf]; omega
      · have hs := HOr.out.slots
        have x0 := hs.cellAt (k * 3) (by dsimp only; omega)
        have x1 := hs.cellAt (k * 3 + 1) (by dsimp only; omega)
        have x2 := hs.cellAt (k * 3 + 2) (by dsimp only; omega)
        have f0 := hs.frozenAt (k * 3)
        have f1 := hs.frozenAt (k * 3 + 1)
        have f2 := hs.frozenAt (k * 3 + 2)
        have hkq : k < (freeG freeSV q cs k).length := by have := HOr.out.qlen; dsimp only at this; omega
        have hq := List.getElem?_eq_getElem hkq
        generalize (freeG freeSV q cs k)[k] = xk at hq
        have y0 := flat3_at SV.cells SV.cells_len _ k xk hq 0 (by omega)
        rw [Nat.add_zero] at y0
        rw [y0] at x0
        rw [flat3_at SV.cells SV.cells_len _ k xk hq 1 (by omega)] at x1
        rw [flat3_at SV.cells SV.cells_len _ k xk hq 2 (by omega)] at x2
        simp only [SV.cells, slotCells, List.getElem?_cons_zero, List.getElem?_cons_succ] at x0 x1 x2
        obtain ⟨n1, n2⟩ := HOr.out.set3 (x' := freeSV) rfl hq (by decide) (TabO.nil)
        clear hs y0
        go_wp2_with fail
        go_roundw
        case rel =>
          have hz : int cs k = 0 := by have := HI.out; rw [show r = 0 from by simpa using hr] at this; exact this
          have hne : some b ≠ some sb := fun e => hT.ty.ne (own_block HOr.out.slots (b := sb) rfl) (by decide) (by injection e)
          exact ⟨k + 1, by omega, by go_num, by rw [freeG_yes _ _ _ _ hz, freeG_yes _ _ _ _ hz]; exact n1, (show Box wr b m.guest _ from ⟨b0, b1, b2, b3, b4⟩).kept n2 hne, hT.kept n2 hne, hbw'.grown n2 (by have := hbw'.size; omega) (fun j e => by injection e with e; omega)⟩
        case measure => simp [intOf]; omega
    · obtain rfl : k = ln := by omega
      go_wp2_with fail
      go_end0
      exact ⟨rfl, ⟨rA, rn, rc, some ⟨sb, 0, none⟩, k, sc, A, k, c, pA, pn, pc⟩, tg', _, ⟨b0, b1, b2, b3, b4⟩, HOr.out, hT, hbw'⟩
end Go.Proofs.Ytmdjoafbckphfaa
