/- An own image's cells, stored to. No conditions. -/
import Derived.Test.YtbhhcjnjddcocaaMemA
import Derived.Test.YtbhhcjnjddcocaaReads1
import Derived.Test.YtbhhcjnjddcocaaPureM
namespace Go.Proofs.Ytbhhcjnjddcocaa
open Go.RowKit Sl
section
variable {W W' : World} {b : Nat} {g : Int} {v : IV} {row : Option Nat}
theorem Box.kept (h : Box W b g v) (hg : W.grownBy W' row) (hn : some b ≠ row) : Box W' b g v :=
  ⟨hg.cell h.1 hn, hg.cell h.2.1 hn, hg.cell h.2.2.1 hn, hg.cell h.2.2.2.1 hn, hg.cell h.2.2.2.2 hn⟩
theorem TypeB.kept {T : TypeId} (h : TypeB W b T) (hg : W.grownBy W' row) (hn : some b ≠ row) : TypeB W' b T := by
  obtain ⟨c, f, e⟩ := h
  exact ⟨c, f, (hg.block b (Array.getElem?_eq_some_iff.1 e).1 hn).trans e⟩
theorem TypeB.ne {b' : Nat} {T T' : TypeId} (h : TypeB W b T) (h' : TypeB W b' T') (hne : T ≠ T') : b ≠ b' := by
  rintro rfl
  obtain ⟨c, f, e⟩ := h
  obtain ⟨c', f', e'⟩ := h'
  rw [e] at e'
  injection e' with e'
  injection e' with _ e2 _
  exact hne e2
end
theorem TypeB.next {W W' : World} {b : Nat} {T : TypeId} (h : TypeB W b T) (hb : Below W.heap.size W W') : TypeB W' b T := by
  obtain ⟨c, f, e⟩ := h
  exact ⟨c, f, (hb.block b (Array.getElem?_eq_some_iff.1 e).1).trans e⟩
theorem grown_below {W W' : World} {base : Nat} {row : Option Nat} (hg : W.grownBy W' row) (hb : base ≤ W.heap.size) (hr : ∀ k, row = some k → base ≤ k) : Below base W W' := (Below.refl _ _).grown hg hb hr
section
variable {w w' : World} {base : Nat} {tg tg' : Nat → Nat} {v : IV} {q : List SV} {p : List PV} {m : Img}
theorem OwnI.kept (h : OwnI w base tg v q p m) {b : Nat} {T : TypeId} (hg : w.grownBy w' (some b)) (hT : TypeB w b T) (h1 : T ≠ 3) (h2 : T ≠ 45) (h3 : T ≠ 48) : OwnI w' base tg v q p m := by
  have ht : ∀ b', some b = some b' → b' < w.heap.size → ∀ t, (∃ T, TypeB w b' T ∧ T ≠ 3) ∨ tg b' ≠ t := fun b' e _ t => by injection e with e; subst e; exact .inl ⟨T, hT, h1⟩
  exact ⟨h.root.kept hg fun b' e hl => ht b' e hl _, h.refs.kept hg fun b' e hl => ht b' e hl _, h.slots.kept hg (own_far h.slots hT h2), h.sle, h.scap, h.snaps.kept hg (own_far h.snaps hT h3), h.ple, h.pcap, h.hq, h.hp,
    fun k x hx => ⟨(h.tabs k x hx).1, (h.tabs k x hx).2.kept hg fun b' e hl => ht b' e hl _⟩, fun k x hx => ⟨(h.roots k x hx).1, (h.roots k x hx).2.kept hg fun b' e hl => ht b' e hl _⟩⟩
theorem OwnI.retag (h : OwnI w base tg v q p m) (ht : ∀ b, b < w.heap.size → tg' b = tg b) : OwnI w base tg' v q p m :=
  ⟨h.root.retag ht, h.refs.retag ht, h.slots, h.sle, h.scap, h.snaps, h.ple, h.pcap, h.hq, h.hp, fun k x hx => ⟨(h.tabs k x hx).1, (h.tabs k x hx).2.retag ht⟩, fun k x hx => ⟨(h.roots k x hx).1, (h.roots k x hx).2.retag ht⟩⟩
theorem OwnI.newRefs (h : OwnI w base tg v q p m) {A : Option Addr} {n c : Nat} {cs : List Int} (ho : TabO w base tg 1 A n c cs) : OwnI w base tg { v with fA := A, fn := n, fc := c } q p { m with refs := cs } :=
  ⟨h.root, ho, h.slots, h.sle, h.scap, h.snaps, h.ple, h.pcap, h.hq, h.hp, h.tabs, h.roots⟩
theorem OwnI.newGuest (h : OwnI w base tg v q p m) (g : Int) : OwnI w base tg v q p { m with guest := g } := ⟨h.root, h.refs, h.slots, h.sle, h.scap, h.snaps, h.ple, h.pcap, h.hq, h.hp, h.tabs, h.roots⟩
/-- The slots' block turned: the k-th slot is another. -/
theorem OwnI.turned (h : OwnI w base tg v q p m) {b k : Nat} (hA : v.sA = some ⟨b, 0, none⟩) {x' : SV} (hg : w.grownBy w' (some b)) (ho : w'.ownsRow base 45 3 (.slice v.sA v.sn v.sc) v.sn ((q.set k x').flatMap SV.cells))
    (hd : x'.s.data.size ≤ 4611686018427387903) (ht : TabO w base tg (2 * k + 4) x'.A x'.n x'.c x'.s.table) : OwnI w' base tg v (q.set k x') p { m with slots := m.slots.set k x'.s } := by
  have hT : TypeB w b 45 := own_block h.slots (by rw [hA]; rfl)
  have ht' : ∀ b', some b = some b' → b' < w.heap.size → ∀ t, (∃ T, TypeB w b' T ∧ T ≠ 3) ∨ tg b' ≠ t := fun b' e _ t => by injection e with e; subst e; exact .inl ⟨_, hT, by decide⟩
  refine ⟨h.root.kept hg fun b' e hl => ht' b' e hl _, h.refs.kept hg fun b' e hl => ht' b' e hl _, ho, h.sle, h.scap, h.snaps.kept hg (own_far h.snaps hT (by decide)), h.ple, h.pcap, ?_, h.hp, fun j x hx => ?_, fun j x hx => ⟨(h.roots j x hx).1, (h.roots j x hx).2.kept hg fun b' e hl => ht' b' e hl _⟩⟩
  · rw [List.map_set, h.hq]
  · rw [List.getElem?_set] at hx
    split at hx
    · rename_i e
      subst e
      split at hx
      · injection hx with hx; subst hx; exact ⟨hd, ht.kept hg fun b' e hl => ht' b' e hl _⟩
      · cases hx
    · exact ⟨(h.tabs j x hx).1, (h.tabs j x hx).2.kept hg fun b' e hl => ht' b' e hl _⟩
/-- Three cells stored: the k-th slot is another. -/
theorem OwnI.set3 (h : OwnI w base tg v q p m) {b k : Nat} {x x' : SV} (hA : v.sA = some ⟨b, 0, none⟩) (hk : q[k]? = some x)
    (hd : x'.s.data.size ≤ 4611686018427387903) (ht : TabO w base tg (2 * k + 4) x'.A x'.n x'.c x'.s.table) :
    OwnI (((w.setCell ⟨b, k * 3, none⟩ (.int .i64 x'.s.kind)).setCell ⟨b, k * 3 + 1, none⟩ (.string x'.s.data)).setCell ⟨b, k * 3 + 2, none⟩ (.slice x'.A x'.n x'.c)) base tg v (q.set k x') p { m with slots := m.slots.set k x'.s } ∧
    w.grownBy (((w.setCell ⟨b, k * 3, none⟩ (.int .i64 x'.s.kind)).setCell ⟨b, k * 3 + 1, none⟩ (.string x'.s.data)).setCell ⟨b, k * 3 + 2, none⟩ (.slice x'.A x'.n x'.c)) (some b) := by
  have h0 := h.slots
  rw [hA] at h0
  obtain ⟨o1, g1⟩ := h0.stored (k * 3) (.int .i64 x'.s.kind)
  obtain ⟨o2, g2⟩ := o1.stored (k * 3 + 1) (.string x'.s.data)
  obtain ⟨o3, g3⟩ := o2.stored (k * 3 + 2) (.slice x'.A x'.n x'.c)
  rw [flat3_set3 SV.cells SV.cells_len q k x x' hk _ _ _ rfl] at o3
  have hg := (g1.trans g2).trans g3
  exact ⟨h.turned hA hg (by rw [hA]; exact o3) hd ht, hg⟩
end
def freeSV : SV := ⟨freeSlot, none, 0, 0⟩
/-- The block b is an image's box. -/
def BoxB (w : World) (b : Nat) : Prop := ∃ cur, w.heap[b]? = some (.cells cur 26 (0, 0))
theorem BoxB.ty {w : World} {b : Nat} (h : BoxB w b) : TypeB w b 26 := by obtain ⟨c, e⟩ := h; exact ⟨c, _, e⟩
theorem BoxB.fz {w : World} {b : Nat} (h : BoxB w b) (k : Nat) : w.frozen? ⟨b, k, none⟩ = false := by obtain ⟨c, e⟩ := h; exact frozen_of_row w b k c _ e
theorem BoxB.next {w w' : World} {b : Nat} (h : BoxB w b) (hb : Below w.heap.size w w') : BoxB w' b := by obtain ⟨c, e⟩ := h; exact ⟨c, (hb.block b (Array.getElem?_eq_some_iff.1 e).1).trans e⟩
theorem BoxB.set {w : World} {b : Nat} (h : BoxB w b) (k : Nat) (u : Value) : BoxB (w.setCell ⟨b, k, none⟩ u) b := by obtain ⟨c, e⟩ := h; exact ⟨_, heap_setCell_same w b k c _ _ e⟩
theorem BoxB.kept {w w' : World} {b : Nat} {row : Option Nat} (h : BoxB w b) (hg : w.grownBy w' row) (hn : some b ≠ row) : BoxB w' b := by obtain ⟨c, e⟩ := h; exact ⟨c, (hg.block b (Array.getElem?_eq_some_iff.1 e).1 hn).trans e⟩
theorem BoxB.new (w : World) (cs : Array Value) : BoxB (w.alloc (.cells cs 26)) w.heap.size := ⟨cs, heap_alloc_new w _⟩
theorem grown_set (w : World) (b k : Nat) (u : Value) : w.grownBy (w.setCell ⟨b, k, none⟩ u) (some b) := ⟨rfl, rfl, rfl, by simp [World.setCell], fun j _ hk => heap_setCell_other w ⟨b, k, none⟩ j _ (fun e => hk (by simp [e]))⟩
end Go.Proofs.Ytbhhcjnjddcocaa
