/- Single cells of the desk's image stored to. No conditions. -/
import Derived.Test.YtpboapeoejdipaaWRes
import Derived.Test.YtpboapeoejdipaaPureL
namespace Go.Proofs.Ytpboapeoejdipaa
open Go.RowKit Sl
theorem set_same' {l : List Value} {i : Nat} {a : Value} (h : l[i]? = some a) : l.set i a = l := by
  apply List.ext_getElem?
  intro j
  rw [List.getElem?_set]
  split
  · rename_i e; subst e
    split
    · rw [h]
    · rename_i hl; rw [List.getElem?_eq_none (by omega)]
  · rfl
theorem flat_data {q : List SV} {k : Nat} {x : SV} (h : q[k]? = some x) (d : ByteArray) : (q.flatMap SV.cells).set (k * 3 + 1) (.string d) = (q.set k { x with s := { x.s with data := d } }).flatMap SV.cells := by
  have h0 := flat3_at SV.cells SV.cells_len q k x h 0 (by omega)
  have h2 := flat3_at SV.cells SV.cells_len q k x h 2 (by omega)
  rw [← flat3_set3 SV.cells SV.cells_len q k x _ h (.int .i64 x.s.kind) (.string d) (.slice x.A x.n x.c) rfl]
  rw [Nat.add_zero] at h0
  rw [set_same' (i := k * 3) (by rw [h0]; rfl)]
  rw [set_same' (i := k * 3 + 2)]
  rw [List.getElem?_set_ne (by omega), h2]; rfl
theorem flat_table {q : List SV} {k : Nat} {x : SV} (h : q[k]? = some x) (t : List Int) (A : Option Addr) (n c : Nat) : (q.flatMap SV.cells).set (k * 3 + 2) (.slice A n c) = (q.set k ⟨{ x.s with table := t }, A, n, c⟩).flatMap SV.cells := by
  have h0 := flat3_at SV.cells SV.cells_len q k x h 0 (by omega)
  have h1 := flat3_at SV.cells SV.cells_len q k x h 1 (by omega)
  rw [← flat3_set3 SV.cells SV.cells_len q k x _ h (.int .i64 x.s.kind) (.string x.s.data) (.slice A n c) rfl]
  rw [Nat.add_zero] at h0
  rw [set_same' (i := k * 3) (by rw [h0]; rfl), set_same' (i := k * 3 + 1) (by rw [h1]; rfl)]
section
variable {w w' : World} {base b : Nat} {tg : Nat → Nat} {v : IV} {q : List SV} {p : List PV} {m : Img}
/-- A block of the slots' type turned: what lies elsewhere is as it was. -/
theorem DeskAt.slotSet (h : DeskAt w base tg b v q p m) {sb k i : Nat} {x' : SV} {u : Value} (hA : v.sA = some ⟨sb, 0, none⟩) (hf : (q.flatMap SV.cells).set i u = (q.set k x').flatMap SV.cells)
    (hd : x'.s.data.size ≤ 4611686018427387903) (ht : TabO w base tg (2 * k + 4) x'.A x'.n x'.c x'.s.table) :
    DeskAt (w.setCell ⟨sb, i, none⟩ u) base tg b v (q.set k x') p { m with slots := m.slots.set k x'.s } ∧ base ≤ sb := by
  have h0 := h.own.slots
  rw [hA] at h0
  obtain ⟨o1, g1⟩ := h0.stored i u
  rw [hf] at o1
  have hne : some b ≠ some sb := fun e => h.ty.ty.ne (own_block h0 (b := sb) rfl) (by decide) (by injection e)
  exact ⟨⟨h.own.turned hA g1 (by rw [hA]; exact o1) hd ht, h.box.kept g1 hne, h.ty.kept g1 hne, h.lo⟩, (h0.lt sb rfl).1⟩
theorem DeskAt.setData (h : DeskAt w base tg b v q p m) {k : Nat} {s : Slot} (hs : m.slots[k]? = some s) {d : ByteArray} (hd : d.size ≤ 4611686018427387903) :
    ∃ sb q', v.sA = some ⟨sb, 0, none⟩ ∧ k < v.sn ∧ base ≤ sb ∧ w.cell? ⟨sb, k * 3 + 1, none⟩ = some (.string s.data) ∧ w.frozen? ⟨sb, k * 3 + 1, none⟩ = false ∧
    DeskAt (w.setCell ⟨sb, k * 3 + 1, none⟩ (.string d)) base tg b v q' p { m with slots := m.slots.set k { s with data := d } } := by
  have hl : k < v.sn := by have := h.own.imgR.slen; have := (List.getElem?_eq_some_iff.1 hs).1; omega
  obtain ⟨sb, hA, hb, _⟩ := own_some h.own.slots (by omega)
  have hq : k < q.length := by have := h.own.qlen; omega
  have hx := List.getElem?_eq_getElem hq
  have hxs : q[k].s = s := by
    have := h.own.hq
    rw [← this, List.getElem?_map, hx] at hs
    injection hs
  have h0 := h.own.slots
  rw [hA] at h0
  have c1 := h0.cellAt (k * 3 + 1) (by omega)
  rw [flat3_at SV.cells SV.cells_len q k _ hx 1 (by omega)] at c1
  have hf := h0.frozenAt (k * 3 + 1)
  obtain ⟨d1, d2⟩ := h.slotSet hA (flat_data hx d) hd (h.own.tabs k _ hx).2
  refine ⟨sb, _, hA, hl, d2, ?_, hf, by rw [← hxs]; exact d1⟩
  rw [← hxs]; exact c1
theorem DeskAt.setTable (h : DeskAt w base tg b v q p m) {k : Nat} {s : Slot} (hs : m.slots[k]? = some s) {t : List Int} {A : Option Addr} {n c : Nat} (ht : TabO w base tg (2 * k + 4) A n c t) :
    ∃ sb q' u, v.sA = some ⟨sb, 0, none⟩ ∧ k < v.sn ∧ base ≤ sb ∧ w.cell? ⟨sb, k * 3 + 2, none⟩ = some u ∧ w.frozen? ⟨sb, k * 3 + 2, none⟩ = false ∧
    DeskAt (w.setCell ⟨sb, k * 3 + 2, none⟩ (.slice A n c)) base tg b v q' p { m with slots := m.slots.set k { s with table := t } } := by
  have hl : k < v.sn := by have := h.own.imgR.slen; have := (List.getElem?_eq_some_iff.1 hs).1; omega
  obtain ⟨sb, hA, hb, _⟩ := own_some h.own.slots (by omega)
  have hq : k < q.length := by have := h.own.qlen; omega
  have hx := List.getElem?_eq_getElem hq
  have hxs : q[k].s = s := by
    have := h.own.hq
    rw [← this, List.getElem?_map, hx] at hs
    injection hs
  have h0 := h.own.slots
  rw [hA] at h0
  have c1 := h0.cellAt (k * 3 + 2) (by omega)
  rw [flat3_at SV.cells SV.cells_len q k _ hx 2 (by omega)] at c1
  have hf := h0.frozenAt (k * 3 + 2)
  obtain ⟨d1, d2⟩ := h.slotSet hA (flat_table hx t A n c) (h.own.tabs k _ hx).1 ht
  exact ⟨sb, _, _, hA, hl, d2, c1, hf, by rw [← hxs]; exact d1⟩
/-- The k-th number of the Root is stored to; what rows of other tags hold is as it was. -/
theorem DeskAt.setRoot2 (h : DeskAt w base tg b v q p m) {k : Nat} (hk : k < v.rn) (y : Int) : ∃ g, v.rA = some ⟨g, 0, none⟩ ∧ base ≤ g ∧ w.frozen? ⟨g, k, none⟩ = false ∧ (∃ x, w.cell? ⟨g, k, none⟩ = some (.int .i64 x)) ∧
    DeskAt (w.setCell ⟨g, k, none⟩ (.int .i64 y)) base tg b v q p { m with root := m.root.set k y } ∧ (∀ t A n c xs, t ≠ 0 → TabO w base tg t A n c xs → TabO (w.setCell ⟨g, k, none⟩ (.int .i64 y)) base tg t A n c xs) := by
  obtain ⟨g, hA, h1, h2, h3, h4, ⟨x, _, hx⟩, h6, h7⟩ := h.own.root.stored hk y
  have hg := grown_set w g k (.int .i64 y)
  have ht : ∀ t A n c xs, t ≠ 0 → TabO w base tg t A n c xs → TabO (w.setCell ⟨g, k, none⟩ (.int .i64 y)) base tg t A n c xs := fun t A n c xs hn hh => hh.kept hg fun b' e _ => by injection e with e; subst e; exact .inr (by omega)
  obtain ⟨g', hA', _, _, _, hD⟩ := h.setRoot hk y
  rw [hA] at hA'
  injection hA' with e
  injection e with e
  subst e
  exact ⟨g, hA, h1, h6, ⟨x, hx⟩, hD, ht⟩
/-- The k-th number of a row of nobody's is stored to. -/
theorem DeskAt.setFree (h : DeskAt w base tg b v q p m) {n c k : Nat} {A : Option Addr} {xs : List Int} (hr : TabO w base tg 3 A n c xs) (hk : k < n) (y : Int) : ∃ g, A = some ⟨g, 0, none⟩ ∧ base ≤ g ∧ w.frozen? ⟨g, k, none⟩ = false ∧ (∃ x, w.cell? ⟨g, k, none⟩ = some (.int .i64 x)) ∧
    DeskAt (w.setCell ⟨g, k, none⟩ (.int .i64 y)) base tg b v q p m ∧ TabO (w.setCell ⟨g, k, none⟩ (.int .i64 y)) base tg 3 A n c (xs.set k y) := by
  obtain ⟨g, hA, h1, h2, h3, h4, ⟨x, _, hx⟩, h6, h7⟩ := hr.stored hk y
  have hg := grown_set w g k (.int .i64 y)
  have ht : ∀ {t n c : Nat} {A : Option Addr} {xs : List Int}, TabO w base tg t A n c xs → t ≠ 3 → TabO (w.setCell ⟨g, k, none⟩ (.int .i64 y)) base tg t A n c xs := fun hh hn => hh.kept hg fun b' e _ => by injection e with e; subst e; exact .inr (by omega)
  have hne : some b ≠ some g := fun e => h.ty.ty.ne h4 (by decide) (by injection e)
  exact ⟨g, hA, h1, h6, ⟨x, hx⟩, ⟨⟨ht h.own.root (by decide), ht h.own.refs (by decide), h.own.slots.kept hg (own_far h.own.slots h4 (by decide)), h.own.sle, h.own.scap, h.own.snaps.kept hg (own_far h.own.snaps h4 (by decide)), h.own.ple, h.own.pcap, h.own.hq, h.own.hp,
    fun k x hx => ⟨(h.own.tabs k x hx).1, ht (h.own.tabs k x hx).2 (by omega)⟩, fun k x hx => ⟨(h.own.roots k x hx).1, ht (h.own.roots k x hx).2 (by omega)⟩⟩, h.box.kept hg hne, h.ty.kept hg hne, h.lo⟩, h7⟩
/-- A block of numbers is made: its tag is whatever we like. -/
theorem DeskAt.newRow (h : DeskAt w base tg b v q p m) (xs : List Int) (t : Nat) (hn : xs.length ≤ 1000000) : ∃ tg', DeskAt (w.alloc (.cells (ints xs).toArray 3)) base tg' b v q p m ∧ TabO (w.alloc (.cells (ints xs).toArray 3)) base tg' t (some ⟨w.heap.size, 0, none⟩) xs.length xs.length xs ∧
    (∀ t A n c ys, TabO w base tg t A n c ys → TabO (w.alloc (.cells (ints xs).toArray 3)) base tg' t A n c ys) := by
  have hbw : base ≤ w.heap.size := by have := h.ty.ty.lt; have := h.lo; omega
  have hret : ∀ j, j < w.heap.size → (fun j => if w.heap.size ≤ j then t else tg j) j = tg j := fun j hj => if_neg (by omega)
  refine ⟨fun j => if w.heap.size ≤ j then t else tg j, (h.retag hret).next (below1 _ _), TabO.made (.inr (own_of_block (heap_alloc_new w _) (Nat.le_refl _) (by simp [ints]) (by unfold maxLen; omega))) hbw hn (Nat.le_refl _) (by unfold maxLen; omega), fun t A n c ys hh => (hh.retag hret).next (below1 _ _)⟩
end
end Go.Proofs.Ytpboapeoejdipaa
