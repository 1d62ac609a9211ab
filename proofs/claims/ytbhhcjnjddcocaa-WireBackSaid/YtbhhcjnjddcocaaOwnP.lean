/- The texts SettleG, OwnP, OwnPush in one. Conditions: as each says. -/
import Derived.Test.YtbhhcjnjddcocaaOImg2
import Derived.Deep.RegionLaw
-- SettleG: tree.Settle at an image in a box of whatever type. Conditions: the image is the call's own, its sizes are bounded, it is wired.
namespace Go.Proofs.Ytbhhcjnjddcocaa
open Go.RowKit Sl
/-- The block b is a box of the type T. -/
def BoxG (w : World) (b : Nat) (T : TypeId) : Prop := ∃ cur, w.heap[b]? = some (.cells cur T (0, 0))
section
variable {w w' : World} {b : Nat} {T : TypeId}
theorem BoxG.ty (h : BoxG w b T) : TypeB w b T := by obtain ⟨c, e⟩ := h; exact ⟨c, _, e⟩
theorem BoxG.fz (h : BoxG w b T) (k : Nat) : w.frozen? ⟨b, k, none⟩ = false := by obtain ⟨c, e⟩ := h; exact frozen_of_row w b k c _ e
theorem BoxG.next (h : BoxG w b T) (hb : Below w.heap.size w w') : BoxG w' b T := by obtain ⟨c, e⟩ := h; exact ⟨c, (hb.block b (Array.getElem?_eq_some_iff.1 e).1).trans e⟩
theorem BoxG.set (h : BoxG w b T) (k : Nat) (u : Value) : BoxG (w.setCell ⟨b, k, none⟩ u) b T := by obtain ⟨c, e⟩ := h; exact ⟨_, heap_setCell_same w b k c _ _ e⟩
theorem BoxG.kept {row : Option Nat} (h : BoxG w b T) (hg : w.grownBy w' row) (hn : some b ≠ row) : BoxG w' b T := by obtain ⟨c, e⟩ := h; exact ⟨c, (hg.block b (Array.getElem?_eq_some_iff.1 e).1 hn).trans e⟩
theorem BoxG.new (w : World) (cs : Array Value) (T : TypeId) : BoxG (w.alloc (.cells cs T)) w.heap.size T := ⟨cs, heap_alloc_new w _⟩
end
end Go.Proofs.Ytbhhcjnjddcocaa
-- OwnP: slices.Clone at []Slot and []Snap; tree.Own. Conditions: the image is read below the heap's size, its sizes are bounded.
namespace Go.Proofs.Ytbhhcjnjddcocaa
open Go.RowKit Sl

theorem Try.infoSlot : (Try.prog.info? 45).map (fun i => (i.zero, i.size, i.bytes)) = some (some (.agg #[.int .i64 0, .string { data := #[] }, .slice none 0 0]), 3, 48) := by kernel_rfl
theorem Try.infoSnap : (Try.prog.info? 48).map (fun i => (i.zero, i.size, i.bytes)) = some (some (.agg #[.string { data := #[] }, .int .i64 0, .slice none 0 0]), 3, 48) := by kernel_rfl
theorem one_sv (q : List SV) : ∀ u ∈ q.flatMap SV.cells, u.oneCell' = true := by
  intro u hu
  obtain ⟨x, _, hx⟩ := List.mem_flatMap.1 hu
  simp only [SV.cells, slotCells, List.mem_cons, List.not_mem_nil, or_false] at hx
  rcases hx with rfl | rfl | rfl <;> rfl
theorem one_pv (q : List PV) : ∀ u ∈ q.flatMap PV.cells, u.oneCell' = true := by
  intro u hu
  obtain ⟨x, _, hx⟩ := List.mem_flatMap.1 hu
  simp only [PV.cells, List.mem_cons, List.not_mem_nil, or_false] at hx
  rcases hx with rfl | rfl | rfl <;> rfl
theorem one_ints (xs : List Int) : ∀ u ∈ ints xs, u.oneCell' = true := by
  intro u hu
  obtain ⟨x, _, rfl⟩ := List.mem_map.1 hu
  rfl

/-- An image of the call's own, of whose tables the first k and of whose Roots the first l are its own; the others lie as they lay in w0. -/
structure PartI (w0 w : World) (base : Nat) (tg : Nat → Nat) (v : IV) (q : List SV) (p : List PV) (m : Img) (k l : Nat) : Prop where
  root : TabO w base tg 0 v.rA v.rn v.rc m.root
  refs : TabO w base tg 1 v.fA v.fn v.fc m.refs
  slots : w.ownsRow base 45 3 (.slice v.sA v.sn v.sc) v.sn (q.flatMap SV.cells)
  sle : v.sn ≤ v.sc
  scap : v.sn ≤ 4611686018427387903 ∧ v.sc ≤ 9223372036854775807
  snaps : w.ownsRow base 48 3 (.slice v.pA v.pn v.pc) v.pn (p.flatMap PV.cells)
  ple : v.pn ≤ v.pc
  pcap : v.pn ≤ 4611686018427387903 ∧ v.pc ≤ 9223372036854775807
  hq : q.map (·.s) = m.slots
  hp : p.map (·.s) = m.snaps
  tabs : ∀ (j : Nat) (x : SV), q[j]? = some x → x.s.data.size ≤ 4611686018427387903 ∧ (j < k → TabO w base tg (2 * j + 4) x.A x.n x.c x.s.table) ∧ (k ≤ j → SlotV w0 w0.heap.size x.s x.A x.n x.c)
  roots : ∀ (j : Nat) (x : PV), p[j]? = some x → x.s.name.size ≤ 4611686018427387903 ∧ (j < l → TabO w base tg (2 * j + 5) x.A x.n x.c x.s.root) ∧ (l ≤ j → SnapV w0 w0.heap.size x.s x.A x.n x.c)
section
variable {w0 w w' : World} {base k l : Nat} {tg tg' : Nat → Nat} {v : IV} {q : List SV} {p : List PV} {m : Img}
theorem PartI.next (h : PartI w0 w base tg v q p m k l) (hb : Below w.heap.size w w') : PartI w0 w' base tg v q p m k l :=
  ⟨h.root.next hb, h.refs.next hb, own_below h.slots hb, h.sle, h.scap, own_below h.snaps hb, h.ple, h.pcap, h.hq, h.hp, fun j x hx => ⟨(h.tabs j x hx).1, fun hj => ((h.tabs j x hx).2.1 hj).next hb, (h.tabs j x hx).2.2⟩, fun j x hx => ⟨(h.roots j x hx).1, fun hj => ((h.roots j x hx).2.1 hj).next hb, (h.roots j x hx).2.2⟩⟩
theorem PartI.retag (h : PartI w0 w base tg v q p m k l) (ht : ∀ b, b < w.heap.size → tg' b = tg b) : PartI w0 w base tg' v q p m k l :=
  ⟨h.root.retag ht, h.refs.retag ht, h.slots, h.sle, h.scap, h.snaps, h.ple, h.pcap, h.hq, h.hp, fun j x hx => ⟨(h.tabs j x hx).1, fun hj => ((h.tabs j x hx).2.1 hj).retag ht, (h.tabs j x hx).2.2⟩, fun j x hx => ⟨(h.roots j x hx).1, fun hj => ((h.roots j x hx).2.1 hj).retag ht, (h.roots j x hx).2.2⟩⟩
theorem PartI.qlen (h : PartI w0 w base tg v q p m k l) : q.length = v.sn := by have := h.slots.1; rw [flat3_len _ SV.cells_len] at this; omega
theorem PartI.plen (h : PartI w0 w base tg v q p m k l) : p.length = v.pn := by have := h.snaps.1; rw [flat3_len _ PV.cells_len] at this; omega
theorem PartI.own (h : PartI w0 w base tg v q p m k l) (hk : v.sn ≤ k) (hl : v.pn ≤ l) : OwnI w base tg v q p m :=
  ⟨h.root, h.refs, h.slots, h.sle, h.scap, h.snaps, h.ple, h.pcap, h.hq, h.hp, fun j x hx => ⟨(h.tabs j x hx).1, (h.tabs j x hx).2.1 (by have := (List.getElem?_eq_some_iff.1 hx).1; have := h.qlen; omega)⟩,
    fun j x hx => ⟨(h.roots j x hx).1, (h.roots j x hx).2.1 (by have := (List.getElem?_eq_some_iff.1 hx).1; have := h.plen; omega)⟩⟩
/-- The k-th table is cloned and laid down. -/
theorem PartI.setTab (h : PartI w0 w base tg v q p m k l) {b : Nat} {x : SV} (hA : v.sA = some ⟨b, 0, none⟩) (hx : q[k]? = some x) {A : Option Addr} {n c : Nat} (ht : TabO w base tg (2 * k + 4) A n c x.s.table) :
    PartI w0 (w.setCell ⟨b, k * 3 + 2, none⟩ (.slice A n c)) base tg v (q.set k ⟨x.s, A, n, c⟩) p m (k + 1) l ∧ w.grownBy (w.setCell ⟨b, k * 3 + 2, none⟩ (.slice A n c)) (some b) := by
  have h0 := h.slots
  have hT : TypeB w b 45 := own_block h.slots (by rw [hA]; rfl)
  rw [hA] at h0
  obtain ⟨o1, hg⟩ := h0.stored (k * 3 + 2) (.slice A n c)
  rw [flat3_set SV.cells SV.cells_len q k x ⟨x.s, A, n, c⟩ hx 2 (by omega) _ rfl] at o1
  rw [← hA] at o1
  have ht' : ∀ b', some b = some b' → b' < w.heap.size → ∀ t, (∃ T, TypeB w b' T ∧ T ≠ 3) ∨ tg b' ≠ t := fun b' e _ t => by injection e with e; subst e; exact .inl ⟨_, hT, by decide⟩
  refine ⟨⟨h.root.kept hg fun b' e hl => ht' b' e hl _, h.refs.kept hg fun b' e hl => ht' b' e hl _, o1, h.sle, h.scap, h.snaps.kept hg (own_far h.snaps hT (by decide)), h.ple, h.pcap, ?_, h.hp, fun j y hy => ?_, fun j y hy => ⟨(h.roots j y hy).1, fun hj => ((h.roots j y hy).2.1 hj).kept hg fun b' e hl => ht' b' e hl _, (h.roots j y hy).2.2⟩⟩, hg⟩
  · rw [List.map_set, ← h.hq]
    apply List.ext_getElem?
    intro i
    rw [List.getElem?_set]
    split
    · rename_i e
      subst e
      rw [List.getElem?_map, hx, List.length_map]
      split
      · rfl
      · rename_i hn; exact absurd (List.getElem?_eq_some_iff.1 hx).1 hn
    · rfl
  · rw [List.getElem?_set] at hy
    split at hy
    · rename_i e
      subst e
      split at hy
      · injection hy with hy; subst hy; exact ⟨(h.tabs _ x hx).1, fun _ => ht.kept hg fun b' e hl => ht' b' e hl _, fun hh => absurd hh (by omega)⟩
      · cases hy
    · rename_i hne
      exact ⟨(h.tabs j y hy).1, fun hj => ((h.tabs j y hy).2.1 (by omega)).kept hg fun b' e hl => ht' b' e hl _, fun hj => (h.tabs j y hy).2.2 (by omega)⟩
theorem PartI.setRoot (h : PartI w0 w base tg v q p m k l) {b : Nat} {x : PV} (hA : v.pA = some ⟨b, 0, none⟩) (hx : p[l]? = some x) {A : Option Addr} {n c : Nat} (ht : TabO w base tg (2 * l + 5) A n c x.s.root) :
    PartI w0 (w.setCell ⟨b, l * 3 + 2, none⟩ (.slice A n c)) base tg v q (p.set l ⟨x.s, A, n, c⟩) m k (l + 1) ∧ w.grownBy (w.setCell ⟨b, l * 3 + 2, none⟩ (.slice A n c)) (some b) := by
  have h0 := h.snaps
  have hT : TypeB w b 48 := own_block h.snaps (by rw [hA]; rfl)
  rw [hA] at h0
  obtain ⟨o1, hg⟩ := h0.stored (l * 3 + 2) (.slice A n c)
  rw [flat3_set PV.cells PV.cells_len p l x ⟨x.s, A, n, c⟩ hx 2 (by omega) _ rfl] at o1
  rw [← hA] at o1
  have ht' : ∀ b', some b = some b' → b' < w.heap.size → ∀ t, (∃ T, TypeB w b' T ∧ T ≠ 3) ∨ tg b' ≠ t := fun b' e _ t => by injection e with e; subst e; exact .inl ⟨_, hT, by decide⟩
  refine ⟨⟨h.root.kept hg fun b' e hl => ht' b' e hl _, h.refs.kept hg fun b' e hl => ht' b' e hl _, h.slots.kept hg (own_far h.slots hT (by decide)), h.sle, h.scap, o1, h.ple, h.pcap, h.hq, ?_, fun j y hy => ⟨(h.tabs j y hy).1, fun hj => ((h.tabs j y hy).2.1 hj).kept hg fun b' e hl => ht' b' e hl _, (h.tabs j y hy).2.2⟩, fun j y hy => ?_⟩, hg⟩
  · rw [List.map_set, ← h.hp]
    apply List.ext_getElem?
    intro i
    rw [List.getElem?_set]
    split
    · rename_i e
      subst e
      rw [List.getElem?_map, hx, List.length_map]
      split
      · rfl
      · rename_i hn; exact absurd (List.getElem?_eq_some_iff.1 hx).1 hn
    · rfl
  · rw [List.getElem?_set] at hy
    split at hy
    · rename_i e
      subst e
      split at hy
      · injection hy with hy; subst hy; exact ⟨(h.roots _ x hx).1, fun _ => ht.kept hg fun b' e hl => ht' b' e hl _, fun hh => absurd hh (by omega)⟩
      · cases hy
    · rename_i hne
      exact ⟨(h.roots j y hy).1, fun hj => ((h.roots j y hy).2.1 (by omega)).kept hg fun b' e hl => ht' b' e hl _, fun hj => (h.roots j y hy).2.2 (by omega)⟩
end
end Go.Proofs.Ytbhhcjnjddcocaa
-- OwnPush: A slot or a snapshot more. No conditions.
namespace Go.Proofs.Ytbhhcjnjddcocaa
open Go.RowKit Sl
section
variable {w w' : World} {base : Nat} {tg : Nat → Nat} {v : IV} {q : List SV} {p : List PV} {m : Img}
theorem own_row_far {e T : TypeId} {size size' n n' base' : Nat} {v v2 : Value} {xs ys : List Value} (h : w.ownsRow base e size v n xs) (h2 : w.ownsRow base' T size' v2 n' ys) (hne : T ≠ e) : v.ownBlock = none ∨ v.ownBlock ≠ v2.ownBlock := by
  cases hb : v2.ownBlock with
  | none =>
    cases hv : v.ownBlock with
    | none => exact .inl rfl
    | some b => exact .inr (by simp)
  | some b => exact own_far h (own_block h2 hb) hne
theorem TabO.far {t n c n' size' base' : Nat} {A : Option Addr} {xs : List Int} {T : TypeId} {v2 : Value} {ys : List Value} (h : TabO w base tg t A n c xs) (h2 : w.ownsRow base' T size' v2 n' ys) (hne : T ≠ 3) (hg : w.grownBy w' v2.ownBlock) : TabO w' base tg t A n c xs :=
  ⟨h.1, h.2.1, h.2.2.imp id fun ⟨ho, ht⟩ => ⟨ho.kept hg (own_row_far ho h2 hne), ht⟩⟩
theorem OwnI.pushSlot (h : OwnI w base tg v q p m) {x : SV} {A : Option Addr} {c : Nat} (ho : w'.ownsRow base 45 3 (.slice A (v.sn + 1) c) (v.sn + 1) (q.flatMap SV.cells ++ x.cells)) (hg : w.grownBy w' (Value.slice v.sA v.sn v.sc).ownBlock)
    (hc : v.sn + 1 ≤ c) (hm : c ≤ maxLen) (hn : v.sn ≤ 1000000) (hd : x.s.data.size ≤ 4611686018427387903) (ht : TabO w base tg (2 * v.sn + 4) x.A x.n x.c x.s.table) :
    OwnI w' base tg { v with sA := A, sn := v.sn + 1, sc := c } (q ++ [x]) p { m with slots := m.slots ++ [x.s] } := by
  have hs := h.slots
  have hq := h.qlen
  refine ⟨h.root.far hs (by decide) hg, h.refs.far hs (by decide) hg, ?_, hc, ⟨by show v.sn + 1 ≤ _; omega, by unfold maxLen at hm; show c ≤ _; omega⟩, h.snaps.kept hg (own_row_far h.snaps hs (by decide)), h.ple, h.pcap, ?_, h.hp, fun j y hy => ?_, fun j y hy => ⟨(h.roots j y hy).1, (h.roots j y hy).2.far hs (by decide) hg⟩⟩
  · rw [List.flatMap_append, List.flatMap_cons, List.flatMap_nil, List.append_nil]; exact ho
  · rw [List.map_append, h.hq]; rfl
  · rw [List.getElem?_append] at hy
    split at hy
    · exact ⟨(h.tabs j y hy).1, (h.tabs j y hy).2.far hs (by decide) hg⟩
    · rename_i hge
      have hj : j = v.sn := by
        rcases Nat.lt_or_ge (j - q.length) 1 with h1 | h1
        · omega
        · rw [List.getElem?_eq_none (by simpa using h1)] at hy; cases hy
      subst hj
      rw [hq, Nat.sub_self] at hy
      simp only [List.getElem?_cons_zero, Option.some.injEq] at hy
      subst hy
      exact ⟨hd, ht.far hs (by decide) hg⟩
theorem OwnI.pushSnap (h : OwnI w base tg v q p m) {x : PV} {A : Option Addr} {c : Nat} (ho : w'.ownsRow base 48 3 (.slice A (v.pn + 1) c) (v.pn + 1) (p.flatMap PV.cells ++ x.cells)) (hg : w.grownBy w' (Value.slice v.pA v.pn v.pc).ownBlock)
    (hc : v.pn + 1 ≤ c) (hm : c ≤ maxLen) (hn : v.pn ≤ 1000000) (hd : x.s.name.size ≤ 4611686018427387903) (ht : TabO w base tg (2 * v.pn + 5) x.A x.n x.c x.s.root) :
    OwnI w' base tg { v with pA := A, pn := v.pn + 1, pc := c } q (p ++ [x]) { m with snaps := m.snaps ++ [x.s] } := by
  have hs := h.snaps
  have hq := h.plen
  refine ⟨h.root.far hs (by decide) hg, h.refs.far hs (by decide) hg, h.slots.kept hg (own_row_far h.slots hs (by decide)), h.sle, h.scap, ?_, hc, ⟨by show v.pn + 1 ≤ _; omega, by unfold maxLen at hm; show c ≤ _; omega⟩, h.hq, ?_, fun j y hy => ⟨(h.tabs j y hy).1, (h.tabs j y hy).2.far hs (by decide) hg⟩, fun j y hy => ?_⟩
  · rw [List.flatMap_append, List.flatMap_cons, List.flatMap_nil, List.append_nil]; exact ho
  · rw [List.map_append, h.hp]; rfl
  · rw [List.getElem?_append] at hy
    split at hy
    · exact ⟨(h.roots j y hy).1, (h.roots j y hy).2.far hs (by decide) hg⟩
    · rename_i hge
      have hj : j = v.pn := by
        rcases Nat.lt_or_ge (j - p.length) 1 with h1 | h1
        · omega
        · rw [List.getElem?_eq_none (by simpa using h1)] at hy; cases hy
      subst hj
      rw [hq, Nat.sub_self] at hy
      simp only [List.getElem?_cons_zero, Option.some.injEq] at hy
      subst hy
      exact ⟨hd, ht.far hs (by decide) hg⟩
/-- A cell elsewhere is stored to. -/
theorem OwnI.keptAt (h : OwnI w base tg v q p m) {b : Nat} {T : TypeId} (hg : w.grownBy w' (some b)) (hT : TypeB w b T) (h1 : T ≠ 3) (h2 : (Value.slice v.sA v.sn v.sc).ownBlock ≠ some b) (h3 : (Value.slice v.pA v.pn v.pc).ownBlock ≠ some b) : OwnI w' base tg v q p m := by
  have ht : ∀ b', some b = some b' → b' < w.heap.size → ∀ t, (∃ T, TypeB w b' T ∧ T ≠ 3) ∨ tg b' ≠ t := fun b' e _ t => by injection e with e; subst e; exact .inl ⟨T, hT, h1⟩
  exact ⟨h.root.kept hg fun b' e hl => ht b' e hl _, h.refs.kept hg fun b' e hl => ht b' e hl _, h.slots.kept hg (.inr h2), h.sle, h.scap, h.snaps.kept hg (.inr h3), h.ple, h.pcap, h.hq, h.hp,
    fun k x hx => ⟨(h.tabs k x hx).1, (h.tabs k x hx).2.kept hg fun b' e hl => ht b' e hl _⟩, fun k x hx => ⟨(h.roots k x hx).1, (h.roots k x hx).2.kept hg fun b' e hl => ht b' e hl _⟩⟩
theorem OwnI.lower {b : Nat} (h : OwnI w base tg v q p m) (hb : b ≤ base) : OwnI w b tg v q p m := by
  have ht : ∀ {t n c : Nat} {A : Option Addr} {xs : List Int}, TabO w base tg t A n c xs → TabO w b tg t A n c xs := fun h => ⟨h.1, h.2.1, h.2.2.imp id fun ⟨ho, e⟩ => ⟨own_base ho hb, e⟩⟩
  exact ⟨ht h.root, ht h.refs, own_base h.slots hb, h.sle, h.scap, own_base h.snaps hb, h.ple, h.pcap, h.hq, h.hp, fun k x hx => ⟨(h.tabs k x hx).1, ht (h.tabs k x hx).2⟩, fun k x hx => ⟨(h.roots k x hx).1, ht (h.roots k x hx).2⟩⟩
/-- A row that append([]int{}, ..) has made, as a table with a tag of its own. -/
theorem TabO.made {W W' : World} {t n c : Nat} {A : Option Addr} {xs : List Int} (h : (n = 0 ∧ xs = [] ∧ c = 0) ∨ W'.ownsRow W.heap.size 3 1 (.slice A n c) n (ints xs)) (hb : base ≤ W.heap.size) (hn : n ≤ 1000000) (hc : n ≤ c) (hm : c ≤ maxLen) :
    TabO W' base (fun g => if W.heap.size ≤ g then t else tg g) t A n c xs :=
  ⟨hc, ⟨by omega, by unfold maxLen at hm; omega⟩, h.imp (fun hh => ⟨hh.1, hh.2.1, .inr hh.2.2⟩) fun ho => ⟨own_base ho hb, fun g e => if_pos (ho.lt g e).1⟩⟩
end
end Go.Proofs.Ytbhhcjnjddcocaa
