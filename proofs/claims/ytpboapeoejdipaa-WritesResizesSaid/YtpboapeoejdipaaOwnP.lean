/- slices.Clone at []Slot and []Snap; tree.Own. Conditions: the image is read below the heap's size, its sizes are bounded. -/
import Derived.Test.YtpboapeoejdipaaOImg2
import Derived.Deep.RegionLaw
namespace Go.Proofs.Ytpboapeoejdipaa
open Go.RowKit Sl

theorem Try.infoSlot : (Try.prog.info? 56).map (fun i => (i.zero, i.size, i.bytes)) = some (some (.agg #[.int .i64 0, .string { data := #[] }, .slice none 0 0]), 3, 48) := by kernel_rfl
theorem Try.infoSnap : (Try.prog.info? 68).map (fun i => (i.zero, i.size, i.bytes)) = some (some (.agg #[.string { data := #[] }, .int .i64 0, .slice none 0 0]), 3, 48) := by kernel_rfl
theorem one_sv (q : List SV) : ∀ u ∈ q.flatMap SV.cells, u.oneCell' = true := by
  intro u hu
  obtain ⟨x, _, hx⟩ := List.mem_flatMap.1 hu
  simp only [SV.cells, slotCells, List.mem_cons, List.not_mem_nil, or_false] at hx
  rcases hx with rfl | rfl | rfl <;> rfl
theorem one_pv (q : List PV) : ∀ u ∈ q.flatMap PV.cells, u.oneCell' = true := by
  intro u hu
  obtain ⟨x, _, hx⟩ := List.mem_flatMap.1 hu
  simp only [PV.cells, List.mem_cons, List.not_mem_nil, or_false] at hx
  rcases hx with rfl | rfl | rfl <;> rfl
theorem one_ints (xs : List Int) : ∀ u ∈ ints xs, u.oneCell' = true := by
  intro u hu
  obtain ⟨x, _, rfl⟩ := List.mem_map.1 hu
  rfl

set_option maxRecDepth 100000 in
set_option maxHeartbeats 400000 in
theorem cloneSlots (A : Option Addr) (n c : Nat) (cs : List Value) (w : World) (h : Rd w w.heap.size 3 A n cs) (h1 : ∀ u ∈ cs, u.oneCell' = true) (hn : n ≤ 1000000) :
    Calls Try.prog 93 #[.slice A n c] w (OwnRes w.heap.size 56 3 n cs w) := by
  obtain ⟨i0, hi0, hz0, hz1, hz2⟩ := info_parts Try.infoSlot
  have he := fun (W : World) => Lib.run_eql_slice_nil (P := Try.prog) W 23 56 A n c 0 0 Try.underlying23
  cases A with
  | none =>
    have hn0 : n = 0 := by
      rcases Nat.eq_zero_or_pos n with h0 | h0
      · exact h0
      · obtain ⟨b, o, h, _⟩ := h.2 h0
        cases h
    subst hn0
    have hcs : cs = [] := List.eq_nil_of_length_eq_zero (by simpa using h.1)
    subst hcs
    go_enter Try.func93, Try.ntmps93
    go_wp2_with fail
    go_ret
    exact ⟨_, _, rfl, World.ownsRow_nil _ _ _ _, Below.refl _ _, Nat.le_refl _, by simp⟩
  | some a =>
    obtain ⟨A', c', w', hrun, hown, hb, hc1, hc2, hg, _⟩ := run_app (P := Try.prog) (w.alloc (.cells #[] 56)) w.heap.size 23 23 56 i0 _ 3 48 Try.underlying23 hi0 hz0 hz1 hz2 rfl (by omega) _ 0 []
      (own_new w _ _ _ (Nat.le_refl _)) w.heap.size (some a) n c cs (h.below ((Below.refl _ _).alloc (Nat.le_refl _) _) (Nat.le_refl _)) h1 (by omega) (by unfold maxLen; omega) (by simp)
    rw [Nat.zero_add] at hrun hown hc1
    rw [List.nil_append] at hown
    go_enter Try.func93, Try.ntmps93
    have HR := Lib.hid hrun
    clear hrun
    go_wp2_with (at_builtin; refine wpList_app rfl _ _ _ _ rfl rfl rfl rfl HR.out ?_)
    go_ret
    exact ⟨_, _, rfl, hown, ((Below.refl _ _).alloc (Nat.le_refl _) _).trans hb, hc1, hc2⟩
set_option maxRecDepth 100000 in
set_option maxHeartbeats 400000 in
theorem cloneSnaps (A : Option Addr) (n c : Nat) (cs : List Value) (w : World) (h : Rd w w.heap.size 3 A n cs) (h1 : ∀ u ∈ cs, u.oneCell' = true) (hn : n ≤ 1000000) :
    Calls Try.prog 94 #[.slice A n c] w (OwnRes w.heap.size 68 3 n cs w) := by
  obtain ⟨i0, hi0, hz0, hz1, hz2⟩ := info_parts Try.infoSnap
  have he := fun (W : World) => Lib.run_eql_slice_nil (P := Try.prog) W 24 68 A n c 0 0 Try.underlying24
  cases A with
  | none =>
    have hn0 : n = 0 := by
      rcases Nat.eq_zero_or_pos n with h0 | h0
      · exact h0
      · obtain ⟨b, o, h, _⟩ := h.2 h0
        cases h
    subst hn0
    have hcs : cs = [] := List.eq_nil_of_length_eq_zero (by simpa using h.1)
    subst hcs
    go_enter Try.func94, Try.ntmps94
    go_wp2_with fail
    go_ret
    exact ⟨_, _, rfl, World.ownsRow_nil _ _ _ _, Below.refl _ _, Nat.le_refl _, by simp⟩
  | some a =>
    obtain ⟨A', c', w', hrun, hown, hb, hc1, hc2, hg, _⟩ := run_app (P := Try.prog) (w.alloc (.cells #[] 68)) w.heap.size 24 24 68 i0 _ 3 48 Try.underlying24 hi0 hz0 hz1 hz2 rfl (by omega) _ 0 []
      (own_new w _ _ _ (Nat.le_refl _)) w.heap.size (some a) n c cs (h.below ((Below.refl _ _).alloc (Nat.le_refl _) _) (Nat.le_refl _)) h1 (by omega) (by unfold maxLen; omega) (by simp)
    rw [Nat.zero_add] at hrun hown hc1
    rw [List.nil_append] at hown
    go_enter Try.func94, Try.ntmps94
    have HR := Lib.hid hrun
    clear hrun
    go_wp2_with (at_builtin; refine wpList_app rfl _ _ _ _ rfl rfl rfl rfl HR.out ?_)
    go_ret
    exact ⟨_, _, rfl, hown, ((Below.refl _ _).alloc (Nat.le_refl _) _).trans hb, hc1, hc2⟩

/-- An image of the call's own, of whose tables the first k and of whose Roots the first l are its own; the others lie as they lay in w0. -/
structure PartI (w0 w : World) (base : Nat) (tg : Nat → Nat) (v : IV) (q : List SV) (p : List PV) (m : Img) (k l : Nat) : Prop where
  root : TabO w base tg 0 v.rA v.rn v.rc m.root
  refs : TabO w base tg 1 v.fA v.fn v.fc m.refs
  slots : w.ownsRow base 56 3 (.slice v.sA v.sn v.sc) v.sn (q.flatMap SV.cells)
  sle : v.sn ≤ v.sc
  scap : v.sn ≤ 4611686018427387903 ∧ v.sc ≤ 9223372036854775807
  snaps : w.ownsRow base 68 3 (.slice v.pA v.pn v.pc) v.pn (p.flatMap PV.cells)
  ple : v.pn ≤ v.pc
  pcap : v.pn ≤ 4611686018427387903 ∧ v.pc ≤ 9223372036854775807
  hq : q.map (·.s) = m.slots
  hp : p.map (·.s) = m.snaps
  tabs : ∀ (j : Nat) (x : SV), q[j]? = some x → x.s.data.size ≤ 4611686018427387903 ∧ (j < k → TabO w base tg (2 * j + 4) x.A x.n x.c x.s.table) ∧ (k ≤ j → SlotV w0 w0.heap.size x.s x.A x.n x.c)
  roots : ∀ (j : Nat) (x : PV), p[j]? = some x → x.s.name.size ≤ 4611686018427387903 ∧ (j < l → TabO w base tg (2 * j + 5) x.A x.n x.c x.s.root) ∧ (l ≤ j → SnapV w0 w0.heap.size x.s x.A x.n x.c)
section
variable {w0 w w' : World} {base k l : Nat} {tg tg' : Nat → Nat} {v : IV} {q : List SV} {p : List PV} {m : Img}
theorem PartI.next (h : PartI w0 w base tg v q p m k l) (hb : Below w.heap.size w w') : PartI w0 w' base tg v q p m k l :=
  ⟨h.root.next hb, h.refs.next hb, own_below h.slots hb, h.sle, h.scap, own_below h.snaps hb, h.ple, h.pcap, h.hq, h.hp, fun j x hx => ⟨(h.tabs j x hx).1, fun hj => ((h.tabs j x hx).2.1 hj).next hb, (h.tabs j x hx).2.2⟩, fun j x hx => ⟨(h.roots j x hx).1, fun hj => ((h.roots j x hx).2.1 hj).next hb, (h.roots j x hx).2.2⟩⟩
theorem PartI.retag (h : PartI w0 w base tg v q p m k l) (ht : ∀ b, b < w.heap.size → tg' b = tg b) : PartI w0 w base tg' v q p m k l :=
  ⟨h.root.retag ht, h.refs.retag ht, h.slots, h.sle, h.scap, h.snaps, h.ple, h.pcap, h.hq, h.hp, fun j x hx => ⟨(h.tabs j x hx).1, fun hj => ((h.tabs j x hx).2.1 hj).retag ht, (h.tabs j x hx).2.2⟩, fun j x hx => ⟨(h.roots j x hx).1, fun hj => ((h.roots j x hx).2.1 hj).retag ht, (h.roots j x hx).2.2⟩⟩
theorem PartI.qlen (h : PartI w0 w base tg v q p m k l) : q.length = v.sn := by have := h.slots.1; rw [flat3_len _ SV.cells_len] at this; omega
theorem PartI.plen (h : PartI w0 w base tg v q p m k l) : p.length = v.pn := by have := h.snaps.1; rw [flat3_len _ PV.cells_len] at this; omega
theorem PartI.own (h : PartI w0 w base tg v q p m k l) (hk : v.sn ≤ k) (hl : v.pn ≤ l) : OwnI w base tg v q p m :=
  ⟨h.root, h.refs, h.slots, h.sle, h.scap, h.snaps, h.ple, h.pcap, h.hq, h.hp, fun j x hx => ⟨(h.tabs j x hx).1, (h.tabs j x hx).2.1 (by have := (List.getElem?_eq_some_iff.1 hx).1; have := h.qlen; omega)⟩,
    fun j x hx => ⟨(h.roots j x hx).1, (h.roots j x hx).2.1 (by have := (List.getElem?_eq_some_iff.1 hx).1; have := h.plen; omega)⟩⟩
/-- The k-th table is cloned and laid down. -/
theorem PartI.setTab (h : PartI w0 w base tg v q p m k l) {b : Nat} {x : SV} (hA : v.sA = some ⟨b, 0, none⟩) (hx : q[k]? = some x) {A : Option Addr} {n c : Nat} (ht : TabO w base tg (2 * k + 4) A n c x.s.table) :
    PartI w0 (w.setCell ⟨b, k * 3 + 2, none⟩ (.slice A n c)) base tg v (q.set k ⟨x.s, A, n, c⟩) p m (k + 1) l ∧ w.grownBy (w.setCell ⟨b, k * 3 + 2, none⟩ (.slice A n c)) (some b) := by
  have h0 := h.slots
  have hT : TypeB w b 56 := own_block h.slots (by rw [hA]; rfl)
  rw [hA] at h0
  obtain ⟨o1, hg⟩ := h0.stored (k * 3 + 2) (.slice A n c)
  rw [flat3_set SV.cells SV.cells_len q k x ⟨x.s, A, n, c⟩ hx 2 (by omega) _ rfl] at o1
  rw [← hA] at o1
  have ht' : ∀ b', some b = some b' → b' < w.heap.size → ∀ t, (∃ T, TypeB w b' T ∧ T ≠ 3) ∨ tg b' ≠ t := fun b' e _ t => by injection e with e; subst e; exact .inl ⟨_, hT, by decide⟩
  refine ⟨⟨h.root.kept hg fun b' e hl => ht' b' e hl _, h.refs.kept hg fun b' e hl => ht' b' e hl _, o1, h.sle, h.scap, h.snaps.kept hg (own_far h.snaps hT (by decide)), h.ple, h.pcap, ?_, h.hp, fun j y hy => ?_, fun j y hy => ⟨(h.roots j y hy).1, fun hj => ((h.roots j y hy).2.1 hj).kept hg fun b' e hl => ht' b' e hl _, (h.roots j y hy).2.2⟩⟩, hg⟩
  · rw [List.map_set, ← h.hq]
    apply List.ext_getElem?
    intro i
    rw [List.getElem?_set]
    split
    · rename_i e
      subst e
      rw [List.getElem?_map, hx, List.length_map]
      split
      · rfl
      · rename_i hn; exact absurd (List.getElem?_eq_some_iff.1 hx).1 hn
    · rfl
  · rw [List.getElem?_set] at hy
    split at hy
    · rename_i e
      subst e
      split at hy
      · injection hy with hy; subst hy; exact ⟨(h.tabs _ x hx).1, fun _ => ht.kept hg fun b' e hl => ht' b' e hl _, fun hh => absurd hh (by omega)⟩
      · cases hy
    · rename_i hne
      exact ⟨(h.tabs j y hy).1, fun hj => ((h.tabs j y hy).2.1 (by omega)).kept hg fun b' e hl => ht' b' e hl _, fun hj => (h.tabs j y hy).2.2 (by omega)⟩
theorem PartI.setRoot (h : PartI w0 w base tg v q p m k l) {b : Nat} {x : PV} (hA : v.pA = some ⟨b, 0, none⟩) (hx : p[l]? = some x) {A : Option Addr} {n c : Nat} (ht : TabO w base tg (2 * l + 5) A n c x.s.root) :
    PartI w0 (w.setCell ⟨b, l * 3 + 2, none⟩ (.slice A n c)) base tg v q (p.set l ⟨x.s, A, n, c⟩) m k (l + 1) ∧ w.grownBy (w.setCell ⟨b, l * 3 + 2, none⟩ (.slice A n c)) (some b) := by
  have h0 := h.snaps
  have hT : TypeB w b 68 := own_block h.snaps (by rw [hA]; rfl)
  rw [hA] at h0
  obtain ⟨o1, hg⟩ := h0.stored (l * 3 + 2) (.slice A n c)
  rw [flat3_set PV.cells PV.cells_len p l x ⟨x.s, A, n, c⟩ hx 2 (by omega) _ rfl] at o1
  rw [← hA] at o1
  have ht' : ∀ b', some b = some b' → b' < w.heap.size → ∀ t, (∃ T, TypeB w b' T ∧ T ≠ 3) ∨ tg b' ≠ t := fun b' e _ t => by injection e with e; subst e; exact .inl ⟨_, hT, by decide⟩
  refine ⟨⟨h.root.kept hg fun b' e hl => ht' b' e hl _, h.refs.kept hg fun b' e hl => ht' b' e hl _, h.slots.kept hg (own_far h.slots hT (by decide)), h.sle, h.scap, o1, h.ple, h.pcap, h.hq, ?_, fun j y hy => ⟨(h.tabs j y hy).1, fun hj => ((h.tabs j y hy).2.1 hj).kept hg fun b' e hl => ht' b' e hl _, (h.tabs j y hy).2.2⟩, fun j y hy => ?_⟩, hg⟩
  · rw [List.map_set, ← h.hp]
    apply List.ext_getElem?
    intro i
    rw [List.getElem?_set]
    split
    · rename_i e
      subst e
      rw [List.getElem?_map, hx, List.length_map]
      split
      · rfl
      · rename_i hn; exact absurd (List.getElem?_eq_some_iff.1 hx).1 hn
    · rfl
  · rw [List.getElem?_set] at hy
    split at hy
    · rename_i e
      subst e
      split at hy
      · injection hy with hy; subst hy; exact ⟨(h.roots _ x hx).1, fun _ => ht.kept hg fun b' e hl => ht' b' e hl _, fun hh => absurd hh (by omega)⟩
      · cases hy
    · rename_i hne
      exact ⟨(h.roots j y hy).1, fun hj => ((h.roots j y hy).2.1 (by omega)).kept hg fun b' e hl => ht' b' e hl _, fun hj => (h.roots j y hy).2.2 (by omega)⟩
end
end Go.Proofs.Ytpboapeoejdipaa
