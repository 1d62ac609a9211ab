/- A slot or a snapshot more. No conditions. -/
import Derived.Test.YtpboapeoejdipaaOwnP
namespace Go.Proofs.Ytpboapeoejdipaa
open Go.RowKit Sl
section
variable {w w' : World} {base : Nat} {tg : Nat → Nat} {v : IV} {q : List SV} {p : List PV} {m : Img}
theorem own_row_far {e T : TypeId} {size size' n n' base' : Nat} {v v2 : Value} {xs ys : List Value} (h : w.ownsRow base e size v n xs) (h2 : w.ownsRow base' T size' v2 n' ys) (hne : T ≠ e) : v.ownBlock = none ∨ v.ownBlock ≠ v2.ownBlock := by
  cases hb : v2.ownBlock with
  | none =>
    cases hv : v.ownBlock with
    | none => exact .inl rfl
    | some b => exact .inr (by simp)
  | some b => exact own_far h (own_block h2 hb) hne
theorem TabO.far {t n c n' size' base' : Nat} {A : Option Addr} {xs : List Int} {T : TypeId} {v2 : Value} {ys : List Value} (h : TabO w base tg t A n c xs) (h2 : w.ownsRow base' T size' v2 n' ys) (hne : T ≠ 3) (hg : w.grownBy w' v2.ownBlock) : TabO w' base tg t A n c xs :=
  ⟨h.1, h.2.1, h.2.2.imp id fun ⟨ho, ht⟩ => ⟨ho.kept hg (own_row_far ho h2 hne), ht⟩⟩
theorem OwnI.pushSlot (h : OwnI w base tg v q p m) {x : SV} {A : Option Addr} {c : Nat} (ho : w'.ownsRow base 56 3 (.slice A (v.sn + 1) c) (v.sn + 1) (q.flatMap SV.cells ++ x.cells)) (hg : w.grownBy w' (Value.slice v.sA v.sn v.sc).ownBlock)
    (hc : v.sn + 1 ≤ c) (hm : c ≤ maxLen) (hn : v.sn ≤ 1000000) (hd : x.s.data.size ≤ 4611686018427387903) (ht : TabO w base tg (2 * v.sn + 4) x.A x.n x.c x.s.table) :
    OwnI w' base tg { v with sA := A, sn := v.sn + 1, sc := c } (q ++ [x]) p { m with slots := m.slots ++ [x.s] } := by
  have hs := h.slots
  have hq := h.qlen
  refine ⟨h.root.far hs (by decide) hg, h.refs.far hs (by decide) hg, ?_, hc, ⟨by show v.sn + 1 ≤ _; omega, by unfold maxLen at hm; show c ≤ _; omega⟩, h.snaps.kept hg (own_row_far h.snaps hs (by decide)), h.ple, h.pcap, ?_, h.hp, fun j y hy => ?_, fun j y hy => ⟨(h.roots j y hy).1, (h.roots j y hy).2.far hs (by decide) hg⟩⟩
  · rw [List.flatMap_append, List.flatMap_cons, List.flatMap_nil, List.append_nil]; exact ho
  · rw [List.map_append, h.hq]; rfl
  · rw [List.getElem?_append] at hy
    split at hy
    · exact ⟨(h.tabs j y hy).1, (h.tabs j y hy).2.far hs (by decide) hg⟩
    · rename_i hge
      have hj : j = v.sn := by
        rcases Nat.lt_or_ge (j - q.length) 1 with h1 | h1
        · omega
        · rw [List.getElem?_eq_none (by simpa using h1)] at hy; cases hy
      subst hj
      rw [hq, Nat.sub_self] at hy
      simp only [List.getElem?_cons_zero, Option.some.injEq] at hy
      subst hy
      exact ⟨hd, ht.far hs (by decide) hg⟩
theorem OwnI.pushSnap (h : OwnI w base tg v q p m) {x : PV} {A : Option Addr} {c : Nat} (ho : w'.ownsRow base 68 3 (.slice A (v.pn + 1) c) (v.pn + 1) (p.flatMap PV.cells ++ x.cells)) (hg : w.grownBy w' (Value.slice v.pA v.pn v.pc).ownBlock)
    (hc : v.pn + 1 ≤ c) (hm : c ≤ maxLen) (hn : v.pn ≤ 1000000) (hd : x.s.name.size ≤ 4611686018427387903) (ht : TabO w base tg (2 * v.pn + 5) x.A x.n x.c x.s.root) :
    OwnI w' base tg { v with pA := A, pn := v.pn + 1, pc := c } q (p ++ [x]) { m with snaps := m.snaps ++ [x.s] } := by
  have hs := h.snaps
  have hq := h.plen
  refine ⟨h.root.far hs (by decide) hg, h.refs.far hs (by decide) hg, h.slots.kept hg (own_row_far h.slots hs (by decide)), h.sle, h.scap, ?_, hc, ⟨by show v.pn + 1 ≤ _; omega, by unfold maxLen at hm; show c ≤ _; omega⟩, h.hq, ?_, fun j y hy => ⟨(h.tabs j y hy).1, (h.tabs j y hy).2.far hs (by decide) hg⟩, fun j y hy => ?_⟩
  · rw [List.flatMap_append, List.flatMap_cons, List.flatMap_nil, List.append_nil]; exact ho
  · rw [List.map_append, h.hp]; rfl
  · rw [List.getElem?_append] at hy
    split at hy
    · exact ⟨(h.roots j y hy).1, (h.roots j y hy).2.far hs (by decide) hg⟩
    · rename_i hge
      have hj : j = v.pn := by
        rcases Nat.lt_or_ge (j - p.length) 1 with h1 | h1
        · omega
        · rw [List.getElem?_eq_none (by simpa using h1)] at hy; cases hy
      subst hj
      rw [hq, Nat.sub_self] at hy
      simp only [List.getElem?_cons_zero, Option.some.injEq] at hy
      subst hy
      exact ⟨hd, ht.far hs (by decide) hg⟩
/-- A cell elsewhere is stored to. -/
theorem OwnI.keptAt (h : OwnI w base tg v q p m) {b : Nat} {T : TypeId} (hg : w.grownBy w' (some b)) (hT : TypeB w b T) (h1 : T ≠ 3) (h2 : (Value.slice v.sA v.sn v.sc).ownBlock ≠ some b) (h3 : (Value.slice v.pA v.pn v.pc).ownBlock ≠ some b) : OwnI w' base tg v q p m := by
  have ht : ∀ b', some b = some b' → b' < w.heap.size → ∀ t, (∃ T, TypeB w b' T ∧ T ≠ 3) ∨ tg b' ≠ t := fun b' e _ t => by injection e with e; subst e; exact .inl ⟨T, hT, h1⟩
  exact ⟨h.root.kept hg fun b' e hl => ht b' e hl _, h.refs.kept hg fun b' e hl => ht b' e hl _, h.slots.kept hg (.inr h2), h.sle, h.scap, h.snaps.kept hg (.inr h3), h.ple, h.pcap, h.hq, h.hp,
    fun k x hx => ⟨(h.tabs k x hx).1, (h.tabs k x hx).2.kept hg fun b' e hl => ht b' e hl _⟩, fun k x hx => ⟨(h.roots k x hx).1, (h.roots k x hx).2.kept hg fun b' e hl => ht b' e hl _⟩⟩
theorem OwnI.lower {b : Nat} (h : OwnI w base tg v q p m) (hb : b ≤ base) : OwnI w b tg v q p m := by
  have ht : ∀ {t n c : Nat} {A : Option Addr} {xs : List Int}, TabO w base tg t A n c xs → TabO w b tg t A n c xs := fun h => ⟨h.1, h.2.1, h.2.2.imp id fun ⟨ho, e⟩ => ⟨own_base ho hb, e⟩⟩
  exact ⟨ht h.root, ht h.refs, own_base h.slots hb, h.sle, h.scap, own_base h.snaps hb, h.ple, h.pcap, h.hq, h.hp, fun k x hx => ⟨(h.tabs k x hx).1, ht (h.tabs k x hx).2⟩, fun k x hx => ⟨(h.roots k x hx).1, ht (h.roots k x hx).2⟩⟩
/-- A row that append([]int{}, ..) has made, as a table with a tag of its own. -/
theorem TabO.made {W W' : World} {t n c : Nat} {A : Option Addr} {xs : List Int} (h : (n = 0 ∧ xs = [] ∧ c = 0) ∨ W'.ownsRow W.heap.size 3 1 (.slice A n c) n (ints xs)) (hb : base ≤ W.heap.size) (hn : n ≤ 1000000) (hc : n ≤ c) (hm : c ≤ maxLen) :
    TabO W' base (fun g => if W.heap.size ≤ g then t else tg g) t A n c xs :=
  ⟨hc, ⟨by omega, by unfold maxLen at hm; omega⟩, h.imp (fun hh => ⟨hh.1, hh.2.1, .inr hh.2.2⟩) fun ho => ⟨own_base ho hb, fun g e => if_pos (ho.lt g e).1⟩⟩
end
end Go.Proofs.Ytpboapeoejdipaa
