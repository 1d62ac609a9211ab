/- Slices of texts, read. No conditions. -/
import Derived.Test.YtnjjnioilbnnpaaBase
namespace Go.Proofs.Ytnjjnioilbnnpaa
open Go.RowKit Sl
/-- The slice value '.slice A n c' holds the texts l. -/
def StrsR (w : World) (B : Nat) (A : Option Addr) (n : Nat) (l : List ByteArray) : Prop := Rd w B 1 A n (l.map Value.string) ∧ ∀ s ∈ l, s.size ≤ 140737488351232
section
variable {w w' : World} {B B' M n c k : Nat} {A : Option Addr} {l : List ByteArray}
theorem StrsR.len (h : StrsR w B A n l) : l.length = n := by have := h.1.1; simp at this; omega
theorem StrsR.keep (h : StrsR w B A n l) (hk : ∀ p : Addr, p.block < B → w'.cell? p = w.cell? p) : StrsR w' B A n l := ⟨h.1.keep hk, h.2⟩
theorem StrsR.more (h : StrsR w B A n l) (hB : B ≤ B') : StrsR w B' A n l := ⟨h.1.more hB, h.2⟩
theorem StrsR.below (h : StrsR w B A n l) (hb : Below M w w') (hM : B ≤ M) : StrsR w' B A n l := ⟨h.1.below hb hM, h.2⟩
theorem StrsR.next (h : StrsR w w.heap.size A n l) (hb : Below w.heap.size w w') : StrsR w' w'.heap.size A n l := (h.below hb (Nat.le_refl _)).more hb.size
theorem StrsR.at_ (h : StrsR w B A n l) (hk : k < n) : ∃ b o s, A = some ⟨b, o, none⟩ ∧ b < B ∧ l[k]? = some s ∧ w.cell? ⟨b, o + k, none⟩ = some (.string s) ∧ s.size ≤ 140737488351232 := by
  obtain ⟨b, o, e, hb, hc⟩ := h.1.2 (by omega)
  have hl : k < l.length := by rw [h.len]; exact hk
  exact ⟨b, o, l[k], e, hb, List.getElem?_eq_getElem hl, hc k _ (by simp [hl]), h.2 _ (List.getElem_mem hl)⟩
theorem StrsR.take (h : StrsR w B A n l) (hk : k ≤ n) : StrsR w B A k (l.take k) := by
  refine ⟨?_, fun s hs => h.2 s (List.mem_of_mem_take hs)⟩
  have := h.1.take hk
  rwa [Nat.mul_one, ← List.map_take] at this
theorem StrsR.none_ : StrsR w B A 0 [] := ⟨Rd.none_, fun s hs => by cases hs⟩
theorem oneCell_strs (l : List ByteArray) : ∀ u ∈ l.map Value.string, u.oneCell' = true := by
  intro u hu
  obtain ⟨s, _, rfl⟩ := List.mem_map.1 hu
  rfl
end
end Go.Proofs.Ytnjjnioilbnnpaa
