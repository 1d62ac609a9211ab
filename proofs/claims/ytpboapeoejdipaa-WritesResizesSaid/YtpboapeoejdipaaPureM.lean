/- The plain model of settling and mending. No conditions. -/
import Derived.Test.YtpboapeoejdipaaPureA
namespace Sl
/-- Of the first k of l those whose count is 0 are d. -/
def freeG {α : Type} (d : α) (l : List α) (cs : List Int) (k : Nat) : List α := l.mapIdx (fun n x => if n < k ∧ int cs n = 0 then d else x)
section
variable {α β : Type} (d : α) (l : List α) (cs : List Int)
theorem freeG_zero : freeG d l cs 0 = l := by
  unfold freeG
  apply List.ext_getElem?
  intro i
  rw [List.getElem?_mapIdx]
  simp
theorem freeG_len (k : Nat) : (freeG d l cs k).length = l.length := by simp [freeG]
theorem freeG_yes (k : Nat) (h : int cs k = 0) : freeG d l cs (k + 1) = (freeG d l cs k).set k d := by
  apply List.ext_getElem?
  intro i
  unfold freeG
  rw [List.getElem?_set, List.getElem?_mapIdx, List.getElem?_mapIdx, List.length_mapIdx]
  by_cases hi : k = i
  · subst hi
    rw [if_pos rfl]
    by_cases hl : k < l.length
    · rw [if_pos hl, List.getElem?_eq_getElem hl]; simp [h]
    · rw [if_neg hl, List.getElem?_eq_none (by omega)]; rfl
  · rw [if_neg hi]
    have : (i < k + 1) ↔ (i < k) := by omega
    simp only [this]
theorem freeG_no (k : Nat) (h : int cs k ≠ 0) : freeG d l cs (k + 1) = freeG d l cs k := by
  apply List.ext_getElem?
  intro i
  unfold freeG
  rw [List.getElem?_mapIdx, List.getElem?_mapIdx]
  by_cases hi : k = i
  · subst hi; simp [h]
  · have : (i < k + 1) ↔ (i < k) := by omega
    simp only [this]
theorem freeG_map (f : α → β) (k : Nat) : (freeG d l cs k).map f = freeG (f d) (l.map f) cs k := by
  apply List.ext_getElem?
  intro i
  unfold freeG
  rw [List.getElem?_map, List.getElem?_mapIdx, List.getElem?_mapIdx, List.getElem?_map]
  cases l[i]? with
  | none => rfl
  | some x => simp only [Option.map_some]; split <;> rfl
theorem freeG_at {k i : Nat} {x : α} (h : (freeG d l cs k)[i]? = some x) : x = d ∨ l[i]? = some x := by
  unfold freeG at h
  rw [List.getElem?_mapIdx] at h
  cases hl : l[i]? with
  | none => rw [hl] at h; cases h
  | some y =>
    rw [hl] at h
    simp only [Option.map_some, Option.some.injEq] at h
    split at h
    · exact .inl h.symm
    · exact .inr (by rw [h])
end
def freeSlot : Slot := ⟨0, { data := #[] }, []⟩
def settled (m : Img) : Img := { m with refs := countsOf m, slots := freeG freeSlot m.slots (countsOf m) m.slots.length }
def leaksN (m : Img) : Nat := ((List.range m.slots.length).countP (fun k => int (countsOf m) k == 0 && kindN m.slots k != 0))
end Sl
