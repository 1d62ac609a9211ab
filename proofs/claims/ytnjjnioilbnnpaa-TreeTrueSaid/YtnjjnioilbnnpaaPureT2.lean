/- Shape, step by step. No conditions. -/
import Derived.Test.YtnjjnioilbnnpaaPureT
namespace Sl
variable {m : Img}
theorem sizesOk_no (h : ¬ (1 ≤ m.slots.length ∧ m.slots.length ≤ 40 ∧ m.snaps.length ≤ 3)) : sizesOk m = false := by
  unfold sizesOk; rw [Bool.eq_false_iff]; simp only [Ne, Bool.and_eq_true, decide_eq_true_eq]; omega
theorem sizesOk_yes (h : 1 ≤ m.slots.length ∧ m.slots.length ≤ 40 ∧ m.snaps.length ≤ 3) : sizesOk m = true := by
  unfold sizesOk; simp only [Bool.and_eq_true, decide_eq_true_eq]; omega
theorem sizesOk_is (h : sizesOk m = true) : 1 ≤ m.slots.length ∧ m.slots.length ≤ 40 ∧ m.snaps.length ≤ 3 := by
  unfold sizesOk at h; simp only [Bool.and_eq_true, decide_eq_true_eq] at h; omega
theorem sh_many (h : sizesOk m = false) : shapeErr m = 2 := by unfold shapeErr; rw [if_pos h]
/-- The first steps are passed. -/
structure Sh1 (m : Img) : Prop where
  sizes : sizesOk m = true
  slots : slotsErr m.slots = 0
  refs : m.refs.length = m.slots.length
theorem sh_slots (h : sizesOk m = true) (h1 : slotsErr m.slots ≠ 0 ∨ m.refs.length ≠ m.slots.length) : shapeErr m = 1 := by
  unfold shapeErr; rw [if_neg (by rw [h]; decide), if_pos h1]
theorem sh_names (h : Sh1 m) (h1 : namesOk m.snaps = false) : shapeErr m = 1 := by
  unfold shapeErr; rw [if_neg (by rw [h.sizes]; decide), if_neg (by have := h.slots; have := h.refs; omega), if_pos h1]
theorem sh_range (h : Sh1 m) (h1 : namesOk m.snaps = true) (h2 : guestsOk m = false) : shapeErr m = 3 := by
  unfold shapeErr; rw [if_neg (by rw [h.sizes]; decide), if_neg (by have := h.slots; have := h.refs; omega), if_neg (by rw [h1]; decide), if_pos h2]
theorem sh_tables (h : Sh1 m) (h1 : namesOk m.snaps = true) (h2 : guestsOk m = true) (h3 : tablesOk m.slots = false) : shapeErr m = 1 := by
  unfold shapeErr; rw [if_neg (by rw [h.sizes]; decide), if_neg (by have := h.slots; have := h.refs; omega), if_neg (by rw [h1]; decide), if_neg (by rw [h2]; decide), if_pos h3]
theorem sh_roots (h : Sh1 m) (h1 : namesOk m.snaps = true) (h2 : guestsOk m = true) (h3 : tablesOk m.slots = true) (h4 : rootsOk m = false) : shapeErr m = 1 := by
  unfold shapeErr; rw [if_neg (by rw [h.sizes]; decide), if_neg (by have := h.slots; have := h.refs; omega), if_neg (by rw [h1]; decide), if_neg (by rw [h2]; decide), if_neg (by rw [h3]; decide), if_pos h4]
theorem sh_ok (h : Sh1 m) (h1 : namesOk m.snaps = true) (h2 : guestsOk m = true) (h3 : tablesOk m.slots = true) (h4 : rootsOk m = true) : shapeErr m = 0 := by
  unfold shapeErr; rw [if_neg (by rw [h.sizes]; decide), if_neg (by have := h.slots; have := h.refs; omega), if_neg (by rw [h1]; decide), if_neg (by rw [h2]; decide), if_neg (by rw [h3]; decide), if_neg (by rw [h4]; decide)]
theorem sh_is (h : shapeErr m = 0) : Sh1 m ∧ namesOk m.snaps = true ∧ guestsOk m = true ∧ tablesOk m.slots = true ∧ rootsOk m = true := by
  unfold shapeErr at h
  split at h
  · omega
  · split at h
    · omega
    · split at h
      · omega
      · split at h
        · omega
        · split at h
          · omega
          · split at h
            · omega
            · rename_i a b c d e f
              simp only [Bool.not_eq_false] at a c d e f
              exact ⟨⟨a, by omega, by omega⟩, c, d, e, f⟩
theorem snapAt_at {l : List Snap} {k : Nat} {s : Snap} (h : l[k]? = some s) : snapAt l k = s := by unfold snapAt; rw [List.getD_eq_getElem?_getD, h]; rfl
end Sl
