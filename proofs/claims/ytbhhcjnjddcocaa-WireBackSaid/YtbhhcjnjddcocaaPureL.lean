/- Slots laid down: plain facts. No conditions. -/
import Derived.Test.YtbhhcjnjddcocaaPureM
import Derived.Test.YtbhhcjnjddcocaaTreeA
namespace Go.Proofs.Ytbhhcjnjddcocaa
open Sl
theorem slotsErr_kind0 {l : List Slot} (h : slotsErr l = 0) : kind0 l = 0 := by
  unfold slotsErr at h
  split at h
  · omega
  · split at h
    · split at h
      · assumption
      · omega
    · omega
theorem used_count (l : List Slot) (h : l.all (fun y => !(y.kind == 0)) = true) : used l = l.length := by
  induction l with
  | nil => rfl
  | cons a l ih =>
    simp only [List.all_cons, Bool.and_eq_true] at h
    have ha : a.kind ≠ 0 := by simpa using h.1
    simp only [used, List.length_cons]
    rw [ih h.2, if_neg ha]; omega
theorem firstAt_full {α : Type} (p : α → Bool) (l : List α) (h : ¬ firstAt p l < l.length) : l.all (fun y => !p y) = true := by
  have : l.any p = false := by
    cases ha : l.any p
    · rfl
    · exact absurd ((firstAt_lt p l).2 ha) h
  rw [List.all_eq_true]; intro x hx
  have := List.any_eq_false.1 this x hx
  simpa using this
theorem used_full {l : List Slot} (h : slotsErr l = 0) (hg : grab l = 0) : used l = 39 := by
  obtain ⟨h1, h2⟩ := slotsErr_len h
  have hk := slotsErr_kind0 h
  unfold grab at hg
  split at hg
  · omega
  · rename_i hn
    split at hg
    · omega
    · unfold freeAt at hn
      have ha := used_count _ (firstAt_full _ _ hn)
      cases l with
      | nil => simp at h1
      | cons a l =>
        simp only [kind0] at hk
        simp only [List.drop_succ_cons, List.drop_zero] at ha
        simp only [used, hk, if_true, ha]
        simp only [List.length_cons] at *
        omega
theorem firstAt_before {α : Type} (p : α → Bool) (l : List α) (j : Nat) (x : α) (hj : j < firstAt p l) (hx : l[j]? = some x) : p x = false := by
  induction l generalizing j with
  | nil => simp at hx
  | cons a l ih =>
    simp only [firstAt] at hj
    split at hj
    · omega
    · rename_i ha
      cases j with
      | zero => simp at hx; subst hx; simpa using ha
      | succ j => exact ih j (by omega) (by simpa using hx)
theorem firstAt_at {α : Type} (p : α → Bool) (l : List α) (x : α) (hx : l[firstAt p l]? = some x) : p x = true := by
  induction l with
  | nil => simp at hx
  | cons a l ih =>
    simp only [firstAt] at hx
    split at hx
    · rename_i ha; simp at hx; subst hx; exact ha
    · exact ih (by simpa using hx)
theorem grab_is {l : List Slot} (h : slotsErr l = 0) (hg : grab l ≠ 0) : 1 ≤ grab l ∧ grab l ≤ l.length ∧ (∀ s, l[grab l]? = some s → s.kind = 0) ∧ (∀ j s, 1 ≤ j → j < grab l → l[j]? = some s → s.kind ≠ 0) := by
  obtain ⟨h1, h2⟩ := slotsErr_len h
  unfold grab at hg ⊢
  split
  · rename_i hn
    rw [List.length_drop] at hn
    refine ⟨by omega, by omega, fun s hs => ?_, fun j s hj1 hj2 hs => ?_⟩
    · have := firstAt_at (fun s : Slot => s.kind == 0) (l.drop 1) s (by rw [List.getElem?_drop, Nat.add_comm]; exact hs)
      simpa using this
    · have := firstAt_before (fun s : Slot => s.kind == 0) (l.drop 1) (j - 1) s (by unfold freeAt at hj2; omega) (by rw [List.getElem?_drop, show 1 + (j - 1) = j from by omega]; exact hs)
      simpa using this
  · rename_i hn
    rw [if_neg hn] at hg
    split
    · refine ⟨by omega, by omega, fun s hs => ?_, fun j s hj1 hj2 hs => ?_⟩
      · rw [List.getElem?_eq_none (by omega)] at hs; cases hs
      · have ha := firstAt_full _ _ hn
        have := List.all_eq_true.1 ha s (List.mem_of_getElem? (i := j - 1) (by rw [List.getElem?_drop, show 1 + (j - 1) = j from by omega]; exact hs))
        simpa using this
    · rename_i h40; rw [if_neg h40] at hg; exact absurd rfl hg

section
variable {l : List Slot} {s x : Slot} {g j : Nat}
theorem laid_len' : (laid l g s).length = if g = l.length then l.length + 1 else l.length := by unfold laid; split <;> simp
theorem laid_new (hg : g ≤ l.length) : (laid l g s)[g]? = some s := by
  unfold laid
  split
  · rename_i e; rw [e, List.getElem?_append_right (Nat.le_refl _), Nat.sub_self]; rfl
  · rw [List.getElem?_set_self (by omega)]
theorem laid_old (hj : j < l.length) (hn : j ≠ g) : (laid l g s)[j]? = l[j]? := by
  unfold laid
  split
  · rw [List.getElem?_append_left hj]
  · rw [List.getElem?_set_ne (by omega)]
theorem laid_past (hj : l.length ≤ j) (hn : j ≠ g) : (laid l g s)[j]? = none := by
  rw [List.getElem?_eq_none]
  rw [laid_len']; split <;> omega
theorem laid_mem {y : Slot} (h : y ∈ laid l g s) : y ∈ l ∨ y = s := by
  unfold laid at h
  split at h
  · rcases List.mem_append.1 h with h | h
    · exact .inl h
    · exact .inr (by simpa using h)
  · exact List.mem_or_eq_of_mem_set h
theorem laid_fine (h : slotsErr l = 0) (hg : grab l ≠ 0) (hs : slotFine s = true) : slotsErr (laid l (grab l) s) = 0 := by
  obtain ⟨g1, g2, _, _⟩ := grab_is h hg
  obtain ⟨h1, h2⟩ := slotsErr_len h
  have h40 : grab l = l.length → l.length < 40 := by
    intro e
    unfold grab at e hg
    split at e
    · rename_i hn; rw [List.length_drop] at hn; unfold freeAt at *; omega
    · rename_i hn
      rw [if_neg hn] at hg
      split at e
      · assumption
      · rename_i h4; rw [if_neg h4] at hg; exact absurd rfl hg
  refine slotsErr_ok ?_ ?_ ?_ ?_
  · rw [laid_len']; split <;> omega
  · rw [laid_len']; split
    · rename_i e; have := h40 e; omega
    · omega
  · rw [List.all_eq_true]
    intro y hy
    rcases laid_mem hy with hy | rfl
    · exact List.all_eq_true.1 (slotsErr_all h) y hy
    · exact hs
  · have h0 := slotsErr_kind0 h
    have hl := List.getElem?_eq_getElem (l := l) (i := 0) (by omega)
    rw [kind0_at hl] at h0
    have : (laid l (grab l) s)[0]? = some l[0] := by rw [laid_old (by omega) (by omega)]; exact hl
    rw [kind0_at this]; exact h0
theorem set_fine' {k : Nat} (h : slotsErr l = 0) (hk : 1 ≤ k) (hs : slotFine s = true) : slotsErr (l.set k s) = 0 := by
  obtain ⟨h1, h2⟩ := slotsErr_len h
  refine slotsErr_ok (by simp; omega) (by simp; omega) ?_ ?_
  · rw [List.all_eq_true]
    intro y hy
    rcases List.mem_or_eq_of_mem_set hy with hy | rfl
    · exact List.all_eq_true.1 (slotsErr_all h) y hy
    · exact hs
  · have h0 := slotsErr_kind0 h
    have hl := List.getElem?_eq_getElem (l := l) (i := 0) (by omega)
    rw [kind0_at hl] at h0
    have : (l.set k s)[0]? = some l[0] := by rw [List.getElem?_set_ne (by omega)]; exact hl
    rw [kind0_at this]; exact h0
theorem tslot_fine {t : List Int} (h : entriesErr t = 0) (hb : bare t = false) : slotFine (tslot t) = true := by unfold slotFine tslot; simp [h, hb]; rfl
theorem dslot_fine {p : ByteArray} (h : p.size = 4) : slotFine (dslot p) = true := by unfold slotFine dslot; simp [h]
end
end Go.Proofs.Ytbhhcjnjddcocaa
