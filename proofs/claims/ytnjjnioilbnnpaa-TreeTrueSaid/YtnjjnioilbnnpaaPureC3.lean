/- What the shape gives. No conditions. -/
import Derived.Test.YtnjjnioilbnnpaaPureC2
namespace Sl
variable {m : Img}
theorem wants_le {g : Int} (h0 : 0 ≤ g) (h : g ≤ 16) : 0 ≤ wants g ∧ wants g ≤ 4 := by unfold wants; omega
theorem slots_all {l : List Slot} (h : slotsErr l = 0) : l.all slotFine = true := by
  unfold slotsErr at h
  split at h
  · omega
  · split at h
    · assumption
    · omega
theorem slot_len {l : List Slot} {s : Slot} (h : slotsErr l = 0) (hs : s ∈ l) : s.table.length ≤ 4 ∧ (s.kind = 2 → s.table.length = 4) ∧ (s.kind ≠ 2 → s.table = []) := by
  have := List.all_eq_true.1 (slots_all h) s hs
  unfold slotFine at this
  split at this
  · rename_i h0
    simp only [Bool.and_eq_true, beq_iff_eq] at this
    exact ⟨by omega, by omega, fun _ => List.eq_nil_of_length_eq_zero this.2⟩
  · split at this
    · simp only [Bool.and_eq_true, beq_iff_eq] at this
      exact ⟨by omega, by omega, fun _ => List.eq_nil_of_length_eq_zero this.2⟩
    · split at this
      · rename_i h2
        simp only [Bool.and_eq_true, beq_iff_eq] at this
        have h3 := this.1.2
        unfold entriesErr at h3
        split at h3
        · exact ⟨by omega, by omega, by omega⟩
        · omega
      · cases this
theorem guestOk_both {g : Int} (h : guestOk g = true) : 0 ≤ g ∧ g ≤ 16 := by
  unfold guestOk at h; rw [Bool.and_eq_true, decide_eq_true_eq, decide_eq_true_eq] at h; exact h
theorem rootFine_both {l : List Slot} {g : Int} {r : List Int} (h : rootFine l g r = true) : (r.length : Int) = wants g ∧ ∀ k, k < r.length → rootAt l g r k = true := by
  unfold rootFine at h; rw [Bool.and_eq_true, decide_eq_true_eq, upto_iff] at h; exact h
theorem rootAt_or {l : List Slot} {g : Int} {r : List Int} {k : Nat} (h : rootAt l g r k = true) : int r k = 0 ∨ kindOf l (int r k) = 2 := by
  unfold rootAt at h
  rw [Bool.or_eq_true, Bool.and_eq_true, beq_iff_eq, beq_iff_eq] at h
  rcases h with h | h
  · exact .inl h
  · exact .inr h.1
theorem int_mem {r : List Int} {t : Int} (h : t ∈ r) : ∃ k, k < r.length ∧ int r k = t := by
  obtain ⟨k, hk, rfl⟩ := List.mem_iff_getElem.1 h
  exact ⟨k, hk, by unfold int; rw [List.getD_eq_getElem?_getD, List.getElem?_eq_getElem hk]; rfl⟩
theorem rootFine_wired {l : List Slot} {g : Int} {r : List Int} (h : rootFine l g r = true) {t : Int} (ht : t ∈ r) : t = 0 ∨ kindOf l t = 2 := by
  obtain ⟨k, hk, rfl⟩ := int_mem ht
  exact rootAt_or ((rootFine_both h).2 k hk)
theorem shape_cbd (h : shapeErr m = 0) : CBd m := by
  obtain ⟨h1, h2, h3, h4, h5⟩ := sh_is h
  obtain ⟨a, b, c⟩ := sizesOk_is h1.sizes
  unfold guestsOk at h3
  unfold rootsOk at h5
  rw [Bool.and_eq_true, List.all_eq_true] at h3 h5
  refine ⟨a, b, by omega, ?_, fun s hs => ?_, fun s hs => (slot_len h1.slots hs).1⟩
  · have := (rootFine_both h5.1).1
    have := wants_le (guestOk_both h3.1).1 (guestOk_both h3.1).2
    omega
  · have := (rootFine_both (h5.2 s hs)).1
    have := wants_le (guestOk_both (h3.2 s hs)).1 (guestOk_both (h3.2 s hs)).2
    omega
theorem shape_wired (h : shapeErr m = 0) : Wired m := by
  obtain ⟨h1, h2, h3, h4, h5⟩ := sh_is h
  unfold rootsOk at h5
  rw [Bool.and_eq_true, List.all_eq_true] at h5
  refine ⟨h4, fun r hr t ht => ?_⟩
  rcases List.mem_cons.1 hr with rfl | hr
  · exact rootFine_wired h5.1 ht
  · obtain ⟨s, hs, rfl⟩ := List.mem_map.1 hr
    exact rootFine_wired (h5.2 s hs) ht
def cntV (m : Img) : List Int := if shapeErr m = 0 then countsOf m else []
theorem countsOf_len (m : Img) : (countsOf m).length = m.slots.length := by rw [countsOf_row, row_len]
theorem refAt_at {k : Nat} {r c : Int} {s : Slot} (hr : m.refs[k]? = some r) (hc : (countsOf m)[k]? = some c) (hs : m.slots[k]? = some s) : refAt m k = (r == c && ((c == 0) == (s.kind == 0))) := by
  unfold refAt; rw [kindN_at hs]
  unfold int; rw [List.getD_eq_getElem?_getD, List.getD_eq_getElem?_getD, hr, hc]; rfl
theorem check_no (h : shapeErr m ≠ 0) : checkErr m = shapeErr m := by unfold checkErr; rw [if_pos h]
theorem check_bad (h : shapeErr m = 0) (h2 : upto (refAt m) m.slots.length = false) : checkErr m = 9 := by unfold checkErr; rw [if_neg (by omega), h2]; rfl
theorem check_ok (h : shapeErr m = 0) (h2 : upto (refAt m) m.slots.length = true) : checkErr m = 0 := by unfold checkErr; rw [if_neg (by omega), h2]; rfl
theorem check_is (h : checkErr m = 0) : shapeErr m = 0 ∧ ∀ k, k < m.slots.length → refAt m k = true := by
  unfold checkErr at h
  split at h
  · contradiction
  · rename_i h1
    split at h
    · rename_i h2; exact ⟨by omega, upto_iff.1 h2⟩
    · omega
theorem look_no (h : checkErr m ≠ 0) (n : Int) : lookE m n = checkErr m ∧ lookN m n = 0 := by
  have : lookE m n = checkErr m := by unfold lookE; rw [if_pos h]
  exact ⟨this, by unfold lookN; rw [this, if_neg h]⟩
theorem look_out (h : checkErr m = 0) {n : Int} (hn : ¬ (0 ≤ n ∧ n < m.guest)) : lookE m n = 3 ∧ lookN m n = 0 := by
  have : lookE m n = 3 := by unfold lookE; rw [if_neg (by omega), if_neg hn]
  exact ⟨this, by unfold lookN; rw [this, if_neg (by decide)]⟩
theorem look_ok (h : checkErr m = 0) {n : Nat} (hn : (n : Int) < m.guest) : lookE m n = 0 ∧ lookN m n = entryOf m.slots m.root n := by
  have : lookE m n = 0 := by unfold lookE; rw [if_neg (by omega), if_pos (by omega)]
  exact ⟨this, by unfold lookN; rw [this, if_pos rfl, Int.toNat_natCast]⟩
theorem look_is {n : Int} (h : lookE m n = 0) : checkErr m = 0 ∧ 0 ≤ n ∧ n < m.guest := by
  unfold lookE at h
  split at h
  · contradiction
  · rename_i h1
    split at h
    · rename_i h2; exact ⟨by omega, h2.1, h2.2⟩
    · omega
end Sl
