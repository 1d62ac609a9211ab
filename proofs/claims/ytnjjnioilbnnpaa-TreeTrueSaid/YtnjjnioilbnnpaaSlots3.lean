/- slots.Grab, slots.Used. Conditions: the slots are read in blocks below the heap's size. -/
import Derived.Test.YtnjjnioilbnnpaaSlots2
namespace Go.Proofs.Ytnjjnioilbnnpaa
open Go.RowKit Sl

theorem freefn_any (B : Nat) (s : Slot) (A : Option Addr) (n c : Nat) (w : World) (_ : B ≤ w.heap.size) (_ : SlotV w B s A n c) :
    Calls Try.prog 61 #[.agg #[.int .i64 s.kind, .string s.data, .slice A n c]] w fun e w' => e = .returned (.bool (s.kind == 0)) ∧ Below w.heap.size w w' := sfree_any _ _ _ w

theorem grab_bad {l : List Slot} (h : slotsErr l ≠ 0) : grabN l = 0 ∧ grabE l = slotsErr l := by unfold grabN grabE; rw [if_neg h, if_neg h]; exact ⟨rfl, rfl⟩
theorem grab_hit {l : List Slot} (h : slotsErr l = 0) (i : Int) (hi : indexOf (fun s => s.kind == 0) (l.drop 1) = i) (h0 : 0 ≤ i) : grabN l = i + 1 ∧ grabE l = 0 := by
  unfold indexOf at hi
  have hg : freeAt (l.drop 1) < (l.drop 1).length := by
    unfold freeAt
    rcases Nat.lt_or_ge (firstAt (fun s : Slot => s.kind == 0) (l.drop 1)) (l.drop 1).length with h | h
    · exact h
    · rw [if_neg (by omega)] at hi; omega
  have hi' : (freeAt (l.drop 1) : Int) = i := by unfold freeAt at *; rw [if_pos hg] at hi; exact hi
  unfold grabN grabE grab
  rw [if_pos h, if_pos h, if_pos hg, if_neg (by omega)]
  exact ⟨by omega, rfl⟩
theorem grab_miss {l : List Slot} (h : slotsErr l = 0) (hi : indexOf (fun s => s.kind == 0) (l.drop 1) < 0) : (l.length = 40 → grabN l = 0 ∧ grabE l = 7) ∧ (l.length ≠ 40 → grabN l = l.length ∧ grabE l = 0) := by
  unfold indexOf at hi
  have hg : ¬ freeAt (l.drop 1) < (l.drop 1).length := by
    intro hg
    unfold freeAt at hg
    rw [if_pos hg] at hi; omega
  have hl : 1 ≤ l.length ∧ l.length ≤ 40 := by
    unfold slotsErr at h
    split at h
    · omega
    · omega
  unfold grabN grabE grab
  rw [if_pos h, if_pos h, if_neg hg]
  refine ⟨fun e => ?_, fun e => ?_⟩
  · rw [if_neg (by omega)]; exact ⟨rfl, rfl⟩
  · rw [if_pos (by omega), if_neg (by omega)]; exact ⟨rfl, rfl⟩
theorem indexOf_cases {α : Type} (p : α → Bool) (l : List α) : indexOf p l = -1 ∨ (0 ≤ indexOf p l ∧ indexOf p l < l.length) := by
  unfold indexOf; split
  · right; omega
  · left; rfl
theorem slotsErr_len {l : List Slot} (h : slotsErr l = 0) : 1 ≤ l.length ∧ l.length ≤ 40 := by
  unfold slotsErr at h
  split at h
  · omega
  · omega

end Go.Proofs.Ytnjjnioilbnnpaa
