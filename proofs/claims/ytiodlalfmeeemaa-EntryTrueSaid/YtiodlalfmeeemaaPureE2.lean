/- Cuts of cuts. No conditions. -/
import Derived.Test.YtiodlalfmeeemaaPureE
namespace Sl

theorem four_of {t : List Int} (h : t.length = 4) : ∃ a b c d, t = [a, b, c, d] := by
  match t, h with
  | [a, b, c, d], _ => exact ⟨a, b, c, d, rfl⟩
theorem five {a : Nat} (h : a ≤ 4) : a = 0 ∨ a = 1 ∨ a = 2 ∨ a = 3 ∨ a = 4 := by omega
theorem cutL_cut {t : List Int} {a b : Nat} (h : t.length = 4) (ha : a ≤ 4) (hb : b ≤ 4) : cutL (cutL t a) b = cutL t (min a b) := by
  obtain ⟨x, y, z, u, rfl⟩ := four_of h
  rcases five ha with rfl | rfl | rfl | rfl | rfl <;> rcases five hb with rfl | rfl | rfl | rfl | rfl <;> rfl
theorem entriesErr_cut {t : List Int} {a : Nat} (h : entriesErr t = 0) (ha : a ≤ 4) : entriesErr (cutL t a) = 0 := by
  obtain ⟨h1, h2⟩ := entriesErr_is h
  obtain ⟨x, y, z, u, rfl⟩ := four_of h1
  simp only [List.all_cons, List.all_nil, Bool.and_true, Bool.and_eq_true] at h2
  have f0 : fine 0 = true := rfl
  have e : ∀ l : List Int, l.length = 4 → l.all fine = true → entriesErr l = 0 := fun l g g' => by unfold entriesErr; rw [if_pos g, if_pos g']
  rcases five ha with rfl | rfl | rfl | rfl | rfl <;> refine e _ rfl ?_ <;> simp [cutL, List.replicate, h2, f0]
theorem cutL_0 {t : List Int} (h : t.length = 4) : cutL t 0 = [0, 0, 0, 0] := by obtain ⟨x, y, z, u, rfl⟩ := four_of h; rfl
theorem cutL_4 {t : List Int} (h : t.length = 4) : cutL t 4 = t := by obtain ⟨x, y, z, u, rfl⟩ := four_of h; rfl
theorem cut_is {t : List Int} {n : Int} (h : cutE t n = 0) : entriesErr t = 0 ∧ 0 ≤ n ∧ n ≤ 4 := by
  unfold cutE at h
  split at h
  · split at h
    · rename_i h1 h2; exact ⟨h1, h2.1, h2.2⟩
    · omega
  · rename_i h1; exact absurd h h1
theorem with_is {t : List Int} {k e : Int} (h : withE t k e = 0) : entriesErr t = 0 ∧ 0 ≤ k ∧ k < 4 ∧ fine e = true := by
  unfold withE at h
  split at h
  · split at h
    · split at h
      · rename_i h1 h2 h3; exact ⟨h1, h2.1, h2.2, h3⟩
      · omega
    · omega
  · rename_i h1; exact absurd h h1
theorem cut_facts {t : List Int} {a b : Nat} (h : entriesErr t = 0) (ha : a ≤ 4) (hb : b ≤ 4) :
    cutV t a = cutL t a ∧ cutV t b = cutL t b ∧ cutE (cutL t a) b = 0 ∧ cutV (cutL t a) b = cutL t (min a b) ∧ cutE t (min a b : Nat) = 0 ∧ cutV t (min a b : Nat) = cutL t (min a b) ∧
    cutE (cutL t b) 0 = 0 ∧ cutV (cutL t b) 0 = [0, 0, 0, 0] ∧ cutE t 4 = 0 ∧ cutV t 4 = t := by
  have hl := (entriesErr_is h).1
  have h1 := entriesErr_cut h ha
  have h2 := entriesErr_cut h hb
  have c1 := cut_ok h ha
  have c2 := cut_ok h hb
  have c3 := cut_ok h1 hb
  have c4 := cut_ok h (m := min a b) (by omega)
  have c5 := cut_ok h2 (m := 0) (by omega)
  have c6 := cut_ok h (m := 4) (by omega)
  have l2 := (entriesErr_is h2).1
  exact ⟨c1.2, c2.2, c3.1, by rw [c3.2, cutL_cut hl ha hb], c4.1, c4.2, c5.1, c5.2.trans (cutL_0 l2), c6.1, c6.2.trans (cutL_4 hl)⟩
def chooseOf (c n : Int) : Int := (if c < 0 then -(c + 1) else c) % n
theorem chooseOf_in (c n : Int) (h : 0 < n) : 0 ≤ chooseOf c n ∧ chooseOf c n < n := ⟨Int.emod_nonneg _ (by omega), Int.emod_lt_of_pos _ h⟩
end Sl
