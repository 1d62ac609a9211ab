/- The plain model of entry.With and Cut. No conditions. -/
import Derived.Test.YtbhhcjnjddcocaaPureA
namespace Sl
def cutE (t : List Int) (n : Int) : Int := if entriesErr t = 0 then (if 0 ≤ n ∧ n ≤ 4 then 0 else 3) else entriesErr t
def cutL (t : List Int) (m : Nat) : List Int := t.take m ++ List.replicate (4 - m) 0
def cutV (t : List Int) (n : Int) : List Int := if cutE t n = 0 then cutL t n.toNat else []
def withE (t : List Int) (k e : Int) : Int := if entriesErr t = 0 then (if 0 ≤ k ∧ k < 4 then (if fine e then 0 else 1) else 3) else entriesErr t
def withV (t : List Int) (k e : Int) : List Int := if withE t k e = 0 then t.set k.toNat e else []
theorem entriesErr_is {t : List Int} (h : entriesErr t = 0) : t.length = 4 ∧ t.all fine = true := by
  unfold entriesErr at h
  split at h
  · split at h
    · exact ⟨by assumption, by assumption⟩
    · omega
  · omega
theorem cut_no {t : List Int} {n : Int} (h : entriesErr t ≠ 0) : cutE t n = entriesErr t ∧ cutV t n = [] := by
  have : cutE t n = entriesErr t := by unfold cutE; rw [if_neg h]
  exact ⟨this, by unfold cutV; rw [this, if_neg h]⟩
theorem cut_out {t : List Int} {n : Int} (h : entriesErr t = 0) (hn : ¬ (0 ≤ n ∧ n ≤ 4)) : cutE t n = 3 ∧ cutV t n = [] := by
  have : cutE t n = 3 := by unfold cutE; rw [if_pos h, if_neg hn]
  exact ⟨this, by unfold cutV; rw [this, if_neg (by decide)]⟩
theorem cut_ok {t : List Int} {m : Nat} (h : entriesErr t = 0) (hn : m ≤ 4) : cutE t m = 0 ∧ cutV t m = cutL t m := by
  have : cutE t m = 0 := by unfold cutE; rw [if_pos h, if_pos (by omega)]
  exact ⟨this, by unfold cutV; rw [this, if_pos rfl, Int.toNat_natCast]⟩
theorem with_no {t : List Int} {k e : Int} (h : entriesErr t ≠ 0) : withE t k e = entriesErr t ∧ withV t k e = [] := by
  have : withE t k e = entriesErr t := by unfold withE; rw [if_neg h]
  exact ⟨this, by unfold withV; rw [this, if_neg h]⟩
theorem with_out {t : List Int} {k e : Int} (h : entriesErr t = 0) (hk : ¬ (0 ≤ k ∧ k < 4)) : withE t k e = 3 ∧ withV t k e = [] := by
  have : withE t k e = 3 := by unfold withE; rw [if_pos h, if_neg hk]
  exact ⟨this, by unfold withV; rw [this, if_neg (by decide)]⟩
theorem with_bad {t : List Int} {k e : Int} (h : entriesErr t = 0) (hk : 0 ≤ k ∧ k < 4) (he : fine e = false) : withE t k e = 1 ∧ withV t k e = [] := by
  have : withE t k e = 1 := by unfold withE; rw [if_pos h, if_pos hk, he]; rfl
  exact ⟨this, by unfold withV; rw [this, if_neg (by decide)]⟩
theorem with_ok {t : List Int} {k : Nat} {e : Int} (h : entriesErr t = 0) (hk : k < 4) (he : fine e = true) : withE t k e = 0 ∧ withV t k e = t.set k e := by
  have : withE t k e = 0 := by unfold withE; rw [if_pos h, if_pos (by omega), he]; rfl
  exact ⟨this, by unfold withV; rw [this, if_pos rfl, Int.toNat_natCast]⟩
end Sl
