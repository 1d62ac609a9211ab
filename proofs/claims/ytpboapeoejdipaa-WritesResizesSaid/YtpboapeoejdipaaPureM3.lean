/- What settling does: slots that are used, leaks, what is read. No conditions. -/
import Derived.Test.YtpboapeoejdipaaPureM2
namespace Sl
variable {m : Img}
def leaksTo (m : Img) (k : Nat) : Nat := (List.range k).countP (fun k => int (countsOf m) k == 0 && kindN m.slots k != 0)
theorem leaksN_to : leaksN m = leaksTo m m.slots.length := rfl
theorem leaksTo_succ (k : Nat) : leaksTo m (k + 1) = leaksTo m k + (if (int (countsOf m) k == 0 && kindN m.slots k != 0) = true then 1 else 0) := by
  unfold leaksTo; rw [List.range_succ, List.countP_append]; simp [List.countP_cons]
theorem leaksTo_le (k : Nat) : leaksTo m k ≤ k := by
  have := List.countP_le_length (p := fun k => int (countsOf m) k == 0 && kindN m.slots k != 0) (l := List.range k)
  rw [List.length_range] at this; exact this
theorem leaksTo_at {k : Nat} {c : Int} {s : Slot} (hc : (countsOf m)[k]? = some c) (hs : m.slots[k]? = some s) : leaksTo m (k + 1) = leaksTo m k + (if (c == 0 && s.kind != 0) = true then 1 else 0) := by
  rw [leaksTo_succ, kindN_at hs]
  unfold int
  rw [List.getD_eq_getElem?_getD, hc]; rfl
theorem used_settled : ∀ k, k ≤ m.slots.length → used (m.slots.take k) = used ((settled m).slots.take k) + leaksTo m k := by
  intro k
  induction k with
  | zero => intro _; simp [used, leaksTo]
  | succ k ih =>
    intro hk
    have hs := List.getElem?_eq_getElem (show k < m.slots.length by omega)
    rw [used_take_succ _ k _ hs, used_take_succ _ k _ (settled_at hs), leaksTo_at (counts_at (by omega)) hs, ih (by omega)]
    by_cases hc : cnt m k = 0
    · rw [if_pos hc, hc]
      have hf : freeSlot.kind = 0 := rfl
      rw [if_pos hf]
      by_cases hk0 : m.slots[k].kind = 0
      · have g : ¬ ((((0 : Nat) : Int) == 0 && m.slots[k].kind != 0) = true) := by rw [hk0]; decide
        rw [if_pos hk0, if_neg g]; rfl
      · have g : (((0 : Nat) : Int) == 0 && m.slots[k].kind != 0) = true := by rw [Bool.and_eq_true]; exact ⟨rfl, by simpa using hk0⟩
        rw [if_neg hk0, if_pos g]; omega
    · rw [if_neg hc, if_neg (show ¬ ((((cnt m k : Nat) : Int) == 0 && m.slots[k].kind != 0) = true) by simp; omega)]; omega
def leaksV (m : Img) : Int := if shapeErr m = 0 then (leaksN m : Int) else 0
theorem used_all : used m.slots = used (settled m).slots + leaksN m := by
  have := used_settled (m := m) m.slots.length (Nat.le_refl _)
  rwa [List.take_of_length_le (Nat.le_refl _), List.take_of_length_le (by rw [settled_len]; exact Nat.le_refl _), ← leaksN_to] at this
theorem leaks_none : leaksN (settled m) = 0 := by
  unfold leaksN
  rw [List.countP_eq_zero]
  intro k hk
  rw [settled_len] at hk
  have hk' := List.mem_range.1 hk
  rw [settled_counts, int_cnt hk', settled_kind hk']
  by_cases hc : cnt m k = 0
  · rw [if_pos hc, hc]; decide
  · simp [hc]
theorem settled_page {e : Int} (h : e ≤ 0 ∨ ∃ j : Nat, e = j ∧ j < m.slots.length ∧ cnt m j ≠ 0) : pageV (settled m).slots e = pageV m.slots e := by
  rcases h with h | ⟨j, rfl, hj, hc⟩
  · rw [pageV_no h, pageV_no h]
  · unfold pageV
    rw [Int.toNat_natCast, settled_at (List.getElem?_eq_getElem hj), if_neg hc, List.getElem?_eq_getElem hj]
theorem settled_entry (h : Sound m) {r : List Int} (hr : r ∈ rootsOf m) {n : Nat} (hn : n / 4 < r.length) :
    entryOf (settled m).slots r n = entryOf m.slots r n ∧ pageV (settled m).slots (entryOf m.slots r n) = pageV m.slots (entryOf m.slots r n) := by
  have hmr : int r (n / 4) ∈ r := by unfold int; rw [List.getD_eq_getElem?_getD, List.getElem?_eq_getElem hn]; exact List.getElem_mem hn
  rcases h.wired.roots r hr _ hmr with h0 | h2
  · have e1 : ∀ l : List Slot, entryOf l r n = 0 := fun l => by unfold entryOf; rw [if_neg (by omega)]
    rw [e1, e1]
    exact ⟨rfl, settled_page (.inl (by omega))⟩
  · obtain ⟨t, et, t1, t2, t3⟩ := kindOf_ge h2 (by omega)
    rw [et] at hmr
    have hc := cnt_root hr hmr t1
    have ht : tableAt (settled m).slots (t : Int) = tableAt m.slots (t : Int) := by
      have h1 := settled_table t2
      rw [if_neg hc] at h1
      unfold tableN at h1
      unfold tableAt
      rw [Int.toNat_natCast]
      exact h1
    have e1 : ∀ l : List Slot, entryOf l r n = int (tableAt l t) (n % 4) := fun l => by unfold entryOf; rw [et, if_pos (by omega)]
    rw [e1, e1, ht]
    refine ⟨rfl, settled_page ?_⟩
    rcases Int.lt_or_le 0 (int (tableAt m.slots t) (n % 4)) with hp | hp
    · right
      have hm : int (tableAt m.slots t) (n % 4) ∈ tableN m.slots t := by
        have e2 : tableAt m.slots (t : Int) = tableN m.slots t := by unfold tableAt tableN; rw [Int.toNat_natCast]
        rw [e2] at hp ⊢
        unfold int at hp ⊢
        rw [List.getD_eq_getElem?_getD] at hp ⊢
        cases hx : (tableN m.slots t)[n % 4]? with
        | none => rw [hx] at hp; simp at hp
        | some y => exact List.mem_of_getElem? hx
      obtain ⟨j, ej, j1, j2, j3⟩ := entry_kind h.tables hm hp
      rw [ej] at hm
      exact ⟨j, ej, j2, cnt_entry t1 t2 t3 hc j1 hm j3⟩
    · exact .inl hp
/-- Of a sound image an entry is a page's slot, or none. -/
theorem sound_page (h : Sound m) {r : List Int} (n : Nat) : PageOk m.slots (entryOf m.slots r n) := by
  rcases Int.lt_or_le 0 (entryOf m.slots r n) with hp | hp
  · right
    unfold entryOf at hp ⊢
    split at hp
    · rename_i ht
      rw [if_pos ht]
      have e2 : tableAt m.slots (int r (n / 4)) = tableN m.slots (int r (n / 4)).toNat := rfl
      have hm : int (tableAt m.slots (int r (n / 4))) (n % 4) ∈ tableN m.slots (int r (n / 4)).toNat := by
        rw [e2] at hp ⊢
        generalize tableN m.slots (int r (n / 4)).toNat = tb at hp ⊢
        unfold int at hp ⊢
        rw [List.getD_eq_getElem?_getD] at hp ⊢
        cases hx : tb[n % 4]? with
        | none => rw [hx] at hp; simp at hp
        | some y => exact List.mem_of_getElem? hx
      obtain ⟨j, ej, j1, j2, j3⟩ := entry_kind h.tables hm hp
      have hj := List.getElem?_eq_getElem j2
      rw [kindN_at hj] at j3
      exact ⟨j, m.slots[j], ej, by omega, hj, slot_data (List.all_eq_true.1 (slots_all h.slots) _ (List.getElem_mem j2)) j3⟩
    · omega
  · exact .inl hp
end Sl
