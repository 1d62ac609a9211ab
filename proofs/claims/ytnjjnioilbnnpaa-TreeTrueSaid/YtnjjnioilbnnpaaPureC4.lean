/- What right images tell: TreeTrue's plain law. No conditions. -/
import Derived.Test.YtnjjnioilbnnpaaPureC3
namespace Sl
variable {m : Img}
def tabs (l : List Slot) : Nat := l.countP (fun s => s.kind == 2)
theorem tabs_snoc (l : List Slot) (k : Nat) (s : Slot) (h : l[k]? = some s) : tabs (l.take (k + 1)) = tabs (l.take k) + (if s.kind = 2 then 1 else 0) := by
  unfold tabs; rw [List.take_add_one, h, List.countP_append]; simp [List.countP_cons]
theorem tabs_le (l : List Slot) : tabs l ≤ l.length := List.countP_le_length
theorem sumTo_tabs (l : List Slot) (ls : List (List Int)) (n : Nat) (ht : ∀ s ∈ l, s.table.length ≤ 4) : ∀ i, i ≤ l.length → sumTo l ls n i ≤ 4 * tabs (l.take i) := by
  intro i
  induction i with
  | zero => intro _; simp [sumTo, sumOf]
  | succ i ih =>
    intro hi
    have hs : l[i]? = some l[i] := List.getElem?_eq_getElem (by omega)
    have h1 := ih (by omega)
    rw [tabs_snoc l i _ hs]
    rcases Nat.eq_zero_or_pos i with h0 | h0
    · subst h0; rw [sumTo_one]; omega
    · rw [sumTo_succ _ _ _ _ h0]
      have : toldBy l ls n i ≤ 4 * (if l[i].kind = 2 then 1 else 0) := by
        unfold toldBy
        rw [kindN_at hs, tableN_at hs]
        by_cases h2 : l[i].kind = 2
        · rw [if_pos h2]
          split
          · have := told_len l[i].table n; have := ht l[i] (List.getElem_mem _); omega
          · omega
        · rw [if_neg (fun h => h2 h.1)]; omega
      omega
theorem toldAll_page (h : Wired m) {k : Nat} (hk : 1 ≤ k) (hl : k < m.slots.length) (h1 : kindN m.slots k ≠ 2) : toldAll (rootsOf m) k = 0 := by
  rw [← told_flat]
  refine told_zero (fun x hx e => ?_)
  subst e
  obtain ⟨r, hr, ht⟩ := List.mem_flatten.1 hx
  rcases h.roots r hr _ ht with h2 | h2
  · omega
  · rw [kindOf_N hk hl] at h2; exact h1 h2
theorem page_le (h : checkErr m = 0) {k : Nat} {s : Slot} {c : Int} (hs : m.slots[k]? = some s) (hc : (countsOf m)[k]? = some c) (h1 : s.kind = 1) : c ≤ 4 * tabs m.slots := by
  obtain ⟨hsh, _⟩ := check_is h
  have hl := (List.getElem?_eq_some_iff.1 hs).1
  rw [countsOf_row, row_at _ hl] at hc
  injection hc with hc
  have hk : 1 ≤ k := by
    rcases Nat.eq_zero_or_pos k with h0 | h0
    · subst h0
      have h2 := (sh_is hsh).1.slots
      unfold slotsErr at h2
      split at h2
      · omega
      · split at h2
        · split at h2
          · rename_i h3
            cases hm : m.slots with
            | nil => rw [hm] at hs; simp at hs
            | cons a l => rw [hm] at hs h3; simp at hs; rw [hs] at h3; have h4 : s.kind = 0 := h3; omega
          · omega
        · omega
    · exact h0
  have hkn := kindN_at hs
  rw [← hc, countAt_page hk (hkn.trans h1), toldAll_page (shape_wired hsh) hk hl (by omega)]
  have := sumTo_tabs m.slots (rootsOf m) k (shape_cbd hsh).tables m.slots.length (Nat.le_refl _)
  rw [List.take_length] at this
  omega
theorem ref_is (h : checkErr m = 0) {k : Nat} {r c : Int} {s : Slot} (hr : m.refs[k]? = some r) (hc : (countsOf m)[k]? = some c) (hs : m.slots[k]? = some s) : r = c ∧ 0 ≤ c ∧ (c = 0 ↔ s.kind = 0) := by
  have hl := (List.getElem?_eq_some_iff.1 hs).1
  have := (check_is h).2 k hl
  rw [refAt_at hr hc hs, Bool.and_eq_true, beq_iff_eq] at this
  refine ⟨this.1, ?_, ?_⟩
  · rw [countsOf_row, row_at _ hl] at hc
    injection hc with hc
    rw [← hc]; exact Int.natCast_nonneg _
  · have h2 := this.2
    rw [beq_iff_eq, Bool.eq_iff_iff] at h2
    simpa using h2
theorem look_page (h : checkErr m = 0) (n : Nat) : -1 ≤ entryOf m.slots m.root n ∧ (0 < entryOf m.slots m.root n → ∃ k s, entryOf m.slots m.root n = (k : Nat) ∧ m.slots[k]? = some s ∧ s.kind = 1) := by
  obtain ⟨h1, h2, h3, h4, h5⟩ := sh_is (check_is h).1
  unfold entryOf
  split
  · rename_i hp
    unfold tableAt
    cases hs : m.slots[(int m.root (n / 4)).toNat]? with
    | none => simp [int]
    | some s =>
      simp only [Option.map_some, Option.getD_some]
      cases he : s.table[n % 4]? with
      | none => simp only [int, List.getD_eq_getElem?_getD, he]; simp
      | some e =>
        simp only [int, List.getD_eq_getElem?_getD, he, Option.getD_some]
        have hmem := List.mem_of_getElem? hs
        have hem := List.mem_of_getElem? he
        have hok := List.all_eq_true.1 (List.all_eq_true.1 h4 s hmem) e hem
        have hsf := List.all_eq_true.1 (slots_all h1.slots) s hmem
        refine ⟨?_, fun he0 => ?_⟩
        · unfold slotFine at hsf
          split at hsf
          · simp only [Bool.and_eq_true, beq_iff_eq] at hsf
            have := List.eq_nil_of_length_eq_zero hsf.2; rw [this] at hem; cases hem
          · split at hsf
            · simp only [Bool.and_eq_true, beq_iff_eq] at hsf
              have := List.eq_nil_of_length_eq_zero hsf.2; rw [this] at hem; cases hem
            · split at hsf
              · simp only [Bool.and_eq_true, beq_iff_eq] at hsf
                have h6 := hsf.1.2
                unfold entriesErr at h6
                split at h6
                · split at h6
                  · rename_i h7
                    have := List.all_eq_true.1 h7 e hem
                    unfold fine at this
                    simp only [Bool.and_eq_true, decide_eq_true_eq] at this
                    exact this.1
                  · omega
                · omega
              · cases hsf
        · unfold entryOk at hok
          rw [decide_eq_false (by omega), Bool.false_or, beq_iff_eq] at hok
          obtain ⟨j, rfl⟩ := Int.eq_ofNat_of_zero_le (a := e) (by omega)
          unfold kindOf at hok
          split at hok
          · rename_i hj
            have hjl : j < m.slots.length := by omega
            rw [Int.toNat_natCast, List.getElem?_eq_getElem hjl] at hok
            exact ⟨j, m.slots[j], rfl, List.getElem?_eq_getElem hjl, hok⟩
          · omega
  · exact ⟨by omega, fun h => by omega⟩
def chooseOf (c n : Int) : Int := (if c < 0 then -(c + 1) else c) % n
theorem chooseOf_in (c n : Int) (h : 0 < n) : 0 ≤ chooseOf c n ∧ chooseOf c n < n := ⟨Int.emod_nonneg _ (by omega), Int.emod_lt_of_pos _ h⟩
end Sl
