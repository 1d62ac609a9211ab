/- What settling does: the image is right, its counts are the same, it leaks nothing. No conditions. -/
import Derived.Test.YtpboapeoejdipaaPureM
namespace Sl
/-- Right but for its Refs. -/
structure Sound (m : Img) : Prop where
  sizes : sizesOk m = true
  slots : slotsErr m.slots = 0
  names : namesOk m.snaps = true
  guests : guestsOk m = true
  tables : tablesOk m.slots = true
  roots : rootsOk m = true
variable {m : Img}
theorem sound_of (h : shapeErr m = 0) : Sound m := by
  obtain ⟨h1, h2, h3, h4, h5⟩ := sh_is h
  exact ⟨h1.sizes, h1.slots, h2, h3, h4, h5⟩
theorem Sound.shape (h : Sound m) (hr : m.refs.length = m.slots.length) : shapeErr m = 0 := sh_ok ⟨h.sizes, h.slots, hr⟩ h.names h.guests h.tables h.roots
theorem Sound.zeros (h : Sound m) : shapeErr { m with refs := List.replicate m.slots.length 0 } = 0 := Sound.shape (m := { m with refs := List.replicate m.slots.length 0 }) ⟨h.sizes, h.slots, h.names, h.guests, h.tables, h.roots⟩ (by simp)
theorem Sound.cbd (h : Sound m) : CBd m := by have := shape_cbd h.zeros; exact ⟨this.one, this.slots, this.snaps, this.root, this.roots, this.tables⟩
theorem Sound.wired (h : Sound m) : Wired m := by have := shape_wired h.zeros; exact ⟨this.tables, this.roots⟩
/-- How often slot n is told. -/
def cnt (m : Img) (n : Nat) : Nat := countAt m.slots (rootsOf m) n
theorem int_cnt {n : Nat} (h : n < m.slots.length) : int (countsOf m) n = cnt m n := by rw [countsOf_row, row_int _ h]; rfl
theorem counts_at {n : Nat} (h : n < m.slots.length) : (countsOf m)[n]? = some ((cnt m n : Nat) : Int) := by rw [countsOf_row, row_at _ h]; rfl
theorem settled_len : (settled m).slots.length = m.slots.length := by unfold settled; exact freeG_len _ _ _ _
theorem settled_at {n : Nat} {s : Slot} (h : m.slots[n]? = some s) : (settled m).slots[n]? = some (if cnt m n = 0 then freeSlot else s) := by
  have hl := (List.getElem?_eq_some_iff.1 h).1
  unfold settled freeG
  simp only
  rw [List.getElem?_mapIdx, h, Option.map_some, int_cnt hl]
  by_cases hc : cnt m n = 0
  · rw [if_pos hc, if_pos ⟨hl, by rw [hc]; rfl⟩]
  · rw [if_neg hc, if_neg (fun hh => hc (by have := hh.2; omega))]
theorem settled_kind {n : Nat} (h : n < m.slots.length) : kindN (settled m).slots n = if cnt m n = 0 then 0 else kindN m.slots n := by
  have hs := List.getElem?_eq_getElem h
  rw [kindN_at (settled_at hs), kindN_at hs]
  split <;> rfl
theorem settled_table {n : Nat} (h : n < m.slots.length) : tableN (settled m).slots n = if cnt m n = 0 then [] else tableN m.slots n := by
  have hs := List.getElem?_eq_getElem h
  rw [tableN_at (settled_at hs), tableN_at hs]
  split <;> rfl
theorem told_pos {l : List Int} {t : Int} (h : t ∈ l) : 0 < told l t := by unfold told; rw [List.countP_pos_iff]; exact ⟨t, h, by simp⟩
theorem toldAll_pos {ls : List (List Int)} {r : List Int} {t : Int} (hr : r ∈ ls) (h : t ∈ r) : 0 < toldAll ls t := by
  rw [← told_flat]; exact told_pos (List.mem_flatten.2 ⟨r, hr, h⟩)
theorem cnt_told {k : Nat} (hk : 1 ≤ k) : toldAll (rootsOf m) k ≤ cnt m k := by unfold cnt countAt; rw [if_neg (by omega)]; omega
theorem cnt_root {r : List Int} {k : Nat} (hr : r ∈ rootsOf m) (h : (k : Int) ∈ r) (hk : 1 ≤ k) : cnt m k ≠ 0 := by
  have := toldAll_pos hr h; have := cnt_told (m := m) hk; omega
theorem kindOf_ge {l : List Slot} {e : Int} {c : Int} (h : kindOf l e = c) (hc : 0 ≤ c) : ∃ k : Nat, e = k ∧ 1 ≤ k ∧ k < l.length ∧ kindN l k = c := by
  have h0 := h
  unfold kindOf at h
  split at h
  · rename_i hh
    obtain ⟨k, rfl⟩ := Int.eq_ofNat_of_zero_le (a := e) (by omega)
    exact ⟨k, rfl, by omega, by omega, by rw [← kindOf_N (by omega) (by omega)]; exact h0⟩
  · omega
theorem entry_kind (h : tablesOk m.slots = true) {k : Nat} {e : Int} (he : e ∈ tableN m.slots k) (h0 : 0 < e) : ∃ j : Nat, e = j ∧ 1 ≤ j ∧ j < m.slots.length ∧ kindN m.slots j = 1 := by
  unfold tableN at he
  cases hs : m.slots[k]? with
  | none => rw [hs] at he; simp at he
  | some s =>
    rw [hs] at he
    have := List.all_eq_true.1 (List.all_eq_true.1 h s (List.mem_of_getElem? hs)) _ he
    unfold entryOk at this
    rw [decide_eq_false (by omega), Bool.false_or, beq_iff_eq] at this
    exact kindOf_ge this (by omega)
theorem sumOf_mem {l : List Nat} {x : Nat} (h : x ∈ l) : x ≤ sumOf l := by
  induction l with
  | nil => cases h
  | cons a l ih =>
    simp only [sumOf]
    rcases List.mem_cons.1 h with rfl | h
    · omega
    · have := ih h; omega
theorem cnt_entry {k : Nat} (hk : 1 ≤ k) (hl : k < m.slots.length) (h2 : kindN m.slots k = 2) (hc : cnt m k ≠ 0) {j : Nat} (hj : 1 ≤ j) (he : (j : Int) ∈ tableN m.slots k) (h1 : kindN m.slots j = 1) : cnt m j ≠ 0 := by
  have ht : 0 < toldAll (rootsOf m) k := by
    unfold cnt at hc
    rw [countAt_other hk (by omega)] at hc; omega
  unfold cnt
  rw [countAt_page hj h1]
  have hb : toldBy m.slots (rootsOf m) j k = told (tableN m.slots k) j := by unfold toldBy; rw [if_pos ⟨h2, ht⟩]
  have hm : toldBy m.slots (rootsOf m) j k ≤ sumTo m.slots (rootsOf m) j m.slots.length := by
    unfold sumTo
    refine sumOf_mem (List.mem_map.2 ⟨k - 1, List.mem_range.2 (by omega), ?_⟩)
    rw [show k - 1 + 1 = k from by omega]
  have := told_pos he
  omega
theorem slot0 (h : Sound m) : kindN m.slots 0 = 0 := by
  have hs := h.slots
  have hz := (sizesOk_is h.sizes).1
  unfold slotsErr at hs
  split at hs
  · omega
  · split at hs
    · split at hs
      · rename_i h3
        cases hm : m.slots with
        | nil => rfl
        | cons a l => rw [hm] at h3; exact h3
      · omega
    · omega
theorem used_told (h : Sound m) {n : Nat} (hn : n < m.slots.length) (hc : cnt m n ≠ 0) : 1 ≤ n ∧ kindN m.slots n ≠ 0 := by
  have h1 : 1 ≤ n := by
    rcases Nat.eq_zero_or_pos n with h0 | h0
    · subst h0; exact absurd (show cnt m 0 = 0 from rfl) hc
    · exact h0
  refine ⟨h1, fun hk => hc ?_⟩
  unfold cnt
  rw [countAt_other h1 (by omega), toldAll_page h.wired h1 hn (by omega)]
theorem cnt0 : cnt m 0 = 0 := rfl
/-- The counts of the settled image are those of the image. -/
theorem settled_cnt {n : Nat} (hn : n < m.slots.length) : cnt (settled m) n = cnt m n := by
  rcases Nat.eq_zero_or_pos n with h0 | h0
  · subst h0; rfl
  · have hrs : rootsOf (settled m) = rootsOf m := rfl
    have hby : ∀ k, 1 ≤ k → k < m.slots.length → toldBy (settled m).slots (rootsOf m) n k = toldBy m.slots (rootsOf m) n k := by
      intro k hk hl
      unfold toldBy
      rw [settled_kind hl, settled_table hl]
      by_cases hc : cnt m k = 0
      · rw [if_pos hc, if_pos hc, if_neg (fun hh => by omega), if_neg]
        intro hh
        have := cnt_told (m := m) hk
        omega
      · rw [if_neg hc, if_neg hc]
    have hsum : sumTo (settled m).slots (rootsOf m) n (settled m).slots.length = sumTo m.slots (rootsOf m) n m.slots.length := by
      rw [settled_len]
      unfold sumTo
      refine sumOf_map_congr (fun i hi => ?_)
      have := List.mem_range.1 hi
      exact hby (i + 1) (by omega) (by omega)
    by_cases hc : cnt m n = 0
    · have ht := cnt_told (m := m) h0
      have hk : kindN (settled m).slots n = 0 := by rw [settled_kind hn, if_pos hc]
      rw [hc]
      unfold cnt
      rw [hrs, countAt_other h0 (by omega)]
      omega
    · have hk : kindN (settled m).slots n = kindN m.slots n := by rw [settled_kind hn, if_neg hc]
      unfold cnt
      rw [hrs]
      by_cases h1 : kindN m.slots n = 1
      · rw [countAt_page h0 (hk.trans h1), countAt_page h0 h1, hsum]
      · rw [countAt_other h0 (by omega), countAt_other h0 h1]
theorem settled_counts : countsOf (settled m) = countsOf m := by
  rw [countsOf_row, countsOf_row, settled_len]
  exact row_congr fun j hj => by exact congrArg Int.ofNat (settled_cnt hj)
theorem settled_kindOf {e : Int} {c : Int} (hc : 0 < c) (hk : kindOf m.slots e = c) (hn : ∀ k : Nat, e = k → cnt m k ≠ 0) : kindOf (settled m).slots e = c := by
  obtain ⟨k, rfl, h1, h2, h3⟩ := kindOf_ge hk (by omega)
  rw [kindOf_N h1 (by rw [settled_len]; exact h2), settled_kind h2, if_neg (hn k rfl), h3]
theorem settled_sound (h : Sound m) : Sound (settled m) := by
  have hz := sizesOk_is h.sizes
  have hall := slots_all h.slots
  have hmem : ∀ s ∈ (settled m).slots, ∃ n, n < m.slots.length ∧ ((s = freeSlot) ∨ (cnt m n ≠ 0 ∧ m.slots[n]? = some s)) := by
    intro s hs
    obtain ⟨n, hn, rfl⟩ := List.mem_iff_getElem.1 hs
    have hn' : n < m.slots.length := by rw [← settled_len]; exact hn
    refine ⟨n, hn', ?_⟩
    have := settled_at (List.getElem?_eq_getElem hn')
    rw [List.getElem?_eq_getElem hn] at this
    injection this with this
    rw [this]
    split
    · exact .inl rfl
    · rename_i hc; exact .inr ⟨hc, List.getElem?_eq_getElem hn'⟩
  refine ⟨?_, ?_, h.names, h.guests, ?_, ?_⟩
  · refine sizesOk_yes ⟨?_, ?_, hz.2.2⟩
    · rw [settled_len]; exact hz.1
    · rw [settled_len]; exact hz.2.1
  · unfold slotsErr
    rw [settled_len, if_neg (by omega), if_pos, if_pos]
    · have h0 : kindN (settled m).slots 0 = 0 := by rw [settled_kind (by omega), if_pos cnt0]
      cases hm : (settled m).slots with
      | nil => rfl
      | cons a l => rw [hm] at h0; exact h0
    · rw [List.all_eq_true]
      intro s hs
      obtain ⟨n, hn, rfl | ⟨_, hx⟩⟩ := hmem s hs
      · rfl
      · exact List.all_eq_true.1 hall s (List.mem_of_getElem? hx)
  · unfold tablesOk
    rw [List.all_eq_true]
    intro s hs
    obtain ⟨n, hn, rfl | ⟨hc, hx⟩⟩ := hmem s hs
    · rfl
    · rw [List.all_eq_true]
      intro e he
      have hok := List.all_eq_true.1 (List.all_eq_true.1 h.tables s (List.mem_of_getElem? hx)) e he
      unfold entryOk at hok ⊢
      rw [Bool.or_eq_true, decide_eq_true_eq, beq_iff_eq] at hok ⊢
      rcases hok with h0 | h1
      · exact .inl h0
      · right
        have hkn := kindN_at hx
        have h2 : s.kind = 2 := by
          apply Classical.byContradiction
          intro hn2
          rw [(slot_len h.slots (List.mem_of_getElem? hx)).2.2 hn2] at he
          cases he
        refine settled_kindOf (by omega) h1 (fun k ek => ?_)
        obtain ⟨k', e1, k1, k2, k3⟩ := kindOf_ge h1 (by omega)
        obtain rfl : k' = k := by omega
        subst ek
        exact cnt_entry (used_told h hn hc).1 hn (hkn.trans h2) hc k1 (by rw [tableN_at hx]; exact he) k3
  · have key : ∀ (g : Int) (r : List Int), r ∈ rootsOf m → rootFine m.slots g r = true → rootFine (settled m).slots g r = true := by
      intro g r hr hf
      obtain ⟨f1, f2⟩ := rootFine_both hf
      unfold rootFine
      rw [Bool.and_eq_true, decide_eq_true_eq, upto_iff]
      refine ⟨f1, fun k hk => ?_⟩
      have fk := f2 k hk
      unfold rootAt at fk ⊢
      rw [Bool.or_eq_true, Bool.and_eq_true, beq_iff_eq, beq_iff_eq] at fk ⊢
      rcases fk with fk | ⟨fk1, fk2⟩
      · exact .inl fk
      · right
        obtain ⟨t, et, t1, t2, t3⟩ := kindOf_ge fk1 (by omega)
        have hmr : (t : Int) ∈ r := by
          rw [← et]; unfold int; rw [List.getD_eq_getElem?_getD, List.getElem?_eq_getElem hk]; exact List.getElem_mem hk
        have hc := cnt_root hr hmr t1
        have hn : ∀ k' : Nat, int r k = k' → cnt m k' ≠ 0 := by
          intro k' ek
          have : k' = t := by omega
          rw [this]; exact hc
        refine ⟨settled_kindOf (by omega) fk1 hn, ?_⟩
        rw [et] at fk2 ⊢
        have ht : tableAt (settled m).slots (t : Int) = tableAt m.slots (t : Int) := by
          have h1 := settled_table t2
          rw [if_neg hc] at h1
          unfold tableN at h1
          unfold tableAt
          rw [Int.toNat_natCast]
          exact h1
        rw [ht]
        exact fk2
    have hro := h.roots
    unfold rootsOk at hro ⊢
    rw [Bool.and_eq_true, List.all_eq_true] at hro ⊢
    exact ⟨key _ _ (List.mem_cons_self ..) hro.1, fun s hs => key _ _ (List.mem_cons_of_mem _ (List.mem_map.2 ⟨s, hs, rfl⟩)) (hro.2 s hs)⟩
theorem settled_right (h : Sound m) : checkErr (settled m) = 0 := by
  have hs := settled_sound h
  have hl : (settled m).refs.length = (settled m).slots.length := by rw [settled_len]; exact countsOf_len m
  refine check_ok (hs.shape hl) ?_
  rw [upto_iff]
  intro k hk
  rw [settled_len] at hk
  have hx := settled_at (List.getElem?_eq_getElem hk)
  have hc : (countsOf (settled m))[k]? = some ((cnt m k : Nat) : Int) := by rw [settled_counts]; exact counts_at hk
  rw [refAt_at (show (settled m).refs[k]? = some ((cnt m k : Nat) : Int) from counts_at hk) hc hx, Bool.and_eq_true]
  refine ⟨beq_self_eq_true _, ?_⟩
  rw [beq_iff_eq, Bool.eq_iff_iff, beq_iff_eq, beq_iff_eq]
  by_cases h0 : cnt m k = 0
  · rw [if_pos h0, h0]; exact ⟨fun _ => rfl, fun _ => rfl⟩
  · rw [if_neg h0]
    have := (used_told h hk h0).2
    rw [kindN_at (List.getElem?_eq_getElem hk)] at this
    exact ⟨fun e => by omega, fun e => absurd e this⟩
theorem free_is {s : Slot} (h : slotFine s = true) (hk : s.kind = 0) : s = freeSlot := by
  unfold slotFine at h
  rw [if_pos hk, Bool.and_eq_true, beq_iff_eq, beq_iff_eq] at h
  obtain ⟨k, d, t⟩ := s
  simp only at *
  subst hk
  have ht : t = [] := List.eq_nil_of_length_eq_zero h.2
  subst ht
  unfold freeSlot
  congr 1
  obtain ⟨a⟩ := d
  congr 1
  exact Array.eq_empty_of_size_eq_zero h.1
/-- A right image is settled. -/
theorem settled_id (h : checkErr m = 0) : settled m = m := by
  obtain ⟨hs, hr⟩ := check_is h
  have hS := sound_of hs
  have hall := slots_all hS.slots
  have hl := (sh_is hs).1.refs
  obtain ⟨g, root, slots, refs, snaps⟩ := m
  have hl' : refs.length = slots.length := hl
  have e1 : (settled ⟨g, root, slots, refs, snaps⟩).refs = refs := by
    show countsOf _ = refs
    apply List.ext_getElem?
    intro k
    rcases Nat.lt_or_ge k slots.length with hk | hk
    · have hx : (⟨g, root, slots, refs, snaps⟩ : Img).slots[k]? = some slots[k] := List.getElem?_eq_getElem hk
      have hrf : (⟨g, root, slots, refs, snaps⟩ : Img).refs[k]? = some (refs[k]'(by omega)) := List.getElem?_eq_getElem (show k < refs.length by omega)
      have hc := counts_at (m := ⟨g, root, slots, refs, snaps⟩) (n := k) hk
      have := ref_is h hrf hc hx
      rw [hc, ← this.1]; exact hrf.symm
    · rw [List.getElem?_eq_none (by rw [countsOf_len]; exact hk), List.getElem?_eq_none (by omega)]
  have e2 : (settled ⟨g, root, slots, refs, snaps⟩).slots = slots := by
    apply List.ext_getElem?
    intro k
    rcases Nat.lt_or_ge k slots.length with hk | hk
    · have hx : (⟨g, root, slots, refs, snaps⟩ : Img).slots[k]? = some slots[k] := List.getElem?_eq_getElem hk
      have hrf : (⟨g, root, slots, refs, snaps⟩ : Img).refs[k]? = some (refs[k]'(by omega)) := List.getElem?_eq_getElem (show k < refs.length by omega)
      have hc := counts_at (m := ⟨g, root, slots, refs, snaps⟩) (n := k) hk
      have hri := ref_is h hrf hc hx
      rw [settled_at hx]
      split
      · rename_i h0
        have : slots[k] = freeSlot := free_is (List.all_eq_true.1 hall _ (List.getElem_mem hk)) (hri.2.2.1 (by rw [h0]; rfl))
        rw [← this]; exact hx.symm
      · exact hx.symm
    · rw [List.getElem?_eq_none (by rw [settled_len]; exact hk), List.getElem?_eq_none hk]
  show (⟨g, root, (settled ⟨g, root, slots, refs, snaps⟩).slots, (settled ⟨g, root, slots, refs, snaps⟩).refs, snaps⟩ : Img) = _
  rw [e1, e2]
end Sl
