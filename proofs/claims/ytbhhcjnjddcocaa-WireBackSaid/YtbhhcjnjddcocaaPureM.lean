/- The texts PureM, PureM2, PureM3, PureW in one. Conditions: as each says. -/
import Derived.Test.YtbhhcjnjddcocaaPureA
-- PureM: The plain model of settling and mending. No conditions.
namespace Sl
/-- Of the first k of l those whose count is 0 are d. -/
def freeG {α : Type} (d : α) (l : List α) (cs : List Int) (k : Nat) : List α := l.mapIdx (fun n x => if n < k ∧ int cs n = 0 then d else x)
section
variable {α β : Type} (d : α) (l : List α) (cs : List Int)
theorem freeG_zero : freeG d l cs 0 = l := by
  unfold freeG
  apply List.ext_getElem?
  intro i
  rw [List.getElem?_mapIdx]
  simp
theorem freeG_len (k : Nat) : (freeG d l cs k).length = l.length := by simp [freeG]
theorem freeG_yes (k : Nat) (h : int cs k = 0) : freeG d l cs (k + 1) = (freeG d l cs k).set k d := by
  apply List.ext_getElem?
  intro i
  unfold freeG
  rw [List.getElem?_set, List.getElem?_mapIdx, List.getElem?_mapIdx, List.length_mapIdx]
  by_cases hi : k = i
  · subst hi
    rw [if_pos rfl]
    by_cases hl : k < l.length
    · rw [if_pos hl, List.getElem?_eq_getElem hl]; simp [h]
    · rw [if_neg hl, List.getElem?_eq_none (by omega)]; rfl
  · rw [if_neg hi]
    have : (i < k + 1) ↔ (i < k) := by omega
    simp only [this]
theorem freeG_no (k : Nat) (h : int cs k ≠ 0) : freeG d l cs (k + 1) = freeG d l cs k := by
  apply List.ext_getElem?
  intro i
  unfold freeG
  rw [List.getElem?_mapIdx, List.getElem?_mapIdx]
  by_cases hi : k = i
  · subst hi; simp [h]
  · have : (i < k + 1) ↔ (i < k) := by omega
    simp only [this]
theorem freeG_map (f : α → β) (k : Nat) : (freeG d l cs k).map f = freeG (f d) (l.map f) cs k := by
  apply List.ext_getElem?
  intro i
  unfold freeG
  rw [List.getElem?_map, List.getElem?_mapIdx, List.getElem?_mapIdx, List.getElem?_map]
  cases l[i]? with
  | none => rfl
  | some x => simp only [Option.map_some]; split <;> rfl
theorem freeG_at {k i : Nat} {x : α} (h : (freeG d l cs k)[i]? = some x) : x = d ∨ l[i]? = some x := by
  unfold freeG at h
  rw [List.getElem?_mapIdx] at h
  cases hl : l[i]? with
  | none => rw [hl] at h; cases h
  | some y =>
    rw [hl] at h
    simp only [Option.map_some, Option.some.injEq] at h
    split at h
    · exact .inl h.symm
    · exact .inr (by rw [h])
end
def freeSlot : Slot := ⟨0, { data := #[] }, []⟩
def settled (m : Img) : Img := { m with refs := countsOf m, slots := freeG freeSlot m.slots (countsOf m) m.slots.length }
def leaksN (m : Img) : Nat := ((List.range m.slots.length).countP (fun k => int (countsOf m) k == 0 && kindN m.slots k != 0))
end Sl
-- PureM2: What settling does: the image is right, its counts are the same, it leaks nothing. No conditions.
namespace Sl
/-- Right but for its Refs. -/
structure Sound (m : Img) : Prop where
  sizes : sizesOk m = true
  slots : slotsErr m.slots = 0
  names : namesOk m.snaps = true
  guests : guestsOk m = true
  tables : tablesOk m.slots = true
  roots : rootsOk m = true
variable {m : Img}
theorem sound_of (h : shapeErr m = 0) : Sound m := by
  obtain ⟨h1, h2, h3, h4, h5⟩ := sh_is h
  exact ⟨h1.sizes, h1.slots, h2, h3, h4, h5⟩
theorem Sound.shape (h : Sound m) (hr : m.refs.length = m.slots.length) : shapeErr m = 0 := sh_ok ⟨h.sizes, h.slots, hr⟩ h.names h.guests h.tables h.roots
theorem Sound.zeros (h : Sound m) : shapeErr { m with refs := List.replicate m.slots.length 0 } = 0 := Sound.shape (m := { m with refs := List.replicate m.slots.length 0 }) ⟨h.sizes, h.slots, h.names, h.guests, h.tables, h.roots⟩ (by simp)
theorem Sound.cbd (h : Sound m) : CBd m := by have := shape_cbd h.zeros; exact ⟨this.one, this.slots, this.snaps, this.root, this.roots, this.tables⟩
theorem Sound.wired (h : Sound m) : Wired m := by have := shape_wired h.zeros; exact ⟨this.tables, this.roots⟩
/-- How often slot n is told. -/
def cnt (m : Img) (n : Nat) : Nat := countAt m.slots (rootsOf m) n
theorem int_cnt {n : Nat} (h : n < m.slots.length) : int (countsOf m) n = cnt m n := by rw [countsOf_row, row_int _ h]; rfl
theorem counts_at {n : Nat} (h : n < m.slots.length) : (countsOf m)[n]? = some ((cnt m n : Nat) : Int) := by rw [countsOf_row, row_at _ h]; rfl
theorem settled_len : (settled m).slots.length = m.slots.length := by unfold settled; exact freeG_len _ _ _ _
theorem settled_at {n : Nat} {s : Slot} (h : m.slots[n]? = some s) : (settled m).slots[n]? = some (if cnt m n = 0 then freeSlot else s) := by
  have hl := (List.getElem?_eq_some_iff.1 h).1
  unfold settled freeG
  simp only
  rw [List.getElem?_mapIdx, h, Option.map_some, int_cnt hl]
  by_cases hc : cnt m n = 0
  · rw [if_pos hc, if_pos ⟨hl, by rw [hc]; rfl⟩]
  · rw [if_neg hc, if_neg (fun hh => hc (by have := hh.2; omega))]
theorem settled_kind {n : Nat} (h : n < m.slots.length) : kindN (settled m).slots n = if cnt m n = 0 then 0 else kindN m.slots n := by
  have hs := List.getElem?_eq_getElem h
  rw [kindN_at (settled_at hs), kindN_at hs]
  split <;> rfl
theorem settled_table {n : Nat} (h : n < m.slots.length) : tableN (settled m).slots n = if cnt m n = 0 then [] else tableN m.slots n := by
  have hs := List.getElem?_eq_getElem h
  rw [tableN_at (settled_at hs), tableN_at hs]
  split <;> rfl
theorem told_pos {l : List Int} {t : Int} (h : t ∈ l) : 0 < told l t := by unfold told; rw [List.countP_pos_iff]; exact ⟨t, h, by simp⟩
theorem toldAll_pos {ls : List (List Int)} {r : List Int} {t : Int} (hr : r ∈ ls) (h : t ∈ r) : 0 < toldAll ls t := by
  rw [← told_flat]; exact told_pos (List.mem_flatten.2 ⟨r, hr, h⟩)
theorem cnt_told {k : Nat} (hk : 1 ≤ k) : toldAll (rootsOf m) k ≤ cnt m k := by unfold cnt countAt; rw [if_neg (by omega)]; omega
theorem cnt_root {r : List Int} {k : Nat} (hr : r ∈ rootsOf m) (h : (k : Int) ∈ r) (hk : 1 ≤ k) : cnt m k ≠ 0 := by
  have := toldAll_pos hr h; have := cnt_told (m := m) hk; omega
theorem kindOf_ge {l : List Slot} {e : Int} {c : Int} (h : kindOf l e = c) (hc : 0 ≤ c) : ∃ k : Nat, e = k ∧ 1 ≤ k ∧ k < l.length ∧ kindN l k = c := by
  have h0 := h
  unfold kindOf at h
  split at h
  · rename_i hh
    obtain ⟨k, rfl⟩ := Int.eq_ofNat_of_zero_le (a := e) (by omega)
    exact ⟨k, rfl, by omega, by omega, by rw [← kindOf_N (by omega) (by omega)]; exact h0⟩
  · omega
theorem entry_kind (h : tablesOk m.slots = true) {k : Nat} {e : Int} (he : e ∈ tableN m.slots k) (h0 : 0 < e) : ∃ j : Nat, e = j ∧ 1 ≤ j ∧ j < m.slots.length ∧ kindN m.slots j = 1 := by
  unfold tableN at he
  cases hs : m.slots[k]? with
  | none => rw [hs] at he; simp at he
  | some s =>
    rw [hs] at he
    have := List.all_eq_true.1 (List.all_eq_true.1 h s (List.mem_of_getElem? hs)) _ he
    unfold entryOk at this
    rw [decide_eq_false (by omega), Bool.false_or, beq_iff_eq] at this
    exact kindOf_ge this (by omega)
theorem sumOf_mem {l : List Nat} {x : Nat} (h : x ∈ l) : x ≤ sumOf l := by
  induction l with
  | nil => cases h
  | cons a l ih =>
    simp only [sumOf]
    rcases List.mem_cons.1 h with rfl | h
    · omega
    · have := ih h; omega
theorem cnt_entry {k : Nat} (hk : 1 ≤ k) (hl : k < m.slots.length) (h2 : kindN m.slots k = 2) (hc : cnt m k ≠ 0) {j : Nat} (hj : 1 ≤ j) (he : (j : Int) ∈ tableN m.slots k) (h1 : kindN m.slots j = 1) : cnt m j ≠ 0 := by
  have ht : 0 < toldAll (rootsOf m) k := by
    unfold cnt at hc
    rw [countAt_other hk (by omega)] at hc; omega
  unfold cnt
  rw [countAt_page hj h1]
  have hb : toldBy m.slots (rootsOf m) j k = told (tableN m.slots k) j := by unfold toldBy; rw [if_pos ⟨h2, ht⟩]
  have hm : toldBy m.slots (rootsOf m) j k ≤ sumTo m.slots (rootsOf m) j m.slots.length := by
    unfold sumTo
    refine sumOf_mem (List.mem_map.2 ⟨k - 1, List.mem_range.2 (by omega), ?_⟩)
    rw [show k - 1 + 1 = k from by omega]
  have := told_pos he
  omega
theorem slot0 (h : Sound m) : kindN m.slots 0 = 0 := by
  have hs := h.slots
  have hz := (sizesOk_is h.sizes).1
  unfold slotsErr at hs
  split at hs
  · omega
  · split at hs
    · split at hs
      · rename_i h3
        cases hm : m.slots with
        | nil => rfl
        | cons a l => rw [hm] at h3; exact h3
      · omega
    · omega
theorem used_told (h : Sound m) {n : Nat} (hn : n < m.slots.length) (hc : cnt m n ≠ 0) : 1 ≤ n ∧ kindN m.slots n ≠ 0 := by
  have h1 : 1 ≤ n := by
    rcases Nat.eq_zero_or_pos n with h0 | h0
    · subst h0; exact absurd (show cnt m 0 = 0 from rfl) hc
    · exact h0
  refine ⟨h1, fun hk => hc ?_⟩
  unfold cnt
  rw [countAt_other h1 (by omega), toldAll_page h.wired h1 hn (by omega)]
theorem cnt0 : cnt m 0 = 0 := rfl
/-- The counts of the settled image are those of the image. -/
theorem settled_cnt {n : Nat} (hn : n < m.slots.length) : cnt (settled m) n = cnt m n := by
  rcases Nat.eq_zero_or_pos n with h0 | h0
  · subst h0; rfl
  · have hrs : rootsOf (settled m) = rootsOf m := rfl
    have hby : ∀ k, 1 ≤ k → k < m.slots.length → toldBy (settled m).slots (rootsOf m) n k = toldBy m.slots (rootsOf m) n k := by
      intro k hk hl
      unfold toldBy
      rw [settled_kind hl, settled_table hl]
      by_cases hc : cnt m k = 0
      · rw [if_pos hc, if_pos hc, if_neg (fun hh => by omega), if_neg]
        intro hh
        have := cnt_told (m := m) hk
        omega
      · rw [if_neg hc, if_neg hc]
    have hsum : sumTo (settled m).slots (rootsOf m) n (settled m).slots.length = sumTo m.slots (rootsOf m) n m.slots.length := by
      rw [settled_len]
      unfold sumTo
      refine sumOf_map_congr (fun i hi => ?_)
      have := List.mem_range.1 hi
      exact hby (i + 1) (by omega) (by omega)
    by_cases hc : cnt m n = 0
    · have ht := cnt_told (m := m) h0
      have hk : kindN (settled m).slots n = 0 := by rw [settled_kind hn, if_pos hc]
      rw [hc]
      unfold cnt
      rw [hrs, countAt_other h0 (by omega)]
      omega
    · have hk : kindN (settled m).slots n = kindN m.slots n := by rw [settled_kind hn, if_neg hc]
      unfold cnt
      rw [hrs]
      by_cases h1 : kindN m.slots n = 1
      · rw [countAt_page h0 (hk.trans h1), countAt_page h0 h1, hsum]
      · rw [countAt_other h0 (by omega), countAt_other h0 h1]
theorem settled_counts : countsOf (settled m) = countsOf m := by
  rw [countsOf_row, countsOf_row, settled_len]
  exact row_congr fun j hj => by exact congrArg Int.ofNat (settled_cnt hj)
theorem settled_kindOf {e : Int} {c : Int} (hc : 0 < c) (hk : kindOf m.slots e = c) (hn : ∀ k : Nat, e = k → cnt m k ≠ 0) : kindOf (settled m).slots e = c := by
  obtain ⟨k, rfl, h1, h2, h3⟩ := kindOf_ge hk (by omega)
  rw [kindOf_N h1 (by rw [settled_len]; exact h2), settled_kind h2, if_neg (hn k rfl), h3]
theorem settled_sound (h : Sound m) : Sound (settled m) := by
  have hz := sizesOk_is h.sizes
  have hall := slots_all h.slots
  have hmem : ∀ s ∈ (settled m).slots, ∃ n, n < m.slots.length ∧ ((s = freeSlot) ∨ (cnt m n ≠ 0 ∧ m.slots[n]? = some s)) := by
    intro s hs
    obtain ⟨n, hn, rfl⟩ := List.mem_iff_getElem.1 hs
    have hn' : n < m.slots.length := by rw [← settled_len]; exact hn
    refine ⟨n, hn', ?_⟩
    have := settled_at (List.getElem?_eq_getElem hn')
    rw [List.getElem?_eq_getElem hn] at this
    injection this with this
    rw [this]
    split
    · exact .inl rfl
    · rename_i hc; exact .inr ⟨hc, List.getElem?_eq_getElem hn'⟩
  refine ⟨?_, ?_, h.names, h.guests, ?_, ?_⟩
  · refine sizesOk_yes ⟨?_, ?_, hz.2.2⟩
    · rw [settled_len]; exact hz.1
    · rw [settled_len]; exact hz.2.1
  · unfold slotsErr
    rw [settled_len, if_neg (by omega), if_pos, if_pos]
    · have h0 : kindN (settled m).slots 0 = 0 := by rw [settled_kind (by omega), if_pos cnt0]
      cases hm : (settled m).slots with
      | nil => rfl
      | cons a l => rw [hm] at h0; exact h0
    · rw [List.all_eq_true]
      intro s hs
      obtain ⟨n, hn, rfl | ⟨_, hx⟩⟩ := hmem s hs
      · rfl
      · exact List.all_eq_true.1 hall s (List.mem_of_getElem? hx)
  · unfold tablesOk
    rw [List.all_eq_true]
    intro s hs
    obtain ⟨n, hn, rfl | ⟨hc, hx⟩⟩ := hmem s hs
    · rfl
    · rw [List.all_eq_true]
      intro e he
      have hok := List.all_eq_true.1 (List.all_eq_true.1 h.tables s (List.mem_of_getElem? hx)) e he
      unfold entryOk at hok ⊢
      rw [Bool.or_eq_true, decide_eq_true_eq, beq_iff_eq] at hok ⊢
      rcases hok with h0 | h1
      · exact .inl h0
      · right
        have hkn := kindN_at hx
        have h2 : s.kind = 2 := by
          apply Classical.byContradiction
          intro hn2
          rw [(slot_len h.slots (List.mem_of_getElem? hx)).2.2 hn2] at he
          cases he
        refine settled_kindOf (by omega) h1 (fun k ek => ?_)
        obtain ⟨k', e1, k1, k2, k3⟩ := kindOf_ge h1 (by omega)
        obtain rfl : k' = k := by omega
        subst ek
        exact cnt_entry (used_told h hn hc).1 hn (hkn.trans h2) hc k1 (by rw [tableN_at hx]; exact he) k3
  · have key : ∀ (g : Int) (r : List Int), r ∈ rootsOf m → rootFine m.slots g r = true → rootFine (settled m).slots g r = true := by
      intro g r hr hf
      obtain ⟨f1, f2⟩ := rootFine_both hf
      unfold rootFine
      rw [Bool.and_eq_true, decide_eq_true_eq, upto_iff]
      refine ⟨f1, fun k hk => ?_⟩
      have fk := f2 k hk
      unfold rootAt at fk ⊢
      rw [Bool.or_eq_true, Bool.and_eq_true, beq_iff_eq, beq_iff_eq] at fk ⊢
      rcases fk with fk | ⟨fk1, fk2⟩
      · exact .inl fk
      · right
        obtain ⟨t, et, t1, t2, t3⟩ := kindOf_ge fk1 (by omega)
        have hmr : (t : Int) ∈ r := by
          rw [← et]; unfold int; rw [List.getD_eq_getElem?_getD, List.getElem?_eq_getElem hk]; exact List.getElem_mem hk
        have hc := cnt_root hr hmr t1
        have hn : ∀ k' : Nat, int r k = k' → cnt m k' ≠ 0 := by
          intro k' ek
          have : k' = t := by omega
          rw [this]; exact hc
        refine ⟨settled_kindOf (by omega) fk1 hn, ?_⟩
        rw [et] at fk2 ⊢
        have ht : tableAt (settled m).slots (t : Int) = tableAt m.slots (t : Int) := by
          have h1 := settled_table t2
          rw [if_neg hc] at h1
          unfold tableN at h1
          unfold tableAt
          rw [Int.toNat_natCast]
          exact h1
        rw [ht]
        exact fk2
    have hro := h.roots
    unfold rootsOk at hro ⊢
    rw [Bool.and_eq_true, List.all_eq_true] at hro ⊢
    exact ⟨key _ _ (List.mem_cons_self ..) hro.1, fun s hs => key _ _ (List.mem_cons_of_mem _ (List.mem_map.2 ⟨s, hs, rfl⟩)) (hro.2 s hs)⟩
theorem settled_right (h : Sound m) : checkErr (settled m) = 0 := by
  have hs := settled_sound h
  have hl : (settled m).refs.length = (settled m).slots.length := by rw [settled_len]; exact countsOf_len m
  refine check_ok (hs.shape hl) ?_
  rw [upto_iff]
  intro k hk
  rw [settled_len] at hk
  have hx := settled_at (List.getElem?_eq_getElem hk)
  have hc : (countsOf (settled m))[k]? = some ((cnt m k : Nat) : Int) := by rw [settled_counts]; exact counts_at hk
  rw [refAt_at (show (settled m).refs[k]? = some ((cnt m k : Nat) : Int) from counts_at hk) hc hx, Bool.and_eq_true]
  refine ⟨beq_self_eq_true _, ?_⟩
  rw [beq_iff_eq, Bool.eq_iff_iff, beq_iff_eq, beq_iff_eq]
  by_cases h0 : cnt m k = 0
  · rw [if_pos h0, h0]; exact ⟨fun _ => rfl, fun _ => rfl⟩
  · rw [if_neg h0]
    have := (used_told h hk h0).2
    rw [kindN_at (List.getElem?_eq_getElem hk)] at this
    exact ⟨fun e => by omega, fun e => absurd e this⟩
theorem free_is {s : Slot} (h : slotFine s = true) (hk : s.kind = 0) : s = freeSlot := by
  unfold slotFine at h
  rw [if_pos hk, Bool.and_eq_true, beq_iff_eq, beq_iff_eq] at h
  obtain ⟨k, d, t⟩ := s
  simp only at *
  subst hk
  have ht : t = [] := List.eq_nil_of_length_eq_zero h.2
  subst ht
  unfold freeSlot
  congr 1
  obtain ⟨a⟩ := d
  congr 1
  exact Array.eq_empty_of_size_eq_zero h.1
/-- A right image is settled. -/
theorem settled_id (h : checkErr m = 0) : settled m = m := by
  obtain ⟨hs, hr⟩ := check_is h
  have hS := sound_of hs
  have hall := slots_all hS.slots
  have hl := (sh_is hs).1.refs
  obtain ⟨g, root, slots, refs, snaps⟩ := m
  have hl' : refs.length = slots.length := hl
  have e1 : (settled ⟨g, root, slots, refs, snaps⟩).refs = refs := by
    show countsOf _ = refs
    apply List.ext_getElem?
    intro k
    rcases Nat.lt_or_ge k slots.length with hk | hk
    · have hx : (⟨g, root, slots, refs, snaps⟩ : Img).slots[k]? = some slots[k] := List.getElem?_eq_getElem hk
      have hrf : (⟨g, root, slots, refs, snaps⟩ : Img).refs[k]? = some (refs[k]'(by omega)) := List.getElem?_eq_getElem (show k < refs.length by omega)
      have hc := counts_at (m := ⟨g, root, slots, refs, snaps⟩) (n := k) hk
      have := ref_is h hrf hc hx
      rw [hc, ← this.1]; exact hrf.symm
    · rw [List.getElem?_eq_none (by rw [countsOf_len]; exact hk), List.getElem?_eq_none (by omega)]
  have e2 : (settled ⟨g, root, slots, refs, snaps⟩).slots = slots := by
    apply List.ext_getElem?
    intro k
    rcases Nat.lt_or_ge k slots.length with hk | hk
    · have hx : (⟨g, root, slots, refs, snaps⟩ : Img).slots[k]? = some slots[k] := List.getElem?_eq_getElem hk
      have hrf : (⟨g, root, slots, refs, snaps⟩ : Img).refs[k]? = some (refs[k]'(by omega)) := List.getElem?_eq_getElem (show k < refs.length by omega)
      have hc := counts_at (m := ⟨g, root, slots, refs, snaps⟩) (n := k) hk
      have hri := ref_is h hrf hc hx
      rw [settled_at hx]
      split
      · rename_i h0
        have : slots[k] = freeSlot := free_is (List.all_eq_true.1 hall _ (List.getElem_mem hk)) (hri.2.2.1 (by rw [h0]; rfl))
        rw [← this]; exact hx.symm
      · exact hx.symm
    · rw [List.getElem?_eq_none (by rw [settled_len]; exact hk), List.getElem?_eq_none hk]
  show (⟨g, root, (settled ⟨g, root, slots, refs, snaps⟩).slots, (settled ⟨g, root, slots, refs, snaps⟩).refs, snaps⟩ : Img) = _
  rw [e1, e2]
end Sl
-- PureM3: What settling does: slots that are used, leaks, what is read. No conditions.
namespace Sl
variable {m : Img}
def leaksTo (m : Img) (k : Nat) : Nat := (List.range k).countP (fun k => int (countsOf m) k == 0 && kindN m.slots k != 0)
theorem leaksN_to : leaksN m = leaksTo m m.slots.length := rfl
theorem leaksTo_succ (k : Nat) : leaksTo m (k + 1) = leaksTo m k + (if (int (countsOf m) k == 0 && kindN m.slots k != 0) = true then 1 else 0) := by
  unfold leaksTo; rw [List.range_succ, List.countP_append]; simp [List.countP_cons]
theorem leaksTo_le (k : Nat) : leaksTo m k ≤ k := by
  have := List.countP_le_length (p := fun k => int (countsOf m) k == 0 && kindN m.slots k != 0) (l := List.range k)
  rw [List.length_range] at this; exact this
theorem leaksTo_at {k : Nat} {c : Int} {s : Slot} (hc : (countsOf m)[k]? = some c) (hs : m.slots[k]? = some s) : leaksTo m (k + 1) = leaksTo m k + (if (c == 0 && s.kind != 0) = true then 1 else 0) := by
  rw [leaksTo_succ, kindN_at hs]
  unfold int
  rw [List.getD_eq_getElem?_getD, hc]; rfl
theorem used_settled : ∀ k, k ≤ m.slots.length → used (m.slots.take k) = used ((settled m).slots.take k) + leaksTo m k := by
  intro k
  induction k with
  | zero => intro _; simp [used, leaksTo]
  | succ k ih =>
    intro hk
    have hs := List.getElem?_eq_getElem (show k < m.slots.length by omega)
    rw [used_take_succ _ k _ hs, used_take_succ _ k _ (settled_at hs), leaksTo_at (counts_at (by omega)) hs, ih (by omega)]
    by_cases hc : cnt m k = 0
    · rw [if_pos hc, hc]
      have hf : freeSlot.kind = 0 := rfl
      rw [if_pos hf]
      by_cases hk0 : m.slots[k].kind = 0
      · have g : ¬ ((((0 : Nat) : Int) == 0 && m.slots[k].kind != 0) = true) := by rw [hk0]; decide
        rw [if_pos hk0, if_neg g]; rfl
      · have g : (((0 : Nat) : Int) == 0 && m.slots[k].kind != 0) = true := by rw [Bool.and_eq_true]; exact ⟨rfl, by simpa using hk0⟩
        rw [if_neg hk0, if_pos g]; omega
    · rw [if_neg hc, if_neg (show ¬ ((((cnt m k : Nat) : Int) == 0 && m.slots[k].kind != 0) = true) by simp; omega)]; omega
def leaksV (m : Img) : Int := if shapeErr m = 0 then (leaksN m : Int) else 0
theorem used_all : used m.slots = used (settled m).slots + leaksN m := by
  have := used_settled (m := m) m.slots.length (Nat.le_refl _)
  rwa [List.take_of_length_le (Nat.le_refl _), List.take_of_length_le (by rw [settled_len]; exact Nat.le_refl _), ← leaksN_to] at this
theorem leaks_none : leaksN (settled m) = 0 := by
  unfold leaksN
  rw [List.countP_eq_zero]
  intro k hk
  rw [settled_len] at hk
  have hk' := List.mem_range.1 hk
  rw [settled_counts, int_cnt hk', settled_kind hk']
  by_cases hc : cnt m k = 0
  · rw [if_pos hc, hc]; decide
  · simp [hc]
theorem settled_page {e : Int} (h : e ≤ 0 ∨ ∃ j : Nat, e = j ∧ j < m.slots.length ∧ cnt m j ≠ 0) : pageV (settled m).slots e = pageV m.slots e := by
  rcases h with h | ⟨j, rfl, hj, hc⟩
  · rw [pageV_no h, pageV_no h]
  · unfold pageV
    rw [Int.toNat_natCast, settled_at (List.getElem?_eq_getElem hj), if_neg hc, List.getElem?_eq_getElem hj]
theorem settled_entry (h : Sound m) {r : List Int} (hr : r ∈ rootsOf m) {n : Nat} (hn : n / 4 < r.length) :
    entryOf (settled m).slots r n = entryOf m.slots r n ∧ pageV (settled m).slots (entryOf m.slots r n) = pageV m.slots (entryOf m.slots r n) := by
  have hmr : int r (n / 4) ∈ r := by unfold int; rw [List.getD_eq_getElem?_getD, List.getElem?_eq_getElem hn]; exact List.getElem_mem hn
  rcases h.wired.roots r hr _ hmr with h0 | h2
  · have e1 : ∀ l : List Slot, entryOf l r n = 0 := fun l => by unfold entryOf; rw [if_neg (by omega)]
    rw [e1, e1]
    exact ⟨rfl, settled_page (.inl (by omega))⟩
  · obtain ⟨t, et, t1, t2, t3⟩ := kindOf_ge h2 (by omega)
    rw [et] at hmr
    have hc := cnt_root hr hmr t1
    have ht : tableAt (settled m).slots (t : Int) = tableAt m.slots (t : Int) := by
      have h1 := settled_table t2
      rw [if_neg hc] at h1
      unfold tableN at h1
      unfold tableAt
      rw [Int.toNat_natCast]
      exact h1
    have e1 : ∀ l : List Slot, entryOf l r n = int (tableAt l t) (n % 4) := fun l => by unfold entryOf; rw [et, if_pos (by omega)]
    rw [e1, e1, ht]
    refine ⟨rfl, settled_page ?_⟩
    rcases Int.lt_or_le 0 (int (tableAt m.slots t) (n % 4)) with hp | hp
    · right
      have hm : int (tableAt m.slots t) (n % 4) ∈ tableN m.slots t := by
        have e2 : tableAt m.slots (t : Int) = tableN m.slots t := by unfold tableAt tableN; rw [Int.toNat_natCast]
        rw [e2] at hp ⊢
        unfold int at hp ⊢
        rw [List.getD_eq_getElem?_getD] at hp ⊢
        cases hx : (tableN m.slots t)[n % 4]? with
        | none => rw [hx] at hp; simp at hp
        | some y => exact List.mem_of_getElem? hx
      obtain ⟨j, ej, j1, j2, j3⟩ := entry_kind h.tables hm hp
      rw [ej] at hm
      exact ⟨j, ej, j2, cnt_entry t1 t2 t3 hc j1 hm j3⟩
    · exact .inl hp
/-- Of a sound image an entry is a page's slot, or none. -/
theorem sound_page (h : Sound m) {r : List Int} (n : Nat) : PageOk m.slots (entryOf m.slots r n) := by
  rcases Int.lt_or_le 0 (entryOf m.slots r n) with hp | hp
  · right
    unfold entryOf at hp ⊢
    split at hp
    · rename_i ht
      rw [if_pos ht]
      have e2 : tableAt m.slots (int r (n / 4)) = tableN m.slots (int r (n / 4)).toNat := rfl
      have hm : int (tableAt m.slots (int r (n / 4))) (n % 4) ∈ tableN m.slots (int r (n / 4)).toNat := by
        rw [e2] at hp ⊢
        generalize tableN m.slots (int r (n / 4)).toNat = tb at hp ⊢
        unfold int at hp ⊢
        rw [List.getD_eq_getElem?_getD] at hp ⊢
        cases hx : tb[n % 4]? with
        | none => rw [hx] at hp; simp at hp
        | some y => exact List.mem_of_getElem? hx
      obtain ⟨j, ej, j1, j2, j3⟩ := entry_kind h.tables hm hp
      have hj := List.getElem?_eq_getElem j2
      rw [kindN_at hj] at j3
      exact ⟨j, m.slots[j], ej, by omega, hj, slot_data (List.all_eq_true.1 (slots_all h.slots) _ (List.getElem_mem j2)) j3⟩
    · omega
  · exact .inl hp
end Sl
-- PureW: The plain model of writing. No conditions.
namespace Sl
/-- A slot laid down where one is free, or behind all; none: no slot is left. -/
def laid (l : List Slot) (n : Nat) (s : Slot) : List Slot := if n = l.length then l ++ [s] else l.set n s
def entriesAt (m : Img) (k : Nat) : List Int := if 0 < int m.root k then tableAt m.slots (int m.root k) else [0, 0, 0, 0]
def tslot (t : List Int) : Slot := ⟨2, { data := #[] }, t⟩
def dslot (p : ByteArray) : Slot := ⟨1, p, []⟩
def ownT (m : Img) (k : Nat) : Bool := decide (0 < int m.root k) && int m.refs (int m.root k).toNat == 1
/-- The k-th table of an image has these entries then; none: no slot is left. -/
def putM (m : Img) (k : Nat) (t : List Int) : Option Img :=
  if t = entriesAt m k then some m
  else if bare t = true then some { m with root := m.root.set k 0 }
  else if ownT m k = true then some { m with slots := m.slots.set (int m.root k).toNat (tslot t) }
  else if grab m.slots = 0 then none
  else some { m with slots := laid m.slots (grab m.slots) (tslot t), root := m.root.set k (grab m.slots : Nat) }
def setM (m : Img) (n : Nat) (e : Int) : Option Img := putM m (n / 4) ((entriesAt m (n / 4)).set (n % 4) e)
/-- A page is written: at its place, where it is told once by a table that is told once; else into a new slot. -/
def writeM (m : Img) (n : Nat) (p : ByteArray) : Option Img :=
  let k := n / 4
  let e := entryOf m.slots m.root n
  if ownT m k = true ∧ 0 < e ∧ int m.refs e.toNat = 1 then some { m with slots := m.slots.set e.toNat { (m.slots.getD e.toNat freeSlot) with data := p } }
  else if ownT m k = true then
    (if grab m.slots = 0 then none
     else some { m with slots := (laid m.slots (grab m.slots) (dslot p)).set (int m.root k).toNat { ((laid m.slots (grab m.slots) (dslot p)).getD (int m.root k).toNat freeSlot) with table := (entriesAt m k).set (n % 4) (grab m.slots : Nat) } })
  else
    (if grab m.slots = 0 then none
     else if grab (laid m.slots (grab m.slots) (tslot [-1, 0, 0, 0])) = 0 then none
     else some { m with root := m.root.set k (grab m.slots : Nat),
                        slots := (laid (laid m.slots (grab m.slots) (tslot [-1, 0, 0, 0])) (grab (laid m.slots (grab m.slots) (tslot [-1, 0, 0, 0]))) (dslot p)).set (grab m.slots)
                          (tslot ((entriesAt m k).set (n % 4) (grab (laid m.slots (grab m.slots) (tslot [-1, 0, 0, 0])) : Nat))) })
def resizeM (m : Img) (g : Nat) : Option Img :=
  ((if 0 < g % 4 ∧ g / 4 < m.root.length then putM m (g / 4) ((entriesAt m (g / 4)).take (g % 4) ++ List.replicate (4 - g % 4) 0) else some m)).map
    (fun x => { x with guest := g, root := (x.root ++ List.replicate 16 0).take (wants g).toNat })
end Sl
