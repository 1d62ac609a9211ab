/- What the program's counting holds after a part of the Roots. No conditions. -/
import Derived.Test.YtnjjnioilbnnpaaPureC
namespace Sl
/-- Roots tell tables or nothing; tables tell pages or nothing. -/
structure Wired (m : Img) : Prop where
  tables : tablesOk m.slots = true
  roots : ∀ r ∈ rootsOf m, ∀ t ∈ r, t = 0 ∨ kindOf m.slots t = 2

theorem sumOf_map_congr {l : List Nat} {f g : Nat → Nat} (h : ∀ i ∈ l, f i = g i) : sumOf (l.map f) = sumOf (l.map g) := by rw [List.map_congr_left h]
theorem sumOf_one {n k : Nat} {f g : Nat → Nat} (hk : k < n) (h : ∀ i, i ≠ k → f i = g i) (c : Nat) (hc : g k = f k + c) : sumOf ((List.range n).map g) = sumOf ((List.range n).map f) + c := by
  induction n with
  | zero => omega
  | succ n ih =>
    rw [List.range_succ, List.map_append, List.map_append, sumOf_append, sumOf_append]
    simp only [List.map_cons, List.map_nil, sumOf]
    by_cases e : k = n
    · subst e
      rw [sumOf_map_congr (f := g) (g := f) (fun i hi => (h i (by have := List.mem_range.1 hi; omega)).symm), hc]; omega
    · rw [ih (by omega), h n (fun x => e x.symm)]; omega

/-- What stands at j when the entries p of Roots have been told. -/
def cntPart (l : List Slot) (p : List Int) (j : Nat) : Nat := if j = 0 then 0 else told p j + sumTo l [p] j l.length
theorem told_snoc (p : List Int) (t j : Int) : told (p ++ [t]) j = told p j + (if t = j then 1 else 0) := by
  unfold told; rw [List.countP_append]; simp [List.countP_cons]
theorem cntPart_nil (l : List Slot) (j : Nat) : cntPart l [] j = 0 := by
  unfold cntPart
  split
  · rfl
  · unfold sumTo
    have : sumOf ((List.range (l.length - 1)).map fun k => toldBy l [[]] j (k + 1)) = sumOf ((List.range (l.length - 1)).map fun _ => 0) := sumOf_map_congr (fun i _ => by
      unfold toldBy; rw [if_neg]; simp [toldAll, sumOf, told])
    rw [this]
    have : ∀ n, sumOf ((List.range n).map fun _ => 0) = 0 := fun n => by
      induction n with
      | zero => rfl
      | succ n ih => rw [List.range_succ, List.map_append, sumOf_append, ih]; rfl
    rw [this]; simp [told]
theorem cntPart_zero (l : List Slot) (p : List Int) (j : Nat) : cntPart l (p ++ [0]) j = cntPart l p j := by
  unfold cntPart
  split
  · rfl
  · rename_i h0
    have e : ∀ i : Nat, 1 ≤ i → told (p ++ [0]) (i : Int) = told p i := fun i hi => by rw [told_snoc, if_neg (by omega)]; rfl
    rw [e j (by omega)]
    congr 1
    unfold sumTo
    refine sumOf_map_congr (fun i _ => ?_)
    unfold toldBy
    rw [toldAll_one, toldAll_one, e (i + 1) (by omega)]
theorem cntPart_again {l : List Slot} {p : List Int} {k : Nat} (hk : 1 ≤ k) (hp : 0 < told p k) (j : Nat) : cntPart l (p ++ [(k : Int)]) j = if j = k then cntPart l p k + 1 else cntPart l p j := by
  unfold cntPart
  have hs : sumTo l [p ++ [(k : Int)]] j l.length = sumTo l [p] j l.length := by
    unfold sumTo
    refine sumOf_map_congr (fun i _ => ?_)
    unfold toldBy
    rw [toldAll_one, toldAll_one, told_snoc]
    by_cases e : k = i + 1
    · subst e
      have h1 : 0 < told p ((i + 1 : Nat) : Int) + (if ((i + 1 : Nat) : Int) = ((i + 1 : Nat) : Int) then 1 else 0) := by omega
      by_cases hk2 : kindN l (i + 1) = 2
      · rw [if_pos ⟨hk2, h1⟩, if_pos ⟨hk2, hp⟩]
      · rw [if_neg (fun h => hk2 h.1), if_neg (fun h => hk2 h.1)]
    · rw [if_neg (by omega : ¬ (k : Int) = ((i + 1 : Nat) : Int))]; rfl
  by_cases h0 : j = 0
  · subst h0; rw [if_pos rfl, if_neg (by omega), if_pos rfl]
  · rw [if_neg h0, hs, told_snoc]
    by_cases e : j = k
    · subst e; rw [if_pos rfl, if_pos rfl, if_neg h0]; omega
    · rw [if_neg (by omega), if_neg e, if_neg h0]; rfl
/-- The first time a table is told: when q of its entries are over. -/
def cntInner (l : List Slot) (p : List Int) (k q j : Nat) : Nat := if j = 0 then 0 else cntPart l p j + (if j = k then 1 else 0) + told ((tableN l k).take q) j
theorem cntInner_start {l : List Slot} {p : List Int} {k : Nat} (hk : 1 ≤ k) (j : Nat) : (if j = k then cntPart l p k + 1 else cntPart l p j) = cntInner l p k 0 j := by
  unfold cntInner
  by_cases h0 : j = 0
  · subst h0; rw [if_neg (by omega), if_pos rfl]; rfl
  · rw [if_neg h0, List.take_zero]
    by_cases e : j = k
    · subst e; rw [if_pos rfl, if_pos rfl]; rfl
    · rw [if_neg e, if_neg e]; rfl
theorem cntInner_skip {l : List Slot} {p : List Int} {k q : Nat} {x : Int} (hx : (tableN l k)[q]? = some x) (h : x ≤ 0) (j : Nat) : cntInner l p k q j = cntInner l p k (q + 1) j := by
  unfold cntInner
  by_cases h0 : j = 0
  · rw [if_pos h0, if_pos h0]
  · rw [if_neg h0, if_neg h0, List.take_add_one, hx]
    simp only [Option.toList_some]
    rw [told_snoc, if_neg (by omega : ¬ x = (j : Int))]; rfl
theorem cntInner_step {l : List Slot} {p : List Int} {k q e : Nat} (hx : (tableN l k)[q]? = some (e : Int)) (h : 1 ≤ e) (j : Nat) : (if j = e then cntInner l p k q e + 1 else cntInner l p k q j) = cntInner l p k (q + 1) j := by
  unfold cntInner
  by_cases h0 : j = 0
  · subst h0; rw [if_neg (by omega), if_pos rfl, if_pos rfl]
  · rw [if_neg h0, if_neg h0, List.take_add_one, hx]
    simp only [Option.toList_some]
    rw [told_snoc]
    by_cases he : j = e
    · subst he; rw [if_pos rfl, if_neg h0, if_pos rfl]; omega
    · rw [if_neg he, if_neg (by omega : ¬ (e : Int) = (j : Int))]; rfl
theorem cntInner_end {l : List Slot} {p : List Int} {k q : Nat} (hk : 1 ≤ k) (hkl : k < l.length) (h2 : kindN l k = 2) (hp : told p k = 0) (hq : (tableN l k).length ≤ q) (j : Nat) : cntInner l p k q j = cntPart l (p ++ [(k : Int)]) j := by
  unfold cntInner cntPart
  by_cases h0 : j = 0
  · rw [if_pos h0, if_pos h0]
  · rw [if_neg h0, if_neg h0, if_neg h0, List.take_of_length_le hq, told_snoc]
    have hs : sumTo l [p ++ [(k : Int)]] j l.length = sumTo l [p] j l.length + told (tableN l k) j := by
      unfold sumTo
      refine sumOf_one (k := k - 1) (by omega) (fun i hi => ?_) _ ?_
      · unfold toldBy
        rw [toldAll_one, toldAll_one, told_snoc, if_neg (by omega : ¬ (k : Int) = ((i + 1 : Nat) : Int))]; rfl
      · unfold toldBy
        rw [toldAll_one, toldAll_one, told_snoc, show k - 1 + 1 = k from by omega, hp, if_pos rfl, if_pos ⟨h2, by omega⟩, if_neg (by omega)]; omega
    rw [hs]
    by_cases e : j = k
    · subst e; rw [if_pos rfl, if_pos rfl]; omega
    · rw [if_neg e, if_neg (by omega : ¬ (k : Int) = (j : Int))]; omega
theorem kindOf_N {l : List Slot} {j : Nat} (hj : 1 ≤ j) (hl : j < l.length) : kindOf l (j : Int) = kindN l j := by
  unfold kindOf kindN; rw [if_pos (by omega), Int.toNat_natCast]
theorem told_zero {t : List Int} {j : Int} (h : ∀ x ∈ t, x ≠ j) : told t j = 0 := by
  unfold told; rw [List.countP_eq_zero]
  intro x hx
  simpa using h x hx
theorem table_told {l : List Slot} (h : tablesOk l = true) {k j : Nat} (hj : 1 ≤ j) (hl : j < l.length) (h1 : kindN l j ≠ 1) : told (tableN l k) j = 0 := by
  refine told_zero (fun x hx e => ?_)
  subst e
  unfold tableN at hx
  cases hs : l[k]? with
  | none => rw [hs] at hx; simp at hx
  | some s =>
    rw [hs] at hx
    have := List.all_eq_true.1 (List.all_eq_true.1 h s (List.mem_of_getElem? hs)) _ hx
    unfold entryOk at this
    rw [decide_eq_false (by omega), Bool.false_or, kindOf_N hj hl] at this
    exact h1 (by simpa using this)
theorem sumTo_zero {l : List Slot} (h : tablesOk l = true) {ls : List (List Int)} {j : Nat} (hj : 1 ≤ j) (hl : j < l.length) (h1 : kindN l j ≠ 1) (i : Nat) : sumTo l ls j i = 0 := by
  unfold sumTo
  have : sumOf ((List.range (i - 1)).map fun k => toldBy l ls j (k + 1)) = sumOf ((List.range (i - 1)).map fun _ => 0) := sumOf_map_congr (fun a _ => by
    unfold toldBy; split
    · exact table_told h hj hl h1
    · rfl)
  rw [this]
  have : ∀ n, sumOf ((List.range n).map fun _ => 0) = 0 := fun n => by
    induction n with
    | zero => rfl
    | succ n ih => rw [List.range_succ, List.map_append, sumOf_append, ih]; rfl
  exact this _
theorem cntPart_table {l : List Slot} (h : tablesOk l = true) {p : List Int} {k : Nat} (hk : 1 ≤ k) (hl : k < l.length) (h2 : kindN l k = 2) : cntPart l p k = told p k := by
  unfold cntPart; rw [if_neg (by omega), sumTo_zero h hk hl (by omega)]; omega
theorem cntPart_all {m : Img} (h : tablesOk m.slots = true) {j : Nat} (hl : j < m.slots.length) : cntPart m.slots (rootsOf m).flatten j = countAt m.slots (rootsOf m) j := by
  by_cases h0 : j = 0
  · subst h0; unfold cntPart countAt; rw [if_pos rfl, if_pos rfl]
  · have hs : sumTo m.slots [(rootsOf m).flatten] j m.slots.length = sumTo m.slots (rootsOf m) j m.slots.length := by
      unfold sumTo
      refine sumOf_map_congr (fun i _ => ?_)
      unfold toldBy
      rw [toldAll_one, told_flat]
    unfold cntPart
    rw [if_neg h0, told_flat, hs]
    by_cases h1 : kindN m.slots j = 1
    · rw [countAt_page (by omega) h1]
    · rw [countAt_other (by omega) h1, sumTo_zero h (by omega) hl h1]; rfl
theorem cntPart_le {l : List Slot} {p : List Int} {j : Nat} (hp : p.length ≤ 20) (hl : l.length ≤ 40) (ht : ∀ s ∈ l, s.table.length ≤ 4) : cntPart l p j ≤ 180 := by
  unfold cntPart
  split
  · omega
  · have h1 := told_len p j
    have h2 := sumOf_le (l := (List.range (l.length - 1)).map (fun k => toldBy l [p] j (k + 1))) (c := 4) (fun x hx => by
      obtain ⟨k, _, rfl⟩ := List.mem_map.1 hx
      unfold toldBy; split
      · refine Nat.le_trans (told_len _ _) ?_
        unfold tableN
        cases hs : l[k + 1]? with
        | none => simp
        | some s => exact ht s (List.mem_of_getElem? hs)
      · omega)
    rw [List.length_map, List.length_range] at h2
    unfold sumTo; omega
theorem cntInner_le {l : List Slot} {p : List Int} {k q j : Nat} (hp : p.length ≤ 20) (hl : l.length ≤ 40) (ht : ∀ s ∈ l, s.table.length ≤ 4) : cntInner l p k q j ≤ 200 := by
  unfold cntInner
  split
  · omega
  · have h1 := cntPart_le (j := j) hp hl ht
    have h2 := told_len ((tableN l k).take q) j
    have h3 : (tableN l k).length ≤ 4 := by
      unfold tableN
      cases hs : l[k]? with
      | none => simp
      | some s => exact ht s (List.mem_of_getElem? hs)
    have h4 : ((tableN l k).take q).length ≤ 4 := by rw [List.length_take]; omega
    split <;> omega
theorem CBd.flat_le {m : Img} (h : CBd m) : (rootsOf m).flatten.length ≤ 20 := by
  have : ∀ ls : List (List Int), (∀ r ∈ ls, r.length ≤ 4) → ls.flatten.length ≤ ls.length * 4 := by
    intro ls
    induction ls with
    | nil => intro _; simp
    | cons a ls ih =>
      intro hh
      have h1 := hh a (List.mem_cons_self ..)
      have h2 := ih (fun r hr => hh r (List.mem_cons_of_mem _ hr))
      rw [List.flatten_cons, List.length_append, List.length_cons, Nat.add_mul]; omega
  have h5 := this (rootsOf m) (fun r hr => by
    rcases List.mem_cons.1 hr with rfl | hr
    · exact h.root
    · obtain ⟨s, hs, rfl⟩ := List.mem_map.1 hr; exact h.roots s hs)
  have h6 : (rootsOf m).length ≤ 5 := by have := h.snaps; simp only [rootsOf, List.length_cons, List.length_map]; omega
  omega
end Sl
