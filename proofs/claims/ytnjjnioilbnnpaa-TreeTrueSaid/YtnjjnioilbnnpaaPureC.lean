/- Rows of numbers; sums of counts. No conditions. -/
import Derived.Test.YtnjjnioilbnnpaaPureT2
namespace Sl
def row (n : Nat) (f : Nat → Int) : List Int := (List.range n).map f
theorem row_len (n : Nat) (f : Nat → Int) : (row n f).length = n := by simp [row]
theorem row_at {n k : Nat} (f : Nat → Int) (h : k < n) : (row n f)[k]? = some (f k) := by simp [row, List.getElem?_range h]
theorem row_congr {n : Nat} {f g : Nat → Int} (h : ∀ j, j < n → f j = g j) : row n f = row n g := by
  unfold row; exact List.map_congr_left fun j hj => h j (List.mem_range.1 hj)
theorem row_set (n k : Nat) (f : Nat → Int) (x : Int) : (row n f).set k x = row n (fun j => if j = k then x else f j) := by
  apply List.ext_getElem?
  intro j
  rw [List.getElem?_set]
  by_cases hj : j < n
  · rw [row_at _ hj, row_at _ hj, row_len]
    by_cases h : k = j
    · subst h; rw [if_pos rfl, if_pos hj, if_pos rfl]
    · rw [if_neg h, if_neg (fun e => h e.symm)]
  · rw [List.getElem?_eq_none (by rw [row_len]; omega), List.getElem?_eq_none (by rw [row_len]; omega), row_len]
    by_cases h : k = j
    · subst h; rw [if_pos rfl, if_neg hj]
    · rw [if_neg h]
theorem row_int {n k : Nat} (f : Nat → Int) (h : k < n) : int (row n f) k = f k := by unfold int; rw [List.getD_eq_getElem?_getD, row_at f h]; rfl
theorem row_zero (n : Nat) : row n (fun _ => 0) = List.replicate n 0 := by
  apply List.ext_getElem?
  intro j
  by_cases hj : j < n
  · rw [row_at _ hj, List.getElem?_replicate, if_pos hj]
  · rw [List.getElem?_eq_none (by rw [row_len]; omega), List.getElem?_replicate, if_neg hj]

theorem sumOf_append (a b : List Nat) : sumOf (a ++ b) = sumOf a + sumOf b := by
  induction a with
  | nil => simp [sumOf]
  | cons x a ih => simp only [List.cons_append, sumOf, ih]; omega
theorem toldAll_snoc (ls : List (List Int)) (r : List Int) (n : Int) : toldAll (ls ++ [r]) n = toldAll ls n + told r n := by
  unfold toldAll; rw [List.map_append, sumOf_append]; simp [sumOf]
theorem toldAll_nil (n : Int) : toldAll [] n = 0 := rfl
theorem toldAll_one (r : List Int) (n : Int) : toldAll [r] n = told r n := by simp [toldAll, sumOf]
theorem told_len (l : List Int) (n : Int) : told l n ≤ l.length := List.countP_le_length
theorem told_append (a b : List Int) (n : Int) : told (a ++ b) n = told a n + told b n := List.countP_append
theorem told_flat (ls : List (List Int)) (n : Int) : told ls.flatten n = toldAll ls n := by
  induction ls with
  | nil => rfl
  | cons a ls ih => rw [List.flatten_cons, told_append, ih]; simp [toldAll, sumOf]
theorem sumOf_le {l : List Nat} {c : Nat} (h : ∀ x ∈ l, x ≤ c) : sumOf l ≤ l.length * c := by
  induction l with
  | nil => simp [sumOf]
  | cons x l ih =>
    have h1 := h x (List.mem_cons_self ..)
    have h2 := ih (fun y hy => h y (List.mem_cons_of_mem _ hy))
    simp only [sumOf, List.length_cons, Nat.add_mul, Nat.one_mul]; omega

/-- Sizes that let no count wrap. -/
structure CBd (m : Img) : Prop where
  one : 1 ≤ m.slots.length
  slots : m.slots.length ≤ 40
  snaps : m.snaps.length ≤ 4
  root : m.root.length ≤ 4
  roots : ∀ s ∈ m.snaps, s.root.length ≤ 4
  tables : ∀ s ∈ m.slots, s.table.length ≤ 4
theorem CBd.toldAll_le {m : Img} (h : CBd m) (q : Nat) (n : Int) : toldAll (m.root :: (m.snaps.take q).map (·.root)) n ≤ 20 := by
  unfold toldAll
  have : sumOf ((m.root :: (m.snaps.take q).map (·.root)).map (told · n)) ≤ (m.root :: (m.snaps.take q).map (·.root)).length * 4 := by
    have := sumOf_le (l := (m.root :: (m.snaps.take q).map (·.root)).map (told · n)) (c := 4) (fun x hx => by
      obtain ⟨r, hr, rfl⟩ := List.mem_map.1 hx
      refine Nat.le_trans (told_len r n) ?_
      rcases List.mem_cons.1 hr with rfl | hr
      · exact h.root
      · obtain ⟨s, hs, rfl⟩ := List.mem_map.1 hr
        exact h.roots s (List.mem_of_mem_take hs))
    rwa [List.length_map] at this
  have h2 : (m.root :: (m.snaps.take q).map (·.root)).length ≤ 5 := by
    have := h.snaps
    simp only [List.length_cons, List.length_map, List.length_take]; omega
  omega
theorem rootsOf_all (m : Img) {q : Nat} (h : m.snaps.length ≤ q) : (m.root :: (m.snaps.take q).map (·.root)) = rootsOf m := by
  rw [List.take_of_length_le h]; rfl
theorem CBd.all_le {m : Img} (h : CBd m) (n : Int) : toldAll (rootsOf m) n ≤ 20 := by
  rw [← rootsOf_all m (Nat.le_refl _)]; exact h.toldAll_le _ n
theorem CBd.table_le {m : Img} (h : CBd m) (k : Nat) (n : Int) : told (tableN m.slots k) n ≤ 4 := by
  refine Nat.le_trans (told_len _ _) ?_
  unfold tableN
  cases hs : m.slots[k]? with
  | none => simp
  | some s => exact h.tables s (List.mem_of_getElem? hs)
/-- What tables ahead of slot i tell of page n. -/
def sumTo (l : List Slot) (ls : List (List Int)) (n i : Nat) : Nat := sumOf ((List.range (i - 1)).map (fun k => toldBy l ls n (k + 1)))
theorem sumTo_one (l : List Slot) (ls : List (List Int)) (n : Nat) : sumTo l ls n 1 = 0 := rfl
theorem sumTo_succ (l : List Slot) (ls : List (List Int)) (n i : Nat) (h : 1 ≤ i) : sumTo l ls n (i + 1) = sumTo l ls n i + toldBy l ls n i := by
  unfold sumTo
  rw [show i + 1 - 1 = (i - 1) + 1 from by omega, List.range_succ, List.map_append, sumOf_append]
  simp [sumOf, show i - 1 + 1 = i from by omega]
theorem CBd.toldBy_le {m : Img} (h : CBd m) (n k : Nat) : toldBy m.slots (rootsOf m) n k ≤ 4 := by
  unfold toldBy; split
  · exact h.table_le k n
  · omega
theorem CBd.sumTo_le {m : Img} (h : CBd m) (n i : Nat) (hi : i ≤ 40) : sumTo m.slots (rootsOf m) n i ≤ 160 := by
  have := sumOf_le (l := (List.range (i - 1)).map (fun k => toldBy m.slots (rootsOf m) n (k + 1))) (c := 4) (fun x hx => by
    obtain ⟨k, _, rfl⟩ := List.mem_map.1 hx
    exact h.toldBy_le n (k + 1))
  rw [List.length_map, List.length_range] at this
  unfold sumTo; omega
theorem countsOf_row (m : Img) : countsOf m = row m.slots.length (fun n => (countAt m.slots (rootsOf m) n : Int)) := rfl
theorem countAt_page {l : List Slot} {ls : List (List Int)} {n : Nat} (h : 1 ≤ n) (hk : kindN l n = 1) : countAt l ls n = toldAll ls n + sumTo l ls n l.length := by
  unfold countAt sumTo; rw [if_neg (by omega), if_pos hk]
theorem countAt_other {l : List Slot} {ls : List (List Int)} {n : Nat} (h : 1 ≤ n) (hk : kindN l n ≠ 1) : countAt l ls n = toldAll ls n := by
  unfold countAt; rw [if_neg (by omega), if_neg hk]; rfl
theorem kindN_at {l : List Slot} {k : Nat} {s : Slot} (h : l[k]? = some s) : kindN l k = s.kind := by unfold kindN; rw [h]; rfl
theorem tableN_at {l : List Slot} {k : Nat} {s : Slot} (h : l[k]? = some s) : tableN l k = s.table := by unfold tableN; rw [h]; rfl
end Sl
