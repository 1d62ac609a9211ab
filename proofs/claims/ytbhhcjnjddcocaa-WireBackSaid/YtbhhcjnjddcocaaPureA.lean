/- The plain model of slots, images, counts and pages. Conditions: as each text says. -/
import Init
-- Pure: The plain model: what the document defines, over lists. Nothing of the program is in sight. No conditions.
namespace Sl

structure Slot where
  kind : Int
  data : ByteArray
  table : List Int

def fine (e : Int) : Bool := decide (-1 ≤ e) && decide (e < 40)
def entriesErr (t : List Int) : Int := if t.length = 4 then (if t.all fine then 0 else 1) else 1
def bare (t : List Int) : Bool := t.all (· == 0)
def slotFine (s : Slot) : Bool :=
  if s.kind = 0 then s.data.size == 0 && s.table.length == 0
  else if s.kind = 1 then s.data.size == 4 && s.table.length == 0
  else if s.kind = 2 then s.data.size == 0 && entriesErr s.table == 0 && !bare s.table
  else false
def kind0 : List Slot → Int
  | [] => 0
  | s :: _ => s.kind
def slotsErr (l : List Slot) : Int :=
  if l.length < 1 ∨ 40 < l.length then 2 else if l.all slotFine then (if kind0 l = 0 then 0 else 1) else 1
/-- The place of the first that meets p; the length, if none does. -/
def firstAt {α : Type} (p : α → Bool) : List α → Nat
  | [] => 0
  | x :: l => if p x then 0 else firstAt p l + 1
theorem firstAt_le {α : Type} (p : α → Bool) (l : List α) : firstAt p l ≤ l.length := by
  induction l with
  | nil => simp [firstAt]
  | cons x l ih => simp only [firstAt, List.length_cons]; split <;> omega
theorem firstAt_hit {α : Type} (p : α → Bool) (l : List α) (k : Nat) (x : α) (hx : l[k]? = some x) (hp : p x = true) (hn : (l.take k).all (fun y => !p y) = true) : firstAt p l = k := by
  induction l generalizing k with
  | nil => simp at hx
  | cons y l ih =>
    cases k with
    | zero => simp at hx; subst hx; simp [firstAt, hp]
    | succ k =>
      simp only [List.take_succ_cons, List.all_cons, Bool.and_eq_true] at hn
      have hy : p y = false := by simpa using hn.1
      simp only [List.getElem?_cons_succ] at hx
      simp [firstAt, hy, ih k hx hn.2]
theorem firstAt_none {α : Type} (p : α → Bool) (l : List α) (hn : l.all (fun y => !p y) = true) : firstAt p l = l.length := by
  induction l with
  | nil => rfl
  | cons y l ih =>
    simp only [List.all_cons, Bool.and_eq_true] at hn
    have hy : p y = false := by simpa using hn.1
    simp [firstAt, hy, ih hn.2]
theorem firstAt_lt {α : Type} (p : α → Bool) (l : List α) : (firstAt p l < l.length) ↔ l.any p = true := by
  induction l with
  | nil => simp [firstAt]
  | cons y l ih =>
    simp only [firstAt, List.any_cons, List.length_cons]
    cases h : p y <;> simp [ih]
/-- What IndexFunc answers. -/
def indexOf {α : Type} (p : α → Bool) (l : List α) : Int := if firstAt p l < l.length then (firstAt p l : Int) else -1
theorem indexOf_hit {α : Type} (p : α → Bool) (l : List α) (k : Nat) (x : α) (hx : l[k]? = some x) (hp : p x = true) (hn : (l.take k).all (fun y => !p y) = true) : indexOf p l = k := by
  have h := firstAt_hit p l k x hx hp hn
  have hk : k < l.length := (List.getElem?_eq_some_iff.1 hx).1
  unfold indexOf; rw [h, if_pos hk]
theorem indexOf_none {α : Type} (p : α → Bool) (l : List α) (hn : l.all (fun y => !p y) = true) : indexOf p l = -1 := by
  unfold indexOf; rw [firstAt_none p l hn, if_neg (by omega)]
theorem indexOf_any {α : Type} (p : α → Bool) (l : List α) : decide (0 ≤ indexOf p l) = l.any p := by
  unfold indexOf
  by_cases h : firstAt p l < l.length
  · rw [if_pos h, (firstAt_lt p l).1 h]; simp
  · rw [if_neg h]
    have : l.any p = false := by
      cases ha : l.any p
      · rfl
      · exact absurd ((firstAt_lt p l).2 ha) h
    rw [this]; rfl

/-- The place of the first free slot of a list. -/
def freeAt (l : List Slot) : Nat := firstAt (fun s => s.kind == 0) l
def grab (l : List Slot) : Nat :=
  if freeAt (l.drop 1) < (l.drop 1).length then freeAt (l.drop 1) + 1 else if l.length < 40 then l.length else 0
def used : List Slot → Nat
  | [] => 0
  | s :: l => (if s.kind = 0 then 0 else 1) + used l

def grabN (l : List Slot) : Int := if slotsErr l = 0 then (grab l : Int) else 0
def grabE (l : List Slot) : Int := if slotsErr l = 0 then (if grab l = 0 then 7 else 0) else slotsErr l
def usedN (l : List Slot) : Int := if slotsErr l = 0 then (used l : Int) else 0

theorem used_take_succ (l : List Slot) (k : Nat) (s : Slot) (h : l[k]? = some s) : used (l.take (k + 1)) = used (l.take k) + (if s.kind = 0 then 0 else 1) := by
  induction l generalizing k with
  | nil => simp at h
  | cons a l ih =>
    cases k with
    | zero => simp at h; subst h; simp [used]
    | succ k => simp only [List.take_succ_cons, used]; rw [ih k (by simpa using h)]; omega
theorem used_le (l : List Slot) : used l ≤ l.length := by
  induction l with
  | nil => simp [used]
  | cons a l ih => simp only [used, List.length_cons]; split <;> omega
end Sl
-- PureT: The plain model of images: shape, counts, looks. Nothing of the program is in sight. No conditions.
namespace Sl

structure Snap where
  name : ByteArray
  guest : Int
  root : List Int
structure Img where
  guest : Int
  root : List Int
  slots : List Slot
  refs : List Int
  snaps : List Snap

def letter (c : UInt8) : Bool := decide (97 ≤ c.toNat) && decide (c.toNat ≤ 122)
def isName (s : ByteArray) : Bool := decide (1 ≤ s.size) && decide (s.size ≤ 8) && s.toList.all letter
def wants (g : Int) : Int := (g + 3) / 4
def kindOf (l : List Slot) (n : Int) : Int := if 1 ≤ n ∧ n < l.length then ((l[n.toNat]?).map (·.kind)).getD 0 else -1
def tableAt (l : List Slot) (n : Int) : List Int := ((l[n.toNat]?).map (·.table)).getD []
/-- All k below n meet p. -/
def upto (p : Nat → Bool) (n : Nat) : Bool := (List.range n).all p
theorem upto_succ (p : Nat → Bool) (n : Nat) : upto p (n + 1) = (upto p n && p n) := by simp [upto, List.range_succ]
theorem upto_zero (p : Nat → Bool) : upto p 0 = true := rfl
theorem upto_false {p : Nat → Bool} {n k : Nat} (hk : k < n) (hp : p k = false) : upto p n = false := by
  unfold upto; rw [List.all_eq_false]; exact ⟨k, List.mem_range.2 hk, by simp [hp]⟩
theorem upto_iff {p : Nat → Bool} {n : Nat} : upto p n = true ↔ ∀ k, k < n → p k = true := by
  unfold upto; rw [List.all_eq_true]; exact ⟨fun h k hk => h k (List.mem_range.2 hk), fun h k hk => h k (List.mem_range.1 hk)⟩
theorem upto_congr {p q : Nat → Bool} {n : Nat} (h : ∀ k, k < n → p k = q k) : upto p n = upto q n := by
  rw [Bool.eq_iff_iff, upto_iff, upto_iff]
  exact ⟨fun g k hk => by rw [← h k hk]; exact g k hk, fun g k hk => by rw [h k hk]; exact g k hk⟩

def int (l : List Int) (k : Nat) : Int := l.getD k 0
/-- Entry k of a Root. -/
def rootAt (l : List Slot) (guest : Int) (root : List Int) (k : Nat) : Bool :=
  int root k == 0 || (kindOf l (int root k) == 2 && upto (fun i => decide (4 * (k : Int) + i < guest) || int (tableAt l (int root k)) i == 0) 4)
def rootFine (l : List Slot) (guest : Int) (root : List Int) : Bool := decide ((root.length : Int) = wants guest) && upto (rootAt l guest root) root.length
def guestOk (g : Int) : Bool := decide (0 ≤ g) && decide (g ≤ 16)
def snapAt (l : List Snap) (k : Nat) : Snap := l.getD k ⟨ByteArray.empty, 0, []⟩
/-- s < t, as Go holds strings. -/
def lexLt : List UInt8 → List UInt8 → Bool
  | [], [] => false
  | [], _ :: _ => true
  | _ :: _, [] => false
  | a :: s, b :: t => decide (a.toNat < b.toNat) || (a == b && lexLt s t)
def strLt (s t : ByteArray) : Bool := lexLt s.toList t.toList
theorem lexLt_total (s t : List UInt8) : (lexLt s t || s == t) = !lexLt t s := by
  induction s generalizing t with
  | nil => cases t <;> simp [lexLt]
  | cons a s ih =>
    cases t with
    | nil => simp [lexLt]
    | cons b t =>
      simp only [lexLt]
      by_cases h : a = b
      · subst h
        have := ih t
        simp only [Nat.lt_irrefl, decide_false, Bool.false_or, BEq.rfl, Bool.true_and, List.cons_beq_cons]
        exact this
      · have hn : a.toNat ≠ b.toNat := fun e => h (UInt8.toNat_inj.1 e)
        have h1 : (a == b) = false := by simpa using h
        have h2 : (b == a) = false := by simpa using fun e => h e.symm
        simp only [h1, h2, Bool.false_and, Bool.or_false, List.cons_beq_cons]
        rcases Nat.lt_or_ge a.toNat b.toNat with h3 | h3
        · rw [decide_eq_true h3, decide_eq_false (by omega : ¬ b.toNat < a.toNat)]; rfl
        · rw [decide_eq_false (by omega : ¬ a.toNat < b.toNat), decide_eq_true (by omega : b.toNat < a.toNat)]; rfl
def nameAt (l : List Snap) (k : Nat) : Bool := isName (snapAt l k).name && (k == 0 || strLt (snapAt l (k - 1)).name (snapAt l k).name)
def namesOk (l : List Snap) : Bool := upto (nameAt l) l.length
def entryOk (l : List Slot) (e : Int) : Bool := decide (e ≤ 0) || kindOf l e == 1
def tablesOk (l : List Slot) : Bool := l.all (fun s => s.table.all (entryOk l))
def guestsOk (m : Img) : Bool := guestOk m.guest && m.snaps.all (fun s => guestOk s.guest)
def rootsOk (m : Img) : Bool := rootFine m.slots m.guest m.root && m.snaps.all (fun s => rootFine m.slots s.guest s.root)
def sizesOk (m : Img) : Bool := decide (1 ≤ m.slots.length) && decide (m.slots.length ≤ 40) && decide (m.snaps.length ≤ 3)
def shapeErr (m : Img) : Int :=
  if sizesOk m = false then 2
  else if slotsErr m.slots ≠ 0 ∨ m.refs.length ≠ m.slots.length then 1
  else if namesOk m.snaps = false then 1
  else if guestsOk m = false then 3
  else if tablesOk m.slots = false then 1
  else if rootsOk m = false then 1 else 0

/-- How often a number stands in a list. -/
def told (l : List Int) (n : Int) : Nat := l.countP (· == n)
def rootsOf (m : Img) : List (List Int) := m.root :: m.snaps.map (·.root)
def sumOf : List Nat → Nat
  | [] => 0
  | x :: l => x + sumOf l
def toldAll (ls : List (List Int)) (n : Int) : Nat := sumOf (ls.map (told · n))
def kindN (l : List Slot) (k : Nat) : Int := ((l[k]?).map (·.kind)).getD 0
def tableN (l : List Slot) (k : Nat) : List Int := ((l[k]?).map (·.table)).getD []
/-- How often a page is told by tables that Roots tell. -/
def toldBy (l : List Slot) (ls : List (List Int)) (n : Nat) (k : Nat) : Nat := if kindN l k = 2 ∧ 0 < toldAll ls k then told (tableN l k) n else 0
def countAt (l : List Slot) (ls : List (List Int)) (n : Nat) : Nat :=
  if n = 0 then 0 else toldAll ls n + (if kindN l n = 1 then sumOf ((List.range (l.length - 1)).map (fun k => toldBy l ls n (k + 1))) else 0)
def countsOf (m : Img) : List Int := (List.range m.slots.length).map (fun n => (countAt m.slots (rootsOf m) n : Int))
def refAt (m : Img) (n : Nat) : Bool := int m.refs n == int (countsOf m) n && ((int (countsOf m) n == 0) == (kindN m.slots n == 0))
def checkErr (m : Img) : Int := if shapeErr m ≠ 0 then shapeErr m else if upto (refAt m) m.slots.length then 0 else 9

def entryOf (l : List Slot) (root : List Int) (n : Nat) : Int := if 0 < int root (n / 4) then int (tableAt l (int root (n / 4))) (n % 4) else 0
def lookE (m : Img) (n : Int) : Int := if checkErr m ≠ 0 then checkErr m else if 0 ≤ n ∧ n < m.guest then 0 else 3
def lookN (m : Img) (n : Int) : Int := if lookE m n = 0 then entryOf m.slots m.root n.toNat else 0
end Sl
-- PureT2: Shape, step by step. No conditions.
namespace Sl
variable {m : Img}
theorem sizesOk_no (h : ¬ (1 ≤ m.slots.length ∧ m.slots.length ≤ 40 ∧ m.snaps.length ≤ 3)) : sizesOk m = false := by
  unfold sizesOk; rw [Bool.eq_false_iff]; simp only [Ne, Bool.and_eq_true, decide_eq_true_eq]; omega
theorem sizesOk_yes (h : 1 ≤ m.slots.length ∧ m.slots.length ≤ 40 ∧ m.snaps.length ≤ 3) : sizesOk m = true := by
  unfold sizesOk; simp only [Bool.and_eq_true, decide_eq_true_eq]; omega
theorem sizesOk_is (h : sizesOk m = true) : 1 ≤ m.slots.length ∧ m.slots.length ≤ 40 ∧ m.snaps.length ≤ 3 := by
  unfold sizesOk at h; simp only [Bool.and_eq_true, decide_eq_true_eq] at h; omega
theorem sh_many (h : sizesOk m = false) : shapeErr m = 2 := by unfold shapeErr; rw [if_pos h]
/-- The first steps are passed. -/
structure Sh1 (m : Img) : Prop where
  sizes : sizesOk m = true
  slots : slotsErr m.slots = 0
  refs : m.refs.length = m.slots.length
theorem sh_slots (h : sizesOk m = true) (h1 : slotsErr m.slots ≠ 0 ∨ m.refs.length ≠ m.slots.length) : shapeErr m = 1 := by
  unfold shapeErr; rw [if_neg (by rw [h]; decide), if_pos h1]
theorem sh_names (h : Sh1 m) (h1 : namesOk m.snaps = false) : shapeErr m = 1 := by
  unfold shapeErr; rw [if_neg (by rw [h.sizes]; decide), if_neg (by have := h.slots; have := h.refs; omega), if_pos h1]
theorem sh_range (h : Sh1 m) (h1 : namesOk m.snaps = true) (h2 : guestsOk m = false) : shapeErr m = 3 := by
  unfold shapeErr; rw [if_neg (by rw [h.sizes]; decide), if_neg (by have := h.slots; have := h.refs; omega), if_neg (by rw [h1]; decide), if_pos h2]
theorem sh_tables (h : Sh1 m) (h1 : namesOk m.snaps = true) (h2 : guestsOk m = true) (h3 : tablesOk m.slots = false) : shapeErr m = 1 := by
  unfold shapeErr; rw [if_neg (by rw [h.sizes]; decide), if_neg (by have := h.slots; have := h.refs; omega), if_neg (by rw [h1]; decide), if_neg (by rw [h2]; decide), if_pos h3]
theorem sh_roots (h : Sh1 m) (h1 : namesOk m.snaps = true) (h2 : guestsOk m = true) (h3 : tablesOk m.slots = true) (h4 : rootsOk m = false) : shapeErr m = 1 := by
  unfold shapeErr; rw [if_neg (by rw [h.sizes]; decide), if_neg (by have := h.slots; have := h.refs; omega), if_neg (by rw [h1]; decide), if_neg (by rw [h2]; decide), if_neg (by rw [h3]; decide), if_pos h4]
theorem sh_ok (h : Sh1 m) (h1 : namesOk m.snaps = true) (h2 : guestsOk m = true) (h3 : tablesOk m.slots = true) (h4 : rootsOk m = true) : shapeErr m = 0 := by
  unfold shapeErr; rw [if_neg (by rw [h.sizes]; decide), if_neg (by have := h.slots; have := h.refs; omega), if_neg (by rw [h1]; decide), if_neg (by rw [h2]; decide), if_neg (by rw [h3]; decide), if_neg (by rw [h4]; decide)]
theorem sh_is (h : shapeErr m = 0) : Sh1 m ∧ namesOk m.snaps = true ∧ guestsOk m = true ∧ tablesOk m.slots = true ∧ rootsOk m = true := by
  unfold shapeErr at h
  split at h
  · omega
  · split at h
    · omega
    · split at h
      · omega
      · split at h
        · omega
        · split at h
          · omega
          · split at h
            · omega
            · rename_i a b c d e f
              simp only [Bool.not_eq_false] at a c d e f
              exact ⟨⟨a, by omega, by omega⟩, c, d, e, f⟩
theorem snapAt_at {l : List Snap} {k : Nat} {s : Snap} (h : l[k]? = some s) : snapAt l k = s := by unfold snapAt; rw [List.getD_eq_getElem?_getD, h]; rfl
end Sl
-- PureC: Rows of numbers; sums of counts. No conditions.
namespace Sl
def row (n : Nat) (f : Nat → Int) : List Int := (List.range n).map f
theorem row_len (n : Nat) (f : Nat → Int) : (row n f).length = n := by simp [row]
theorem row_at {n k : Nat} (f : Nat → Int) (h : k < n) : (row n f)[k]? = some (f k) := by simp [row, List.getElem?_range h]
theorem row_congr {n : Nat} {f g : Nat → Int} (h : ∀ j, j < n → f j = g j) : row n f = row n g := by
  unfold row; exact List.map_congr_left fun j hj => h j (List.mem_range.1 hj)
theorem row_set (n k : Nat) (f : Nat → Int) (x : Int) : (row n f).set k x = row n (fun j => if j = k then x else f j) := by
  apply List.ext_getElem?
  intro j
  rw [List.getElem?_set]
  by_cases hj : j < n
  · rw [row_at _ hj, row_at _ hj, row_len]
    by_cases h : k = j
    · subst h; rw [if_pos rfl, if_pos hj, if_pos rfl]
    · rw [if_neg h, if_neg (fun e => h e.symm)]
  · rw [List.getElem?_eq_none (by rw [row_len]; omega), List.getElem?_eq_none (by rw [row_len]; omega), row_len]
    by_cases h : k = j
    · subst h; rw [if_pos rfl, if_neg hj]
    · rw [if_neg h]
theorem row_int {n k : Nat} (f : Nat → Int) (h : k < n) : int (row n f) k = f k := by unfold int; rw [List.getD_eq_getElem?_getD, row_at f h]; rfl
theorem row_zero (n : Nat) : row n (fun _ => 0) = List.replicate n 0 := by
  apply List.ext_getElem?
  intro j
  by_cases hj : j < n
  · rw [row_at _ hj, List.getElem?_replicate, if_pos hj]
  · rw [List.getElem?_eq_none (by rw [row_len]; omega), List.getElem?_replicate, if_neg hj]

theorem sumOf_append (a b : List Nat) : sumOf (a ++ b) = sumOf a + sumOf b := by
  induction a with
  | nil => simp [sumOf]
  | cons x a ih => simp only [List.cons_append, sumOf, ih]; omega
theorem toldAll_snoc (ls : List (List Int)) (r : List Int) (n : Int) : toldAll (ls ++ [r]) n = toldAll ls n + told r n := by
  unfold toldAll; rw [List.map_append, sumOf_append]; simp [sumOf]
theorem toldAll_nil (n : Int) : toldAll [] n = 0 := rfl
theorem toldAll_one (r : List Int) (n : Int) : toldAll [r] n = told r n := by simp [toldAll, sumOf]
theorem told_len (l : List Int) (n : Int) : told l n ≤ l.length := List.countP_le_length
theorem told_append (a b : List Int) (n : Int) : told (a ++ b) n = told a n + told b n := List.countP_append
theorem told_flat (ls : List (List Int)) (n : Int) : told ls.flatten n = toldAll ls n := by
  induction ls with
  | nil => rfl
  | cons a ls ih => rw [List.flatten_cons, told_append, ih]; simp [toldAll, sumOf]
theorem sumOf_le {l : List Nat} {c : Nat} (h : ∀ x ∈ l, x ≤ c) : sumOf l ≤ l.length * c := by
  induction l with
  | nil => simp [sumOf]
  | cons x l ih =>
    have h1 := h x (List.mem_cons_self ..)
    have h2 := ih (fun y hy => h y (List.mem_cons_of_mem _ hy))
    simp only [sumOf, List.length_cons, Nat.add_mul, Nat.one_mul]; omega

/-- Sizes that let no count wrap. -/
structure CBd (m : Img) : Prop where
  one : 1 ≤ m.slots.length
  slots : m.slots.length ≤ 40
  snaps : m.snaps.length ≤ 4
  root : m.root.length ≤ 4
  roots : ∀ s ∈ m.snaps, s.root.length ≤ 4
  tables : ∀ s ∈ m.slots, s.table.length ≤ 4
theorem CBd.toldAll_le {m : Img} (h : CBd m) (q : Nat) (n : Int) : toldAll (m.root :: (m.snaps.take q).map (·.root)) n ≤ 20 := by
  unfold toldAll
  have : sumOf ((m.root :: (m.snaps.take q).map (·.root)).map (told · n)) ≤ (m.root :: (m.snaps.take q).map (·.root)).length * 4 := by
    have := sumOf_le (l := (m.root :: (m.snaps.take q).map (·.root)).map (told · n)) (c := 4) (fun x hx => by
      obtain ⟨r, hr, rfl⟩ := List.mem_map.1 hx
      refine Nat.le_trans (told_len r n) ?_
      rcases List.mem_cons.1 hr with rfl | hr
      · exact h.root
      · obtain ⟨s, hs, rfl⟩ := List.mem_map.1 hr
        exact h.roots s (List.mem_of_mem_take hs))
    rwa [List.length_map] at this
  have h2 : (m.root :: (m.snaps.take q).map (·.root)).length ≤ 5 := by
    have := h.snaps
    simp only [List.length_cons, List.length_map, List.length_take]; omega
  omega
theorem rootsOf_all (m : Img) {q : Nat} (h : m.snaps.length ≤ q) : (m.root :: (m.snaps.take q).map (·.root)) = rootsOf m := by
  rw [List.take_of_length_le h]; rfl
theorem CBd.all_le {m : Img} (h : CBd m) (n : Int) : toldAll (rootsOf m) n ≤ 20 := by
  rw [← rootsOf_all m (Nat.le_refl _)]; exact h.toldAll_le _ n
theorem CBd.table_le {m : Img} (h : CBd m) (k : Nat) (n : Int) : told (tableN m.slots k) n ≤ 4 := by
  refine Nat.le_trans (told_len _ _) ?_
  unfold tableN
  cases hs : m.slots[k]? with
  | none => simp
  | some s => exact h.tables s (List.mem_of_getElem? hs)
/-- What tables ahead of slot i tell of page n. -/
def sumTo (l : List Slot) (ls : List (List Int)) (n i : Nat) : Nat := sumOf ((List.range (i - 1)).map (fun k => toldBy l ls n (k + 1)))
theorem sumTo_one (l : List Slot) (ls : List (List Int)) (n : Nat) : sumTo l ls n 1 = 0 := rfl
theorem sumTo_succ (l : List Slot) (ls : List (List Int)) (n i : Nat) (h : 1 ≤ i) : sumTo l ls n (i + 1) = sumTo l ls n i + toldBy l ls n i := by
  unfold sumTo
  rw [show i + 1 - 1 = (i - 1) + 1 from by omega, List.range_succ, List.map_append, sumOf_append]
  simp [sumOf, show i - 1 + 1 = i from by omega]
theorem CBd.toldBy_le {m : Img} (h : CBd m) (n k : Nat) : toldBy m.slots (rootsOf m) n k ≤ 4 := by
  unfold toldBy; split
  · exact h.table_le k n
  · omega
theorem CBd.sumTo_le {m : Img} (h : CBd m) (n i : Nat) (hi : i ≤ 40) : sumTo m.slots (rootsOf m) n i ≤ 160 := by
  have := sumOf_le (l := (List.range (i - 1)).map (fun k => toldBy m.slots (rootsOf m) n (k + 1))) (c := 4) (fun x hx => by
    obtain ⟨k, _, rfl⟩ := List.mem_map.1 hx
    exact h.toldBy_le n (k + 1))
  rw [List.length_map, List.length_range] at this
  unfold sumTo; omega
theorem countsOf_row (m : Img) : countsOf m = row m.slots.length (fun n => (countAt m.slots (rootsOf m) n : Int)) := rfl
theorem countAt_page {l : List Slot} {ls : List (List Int)} {n : Nat} (h : 1 ≤ n) (hk : kindN l n = 1) : countAt l ls n = toldAll ls n + sumTo l ls n l.length := by
  unfold countAt sumTo; rw [if_neg (by omega), if_pos hk]
theorem countAt_other {l : List Slot} {ls : List (List Int)} {n : Nat} (h : 1 ≤ n) (hk : kindN l n ≠ 1) : countAt l ls n = toldAll ls n := by
  unfold countAt; rw [if_neg (by omega), if_neg hk]; rfl
theorem kindN_at {l : List Slot} {k : Nat} {s : Slot} (h : l[k]? = some s) : kindN l k = s.kind := by unfold kindN; rw [h]; rfl
theorem tableN_at {l : List Slot} {k : Nat} {s : Slot} (h : l[k]? = some s) : tableN l k = s.table := by unfold tableN; rw [h]; rfl
end Sl
-- PureC2: What the program's counting holds after a part of the Roots. No conditions.
namespace Sl
/-- Roots tell tables or nothing; tables tell pages or nothing. -/
structure Wired (m : Img) : Prop where
  tables : tablesOk m.slots = true
  roots : ∀ r ∈ rootsOf m, ∀ t ∈ r, t = 0 ∨ kindOf m.slots t = 2

theorem sumOf_map_congr {l : List Nat} {f g : Nat → Nat} (h : ∀ i ∈ l, f i = g i) : sumOf (l.map f) = sumOf (l.map g) := by rw [List.map_congr_left h]
theorem sumOf_one {n k : Nat} {f g : Nat → Nat} (hk : k < n) (h : ∀ i, i ≠ k → f i = g i) (c : Nat) (hc : g k = f k + c) : sumOf ((List.range n).map g) = sumOf ((List.range n).map f) + c := by
  induction n with
  | zero => omega
  | succ n ih =>
    rw [List.range_succ, List.map_append, List.map_append, sumOf_append, sumOf_append]
    simp only [List.map_cons, List.map_nil, sumOf]
    by_cases e : k = n
    · subst e
      rw [sumOf_map_congr (f := g) (g := f) (fun i hi => (h i (by have := List.mem_range.1 hi; omega)).symm), hc]; omega
    · rw [ih (by omega), h n (fun x => e x.symm)]; omega

/-- What stands at j when the entries p of Roots have been told. -/
def cntPart (l : List Slot) (p : List Int) (j : Nat) : Nat := if j = 0 then 0 else told p j + sumTo l [p] j l.length
theorem told_snoc (p : List Int) (t j : Int) : told (p ++ [t]) j = told p j + (if t = j then 1 else 0) := by
  unfold told; rw [List.countP_append]; simp [List.countP_cons]
theorem cntPart_nil (l : List Slot) (j : Nat) : cntPart l [] j = 0 := by
  unfold cntPart
  split
  · rfl
  · unfold sumTo
    have : sumOf ((List.range (l.length - 1)).map fun k => toldBy l [[]] j (k + 1)) = sumOf ((List.range (l.length - 1)).map fun _ => 0) := sumOf_map_congr (fun i _ => by
      unfold toldBy; rw [if_neg]; simp [toldAll, sumOf, told])
    rw [this]
    have : ∀ n, sumOf ((List.range n).map fun _ => 0) = 0 := fun n => by
      induction n with
      | zero => rfl
      | succ n ih => rw [List.range_succ, List.map_append, sumOf_append, ih]; rfl
    rw [this]; simp [told]
theorem cntPart_zero (l : List Slot) (p : List Int) (j : Nat) : cntPart l (p ++ [0]) j = cntPart l p j := by
  unfold cntPart
  split
  · rfl
  · rename_i h0
    have e : ∀ i : Nat, 1 ≤ i → told (p ++ [0]) (i : Int) = told p i := fun i hi => by rw [told_snoc, if_neg (by omega)]; rfl
    rw [e j (by omega)]
    congr 1
    unfold sumTo
    refine sumOf_map_congr (fun i _ => ?_)
    unfold toldBy
    rw [toldAll_one, toldAll_one, e (i + 1) (by omega)]
theorem cntPart_again {l : List Slot} {p : List Int} {k : Nat} (hk : 1 ≤ k) (hp : 0 < told p k) (j : Nat) : cntPart l (p ++ [(k : Int)]) j = if j = k then cntPart l p k + 1 else cntPart l p j := by
  unfold cntPart
  have hs : sumTo l [p ++ [(k : Int)]] j l.length = sumTo l [p] j l.length := by
    unfold sumTo
    refine sumOf_map_congr (fun i _ => ?_)
    unfold toldBy
    rw [toldAll_one, toldAll_one, told_snoc]
    by_cases e : k = i + 1
    · subst e
      have h1 : 0 < told p ((i + 1 : Nat) : Int) + (if ((i + 1 : Nat) : Int) = ((i + 1 : Nat) : Int) then 1 else 0) := by omega
      by_cases hk2 : kindN l (i + 1) = 2
      · rw [if_pos ⟨hk2, h1⟩, if_pos ⟨hk2, hp⟩]
      · rw [if_neg (fun h => hk2 h.1), if_neg (fun h => hk2 h.1)]
    · rw [if_neg (by omega : ¬ (k : Int) = ((i + 1 : Nat) : Int))]; rfl
  by_cases h0 : j = 0
  · subst h0; rw [if_pos rfl, if_neg (by omega), if_pos rfl]
  · rw [if_neg h0, hs, told_snoc]
    by_cases e : j = k
    · subst e; rw [if_pos rfl, if_pos rfl, if_neg h0]; omega
    · rw [if_neg (by omega), if_neg e, if_neg h0]; rfl
/-- The first time a table is told: when q of its entries are over. -/
def cntInner (l : List Slot) (p : List Int) (k q j : Nat) : Nat := if j = 0 then 0 else cntPart l p j + (if j = k then 1 else 0) + told ((tableN l k).take q) j
theorem cntInner_start {l : List Slot} {p : List Int} {k : Nat} (hk : 1 ≤ k) (j : Nat) : (if j = k then cntPart l p k + 1 else cntPart l p j) = cntInner l p k 0 j := by
  unfold cntInner
  by_cases h0 : j = 0
  · subst h0; rw [if_neg (by omega), if_pos rfl]; rfl
  · rw [if_neg h0, List.take_zero]
    by_cases e : j = k
    · subst e; rw [if_pos rfl, if_pos rfl]; rfl
    · rw [if_neg e, if_neg e]; rfl
theorem cntInner_skip {l : List Slot} {p : List Int} {k q : Nat} {x : Int} (hx : (tableN l k)[q]? = some x) (h : x ≤ 0) (j : Nat) : cntInner l p k q j = cntInner l p k (q + 1) j := by
  unfold cntInner
  by_cases h0 : j = 0
  · rw [if_pos h0, if_pos h0]
  · rw [if_neg h0, if_neg h0, List.take_add_one, hx]
    simp only [Option.toList_some]
    rw [told_snoc, if_neg (by omega : ¬ x = (j : Int))]; rfl
theorem cntInner_step {l : List Slot} {p : List Int} {k q e : Nat} (hx : (tableN l k)[q]? = some (e : Int)) (h : 1 ≤ e) (j : Nat) : (if j = e then cntInner l p k q e + 1 else cntInner l p k q j) = cntInner l p k (q + 1) j := by
  unfold cntInner
  by_cases h0 : j = 0
  · subst h0; rw [if_neg (by omega), if_pos rfl, if_pos rfl]
  · rw [if_neg h0, if_neg h0, List.take_add_one, hx]
    simp only [Option.toList_some]
    rw [told_snoc]
    by_cases he : j = e
    · subst he; rw [if_pos rfl, if_neg h0, if_pos rfl]; omega
    · rw [if_neg he, if_neg (by omega : ¬ (e : Int) = (j : Int))]; rfl
theorem cntInner_end {l : List Slot} {p : List Int} {k q : Nat} (hk : 1 ≤ k) (hkl : k < l.length) (h2 : kindN l k = 2) (hp : told p k = 0) (hq : (tableN l k).length ≤ q) (j : Nat) : cntInner l p k q j = cntPart l (p ++ [(k : Int)]) j := by
  unfold cntInner cntPart
  by_cases h0 : j = 0
  · rw [if_pos h0, if_pos h0]
  · rw [if_neg h0, if_neg h0, if_neg h0, List.take_of_length_le hq, told_snoc]
    have hs : sumTo l [p ++ [(k : Int)]] j l.length = sumTo l [p] j l.length + told (tableN l k) j := by
      unfold sumTo
      refine sumOf_one (k := k - 1) (by omega) (fun i hi => ?_) _ ?_
      · unfold toldBy
        rw [toldAll_one, toldAll_one, told_snoc, if_neg (by omega : ¬ (k : Int) = ((i + 1 : Nat) : Int))]; rfl
      · unfold toldBy
        rw [toldAll_one, toldAll_one, told_snoc, show k - 1 + 1 = k from by omega, hp, if_pos rfl, if_pos ⟨h2, by omega⟩, if_neg (by omega)]; omega
    rw [hs]
    by_cases e : j = k
    · subst e; rw [if_pos rfl, if_pos rfl]; omega
    · rw [if_neg e, if_neg (by omega : ¬ (k : Int) = (j : Int))]; omega
theorem kindOf_N {l : List Slot} {j : Nat} (hj : 1 ≤ j) (hl : j < l.length) : kindOf l (j : Int) = kindN l j := by
  unfold kindOf kindN; rw [if_pos (by omega), Int.toNat_natCast]
theorem told_zero {t : List Int} {j : Int} (h : ∀ x ∈ t, x ≠ j) : told t j = 0 := by
  unfold told; rw [List.countP_eq_zero]
  intro x hx
  simpa using h x hx
theorem table_told {l : List Slot} (h : tablesOk l = true) {k j : Nat} (hj : 1 ≤ j) (hl : j < l.length) (h1 : kindN l j ≠ 1) : told (tableN l k) j = 0 := by
  refine told_zero (fun x hx e => ?_)
  subst e
  unfold tableN at hx
  cases hs : l[k]? with
  | none => rw [hs] at hx; simp at hx
  | some s =>
    rw [hs] at hx
    have := List.all_eq_true.1 (List.all_eq_true.1 h s (List.mem_of_getElem? hs)) _ hx
    unfold entryOk at this
    rw [decide_eq_false (by omega), Bool.false_or, kindOf_N hj hl] at this
    exact h1 (by simpa using this)
theorem sumTo_zero {l : List Slot} (h : tablesOk l = true) {ls : List (List Int)} {j : Nat} (hj : 1 ≤ j) (hl : j < l.length) (h1 : kindN l j ≠ 1) (i : Nat) : sumTo l ls j i = 0 := by
  unfold sumTo
  have : sumOf ((List.range (i - 1)).map fun k => toldBy l ls j (k + 1)) = sumOf ((List.range (i - 1)).map fun _ => 0) := sumOf_map_congr (fun a _ => by
    unfold toldBy; split
    · exact table_told h hj hl h1
    · rfl)
  rw [this]
  have : ∀ n, sumOf ((List.range n).map fun _ => 0) = 0 := fun n => by
    induction n with
    | zero => rfl
    | succ n ih => rw [List.range_succ, List.map_append, sumOf_append, ih]; rfl
  exact this _
theorem cntPart_table {l : List Slot} (h : tablesOk l = true) {p : List Int} {k : Nat} (hk : 1 ≤ k) (hl : k < l.length) (h2 : kindN l k = 2) : cntPart l p k = told p k := by
  unfold cntPart; rw [if_neg (by omega), sumTo_zero h hk hl (by omega)]; omega
theorem cntPart_all {m : Img} (h : tablesOk m.slots = true) {j : Nat} (hl : j < m.slots.length) : cntPart m.slots (rootsOf m).flatten j = countAt m.slots (rootsOf m) j := by
  by_cases h0 : j = 0
  · subst h0; unfold cntPart countAt; rw [if_pos rfl, if_pos rfl]
  · have hs : sumTo m.slots [(rootsOf m).flatten] j m.slots.length = sumTo m.slots (rootsOf m) j m.slots.length := by
      unfold sumTo
      refine sumOf_map_congr (fun i _ => ?_)
      unfold toldBy
      rw [toldAll_one, told_flat]
    unfold cntPart
    rw [if_neg h0, told_flat, hs]
    by_cases h1 : kindN m.slots j = 1
    · rw [countAt_page (by omega) h1]
    · rw [countAt_other (by omega) h1, sumTo_zero h (by omega) hl h1]; rfl
theorem cntPart_le {l : List Slot} {p : List Int} {j : Nat} (hp : p.length ≤ 20) (hl : l.length ≤ 40) (ht : ∀ s ∈ l, s.table.length ≤ 4) : cntPart l p j ≤ 180 := by
  unfold cntPart
  split
  · omega
  · have h1 := told_len p j
    have h2 := sumOf_le (l := (List.range (l.length - 1)).map (fun k => toldBy l [p] j (k + 1))) (c := 4) (fun x hx => by
      obtain ⟨k, _, rfl⟩ := List.mem_map.1 hx
      unfold toldBy; split
      · refine Nat.le_trans (told_len _ _) ?_
        unfold tableN
        cases hs : l[k + 1]? with
        | none => simp
        | some s => exact ht s (List.mem_of_getElem? hs)
      · omega)
    rw [List.length_map, List.length_range] at h2
    unfold sumTo; omega
theorem cntInner_le {l : List Slot} {p : List Int} {k q j : Nat} (hp : p.length ≤ 20) (hl : l.length ≤ 40) (ht : ∀ s ∈ l, s.table.length ≤ 4) : cntInner l p k q j ≤ 200 := by
  unfold cntInner
  split
  · omega
  · have h1 := cntPart_le (j := j) hp hl ht
    have h2 := told_len ((tableN l k).take q) j
    have h3 : (tableN l k).length ≤ 4 := by
      unfold tableN
      cases hs : l[k]? with
      | none => simp
      | some s => exact ht s (List.mem_of_getElem? hs)
    have h4 : ((tableN l k).take q).length ≤ 4 := by rw [List.length_take]; omega
    split <;> omega
theorem CBd.flat_le {m : Img} (h : CBd m) : (rootsOf m).flatten.length ≤ 20 := by
  have : ∀ ls : List (List Int), (∀ r ∈ ls, r.length ≤ 4) → ls.flatten.length ≤ ls.length * 4 := by
    intro ls
    induction ls with
    | nil => intro _; simp
    | cons a ls ih =>
      intro hh
      have h1 := hh a (List.mem_cons_self ..)
      have h2 := ih (fun r hr => hh r (List.mem_cons_of_mem _ hr))
      rw [List.flatten_cons, List.length_append, List.length_cons, Nat.add_mul]; omega
  have h5 := this (rootsOf m) (fun r hr => by
    rcases List.mem_cons.1 hr with rfl | hr
    · exact h.root
    · obtain ⟨s, hs, rfl⟩ := List.mem_map.1 hr; exact h.roots s hs)
  have h6 : (rootsOf m).length ≤ 5 := by have := h.snaps; simp only [rootsOf, List.length_cons, List.length_map]; omega
  omega
end Sl
-- PureC3: What the shape gives. No conditions.
namespace Sl
variable {m : Img}
theorem wants_le {g : Int} (h0 : 0 ≤ g) (h : g ≤ 16) : 0 ≤ wants g ∧ wants g ≤ 4 := by unfold wants; omega
theorem slots_all {l : List Slot} (h : slotsErr l = 0) : l.all slotFine = true := by
  unfold slotsErr at h
  split at h
  · omega
  · split at h
    · assumption
    · omega
theorem slot_len {l : List Slot} {s : Slot} (h : slotsErr l = 0) (hs : s ∈ l) : s.table.length ≤ 4 ∧ (s.kind = 2 → s.table.length = 4) ∧ (s.kind ≠ 2 → s.table = []) := by
  have := List.all_eq_true.1 (slots_all h) s hs
  unfold slotFine at this
  split at this
  · rename_i h0
    simp only [Bool.and_eq_true, beq_iff_eq] at this
    exact ⟨by omega, by omega, fun _ => List.eq_nil_of_length_eq_zero this.2⟩
  · split at this
    · simp only [Bool.and_eq_true, beq_iff_eq] at this
      exact ⟨by omega, by omega, fun _ => List.eq_nil_of_length_eq_zero this.2⟩
    · split at this
      · rename_i h2
        simp only [Bool.and_eq_true, beq_iff_eq] at this
        have h3 := this.1.2
        unfold entriesErr at h3
        split at h3
        · exact ⟨by omega, by omega, by omega⟩
        · omega
      · cases this
theorem guestOk_both {g : Int} (h : guestOk g = true) : 0 ≤ g ∧ g ≤ 16 := by
  unfold guestOk at h; rw [Bool.and_eq_true, decide_eq_true_eq, decide_eq_true_eq] at h; exact h
theorem rootFine_both {l : List Slot} {g : Int} {r : List Int} (h : rootFine l g r = true) : (r.length : Int) = wants g ∧ ∀ k, k < r.length → rootAt l g r k = true := by
  unfold rootFine at h; rw [Bool.and_eq_true, decide_eq_true_eq, upto_iff] at h; exact h
theorem rootAt_or {l : List Slot} {g : Int} {r : List Int} {k : Nat} (h : rootAt l g r k = true) : int r k = 0 ∨ kindOf l (int r k) = 2 := by
  unfold rootAt at h
  rw [Bool.or_eq_true, Bool.and_eq_true, beq_iff_eq, beq_iff_eq] at h
  rcases h with h | h
  · exact .inl h
  · exact .inr h.1
theorem int_mem {r : List Int} {t : Int} (h : t ∈ r) : ∃ k, k < r.length ∧ int r k = t := by
  obtain ⟨k, hk, rfl⟩ := List.mem_iff_getElem.1 h
  exact ⟨k, hk, by unfold int; rw [List.getD_eq_getElem?_getD, List.getElem?_eq_getElem hk]; rfl⟩
theorem rootFine_wired {l : List Slot} {g : Int} {r : List Int} (h : rootFine l g r = true) {t : Int} (ht : t ∈ r) : t = 0 ∨ kindOf l t = 2 := by
  obtain ⟨k, hk, rfl⟩ := int_mem ht
  exact rootAt_or ((rootFine_both h).2 k hk)
theorem shape_cbd (h : shapeErr m = 0) : CBd m := by
  obtain ⟨h1, h2, h3, h4, h5⟩ := sh_is h
  obtain ⟨a, b, c⟩ := sizesOk_is h1.sizes
  unfold guestsOk at h3
  unfold rootsOk at h5
  rw [Bool.and_eq_true, List.all_eq_true] at h3 h5
  refine ⟨a, b, by omega, ?_, fun s hs => ?_, fun s hs => (slot_len h1.slots hs).1⟩
  · have := (rootFine_both h5.1).1
    have := wants_le (guestOk_both h3.1).1 (guestOk_both h3.1).2
    omega
  · have := (rootFine_both (h5.2 s hs)).1
    have := wants_le (guestOk_both (h3.2 s hs)).1 (guestOk_both (h3.2 s hs)).2
    omega
theorem shape_wired (h : shapeErr m = 0) : Wired m := by
  obtain ⟨h1, h2, h3, h4, h5⟩ := sh_is h
  unfold rootsOk at h5
  rw [Bool.and_eq_true, List.all_eq_true] at h5
  refine ⟨h4, fun r hr t ht => ?_⟩
  rcases List.mem_cons.1 hr with rfl | hr
  · exact rootFine_wired h5.1 ht
  · obtain ⟨s, hs, rfl⟩ := List.mem_map.1 hr
    exact rootFine_wired (h5.2 s hs) ht
def cntV (m : Img) : List Int := if shapeErr m = 0 then countsOf m else []
theorem countsOf_len (m : Img) : (countsOf m).length = m.slots.length := by rw [countsOf_row, row_len]
theorem refAt_at {k : Nat} {r c : Int} {s : Slot} (hr : m.refs[k]? = some r) (hc : (countsOf m)[k]? = some c) (hs : m.slots[k]? = some s) : refAt m k = (r == c && ((c == 0) == (s.kind == 0))) := by
  unfold refAt; rw [kindN_at hs]
  unfold int; rw [List.getD_eq_getElem?_getD, List.getD_eq_getElem?_getD, hr, hc]; rfl
theorem check_no (h : shapeErr m ≠ 0) : checkErr m = shapeErr m := by unfold checkErr; rw [if_pos h]
theorem check_bad (h : shapeErr m = 0) (h2 : upto (refAt m) m.slots.length = false) : checkErr m = 9 := by unfold checkErr; rw [if_neg (by omega), h2]; rfl
theorem check_ok (h : shapeErr m = 0) (h2 : upto (refAt m) m.slots.length = true) : checkErr m = 0 := by unfold checkErr; rw [if_neg (by omega), h2]; rfl
theorem check_is (h : checkErr m = 0) : shapeErr m = 0 ∧ ∀ k, k < m.slots.length → refAt m k = true := by
  unfold checkErr at h
  split at h
  · contradiction
  · rename_i h1
    split at h
    · rename_i h2; exact ⟨by omega, upto_iff.1 h2⟩
    · omega
theorem look_no (h : checkErr m ≠ 0) (n : Int) : lookE m n = checkErr m ∧ lookN m n = 0 := by
  have : lookE m n = checkErr m := by unfold lookE; rw [if_pos h]
  exact ⟨this, by unfold lookN; rw [this, if_neg h]⟩
theorem look_out (h : checkErr m = 0) {n : Int} (hn : ¬ (0 ≤ n ∧ n < m.guest)) : lookE m n = 3 ∧ lookN m n = 0 := by
  have : lookE m n = 3 := by unfold lookE; rw [if_neg (by omega), if_neg hn]
  exact ⟨this, by unfold lookN; rw [this, if_neg (by decide)]⟩
theorem look_ok (h : checkErr m = 0) {n : Nat} (hn : (n : Int) < m.guest) : lookE m n = 0 ∧ lookN m n = entryOf m.slots m.root n := by
  have : lookE m n = 0 := by unfold lookE; rw [if_neg (by omega), if_pos (by omega)]
  exact ⟨this, by unfold lookN; rw [this, if_pos rfl, Int.toNat_natCast]⟩
theorem look_is {n : Int} (h : lookE m n = 0) : checkErr m = 0 ∧ 0 ≤ n ∧ n < m.guest := by
  unfold lookE at h
  split at h
  · contradiction
  · rename_i h1
    split at h
    · rename_i h2; exact ⟨by omega, h2.1, h2.2⟩
    · omega
end Sl
-- PureC4: What right images tell: TreeTrue's plain law. No conditions.
namespace Sl
variable {m : Img}
def tabs (l : List Slot) : Nat := l.countP (fun s => s.kind == 2)
theorem tabs_snoc (l : List Slot) (k : Nat) (s : Slot) (h : l[k]? = some s) : tabs (l.take (k + 1)) = tabs (l.take k) + (if s.kind = 2 then 1 else 0) := by
  unfold tabs; rw [List.take_add_one, h, List.countP_append]; simp [List.countP_cons]
theorem tabs_le (l : List Slot) : tabs l ≤ l.length := List.countP_le_length
theorem sumTo_tabs (l : List Slot) (ls : List (List Int)) (n : Nat) (ht : ∀ s ∈ l, s.table.length ≤ 4) : ∀ i, i ≤ l.length → sumTo l ls n i ≤ 4 * tabs (l.take i) := by
  intro i
  induction i with
  | zero => intro _; simp [sumTo, sumOf]
  | succ i ih =>
    intro hi
    have hs : l[i]? = some l[i] := List.getElem?_eq_getElem (by omega)
    have h1 := ih (by omega)
    rw [tabs_snoc l i _ hs]
    rcases Nat.eq_zero_or_pos i with h0 | h0
    · subst h0; rw [sumTo_one]; omega
    · rw [sumTo_succ _ _ _ _ h0]
      have : toldBy l ls n i ≤ 4 * (if l[i].kind = 2 then 1 else 0) := by
        unfold toldBy
        rw [kindN_at hs, tableN_at hs]
        by_cases h2 : l[i].kind = 2
        · rw [if_pos h2]
          split
          · have := told_len l[i].table n; have := ht l[i] (List.getElem_mem _); omega
          · omega
        · rw [if_neg (fun h => h2 h.1)]; omega
      omega
theorem toldAll_page (h : Wired m) {k : Nat} (hk : 1 ≤ k) (hl : k < m.slots.length) (h1 : kindN m.slots k ≠ 2) : toldAll (rootsOf m) k = 0 := by
  rw [← told_flat]
  refine told_zero (fun x hx e => ?_)
  subst e
  obtain ⟨r, hr, ht⟩ := List.mem_flatten.1 hx
  rcases h.roots r hr _ ht with h2 | h2
  · omega
  · rw [kindOf_N hk hl] at h2; exact h1 h2
theorem page_le (h : checkErr m = 0) {k : Nat} {s : Slot} {c : Int} (hs : m.slots[k]? = some s) (hc : (countsOf m)[k]? = some c) (h1 : s.kind = 1) : c ≤ 4 * tabs m.slots := by
  obtain ⟨hsh, _⟩ := check_is h
  have hl := (List.getElem?_eq_some_iff.1 hs).1
  rw [countsOf_row, row_at _ hl] at hc
  injection hc with hc
  have hk : 1 ≤ k := by
    rcases Nat.eq_zero_or_pos k with h0 | h0
    · subst h0
      have h2 := (sh_is hsh).1.slots
      unfold slotsErr at h2
      split at h2
      · omega
      · split at h2
        · split at h2
          · rename_i h3
            cases hm : m.slots with
            | nil => rw [hm] at hs; simp at hs
            | cons a l => rw [hm] at hs h3; simp at hs; rw [hs] at h3; have h4 : s.kind = 0 := h3; omega
          · omega
        · omega
    · exact h0
  have hkn := kindN_at hs
  rw [← hc, countAt_page hk (hkn.trans h1), toldAll_page (shape_wired hsh) hk hl (by omega)]
  have := sumTo_tabs m.slots (rootsOf m) k (shape_cbd hsh).tables m.slots.length (Nat.le_refl _)
  rw [List.take_length] at this
  omega
theorem ref_is (h : checkErr m = 0) {k : Nat} {r c : Int} {s : Slot} (hr : m.refs[k]? = some r) (hc : (countsOf m)[k]? = some c) (hs : m.slots[k]? = some s) : r = c ∧ 0 ≤ c ∧ (c = 0 ↔ s.kind = 0) := by
  have hl := (List.getElem?_eq_some_iff.1 hs).1
  have := (check_is h).2 k hl
  rw [refAt_at hr hc hs, Bool.and_eq_true, beq_iff_eq] at this
  refine ⟨this.1, ?_, ?_⟩
  · rw [countsOf_row, row_at _ hl] at hc
    injection hc with hc
    rw [← hc]; exact Int.natCast_nonneg _
  · have h2 := this.2
    rw [beq_iff_eq, Bool.eq_iff_iff] at h2
    simpa using h2
theorem look_page (h : checkErr m = 0) (n : Nat) : -1 ≤ entryOf m.slots m.root n ∧ (0 < entryOf m.slots m.root n → ∃ k s, entryOf m.slots m.root n = (k : Nat) ∧ m.slots[k]? = some s ∧ s.kind = 1) := by
  obtain ⟨h1, h2, h3, h4, h5⟩ := sh_is (check_is h).1
  unfold entryOf
  split
  · rename_i hp
    unfold tableAt
    cases hs : m.slots[(int m.root (n / 4)).toNat]? with
    | none => simp [int]
    | some s =>
      simp only [Option.map_some, Option.getD_some]
      cases he : s.table[n % 4]? with
      | none => simp only [int, List.getD_eq_getElem?_getD, he]; simp
      | some e =>
        simp only [int, List.getD_eq_getElem?_getD, he, Option.getD_some]
        have hmem := List.mem_of_getElem? hs
        have hem := List.mem_of_getElem? he
        have hok := List.all_eq_true.1 (List.all_eq_true.1 h4 s hmem) e hem
        have hsf := List.all_eq_true.1 (slots_all h1.slots) s hmem
        refine ⟨?_, fun he0 => ?_⟩
        · unfold slotFine at hsf
          split at hsf
          · simp only [Bool.and_eq_true, beq_iff_eq] at hsf
            have := List.eq_nil_of_length_eq_zero hsf.2; rw [this] at hem; cases hem
          · split at hsf
            · simp only [Bool.and_eq_true, beq_iff_eq] at hsf
              have := List.eq_nil_of_length_eq_zero hsf.2; rw [this] at hem; cases hem
            · split at hsf
              · simp only [Bool.and_eq_true, beq_iff_eq] at hsf
                have h6 := hsf.1.2
                unfold entriesErr at h6
                split at h6
                · split at h6
                  · rename_i h7
                    have := List.all_eq_true.1 h7 e hem
                    unfold fine at this
                    simp only [Bool.and_eq_true, decide_eq_true_eq] at this
                    exact this.1
                  · omega
                · omega
              · cases hsf
        · unfold entryOk at hok
          rw [decide_eq_false (by omega), Bool.false_or, beq_iff_eq] at hok
          obtain ⟨j, rfl⟩ := Int.eq_ofNat_of_zero_le (a := e) (by omega)
          unfold kindOf at hok
          split at hok
          · rename_i hj
            have hjl : j < m.slots.length := by omega
            rw [Int.toNat_natCast, List.getElem?_eq_getElem hjl] at hok
            exact ⟨j, m.slots[j], rfl, List.getElem?_eq_getElem hjl, hok⟩
          · omega
  · exact ⟨by omega, fun h => by omega⟩
def chooseOf (c n : Int) : Int := (if c < 0 then -(c + 1) else c) % n
theorem chooseOf_in (c n : Int) (h : 0 < n) : 0 ≤ chooseOf c n ∧ chooseOf c n < n := ⟨Int.emod_nonneg _ (by omega), Int.emod_lt_of_pos _ h⟩
end Sl
-- PureP: The plain model of pages and flat images. No conditions.
namespace Sl
def isPage (p : ByteArray) : Bool := p.size == 4
def pagesErr (l : List ByteArray) : Int := if 16 < l.length then 2 else if l.all isPage then 0 else 1
def zeroP : ByteArray := { data := #[0, 0, 0, 0] }
def noP : ByteArray := { data := #[] }
def flatReadE (l : List ByteArray) (n : Int) : Int := if pagesErr l = 0 then (if 0 ≤ n ∧ n < l.length then 0 else 3) else pagesErr l
def flatReadV (l : List ByteArray) (n : Int) : ByteArray := if flatReadE l n = 0 then l.getD n.toNat noP else noP
def flatWriteE (l : List ByteArray) (n : Int) (p : ByteArray) : Int := if flatReadE l n = 0 then (if p.size = 4 then 0 else 1) else flatReadE l n
def flatWriteV (l : List ByteArray) (n : Int) (p : ByteArray) : List ByteArray := if flatWriteE l n p = 0 then l.set n.toNat p else []
def flatResizeE (l : List ByteArray) (g : Int) : Int := if pagesErr l = 0 then (if 0 ≤ g ∧ g ≤ 16 then 0 else 3) else pagesErr l
def flatResizeV (l : List ByteArray) (g : Int) : List ByteArray := if flatResizeE l g = 0 then l.take g.toNat ++ List.replicate (g.toNat - l.length) zeroP else []
theorem pagesErr_many {l : List ByteArray} (h : 16 < l.length) : pagesErr l = 2 := by unfold pagesErr; rw [if_pos h]
theorem pagesErr_bad {l : List ByteArray} (h : l.length ≤ 16) (hp : l.all isPage = false) : pagesErr l = 1 := by unfold pagesErr; rw [if_neg (by omega), hp]; rfl
theorem pagesErr_ok {l : List ByteArray} (h : l.length ≤ 16) (hp : l.all isPage = true) : pagesErr l = 0 := by unfold pagesErr; rw [if_neg (by omega), hp]; rfl
theorem pagesErr_len {l : List ByteArray} (h : pagesErr l = 0) : l.length ≤ 16 ∧ l.all isPage = true := by
  unfold pagesErr at h
  split at h
  · omega
  · split at h
    · exact ⟨by omega, by assumption⟩
    · omega
def samePages (a b : List ByteArray) : Bool := a == b
end Sl
-- PureR: The plain model of reading. No conditions.
namespace Sl
def pageV (l : List Slot) (e : Int) : ByteArray := if 0 < e then ((l[e.toNat]?).map (·.data)).getD noP else zeroP
theorem pageV_no {l : List Slot} {e : Int} (h : e ≤ 0) : pageV l e = zeroP := by unfold pageV; rw [if_neg (by omega)]
theorem pageV_at {l : List Slot} {k : Nat} {s : Slot} (h : l[k]? = some s) (hk : 0 < k) : pageV l (k : Nat) = s.data := by unfold pageV; rw [if_pos (by omega), Int.toNat_natCast, h]; rfl
def allV (l : List Slot) (root : List Int) (g : Nat) : List ByteArray := (List.range g).map (fun n => pageV l (entryOf l root n))
theorem allV_zero (l : List Slot) (root : List Int) : allV l root 0 = [] := rfl
theorem allV_succ (l : List Slot) (root : List Int) (k : Nat) : allV l root (k + 1) = allV l root k ++ [pageV l (entryOf l root k)] := by simp [allV, List.range_succ]
theorem allV_len (l : List Slot) (root : List Int) (g : Nat) : (allV l root g).length = g := by simp [allV]
theorem allV_at (l : List Slot) (root : List Int) {g k : Nat} (h : k < g) : (allV l root g)[k]? = some (pageV l (entryOf l root k)) := by simp [allV, List.getElem?_range h]
def readV (m : Img) (n : Int) : ByteArray := if lookE m n = 0 then pageV m.slots (entryOf m.slots m.root n.toNat) else noP
def allM (m : Img) : List ByteArray := if checkErr m = 0 then allV m.slots m.root m.guest.toNat else []
def named (name : ByteArray) (s : Snap) : Bool := s.name.toList == name.toList
def pastE (m : Img) (name : ByteArray) : Int := if checkErr m = 0 then (if m.snaps.any (named name) then 0 else 5) else checkErr m
def pastV (m : Img) (name : ByteArray) : List ByteArray := if pastE m name = 0 then allV m.slots (snapAt m.snaps (firstAt (named name) m.snaps)).root (snapAt m.snaps (firstAt (named name) m.snaps)).guest.toNat else []
theorem past_no {m : Img} {name : ByteArray} (h : checkErr m ≠ 0) : pastE m name = checkErr m ∧ pastV m name = [] := by
  have : pastE m name = checkErr m := by unfold pastE; rw [if_neg h]
  exact ⟨this, by unfold pastV; rw [this, if_neg h]⟩
theorem past_none {m : Img} {name : ByteArray} (h : checkErr m = 0) (hn : m.snaps.any (named name) = false) : pastE m name = 5 ∧ pastV m name = [] ∧ indexOf (named name) m.snaps = -1 := by
  have : pastE m name = 5 := by unfold pastE; rw [if_pos h, hn]; rfl
  refine ⟨this, by unfold pastV; rw [this, if_neg (by decide)], ?_⟩
  unfold indexOf; rw [if_neg]; intro h2; rw [(firstAt_lt _ _).1 h2] at hn; cases hn
theorem past_ok {m : Img} {name : ByteArray} (h : checkErr m = 0) (hn : m.snaps.any (named name) = true) : ∃ (k : Nat) (s : Snap), k < m.snaps.length ∧ m.snaps[k]? = some s ∧ firstAt (named name) m.snaps = k ∧ indexOf (named name) m.snaps = (k : Nat) ∧ pastE m name = 0 ∧ pastV m name = allV m.slots s.root s.guest.toNat := by
  have hlt := (firstAt_lt (named name) m.snaps).2 hn
  have he : pastE m name = 0 := by unfold pastE; rw [if_pos h, if_pos hn]
  refine ⟨firstAt (named name) m.snaps, m.snaps[firstAt (named name) m.snaps], hlt, List.getElem?_eq_getElem hlt, rfl, ?_, he, ?_⟩
  · unfold indexOf; rw [if_pos hlt]
  · unfold pastV; rw [if_pos he, snapAt_at (List.getElem?_eq_getElem hlt)]
theorem slot_entry {s : Slot} (hsf : slotFine s = true) {e : Int} (hem : e ∈ s.table) : -1 ≤ e ∧ e < 40 := by
  unfold slotFine at hsf
  split at hsf
  · simp only [Bool.and_eq_true, beq_iff_eq] at hsf
    have := List.eq_nil_of_length_eq_zero hsf.2; rw [this] at hem; cases hem
  · split at hsf
    · simp only [Bool.and_eq_true, beq_iff_eq] at hsf
      have := List.eq_nil_of_length_eq_zero hsf.2; rw [this] at hem; cases hem
    · split at hsf
      · simp only [Bool.and_eq_true, beq_iff_eq] at hsf
        have h6 := hsf.1.2
        unfold entriesErr at h6
        split at h6
        · split at h6
          · rename_i h7
            have := List.all_eq_true.1 h7 e hem
            unfold fine at this
            simp only [Bool.and_eq_true, decide_eq_true_eq] at this
            exact this
          · omega
        · omega
      · cases hsf
theorem slot_data {s : Slot} (hsf : slotFine s = true) (hk : s.kind = 1) : s.data.size = 4 := by
  unfold slotFine at hsf
  rw [if_neg (by omega), if_pos hk] at hsf
  simp only [Bool.and_eq_true, beq_iff_eq] at hsf
  exact hsf.1
/-- What a snapshot of a right image is. -/
theorem snap_facts {m : Img} (hm : checkErr m = 0) {k : Nat} {s : Snap} (h : m.snaps[k]? = some s) : 0 ≤ s.guest ∧ s.guest ≤ 16 ∧ rootFine m.slots s.guest s.root = true := by
  obtain ⟨h1, h2, h3, h4, h5⟩ := sh_is (check_is hm).1
  unfold guestsOk at h3; unfold rootsOk at h5
  rw [Bool.and_eq_true] at h3 h5
  have hmem := List.mem_of_getElem? h
  have g := List.all_eq_true.1 h3.2 s hmem
  unfold guestOk at g
  simp only [Bool.and_eq_true, decide_eq_true_eq] at g
  exact ⟨g.1, g.2, List.all_eq_true.1 h5.2 s hmem⟩
theorem own_facts {m : Img} (hm : checkErr m = 0) : 0 ≤ m.guest ∧ m.guest ≤ 16 ∧ rootFine m.slots m.guest m.root = true := by
  obtain ⟨h1, h2, h3, h4, h5⟩ := sh_is (check_is hm).1
  unfold guestsOk at h3; unfold rootsOk at h5
  rw [Bool.and_eq_true] at h3 h5
  have g := h3.1
  unfold guestOk at g
  simp only [Bool.and_eq_true, decide_eq_true_eq] at g
  exact ⟨g.1, g.2, h5.1⟩
/-- What an entry of a right image may be. -/
def PageOk (l : List Slot) (e : Int) : Prop := e ≤ 0 ∨ ∃ k s, e = (k : Nat) ∧ 0 < k ∧ l[k]? = some s ∧ s.data.size = 4
/-- Of a right image a Root's entry is no slot, or a page's. -/
theorem entry_page {m : Img} (hm : checkErr m = 0) (root : List Int) (n : Nat) : -1 ≤ entryOf m.slots root n ∧ (0 < entryOf m.slots root n → ∃ k s, entryOf m.slots root n = (k : Nat) ∧ m.slots[k]? = some s ∧ s.kind = 1) := by
  obtain ⟨h1, h2, h3, h4, h5⟩ := sh_is (check_is hm).1
  unfold entryOf
  split
  · rename_i hp
    unfold tableAt
    cases hs : m.slots[(int root (n / 4)).toNat]? with
    | none => simp [int]
    | some s =>
      simp only [Option.map_some, Option.getD_some]
      cases he : s.table[n % 4]? with
      | none => simp only [int, List.getD_eq_getElem?_getD, he]; simp
      | some e =>
        simp only [int, List.getD_eq_getElem?_getD, he, Option.getD_some]
        have hmem := List.mem_of_getElem? hs
        have hem := List.mem_of_getElem? he
        have hok := List.all_eq_true.1 (List.all_eq_true.1 h4 s hmem) e hem
        have hsf := List.all_eq_true.1 (slots_all h1.slots) s hmem
        refine ⟨?_, fun he0 => ?_⟩
        · exact (slot_entry hsf hem).1
        · unfold entryOk at hok
          rw [decide_eq_false (by omega), Bool.false_or, beq_iff_eq] at hok
          obtain ⟨j, rfl⟩ := Int.eq_ofNat_of_zero_le (a := e) (by omega)
          unfold kindOf at hok
          split at hok
          · rename_i hj
            have hjl : j < m.slots.length := by omega
            rw [Int.toNat_natCast, List.getElem?_eq_getElem hjl] at hok
            exact ⟨j, m.slots[j], rfl, List.getElem?_eq_getElem hjl, hok⟩
          · omega
  · exact ⟨by omega, fun h => by omega⟩
theorem entry_ok {m : Img} (hm : checkErr m = 0) (root : List Int) (n : Nat) : PageOk m.slots (entryOf m.slots root n) := by
  rcases Int.lt_or_le 0 (entryOf m.slots root n) with h | h
  · obtain ⟨k, s, e, hs, hk⟩ := (entry_page hm root n).2 h
    exact .inr ⟨k, s, e, by omega, hs, slot_data (List.all_eq_true.1 (slots_all (sh_is (check_is hm).1).1.slots) s (List.mem_of_getElem? hs)) hk⟩
  · exact .inl h
theorem page_size {m : Img} {e : Int} (h : PageOk m.slots e) : (pageV m.slots e).size = 4 := by
  rcases h with h | ⟨k, s, rfl, hk, hs, hd⟩
  · rw [pageV_no h]; rfl
  · rw [pageV_at hs hk]; exact hd
theorem allV_right {m : Img} (hm : checkErr m = 0) (root : List Int) {g : Nat} (hg : g ≤ 16) : pagesErr (allV m.slots root g) = 0 := by
  refine pagesErr_ok (by rw [allV_len]; exact hg) (List.all_eq_true.2 fun p hp => ?_)
  unfold allV at hp
  obtain ⟨n, _, rfl⟩ := List.mem_map.1 hp
  unfold isPage
  rw [page_size (entry_ok hm root n)]; rfl
end Sl
