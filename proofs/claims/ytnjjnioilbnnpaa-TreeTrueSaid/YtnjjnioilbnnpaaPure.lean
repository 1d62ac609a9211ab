/- The plain model: what the document defines, over lists. Nothing of the program is in sight. No conditions. -/
import Init
namespace Sl

structure Slot where
  kind : Int
  data : ByteArray
  table : List Int

def fine (e : Int) : Bool := decide (-1 ≤ e) && decide (e < 40)
def entriesErr (t : List Int) : Int := if t.length = 4 then (if t.all fine then 0 else 1) else 1
def bare (t : List Int) : Bool := t.all (· == 0)
def slotFine (s : Slot) : Bool :=
  if s.kind = 0 then s.data.size == 0 && s.table.length == 0
  else if s.kind = 1 then s.data.size == 4 && s.table.length == 0
  else if s.kind = 2 then s.data.size == 0 && entriesErr s.table == 0 && !bare s.table
  else false
def kind0 : List Slot → Int
  | [] => 0
  | s :: _ => s.kind
def slotsErr (l : List Slot) : Int :=
  if l.length < 1 ∨ 40 < l.length then 2 else if l.all slotFine then (if kind0 l = 0 then 0 else 1) else 1
/-- The place of the first that meets p; the length, if none does. -/
def firstAt {α : Type} (p : α → Bool) : List α → Nat
  | [] => 0
  | x :: l => if p x then 0 else firstAt p l + 1
theorem firstAt_le {α : Type} (p : α → Bool) (l : List α) : firstAt p l ≤ l.length := by
  induction l with
  | nil => simp [firstAt]
  | cons x l ih => simp only [firstAt, List.length_cons]; split <;> omega
theorem firstAt_hit {α : Type} (p : α → Bool) (l : List α) (k : Nat) (x : α) (hx : l[k]? = some x) (hp : p x = true) (hn : (l.take k).all (fun y => !p y) = true) : firstAt p l = k := by
  induction l generalizing k with
  | nil => simp at hx
  | cons y l ih =>
    cases k with
    | zero => simp at hx; subst hx; simp [firstAt, hp]
    | succ k =>
      simp only [List.take_succ_cons, List.all_cons, Bool.and_eq_true] at hn
      have hy : p y = false := by simpa using hn.1
      simp only [List.getElem?_cons_succ] at hx
      simp [firstAt, hy, ih k hx hn.2]
theorem firstAt_none {α : Type} (p : α → Bool) (l : List α) (hn : l.all (fun y => !p y) = true) : firstAt p l = l.length := by
  induction l with
  | nil => rfl
  | cons y l ih =>
    simp only [List.all_cons, Bool.and_eq_true] at hn
    have hy : p y = false := by simpa using hn.1
    simp [firstAt, hy, ih hn.2]
theorem firstAt_lt {α : Type} (p : α → Bool) (l : List α) : (firstAt p l < l.length) ↔ l.any p = true := by
  induction l with
  | nil => simp [firstAt]
  | cons y l ih =>
    simp only [firstAt, List.any_cons, List.length_cons]
    cases h : p y <;> simp [ih]
/-- What IndexFunc answers. -/
def indexOf {α : Type} (p : α → Bool) (l : List α) : Int := if firstAt p l < l.length then (firstAt p l : Int) else -1
theorem indexOf_hit {α : Type} (p : α → Bool) (l : List α) (k : Nat) (x : α) (hx : l[k]? = some x) (hp : p x = true) (hn : (l.take k).all (fun y => !p y) = true) : indexOf p l = k := by
  have h := firstAt_hit p l k x hx hp hn
  have hk : k < l.length := (List.getElem?_eq_some_iff.1 hx).1
  unfold indexOf; rw [h, if_pos hk]
theorem indexOf_none {α : Type} (p : α → Bool) (l : List α) (hn : l.all (fun y => !p y) = true) : indexOf p l = -1 := by
  unfold indexOf; rw [firstAt_none p l hn, if_neg (by omega)]
theorem indexOf_any {α : Type} (p : α → Bool) (l : List α) : decide (0 ≤ indexOf p l) = l.any p := by
  unfold indexOf
  by_cases h : firstAt p l < l.length
  · rw [if_pos h, (firstAt_lt p l).1 h]; simp
  · rw [if_neg h]
    have : l.any p = false := by
      cases ha : l.any p
      · rfl
      · exact absurd ((firstAt_lt p l).2 ha) h
    rw [this]; rfl

/-- The place of the first free slot of a list. -/
def freeAt (l : List Slot) : Nat := firstAt (fun s => s.kind == 0) l
def grab (l : List Slot) : Nat :=
  if freeAt (l.drop 1) < (l.drop 1).length then freeAt (l.drop 1) + 1 else if l.length < 40 then l.length else 0
def used : List Slot → Nat
  | [] => 0
  | s :: l => (if s.kind = 0 then 0 else 1) + used l

def grabN (l : List Slot) : Int := if slotsErr l = 0 then (grab l : Int) else 0
def grabE (l : List Slot) : Int := if slotsErr l = 0 then (if grab l = 0 then 7 else 0) else slotsErr l
def usedN (l : List Slot) : Int := if slotsErr l = 0 then (used l : Int) else 0

theorem used_take_succ (l : List Slot) (k : Nat) (s : Slot) (h : l[k]? = some s) : used (l.take (k + 1)) = used (l.take k) + (if s.kind = 0 then 0 else 1) := by
  induction l generalizing k with
  | nil => simp at h
  | cons a l ih =>
    cases k with
    | zero => simp at h; subst h; simp [used]
    | succ k => simp only [List.take_succ_cons, used]; rw [ih k (by simpa using h)]; omega
theorem used_le (l : List Slot) : used l ≤ l.length := by
  induction l with
  | nil => simp [used]
  | cons a l ih => simp only [used, List.length_cons]; split <;> omega
end Sl
