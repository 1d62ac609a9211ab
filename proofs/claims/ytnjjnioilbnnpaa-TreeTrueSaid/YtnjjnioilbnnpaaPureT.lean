/- The plain model of images: shape, counts, looks. Nothing of the program is in sight. No conditions. -/
import Derived.Test.YtnjjnioilbnnpaaPure
namespace Sl

structure Snap where
  name : ByteArray
  guest : Int
  root : List Int
structure Img where
  guest : Int
  root : List Int
  slots : List Slot
  refs : List Int
  snaps : List Snap

def letter (c : UInt8) : Bool := decide (97 ≤ c.toNat) && decide (c.toNat ≤ 122)
def isName (s : ByteArray) : Bool := decide (1 ≤ s.size) && decide (s.size ≤ 8) && s.toList.all letter
def wants (g : Int) : Int := (g + 3) / 4
def kindOf (l : List Slot) (n : Int) : Int := if 1 ≤ n ∧ n < l.length then ((l[n.toNat]?).map (·.kind)).getD 0 else -1
def tableAt (l : List Slot) (n : Int) : List Int := ((l[n.toNat]?).map (·.table)).getD []
/-- All k below n meet p. -/
def upto (p : Nat → Bool) (n : Nat) : Bool := (List.range n).all p
theorem upto_succ (p : Nat → Bool) (n : Nat) : upto p (n + 1) = (upto p n && p n) := by simp [upto, List.range_succ]
theorem upto_zero (p : Nat → Bool) : upto p 0 = true := rfl
theorem upto_false {p : Nat → Bool} {n k : Nat} (hk : k < n) (hp : p k = false) : upto p n = false := by
  unfold upto; rw [List.all_eq_false]; exact ⟨k, List.mem_range.2 hk, by simp [hp]⟩
theorem upto_iff {p : Nat → Bool} {n : Nat} : upto p n = true ↔ ∀ k, k < n → p k = true := by
  unfold upto; rw [List.all_eq_true]; exact ⟨fun h k hk => h k (List.mem_range.2 hk), fun h k hk => h k (List.mem_range.1 hk)⟩
theorem upto_congr {p q : Nat → Bool} {n : Nat} (h : ∀ k, k < n → p k = q k) : upto p n = upto q n := by
  rw [Bool.eq_iff_iff, upto_iff, upto_iff]
  exact ⟨fun g k hk => by rw [← h k hk]; exact g k hk, fun g k hk => by rw [h k hk]; exact g k hk⟩

def int (l : List Int) (k : Nat) : Int := l.getD k 0
/-- Entry k of a Root. -/
def rootAt (l : List Slot) (guest : Int) (root : List Int) (k : Nat) : Bool :=
  int root k == 0 || (kindOf l (int root k) == 2 && upto (fun i => decide (4 * (k : Int) + i < guest) || int (tableAt l (int root k)) i == 0) 4)
def rootFine (l : List Slot) (guest : Int) (root : List Int) : Bool := decide ((root.length : Int) = wants guest) && upto (rootAt l guest root) root.length
def guestOk (g : Int) : Bool := decide (0 ≤ g) && decide (g ≤ 16)
def snapAt (l : List Snap) (k : Nat) : Snap := l.getD k ⟨ByteArray.empty, 0, []⟩
/-- s < t, as Go holds strings. -/
def lexLt : List UInt8 → List UInt8 → Bool
  | [], [] => false
  | [], _ :: _ => true
  | _ :: _, [] => false
  | a :: s, b :: t => decide (a.toNat < b.toNat) || (a == b && lexLt s t)
def strLt (s t : ByteArray) : Bool := lexLt s.toList t.toList
theorem lexLt_total (s t : List UInt8) : (lexLt s t || s == t) = !lexLt t s := by
  induction s generalizing t with
  | nil => cases t <;> simp [lexLt]
  | cons a s ih =>
    cases t with
    | nil => simp [lexLt]
    | cons b t =>
      simp only [lexLt]
      by_cases h : a = b
      · subst h
        have := ih t
        simp only [Nat.lt_irrefl, decide_false, Bool.false_or, BEq.rfl, Bool.true_and, List.cons_beq_cons]
        exact this
      · have hn : a.toNat ≠ b.toNat := fun e => h (UInt8.toNat_inj.1 e)
        have h1 : (a == b) = false := by simpa using h
        have h2 : (b == a) = false := by simpa using fun e => h e.symm
        simp only [h1, h2, Bool.false_and, Bool.or_false, List.cons_beq_cons]
        rcases Nat.lt_or_ge a.toNat b.toNat with h3 | h3
        · rw [decide_eq_true h3, decide_eq_false (by omega : ¬ b.toNat < a.toNat)]; rfl
        · rw [decide_eq_false (by omega : ¬ a.toNat < b.toNat), decide_eq_true (by omega : b.toNat < a.toNat)]; rfl
def nameAt (l : List Snap) (k : Nat) : Bool := isName (snapAt l k).name && (k == 0 || strLt (snapAt l (k - 1)).name (snapAt l k).name)
def namesOk (l : List Snap) : Bool := upto (nameAt l) l.length
def entryOk (l : List Slot) (e : Int) : Bool := decide (e ≤ 0) || kindOf l e == 1
def tablesOk (l : List Slot) : Bool := l.all (fun s => s.table.all (entryOk l))
def guestsOk (m : Img) : Bool := guestOk m.guest && m.snaps.all (fun s => guestOk s.guest)
def rootsOk (m : Img) : Bool := rootFine m.slots m.guest m.root && m.snaps.all (fun s => rootFine m.slots s.guest s.root)
def sizesOk (m : Img) : Bool := decide (1 ≤ m.slots.length) && decide (m.slots.length ≤ 40) && decide (m.snaps.length ≤ 3)
def shapeErr (m : Img) : Int :=
  if sizesOk m = false then 2
  else if slotsErr m.slots ≠ 0 ∨ m.refs.length ≠ m.slots.length then 1
  else if namesOk m.snaps = false then 1
  else if guestsOk m = false then 3
  else if tablesOk m.slots = false then 1
  else if rootsOk m = false then 1 else 0

/-- How often a number stands in a list. -/
def told (l : List Int) (n : Int) : Nat := l.countP (· == n)
def rootsOf (m : Img) : List (List Int) := m.root :: m.snaps.map (·.root)
def sumOf : List Nat → Nat
  | [] => 0
  | x :: l => x + sumOf l
def toldAll (ls : List (List Int)) (n : Int) : Nat := sumOf (ls.map (told · n))
def kindN (l : List Slot) (k : Nat) : Int := ((l[k]?).map (·.kind)).getD 0
def tableN (l : List Slot) (k : Nat) : List Int := ((l[k]?).map (·.table)).getD []
/-- How often a page is told by tables that Roots tell. -/
def toldBy (l : List Slot) (ls : List (List Int)) (n : Nat) (k : Nat) : Nat := if kindN l k = 2 ∧ 0 < toldAll ls k then told (tableN l k) n else 0
def countAt (l : List Slot) (ls : List (List Int)) (n : Nat) : Nat :=
  if n = 0 then 0 else toldAll ls n + (if kindN l n = 1 then sumOf ((List.range (l.length - 1)).map (fun k => toldBy l ls n (k + 1))) else 0)
def countsOf (m : Img) : List Int := (List.range m.slots.length).map (fun n => (countAt m.slots (rootsOf m) n : Int))
def refAt (m : Img) (n : Nat) : Bool := int m.refs n == int (countsOf m) n && ((int (countsOf m) n == 0) == (kindN m.slots n == 0))
def checkErr (m : Img) : Int := if shapeErr m ≠ 0 then shapeErr m else if upto (refAt m) m.slots.length then 0 else 9

def entryOf (l : List Slot) (root : List Int) (n : Nat) : Int := if 0 < int root (n / 4) then int (tableAt l (int root (n / 4))) (n % 4) else 0
def lookE (m : Img) (n : Int) : Int := if checkErr m ≠ 0 then checkErr m else if 0 ≤ n ∧ n < m.guest then 0 else 3
def lookN (m : Img) (n : Int) : Int := if lookE m n = 0 then entryOf m.slots m.root n.toNat else 0
end Sl
