/- The plain model of Split, Join and Patch. No conditions. -/
import Derived.Test.YtbhhcjnjddcocaaPureA
namespace Sl
def toL (s : ByteArray) : List UInt8 := s.data.toList
def ofL (l : List UInt8) : ByteArray := ⟨l.toArray⟩
theorem toL_ofL (l : List UInt8) : toL (ofL l) = l := by simp [toL, ofL]
theorem ofL_toL (s : ByteArray) : ofL (toL s) = s := by simp [toL, ofL]
theorem toL_len (s : ByteArray) : (toL s).length = s.size := by simp [toL]
theorem toL_eq {s t : ByteArray} (h : toL s = toL t) : s = t := by rw [← ofL_toL s, h, ofL_toL]
def splitL : Nat → List UInt8 → List (List UInt8)
  | 0, _ => []
  | f + 1, l => if 4 < l.length then l.take 4 :: splitL f (l.drop 4) else if l = [] then [] else [l ++ List.replicate (4 - l.length) 0]
def splitE (s : ByteArray) : Int := if 64 < s.size then 2 else 0
def splitV (s : ByteArray) : List ByteArray := if 64 < s.size then [] else (splitL 17 (toL s)).map ofL
def joinV (l : List ByteArray) : ByteArray := if pagesErr l = 0 then ofL (l.map toL).flatten else noP
def patchE (p : ByteArray) (at_ : Int) (s : ByteArray) : Int := if p.size = 4 then (if 0 ≤ at_ ∧ at_ ≤ 4 ∧ (s.size : Int) ≤ 4 - at_ then 0 else 3) else 1
def patchV (p : ByteArray) (at_ : Int) (s : ByteArray) : ByteArray := if patchE p at_ s = 0 then ofL ((toL p).take at_.toNat ++ toL s ++ (toL p).drop (at_.toNat + s.size)) else noP

theorem splitL_step {f : Nat} {l : List UInt8} (h : 4 < l.length) : splitL (f + 1) l = l.take 4 :: splitL f (l.drop 4) := by rw [splitL, if_pos h]
theorem splitL_nil {f : Nat} : splitL f [] = [] := by cases f <;> simp [splitL]
theorem splitL_last {f : Nat} {l : List UInt8} (h : l.length ≤ 4) (h0 : l ≠ []) : splitL (f + 1) l = [l ++ List.replicate (4 - l.length) 0] := by rw [splitL, if_neg (by omega), if_neg h0]

/-- The bytes with as many 0 behind as the last page wants. -/
def padL (l : List UInt8) : List UInt8 := l ++ List.replicate ((4 - l.length % 4) % 4) 0
def chunk (l : List UInt8) (i : Nat) : List UInt8 := (l.drop (4 * i)).take 4
theorem padL_len (l : List UInt8) : (padL l).length % 4 = 0 ∧ (padL l).length = l.length + (4 - l.length % 4) % 4 := by
  unfold padL; rw [List.length_append, List.length_replicate]; omega
theorem splitL_chunks (f : Nat) : ∀ l : List UInt8, l.length ≤ 4 * f → splitL f l = (List.range ((padL l).length / 4)).map (chunk (padL l)) := by
  induction f with
  | zero => intro l h; have : l = [] := List.eq_nil_of_length_eq_zero (by omega); subst this; rfl
  | succ f ih =>
    intro l h
    have hp := padL_len l
    by_cases h4 : 4 < l.length
    · rw [splitL_step h4, ih (l.drop 4) (by rw [List.length_drop]; omega)]
      have hd : padL (l.drop 4) = (padL l).drop 4 := by
        unfold padL
        rw [List.drop_append_of_le_length (by omega), List.length_drop]
        congr 2
        omega
      have hl : (padL l).length / 4 = ((padL l).drop 4).length / 4 + 1 := by rw [List.length_drop]; omega
      rw [hd, hl, List.range_succ_eq_map, List.map_cons, List.map_map]
      congr 1
      · unfold chunk padL
        rw [Nat.mul_zero, List.drop_zero, List.take_append_of_le_length (by omega)]
      · apply List.map_congr_left
        intro i _
        simp only [chunk, Function.comp_apply, List.drop_drop, Nat.succ_eq_add_one]
        congr 2
        omega
    · by_cases h0 : l = []
      · subst h0; rw [splitL_nil]; rfl
      · have hpos : 0 < l.length := List.length_pos_iff.2 h0
        rw [splitL_last (by omega) h0]
        have e : (4 - l.length % 4) % 4 = 4 - l.length := by
          rcases Nat.lt_or_ge l.length 4 with h | h
          · rw [Nat.mod_eq_of_lt h]; omega
          · have : l.length = 4 := by omega
            rw [this]
        have hl : (padL l).length = 4 := by omega
        rw [hl]
        show _ = [chunk (padL l) 0]
        unfold chunk
        rw [Nat.mul_zero, List.drop_zero, List.take_of_length_le (by omega)]
        unfold padL
        rw [e]
end Sl
