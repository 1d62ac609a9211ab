/- The plain model of Up and Down. No conditions. -/
import Derived.Test.YtmdjoafbckphfaaStkP
namespace Go.Proofs.Ytmdjoafbckphfaa
open Sl
def upStep (x : Img) (k : Nat) (p : ByteArray) : Img := if p = zeroP then x else writeI x k p
def upTo (l : List ByteArray) : Nat → Img
  | 0 => freshI l.length
  | k + 1 => upStep (upTo l k) k (l.getD k noP)
def upI (l : List ByteArray) : Img := if pagesErr l = 0 then upTo l l.length else noImg
def downE (m : Img) : Int := if checkErr m = 0 then (if m.snaps.length = 0 then 0 else 8) else checkErr m
def downV (m : Img) : List ByteArray := if downE m = 0 then allM m else []
/-- What is right of the image behind k pages. -/
structure UpAt (l : List ByteArray) (k : Nat) (x : Img) : Prop where
  right : checkErr x = 0
  guest : x.guest = (l.length : Nat)
  snaps : x.snaps = []
  slots : x.slots.length ≤ 1 + 2 * k
  done : ∀ i, i < k → pageAt x x.root i = l.getD i noP
  rest : ∀ i, k ≤ i → pageAt x x.root i = zeroP
theorem write_room {x : Img} {k : Nat} {p : ByteArray} (h : checkErr x = 0) (hk : (k : Int) < x.guest) (hp : p.size = 4) (hs : x.slots.length ≤ 37) : writeE x (k : Nat) p = 0 := by
  have hl := look_same h hk
  unfold writeE
  rw [if_pos hl, if_pos hp, Int.toNat_natCast]
  cases hw : writeM x k p with
  | some y => rfl
  | none =>
    have h1 := write_none38 (sound_of (check_is h).1) hw
    have h2 := used_le x.slots
    omega
theorem page_of {l : List ByteArray} (h : pagesErr l = 0) {k : Nat} (hk : k < l.length) : (l.getD k noP).size = 4 := by
  rw [List.getD_eq_getElem?_getD, List.getElem?_eq_getElem hk]
  have := List.all_eq_true.1 (pagesErr_len h).2 _ (List.getElem_mem hk)
  unfold isPage at this
  simpa using this
theorem up_at {l : List ByteArray} (h : pagesErr l = 0) : ∀ k, k ≤ l.length → UpAt l k (upTo l k) := by
  have l16 := (pagesErr_len h).1
  intro k
  induction k with
  | zero =>
    intro _
    have fr := fresh_right (g := (l.length : Nat)) (by omega) (by omega)
    exact ⟨fr, rfl, rfl, Nat.le_refl _, fun i hi => absurd hi (by omega), fun i _ => by unfold pageAt; rw [show upTo l 0 = freshI (l.length : Nat) from rfl, fresh_entry]; rfl⟩
  | succ k ih =>
    intro hk
    have I := ih (by omega)
    have e : upTo l (k + 1) = upStep (upTo l k) k (l.getD k noP) := rfl
    rw [e]
    generalize upTo l k = x at I ⊢
    have hp := page_of h (show k < l.length by omega)
    unfold upStep
    split
    · rename_i hz
      refine ⟨I.right, I.guest, I.snaps, by have := I.slots; omega, fun i hi => ?_, fun i hi => I.rest i (by omega)⟩
      by_cases hik : i = k
      · subst hik; rw [I.rest i (Nat.le_refl _), hz]
      · exact I.done i (by omega)
    · have hw := write_room I.right (k := k) (by rw [I.guest]; omega) hp (by have := I.slots; omega)
      obtain ⟨k', y, ek, _, _, _, _, e1, o, _, _, len⟩ := writes_ok hw
      obtain rfl : k = k' := by omega
      rw [e1]
      refine ⟨o.right, o.guest.trans I.guest, o.snaps.trans I.snaps, by have := I.slots; omega, fun i hi => ?_, fun i hi => ?_⟩
      · by_cases hik : i = k
        · subst hik; exact o.new
        · rw [o.else_ i hik]; exact I.done i (by omega)
      · rw [o.else_ i (by omega)]; exact I.rest i (by omega)
theorem up_step {l : List ByteArray} (h : pagesErr l = 0) {k : Nat} (hk : k < l.length) : writeE (upTo l k) (k : Nat) (l.getD k noP) = 0 := by
  have I := up_at h k (by omega)
  have l16 := (pagesErr_len h).1
  exact write_room I.right (by rw [I.guest]; omega) (page_of h hk) (by have := I.slots; omega)
theorem up_down {l : List ByteArray} (h : pagesErr l = 0) : checkErr (upI l) = 0 ∧ downE (upI l) = 0 ∧ downV (upI l) = l := by
  have e : upI l = upTo l l.length := by unfold upI; rw [if_pos h]
  rw [e]
  have I := up_at h l.length (Nat.le_refl _)
  generalize upTo l l.length = x at I ⊢
  have d : downE x = 0 := by unfold downE; rw [if_pos I.right, I.snaps]; rfl
  refine ⟨I.right, d, ?_⟩
  unfold downV
  rw [if_pos d, allM_is I.right, I.guest, Int.toNat_natCast]
  apply List.ext_getElem?
  intro i
  rw [List.getElem?_map]
  by_cases hi : i < l.length
  · rw [List.getElem?_range hi, Option.map_some, I.done i hi, List.getD_eq_getElem?_getD, List.getElem?_eq_getElem hi]; rfl
  · rw [List.getElem?_eq_none (by simp; omega), List.getElem?_eq_none (by omega)]; rfl
theorem up_no {l : List ByteArray} (h : pagesErr l ≠ 0) : upI l = noImg := by unfold upI; rw [if_neg h]
theorem up_ok {l : List ByteArray} (h : pagesErr l = 0) : upI l = upTo l l.length := by unfold upI; rw [if_pos h]
theorem up_nil : upI [] = freshI 0 := rfl
end Go.Proofs.Ytmdjoafbckphfaa
