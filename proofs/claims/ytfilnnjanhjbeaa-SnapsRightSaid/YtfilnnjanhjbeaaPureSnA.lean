/- Snapshots: names in order, and the place of a name. No conditions. -/
import Derived.Test.YtfilnnjanhjbeaaPureL
namespace Go.Proofs.Ytfilnnjanhjbeaa
open Sl
theorem lexLt_irr : ∀ s : List UInt8, lexLt s s = false
  | [] => rfl
  | a :: s => by simp [lexLt, lexLt_irr s]
theorem lexLt_trans : ∀ a b c : List UInt8, lexLt a b = true → lexLt b c = true → lexLt a c = true
  | [], [], _, h, _ => by simp [lexLt] at h
  | [], _ :: _, [], _, h => by simp [lexLt] at h
  | [], _ :: _, _ :: _, _, _ => rfl
  | _ :: _, [], _, h, _ => by simp [lexLt] at h
  | _ :: _, _ :: _, [], _, h => by simp [lexLt] at h
  | x :: a, y :: b, z :: c, h, h' => by
    simp only [lexLt, Bool.or_eq_true, decide_eq_true_eq, Bool.and_eq_true, beq_iff_eq] at h h' ⊢
    rcases h with h | ⟨rfl, h⟩
    · rcases h' with h' | ⟨rfl, h'⟩
      · exact .inl (by omega)
      · exact .inl h
    · rcases h' with h' | ⟨rfl, h'⟩
      · exact .inl h'
      · exact .inr ⟨rfl, lexLt_trans a b c h h'⟩
/-- The names of a list stand in order. -/
def Sorted (l : List Snap) : Prop := l.Pairwise (fun a b => strLt a.name b.name = true)
theorem names_iff {l : List Snap} : namesOk l = true ↔ (∀ s ∈ l, isName s.name = true) ∧ Sorted l := by
  unfold namesOk
  rw [upto_iff]
  constructor
  · intro h
    refine ⟨fun s hs => ?_, ?_⟩
    · obtain ⟨k, hk, rfl⟩ := List.mem_iff_getElem.1 hs
      have h1 := h k hk
      unfold nameAt at h1
      rw [snapAt_at (List.getElem?_eq_getElem hk), Bool.and_eq_true] at h1
      exact h1.1
    · have key : ∀ d i, i + d + 1 < l.length → strLt (snapAt l i).name (snapAt l (i + d + 1)).name = true := by
        intro d
        induction d with
        | zero =>
          intro i hi
          have h1 := h (i + 1) (by omega)
          unfold nameAt at h1
          rw [Bool.and_eq_true, Bool.or_eq_true] at h1
          rcases h1.2 with h2 | h2
          · simp at h2
          · exact h2
        | succ d ih =>
          intro i hi
          have h1 := h (i + (d + 1) + 1) (by omega)
          unfold nameAt at h1
          rw [Bool.and_eq_true, Bool.or_eq_true] at h1
          rcases h1.2 with h2 | h2
          · simp at h2
          · rw [show i + (d + 1) + 1 - 1 = i + d + 1 from by omega] at h2
            exact lexLt_trans _ _ _ (ih i (by omega)) h2
      unfold Sorted
      rw [List.pairwise_iff_getElem]
      intro i j hi hj hij
      have h1 := key (j - i - 1) i (by omega)
      rw [show i + (j - i - 1) + 1 = j from by omega, snapAt_at (List.getElem?_eq_getElem hi), snapAt_at (List.getElem?_eq_getElem hj)] at h1
      exact h1
  · rintro ⟨h1, h2⟩ k hk
    unfold nameAt
    rw [Bool.and_eq_true, Bool.or_eq_true, snapAt_at (List.getElem?_eq_getElem hk)]
    refine ⟨h1 _ (List.getElem_mem hk), ?_⟩
    rcases Nat.eq_zero_or_pos k with h0 | h0
    · exact .inl (by subst h0; rfl)
    · refine .inr ?_
      rw [snapAt_at (List.getElem?_eq_getElem (show k - 1 < l.length by omega))]
      exact List.pairwise_iff_getElem.1 h2 (k - 1) k (by omega) hk (by omega)
/-- Where a name stands, or is to stand. -/
def insK (l : List Snap) (name : ByteArray) : Nat := firstAt (fun s => !strLt s.name name) l
def putS (l : List Snap) (x : Snap) : List Snap := l.take (insK l x.name) ++ x :: l.drop (insK l x.name)
theorem insK_le (l : List Snap) (name : ByteArray) : insK l name ≤ l.length := firstAt_le _ _
theorem ins_before {l : List Snap} {name : ByteArray} {j : Nat} {s : Snap} (hj : j < insK l name) (hs : l[j]? = some s) : strLt s.name name = true := by
  have := firstAt_before _ l j s hj hs
  simpa using this
theorem ins_after {l : List Snap} {name : ByteArray} (S : Sorted l) {j : Nat} {s : Snap} (hj : insK l name ≤ j) (hs : l[j]? = some s) : strLt s.name name = false := by
  have hjl := (List.getElem?_eq_some_iff.1 hs).1
  have hk : insK l name < l.length := by omega
  have h0 : strLt l[insK l name].name name = false := by
    have := firstAt_at (fun s : Snap => !strLt s.name name) l l[insK l name] (List.getElem?_eq_getElem hk)
    simpa using this
  rcases Nat.lt_or_ge (insK l name) j with h | h
  · have h1 := List.pairwise_iff_getElem.1 S (insK l name) j hk hjl h
    rw [List.getElem?_eq_getElem hjl] at hs
    injection hs with hs
    rw [hs] at h1
    cases h2 : strLt s.name name
    · rfl
    · rw [show strLt l[insK l name].name name = true from lexLt_trans _ _ _ h1 h2] at h0; cases h0
  · have e : insK l name = j := by omega
    rw [← e, List.getElem?_eq_getElem hk] at hs
    injection hs with hs
    rw [← hs]; exact h0
theorem named_iff {name : ByteArray} {s : Snap} : named name s = true ↔ s.name.toList = name.toList := by unfold named; exact beq_iff_eq
theorem named_lt {name : ByteArray} {s : Snap} (h : named name s = true) : strLt s.name name = false := by
  unfold strLt; rw [named_iff.1 h]; exact lexLt_irr _
/-- Two that stand in an ordered list by the same name are one. -/
theorem sorted_at {l : List Snap} {name : ByteArray} (S : Sorted l) {j : Nat} {s : Snap} (hs : l[j]? = some s) (hn : named name s = true) : insK l name = j := by
  have hjl := (List.getElem?_eq_some_iff.1 hs).1
  rcases Nat.lt_or_ge j (insK l name) with h | h
  · have := ins_before h hs
    rw [named_lt hn] at this; cases this
  · rcases Nat.lt_or_ge (insK l name) j with h2 | h2
    · have hk : insK l name < l.length := by omega
      have h1 := List.pairwise_iff_getElem.1 S (insK l name) j hk hjl h2
      rw [List.getElem?_eq_getElem hjl] at hs
      injection hs with hs
      rw [hs] at h1
      have h3 := ins_after S (Nat.le_refl _) (List.getElem?_eq_getElem hk) (name := name)
      unfold strLt at h1 h3
      rw [named_iff.1 hn] at h1
      rw [h1] at h3; cases h3
    · omega
theorem find_at {l : List Snap} {name : ByteArray} (S : Sorted l) {j : Nat} {s : Snap} (hs : l[j]? = some s) (hn : named name s = true) : firstAt (named name) l = j ∧ insK l name = j := by
  have e := sorted_at S hs hn
  refine ⟨firstAt_hit _ _ j s hs hn (List.all_eq_true.2 fun t ht => ?_), e⟩
  obtain ⟨i, hi, rfl⟩ := List.mem_iff_getElem.1 ht
  rw [List.length_take] at hi
  have h1 : l[i]? = some (l.take j)[i] := by rw [← List.getElem?_eq_getElem, List.getElem?_take_of_lt (by omega)]
  cases hh : named name (l.take j)[i]
  · rfl
  · have := sorted_at S h1 hh; have := hi; omega
theorem find_any {l : List Snap} {name : ByteArray} (S : Sorted l) : l.any (named name) = true ↔ ∃ s, l[insK l name]? = some s ∧ named name s = true := by
  rw [List.any_eq_true]
  constructor
  · rintro ⟨s, hs, hn⟩
    obtain ⟨j, hj, rfl⟩ := List.mem_iff_getElem.1 hs
    have hx := List.getElem?_eq_getElem hj
    exact ⟨_, by rw [sorted_at S hx hn]; exact hx, hn⟩
  · rintro ⟨s, hs, hn⟩; exact ⟨s, List.mem_of_getElem? hs, hn⟩
theorem put_mem {l : List Snap} {x s : Snap} : s ∈ putS l x ↔ s = x ∨ s ∈ l := by
  unfold putS
  rw [List.mem_append, List.mem_cons]
  constructor
  · rintro (h | h | h)
    · exact .inr (List.mem_of_mem_take h)
    · exact .inl h
    · exact .inr (List.mem_of_mem_drop h)
  · rintro (h | h)
    · exact .inr (.inl h)
    · rw [← List.take_append_drop (insK l x.name) l, List.mem_append] at h
      exact h.imp id .inr
theorem put_len1 (l : List Snap) (x : Snap) : (putS l x).length = l.length + 1 := by
  unfold putS; rw [List.length_append, List.length_cons, List.length_take, List.length_drop]; have := insK_le l x.name; omega
theorem sorted_put {l : List Snap} {x : Snap} (S : Sorted l) (hn : l.any (named x.name) = false) : Sorted (putS l x) := by
  have hlt : ∀ s ∈ l.take (insK l x.name), strLt s.name x.name = true := fun s hs => by
    obtain ⟨i, hi, rfl⟩ := List.mem_iff_getElem.1 hs
    rw [List.length_take] at hi
    have h1 : l[i]? = some (l.take (insK l x.name))[i] := by rw [← List.getElem?_eq_getElem, List.getElem?_take_of_lt (by omega)]
    exact ins_before (by omega) h1
  have hgt : ∀ s ∈ l.drop (insK l x.name), strLt x.name s.name = true := fun s hs => by
    obtain ⟨i, hi, rfl⟩ := List.mem_iff_getElem.1 hs
    have h0 : l[insK l x.name + i]? = some (l.drop (insK l x.name))[i] := by rw [← List.getElem?_eq_getElem, List.getElem?_drop]
    have h1 := ins_after S (name := x.name) (by omega) h0
    have h2 : named x.name (l.drop (insK l x.name))[i] = false := by
      cases hh : named x.name (l.drop (insK l x.name))[i]
      · rfl
      · exact absurd (List.any_eq_true.2 ⟨_, List.mem_of_mem_drop hs, hh⟩) (by rw [hn]; decide)
    have h3 := lexLt_total (l.drop (insK l x.name))[i].name.toList x.name.toList
    unfold strLt at h1 ⊢
    unfold named at h2
    rw [h1, h2] at h3
    simpa using h3.symm
  unfold Sorted putS
  rw [List.pairwise_append, List.pairwise_cons]
  refine ⟨List.Pairwise.sublist (List.take_sublist _ _) S, ⟨hgt, List.Pairwise.sublist (List.drop_sublist _ _) S⟩, fun a ha b hb => ?_⟩
  rcases List.mem_cons.1 hb with rfl | hb
  · exact hlt a ha
  · exact lexLt_trans _ _ _ (hlt a ha) (hgt b hb)
end Go.Proofs.Ytfilnnjanhjbeaa
