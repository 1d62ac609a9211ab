/- Texts of the proof of restImages_holds: PureL, PureSnA. Conditions: as each text says. -/
import Derived.Test.YtfilnnjanhjbeaaGreatRI14
import Derived.Test.YtfilnnjanhjbeaaGreatRI5
namespace Go.Proofs.YtfilnnjanhjbeaaGreat
open Sl
theorem slotsErr_kind0 {l : List Slot} (h : slotsErr l = 0) : kind0 l = 0 := by
  unfold slotsErr at h
  split at h
  · omega
  · split at h
    · split at h
      · assumption
      · omega
    · omega
theorem firstAt_full {α : Type} (p : α → Bool) (l : List α) (h : ¬ firstAt p l < l.length) : l.all (fun y => !p y) = true := by
  have : l.any p = false := by
    cases ha : l.any p
    · rfl
    · exact absurd ((firstAt_lt p l).2 ha) h
  rw [List.all_eq_true]; intro x hx
  have := List.any_eq_false.1 this x hx
  simpa using this
theorem firstAt_before {α : Type} (p : α → Bool) (l : List α) (j : Nat) (x : α) (hj : j < firstAt p l) (hx : l[j]? = some x) : p x = false := by
  induction l generalizing j with
  | nil => simp at hx
  | cons a l ih =>
    simp only [firstAt] at hj
    split at hj
    · omega
    · rename_i ha
      cases j with
      | zero => simp at hx; subst hx; simpa using ha
      | succ j => exact ih j (by omega) (by simpa using hx)
theorem firstAt_at {α : Type} (p : α → Bool) (l : List α) (x : α) (hx : l[firstAt p l]? = some x) : p x = true := by
  induction l with
  | nil => simp at hx
  | cons a l ih =>
    simp only [firstAt] at hx
    split at hx
    · rename_i ha; simp at hx; subst hx; exact ha
    · exact ih (by simpa using hx)
theorem grab_is {l : List Slot} (h : slotsErr l = 0) (hg : grab l ≠ 0) : 1 ≤ grab l ∧ grab l ≤ l.length ∧ (∀ s, l[grab l]? = some s → s.kind = 0) ∧ (∀ j s, 1 ≤ j → j < grab l → l[j]? = some s → s.kind ≠ 0) := by
  obtain ⟨h1, h2⟩ := slotsErr_len h
  unfold grab at hg ⊢
  split
  · rename_i hn
    rw [List.length_drop] at hn
    refine ⟨by omega, by omega, fun s hs => ?_, fun j s hj1 hj2 hs => ?_⟩
    · have := firstAt_at (fun s : Slot => s.kind == 0) (l.drop 1) s (by rw [List.getElem?_drop, Nat.add_comm]; exact hs)
      simpa using this
    · have := firstAt_before (fun s : Slot => s.kind == 0) (l.drop 1) (j - 1) s (by unfold freeAt at hj2; omega) (by rw [List.getElem?_drop, show 1 + (j - 1) = j from by omega]; exact hs)
      simpa using this
  · rename_i hn
    rw [if_neg hn] at hg
    split
    · refine ⟨by omega, by omega, fun s hs => ?_, fun j s hj1 hj2 hs => ?_⟩
      · rw [List.getElem?_eq_none (by omega)] at hs; cases hs
      · have ha := firstAt_full _ _ hn
        have := List.all_eq_true.1 ha s (List.mem_of_getElem? (i := j - 1) (by rw [List.getElem?_drop, show 1 + (j - 1) = j from by omega]; exact hs))
        simpa using this
    · rename_i h40; rw [if_neg h40] at hg; exact absurd rfl hg
section
variable {l : List Slot} {s x : Slot} {g j : Nat}
theorem laid_len' : (laid l g s).length = if g = l.length then l.length + 1 else l.length := by unfold laid; split <;> simp
theorem laid_new (hg : g ≤ l.length) : (laid l g s)[g]? = some s := by
  unfold laid
  split
  · rename_i e; rw [e, List.getElem?_append_right (Nat.le_refl _), Nat.sub_self]; rfl
  · rw [List.getElem?_set_self (by omega)]
theorem laid_old (hj : j < l.length) (hn : j ≠ g) : (laid l g s)[j]? = l[j]? := by
  unfold laid
  split
  · rw [List.getElem?_append_left hj]
  · rw [List.getElem?_set_ne (by omega)]
theorem laid_past (hj : l.length ≤ j) (hn : j ≠ g) : (laid l g s)[j]? = none := by
  rw [List.getElem?_eq_none]
  rw [laid_len']; split <;> omega
theorem laid_mem {y : Slot} (h : y ∈ laid l g s) : y ∈ l ∨ y = s := by
  unfold laid at h
  split at h
  · rcases List.mem_append.1 h with h | h
    · exact .inl h
    · exact .inr (by simpa using h)
  · exact List.mem_or_eq_of_mem_set h
theorem laid_fine (h : slotsErr l = 0) (hg : grab l ≠ 0) (hs : slotFine s = true) : slotsErr (laid l (grab l) s) = 0 := by
  obtain ⟨g1, g2, _, _⟩ := grab_is h hg
  obtain ⟨h1, h2⟩ := slotsErr_len h
  have h40 : grab l = l.length → l.length < 40 := by
    intro e
    unfold grab at e hg
    split at e
    · rename_i hn; rw [List.length_drop] at hn; unfold freeAt at *; omega
    · rename_i hn
      rw [if_neg hn] at hg
      split at e
      · assumption
      · rename_i h4; rw [if_neg h4] at hg; exact absurd rfl hg
  refine slotsErr_ok ?_ ?_ ?_ ?_
  · rw [laid_len']; split <;> omega
  · rw [laid_len']; split
    · rename_i e; have := h40 e; omega
    · omega
  · rw [List.all_eq_true]
    intro y hy
    rcases laid_mem hy with hy | rfl
    · exact List.all_eq_true.1 (slotsErr_all h) y hy
    · exact hs
  · have h0 := slotsErr_kind0 h
    have hl := List.getElem?_eq_getElem (l := l) (i := 0) (by omega)
    rw [kind0_at hl] at h0
    have : (laid l (grab l) s)[0]? = some l[0] := by rw [laid_old (by omega) (by omega)]; exact hl
    rw [kind0_at this]; exact h0
theorem set_fine' {k : Nat} (h : slotsErr l = 0) (hk : 1 ≤ k) (hs : slotFine s = true) : slotsErr (l.set k s) = 0 := by
  obtain ⟨h1, h2⟩ := slotsErr_len h
  refine slotsErr_ok (by simp; omega) (by simp; omega) ?_ ?_
  · rw [List.all_eq_true]
    intro y hy
    rcases List.mem_or_eq_of_mem_set hy with hy | rfl
    · exact List.all_eq_true.1 (slotsErr_all h) y hy
    · exact hs
  · have h0 := slotsErr_kind0 h
    have hl := List.getElem?_eq_getElem (l := l) (i := 0) (by omega)
    rw [kind0_at hl] at h0
    have : (l.set k s)[0]? = some l[0] := by rw [List.getElem?_set_ne (by omega)]; exact hl
    rw [kind0_at this]; exact h0
theorem tslot_fine {t : List Int} (h : entriesErr t = 0) (hb : bare t = false) : slotFine (tslot t) = true := by unfold slotFine tslot; simp [h, hb]; rfl
theorem dslot_fine {p : ByteArray} (h : p.size = 4) : slotFine (dslot p) = true := by unfold slotFine dslot; simp [h]
end
end Go.Proofs.YtfilnnjanhjbeaaGreat
namespace Go.Proofs.YtfilnnjanhjbeaaGreat
open Sl
theorem lexLt_irr : ∀ s : List UInt8, lexLt s s = false
  | [] => rfl
  | a :: s => by simp [lexLt, lexLt_irr s]
theorem lexLt_trans : ∀ a b c : List UInt8, lexLt a b = true → lexLt b c = true → lexLt a c = true
  | [], [], _, h, _ => by simp [lexLt] at h
  | [], _ :: _, [], _, h => by simp [lexLt] at h
  | [], _ :: _, _ :: _, _, _ => rfl
  | _ :: _, [], _, h, _ => by simp [lexLt] at h
  | _ :: _, _ :: _, [], _, h => by simp [lexLt] at h
  | x :: a, y :: b, z :: c, h, h' => by
    simp only [lexLt, Bool.or_eq_true, decide_eq_true_eq, Bool.and_eq_true, beq_iff_eq] at h h' ⊢
    rcases h with h | ⟨rfl, h⟩
    · rcases h' with h' | ⟨rfl, h'⟩
      · exact .inl (by omega)
      · exact .inl h
    · rcases h' with h' | ⟨rfl, h'⟩
      · exact .inl h'
      · exact .inr ⟨rfl, lexLt_trans a b c h h'⟩
def Sorted (l : List Snap) : Prop := l.Pairwise (fun a b => strLt a.name b.name = true)
theorem names_iff {l : List Snap} : namesOk l = true ↔ (∀ s ∈ l, isName s.name = true) ∧ Sorted l := by
  unfold namesOk
  rw [upto_iff]
  constructor
  · intro h
    refine ⟨fun s hs => ?_, ?_⟩
    · obtain ⟨k, hk, rfl⟩ := List.mem_iff_getElem.1 hs
      have h1 := h k hk
      unfold nameAt at h1
      rw [snapAt_at (List.getElem?_eq_getElem hk), Bool.and_eq_true] at h1
      exact h1.1
    · have key : ∀ d i, i + d + 1 < l.length → strLt (snapAt l i).name (snapAt l (i + d + 1)).name = true := by
        intro d
        induction d with
        | zero =>
          intro i hi
          have h1 := h (i + 1) (by omega)
          unfold nameAt at h1
          rw [Bool.and_eq_true, Bool.or_eq_true] at h1
          rcases h1.2 with h2 | h2
          · simp at h2
          · exact h2
        | succ d ih =>
          intro i hi
          have h1 := h (i + (d + 1) + 1) (by omega)
          unfold nameAt at h1
          rw [Bool.and_eq_true, Bool.or_eq_true] at h1
          rcases h1.2 with h2 | h2
          · simp at h2
          · rw [show i + (d + 1) + 1 - 1 = i + d + 1 from by omega] at h2
            exact lexLt_trans _ _ _ (ih i (by omega)) h2
      unfold Sorted
      rw [List.pairwise_iff_getElem]
      intro i j hi hj hij
      have h1 := key (j - i - 1) i (by omega)
      rw [show i + (j - i - 1) + 1 = j from by omega, snapAt_at (List.getElem?_eq_getElem hi), snapAt_at (List.getElem?_eq_getElem hj)] at h1
      exact h1
  · rintro ⟨h1, h2⟩ k hk
    unfold nameAt
    rw [Bool.and_eq_true, Bool.or_eq_true, snapAt_at (List.getElem?_eq_getElem hk)]
    refine ⟨h1 _ (List.getElem_mem hk), ?_⟩
    rcases Nat.eq_zero_or_pos k with h0 | h0
    · exact .inl (by subst h0; rfl)
    · refine .inr ?_
      rw [snapAt_at (List.getElem?_eq_getElem (show k - 1 < l.length by omega))]
      exact List.pairwise_iff_getElem.1 h2 (k - 1) k (by omega) hk (by omega)
def insK (l : List Snap) (name : ByteArray) : Nat := firstAt (fun s => !strLt s.name name) l
def putS (l : List Snap) (x : Snap) : List Snap := l.take (insK l x.name) ++ x :: l.drop (insK l x.name)
theorem insK_le (l : List Snap) (name : ByteArray) : insK l name ≤ l.length := firstAt_le _ _
theorem ins_before {l : List Snap} {name : ByteArray} {j : Nat} {s : Snap} (hj : j < insK l name) (hs : l[j]? = some s) : strLt s.name name = true := by
  have := firstAt_before _ l j s hj hs
  simpa using this
theorem ins_after {l : List Snap} {name : ByteArray} (S : Sorted l) {j : Nat} {s : Snap} (hj : insK l name ≤ j) (hs : l[j]? = some s) : strLt s.name name = false := by
  have hjl := (List.getElem?_eq_some_iff.1 hs).1
  have hk : insK l name < l.length := by omega
  have h0 : strLt l[insK l name].name name = false := by
    have := firstAt_at (fun s : Snap => !strLt s.name name) l l[insK l name] (List.getElem?_eq_getElem hk)
    simpa using this
  rcases Nat.lt_or_ge (insK l name) j with h | h
  · have h1 := List.pairwise_iff_getElem.1 S (insK l name) j hk hjl h
    rw [List.getElem?_eq_getElem hjl] at hs
    injection hs with hs
    rw [hs] at h1
    cases h2 : strLt s.name name
    · rfl
    · rw [show strLt l[insK l name].name name = true from lexLt_trans _ _ _ h1 h2] at h0; cases h0
  · have e : insK l name = j := by omega
    rw [← e, List.getElem?_eq_getElem hk] at hs
    injection hs with hs
    rw [← hs]; exact h0
theorem named_iff {name : ByteArray} {s : Snap} : named name s = true ↔ s.name.toList = name.toList := by unfold named; exact beq_iff_eq
theorem named_lt {name : ByteArray} {s : Snap} (h : named name s = true) : strLt s.name name = false := by
  unfold strLt; rw [named_iff.1 h]; exact lexLt_irr _
theorem sorted_at {l : List Snap} {name : ByteArray} (S : Sorted l) {j : Nat} {s : Snap} (hs : l[j]? = some s) (hn : named name s = true) : insK l name = j := by
  have hjl := (List.getElem?_eq_some_iff.1 hs).1
  rcases Nat.lt_or_ge j (insK l name) with h | h
  · have := ins_before h hs
    rw [named_lt hn] at this; cases this
  · rcases Nat.lt_or_ge (insK l name) j with h2 | h2
    · have hk : insK l name < l.length := by omega
      have h1 := List.pairwise_iff_getElem.1 S (insK l name) j hk hjl h2
      rw [List.getElem?_eq_getElem hjl] at hs
      injection hs with hs
      rw [hs] at h1
      have h3 := ins_after S (Nat.le_refl _) (List.getElem?_eq_getElem hk) (name := name)
      unfold strLt at h1 h3
      rw [named_iff.1 hn] at h1
      rw [h1] at h3; cases h3
    · omega
theorem find_any {l : List Snap} {name : ByteArray} (S : Sorted l) : l.any (named name) = true ↔ ∃ s, l[insK l name]? = some s ∧ named name s = true := by
  rw [List.any_eq_true]
  constructor
  · rintro ⟨s, hs, hn⟩
    obtain ⟨j, hj, rfl⟩ := List.mem_iff_getElem.1 hs
    have hx := List.getElem?_eq_getElem hj
    exact ⟨_, by rw [sorted_at S hx hn]; exact hx, hn⟩
  · rintro ⟨s, hs, hn⟩; exact ⟨s, List.mem_of_getElem? hs, hn⟩
theorem put_mem {l : List Snap} {x s : Snap} : s ∈ putS l x ↔ s = x ∨ s ∈ l := by
  unfold putS
  rw [List.mem_append, List.mem_cons]
  constructor
  · rintro (h | h | h)
    · exact .inr (List.mem_of_mem_take h)
    · exact .inl h
    · exact .inr (List.mem_of_mem_drop h)
  · rintro (h | h)
    · exact .inr (.inl h)
    · rw [← List.take_append_drop (insK l x.name) l, List.mem_append] at h
      exact h.imp id .inr
theorem put_len1 (l : List Snap) (x : Snap) : (putS l x).length = l.length + 1 := by
  unfold putS; rw [List.length_append, List.length_cons, List.length_take, List.length_drop]; have := insK_le l x.name; omega
theorem sorted_put {l : List Snap} {x : Snap} (S : Sorted l) (hn : l.any (named x.name) = false) : Sorted (putS l x) := by
  have hlt : ∀ s ∈ l.take (insK l x.name), strLt s.name x.name = true := fun s hs => by
    obtain ⟨i, hi, rfl⟩ := List.mem_iff_getElem.1 hs
    rw [List.length_take] at hi
    have h1 : l[i]? = some (l.take (insK l x.name))[i] := by rw [← List.getElem?_eq_getElem, List.getElem?_take_of_lt (by omega)]
    exact ins_before (by omega) h1
  have hgt : ∀ s ∈ l.drop (insK l x.name), strLt x.name s.name = true := fun s hs => by
    obtain ⟨i, hi, rfl⟩ := List.mem_iff_getElem.1 hs
    have h0 : l[insK l x.name + i]? = some (l.drop (insK l x.name))[i] := by rw [← List.getElem?_eq_getElem, List.getElem?_drop]
    have h1 := ins_after S (name := x.name) (by omega) h0
    have h2 : named x.name (l.drop (insK l x.name))[i] = false := by
      cases hh : named x.name (l.drop (insK l x.name))[i]
      · rfl
      · exact absurd (List.any_eq_true.2 ⟨_, List.mem_of_mem_drop hs, hh⟩) (by rw [hn]; decide)
    have h3 := lexLt_total (l.drop (insK l x.name))[i].name.toList x.name.toList
    unfold strLt at h1 ⊢
    unfold named at h2
    rw [h1, h2] at h3
    simpa using h3.symm
  unfold Sorted putS
  rw [List.pairwise_append, List.pairwise_cons]
  refine ⟨List.Pairwise.sublist (List.take_sublist _ _) S, ⟨hgt, List.Pairwise.sublist (List.drop_sublist _ _) S⟩, fun a ha b hb => ?_⟩
  rcases List.mem_cons.1 hb with rfl | hb
  · exact hlt a ha
  · exact lexLt_trans _ _ _ (hlt a ha) (hgt b hb)
end Go.Proofs.YtfilnnjanhjbeaaGreat
