/- How many slots an image uses, told by what its Roots and its tables tell. No conditions. -/
import Derived.Test.YtpboapeoejdipaaPureX
namespace Go.Proofs.Ytpboapeoejdipaa
open Sl
theorem countP_add {p q : Nat → Bool} {F : Nat} (hq : ∀ j, q j = (p j || j == F)) (hp : p F = false) : ∀ N, (List.range N).countP q = (List.range N).countP p + (if F < N then 1 else 0)
  | 0 => rfl
  | N + 1 => by
    have ih := countP_add hq hp N
    rw [List.range_succ, List.countP_append, List.countP_append, ih]
    simp only [List.countP_cons, List.countP_nil]
    by_cases e : N = F
    · subst e
      rw [hq, hp]
      simp
    · rw [hq, show (N == F) = false from by simpa using e, Bool.or_false]
      by_cases h : F < N
      · have h1 : F < N + 1 := by omega
        simp only [if_pos h, if_pos h1]; omega
      · have h1 : ¬ F < N + 1 := by omega
        simp only [if_neg h, if_neg h1]; omega
theorem countP_sum {p q r : Nat → Bool} : ∀ N, (∀ j, j < N → (r j).toNat = (p j).toNat + (q j).toNat) → (List.range N).countP r = (List.range N).countP p + (List.range N).countP q
  | 0, _ => rfl
  | N + 1, h => by
    have ih := countP_sum N fun j hj => h j (by omega)
    have h0 := h N (by omega)
    rw [List.range_succ, List.countP_append, List.countP_append, List.countP_append, ih]
    simp only [List.countP_cons, List.countP_nil]
    revert h0
    cases p N <;> cases q N <;> cases r N <;> simp <;> omega
theorem used_countP : ∀ (l : List Slot) (N : Nat), l.length ≤ N → (List.range N).countP (fun j => !(kindN l j == 0)) = used l
  | [], N, _ => by
    rw [List.countP_eq_zero.2]
    · rfl
    · intro j _; simp [kindN]
  | s :: t, 0, h => by simp at h
  | s :: t, N + 1, h => by
    rw [List.range_succ_eq_map, List.countP_cons, List.countP_map]
    have e : ((fun j => !(kindN (s :: t) j == 0)) ∘ Nat.succ) = (fun j => !(kindN t j == 0)) := by
      funext j; simp [kindN]
    rw [e, used_countP t N (by simp only [List.length_cons] at h; omega)]
    have : kindN (s :: t) 0 = s.kind := rfl
    rw [this, used]
    by_cases h0 : s.kind = 0 <;> simp [h0] <;> omega
/-- How many numbers above 0 (and below N) a list tells. -/
def dct (N : Nat) (l : List Int) : Nat := (List.range N).countP (fun (j : Nat) => decide (0 < j ∧ (j : Int) ∈ l))
theorem dct_new {N F p : Nat} {l : List Int} (hp : p < l.length) (h : int l p ≤ 0 ∨ ∃ i, i ≠ p ∧ i < l.length ∧ int l i = int l p) (hF : 0 < F) (hN : F < N) (hn : (F : Int) ∉ l) : dct N (l.set p (F : Nat)) = dct N l + 1 := by
  unfold dct
  rw [countP_add (p := fun (j : Nat) => decide (0 < j ∧ (j : Int) ∈ l)) (F := F) (fun j => ?_) (by simp [hn]) N, if_pos hN]
  rw [Bool.eq_iff_iff]
  simp only [decide_eq_true_eq, Bool.or_eq_true, beq_iff_eq]
  constructor
  · rintro ⟨h1, h2⟩
    rcases List.mem_or_eq_of_mem_set h2 with h3 | h3
    · exact .inl ⟨h1, h3⟩
    · exact .inr (by omega)
  · rintro (⟨h1, h2⟩ | rfl)
    · refine ⟨h1, ?_⟩
      obtain ⟨i, hi⟩ := List.mem_iff_getElem?.1 h2
      have hil := (List.getElem?_eq_some_iff.1 hi).1
      by_cases hip : i = p
      · subst hip
        have hv : int l i = j := by unfold int; rw [List.getD_eq_getElem?_getD, hi]; rfl
        rcases h with h0 | ⟨i', n1, n2, n3⟩
        · omega
        · refine List.mem_of_getElem? (i := i') ?_
          rw [List.getElem?_set_ne (fun e => n1 e.symm)]
          exact int_some (n3.trans hv) (by omega)
      · exact List.mem_of_getElem? (i := i) (by rw [List.getElem?_set_ne (fun e => hip e.symm)]; exact hi)
    · exact ⟨hF, List.mem_of_getElem? (i := p) (by rw [List.getElem?_set_self hp])⟩
theorem dct_old {N F u p : Nat} {l : List Int} (hp : p < l.length) (hu : int l p = (u : Nat)) (h0 : 0 < u) (huN : u < N) (h : ∀ i, i ≠ p → int l i ≠ (u : Nat)) (hF : 0 < F) (hN : F < N) (hn : (F : Int) ∉ l) : dct N (l.set p (F : Nat)) = dct N l := by
  have key : ∀ (v : Nat), 0 < v → v < N → (∀ i, i ≠ p → int l i ≠ (v : Nat)) → dct N (l.set p (v : Nat)) = dct N (l.set p 0) + 1 := by
    intro v hv hvN hi
    have h1 := dct_new (N := N) (F := v) (p := p) (l := l.set p 0) (by simpa using hp) (.inl (by rw [int_set_eq hp]; omega)) hv hvN (fun hm => by
      obtain ⟨i, hx⟩ := List.mem_iff_getElem?.1 hm
      have hv' : int (l.set p 0) i = v := by unfold int; rw [List.getD_eq_getElem?_getD, hx]; rfl
      by_cases hip : i = p
      · rw [hip, int_set_eq hp] at hv'; omega
      · rw [int_set_ne hip] at hv'; exact hi i hip hv')
    rw [List.set_set] at h1
    exact h1
  have e : l.set p (u : Nat) = l := by
    apply List.ext_getElem?
    intro j
    rw [List.getElem?_set]
    split
    · rename_i e; subst e
      exact (int_some hu (by omega)).symm
    · rfl
  have h1 := key u h0 huN h
  rw [e] at h1
  rw [h1]
  refine key F hF hN fun i _ hi => hn ?_
  exact List.mem_of_getElem? (int_some hi (by omega))
/-- All that Roots tell; all that their tables tell. -/
def TL (m : Img) : List Int := m.root ++ (m.snaps.map (·.root)).flatten
def entsR (l : List Slot) (r : List Int) : List Int := (List.range (4 * r.length)).map (entryOf l r)
def PL (m : Img) : List Int := entsR m.slots m.root ++ ((m.snaps.map (·.root)).map (entsR m.slots)).flatten
theorem mem_TL {m : Img} {x : Int} : x ∈ TL m ↔ ∃ r ∈ rootsOf m, x ∈ r := by
  unfold TL rootsOf
  simp only [List.mem_append, List.mem_flatten, List.mem_cons]
  constructor
  · rintro (h | ⟨r, h1, h2⟩)
    · exact ⟨m.root, .inl rfl, h⟩
    · exact ⟨r, .inr h1, h2⟩
  · rintro ⟨r, h | h, h2⟩
    · subst h; exact .inl h2
    · exact .inr ⟨r, h, h2⟩
theorem mem_ents {l : List Slot} {r : List Int} {x : Int} : x ∈ entsR l r ↔ ∃ n, n < 4 * r.length ∧ entryOf l r n = x := by
  unfold entsR; simp
theorem mem_PL {m : Img} {x : Int} : x ∈ PL m ↔ ∃ r ∈ rootsOf m, ∃ n, n < 4 * r.length ∧ entryOf m.slots r n = x := by
  unfold PL rootsOf
  simp only [List.mem_append, List.mem_flatten, List.mem_cons, mem_ents]
  constructor
  · rintro (h | ⟨y, h1, h2⟩)
    · exact ⟨m.root, .inl rfl, h⟩
    · obtain ⟨r, hr, rfl⟩ := List.mem_map.1 h1
      exact ⟨r, .inr hr, mem_ents.1 h2⟩
  · rintro ⟨r, h | h, h2⟩
    · subst h; exact .inl h2
    · exact .inr ⟨_, List.mem_map.2 ⟨r, h, rfl⟩, mem_ents.2 h2⟩
theorem told_mem {l : List Int} {v : Int} (h : told l v ≠ 0) : v ∈ l := by
  unfold told at h
  obtain ⟨a, ha, hb⟩ := List.countP_pos_iff.1 (Nat.pos_of_ne_zero h)
  rw [← (show a = v from by simpa using hb)]; exact ha
theorem toldAll_mem {ls : List (List Int)} {v : Int} (h : toldAll ls v ≠ 0) : ∃ r ∈ ls, v ∈ r := by
  rcases Classical.em (∃ r ∈ ls, v ∈ r) with h1 | h1
  · exact h1
  · exact absurd (toldAll_zero fun r hr y hy e => h1 ⟨r, hr, by rw [← e]; exact hy⟩) h
theorem sumOf_pos {n : Nat} {f : Nat → Nat} (h : sumOf ((List.range n).map f) ≠ 0) : ∃ k, k < n ∧ f k ≠ 0 := by
  induction n with
  | zero => exact absurd rfl h
  | succ n ih =>
    rw [List.range_succ, List.map_append, sumOf_append] at h
    simp only [List.map_cons, List.map_nil, sumOf] at h
    by_cases h0 : f n = 0
    · obtain ⟨k, hk, hf⟩ := ih (by omega)
      exact ⟨k, by omega, hf⟩
    · exact ⟨n, by omega, h0⟩
theorem kind_cnt {m : Img} (hm : checkErr m = 0) {j : Nat} (hj : j < m.slots.length) : cnt m j = 0 ↔ kindN m.slots j = 0 := by
  have := (check_is hm).2 j hj
  unfold refAt at this
  simp only [Bool.and_eq_true, beq_iff_eq, int_cnt hj] at this
  have h2 := this.2
  constructor
  · intro h
    rw [h] at h2
    simpa using h2.symm
  · intro h
    rw [h] at h2
    have : ((cnt m j : Nat) : Int) = 0 := by simpa using h2
    omega
theorem table_roots {m : Img} (hm : checkErr m = 0) {j : Nat} (hj : 1 ≤ j) : kindN m.slots j = 2 ∧ j < m.slots.length ↔ (j : Int) ∈ TL m := by
  have S := sound_of (check_is hm).1
  rw [mem_TL]
  constructor
  · rintro ⟨h2, hl⟩
    have hc : cnt m j ≠ 0 := fun h => by have := (kind_cnt hm hl).1 h; omega
    have e : cnt m j = toldAll (rootsOf m) j := countAt_other hj (by omega)
    exact toldAll_mem (by omega)
  · rintro ⟨r, hr, h⟩
    rcases S.wired.roots r hr _ h with h0 | h2
    · omega
    · obtain ⟨k, e, k1, k2, k3⟩ := kindOf_ge h2 (by omega)
      obtain rfl : j = k := by omega
      exact ⟨k3, k2⟩
theorem mem_root_at {r : List Int} {x : Int} (h : x ∈ r) : ∃ q, q < r.length ∧ int r q = x := by
  obtain ⟨q, hq⟩ := List.mem_iff_getElem?.1 h
  exact ⟨q, (List.getElem?_eq_some_iff.1 hq).1, by unfold int; rw [List.getD_eq_getElem?_getD, hq]; rfl⟩
theorem page_roots {m : Img} (hm : checkErr m = 0) {j : Nat} (hj : 1 ≤ j) : kindN m.slots j = 1 ∧ j < m.slots.length ↔ (j : Int) ∈ PL m := by
  have S := sound_of (check_is hm).1
  rw [mem_PL]
  constructor
  · rintro ⟨h1, hl⟩
    have hc : cnt m j ≠ 0 := fun h => by have := (kind_cnt hm hl).1 h; omega
    unfold cnt countAt at hc
    rw [if_neg (by omega), if_pos h1, toldAll_page S.wired hj hl (by omega), Nat.zero_add] at hc
    obtain ⟨k, hk, hf⟩ := sumOf_pos hc
    unfold toldBy at hf
    split at hf
    · rename_i hh
      obtain ⟨i, hi, ei⟩ := mem_root_at (told_mem hf)
      obtain ⟨r, hr, hrk⟩ := toldAll_mem (v := ((k + 1 : Nat) : Int)) (ls := rootsOf m) (by have := hh.2; omega)
      obtain ⟨q, hq, eq⟩ := mem_root_at hrk
      have hks : k + 1 < m.slots.length := by omega
      have hx := List.getElem?_eq_getElem hks
      have h4 := slot_table S.slots hx ((kindN_at hx).symm.trans hh.1)
      rw [tableN_at hx] at hi ei
      refine ⟨r, hr, 4 * q + i, by omega, ?_⟩
      unfold entryOf
      rw [show (4 * q + i) / 4 = q from by omega, show (4 * q + i) % 4 = i from by omega, eq, if_pos (by omega), tableAt_at hx]
      exact ei
    · exact absurd rfl hf
  · rintro ⟨r, hr, n, _, e⟩
    have h := entry_okT S.tables r n
    rw [e] at h
    rcases ok_cases h with h0 | ⟨_, h1⟩
    · omega
    · obtain ⟨k, e, k1, k2, k3⟩ := kindOf_ge h1 (by omega)
      obtain rfl : j = k := by omega
      exact ⟨k3, k2⟩
theorem slot_kinds {l : List Slot} (h : slotsErr l = 0) {k : Nat} {s : Slot} (hx : l[k]? = some s) : s.kind = 0 ∨ s.kind = 1 ∨ s.kind = 2 := by
  have := List.all_eq_true.1 (slots_all h) s (List.mem_of_getElem? hx)
  unfold slotFine at this
  split at this
  · exact .inl (by assumption)
  · split at this
    · exact .inr (.inl (by assumption))
    · split at this
      · exact .inr (.inr (by assumption))
      · cases this
theorem kind0_is {l : List Slot} (h : slotsErr l = 0) : kindN l 0 = 0 := by
  have := slotsErr_kind0 h
  cases l with
  | nil => rfl
  | cons a t => exact this
/-- A right image uses as many slots as its Roots tell tables and these pages. -/
theorem used_dct {m : Img} (hm : checkErr m = 0) {N : Nat} (hN : 40 ≤ N) : used m.slots = dct N (TL m) + dct N (PL m) := by
  have S := sound_of (check_is hm).1
  have h40 := (slotsErr_len S.slots).2
  rw [← used_countP m.slots N (by omega)]
  refine countP_sum N fun j _ => ?_
  by_cases hj0 : j = 0
  · subst hj0
    simp [kind0_is S.slots]
  · by_cases hl : j < m.slots.length
    · have a := table_roots hm (j := j) (by omega)
      have b := page_roots hm (j := j) (by omega)
      have hx := List.getElem?_eq_getElem hl
      have hk := slot_kinds S.slots hx
      rw [← kindN_at hx] at hk
      have h0 : 0 < j := by omega
      by_cases ha : kindN m.slots j = 2
      · have a' := a.1 ⟨ha, hl⟩
        have b' : ¬ (j : Int) ∈ PL m := fun h => by have := (b.2 h).1; omega
        simp [ha, a', b', h0]
      · have a' : ¬ (j : Int) ∈ TL m := fun h => ha (a.2 h).1
        by_cases hb : kindN m.slots j = 1
        · have b' := b.1 ⟨hb, hl⟩
          simp [hb, a', b', h0]
        · have b' : ¬ (j : Int) ∈ PL m := fun h => hb (b.2 h).1
          have : kindN m.slots j = 0 := by omega
          simp [this, a', b']
    · have a' : ¬ (j : Int) ∈ TL m := fun h => hl ((table_roots hm (j := j) (by omega)).2 h).2
      have b' : ¬ (j : Int) ∈ PL m := fun h => hl ((page_roots hm (j := j) (by omega)).2 h).2
      have : kindN m.slots j = 0 := by unfold kindN; rw [List.getElem?_eq_none (by omega)]; rfl
      simp [this, a', b']
theorem used_set_le (l : List Slot) (g : Nat) (s : Slot) : used (l.set g s) ≤ used l + 1 := by
  induction l generalizing g with
  | nil => simp [used]
  | cons a t ih =>
    cases g with
    | zero => simp only [List.set_cons_zero, used]; split <;> split <;> omega
    | succ g => have := ih g; simp only [List.set_cons_succ, used]; omega
theorem used_app_le (l : List Slot) (s : Slot) : used (l ++ [s]) ≤ used l + 1 := by
  induction l with
  | nil => simp only [List.nil_append, used]; split <;> omega
  | cons a t ih => simp only [List.cons_append, used]; omega
theorem used_laid_le (l : List Slot) (g : Nat) (s : Slot) : used (laid l g s) ≤ used l + 1 := by
  unfold laid; split
  · exact used_app_le l s
  · exact used_set_le l g s
theorem used_kinds : ∀ (l l' : List Slot), l.map (·.kind) = l'.map (·.kind) → used l = used l'
  | [], [], _ => rfl
  | [], _ :: _, h => by simp at h
  | _ :: _, [], h => by simp at h
  | a :: t, b :: t', h => by
    simp only [List.map_cons, List.cons.injEq] at h
    have := used_kinds t t' h.2
    simp only [used, h.1, this]
theorem write_none38 {m : Img} {n : Nat} {pg : ByteArray} (S : Sound m) (h : writeM m n pg = none) : 38 ≤ used m.slots := by
  unfold writeM at h
  dsimp only at h
  split at h
  · cases h
  · split at h
    · split at h
      · rename_i hg; rw [used_full S.slots hg]; omega
      · cases h
    · split at h
      · rename_i hg; rw [used_full S.slots hg]; omega
      · rename_i hg
        split at h
        · rename_i hg2
          have h1 := used_full (laid_fine S.slots hg (tslot_fine (t := [-1, 0, 0, 0]) rfl rfl)) hg2
          have h2 := used_laid_le m.slots (grab m.slots) (tslot [-1, 0, 0, 0])
          omega
        · cases h
theorem int_get {l : List Int} {i : Nat} (h : i < l.length) : int l i = l[i] := by unfold int; rw [List.getD_eq_getElem?_getD, List.getElem?_eq_getElem h]; rfl
theorem list_set_of {l l' : List Int} {k : Nat} (hl : l'.length = l.length) (ho : ∀ i, i ≠ k → int l' i = int l i) : l' = l.set k (int l' k) := by
  refine List.ext_getElem (by simpa using hl) fun i h1 h2 => ?_
  rw [List.getElem_set]
  split
  · rename_i e; subst e; exact (int_get h1).symm
  · rename_i e
    rw [← int_get h1, ← int_get (by omega)]
    exact ho i fun x => e x.symm
theorem int_left {A B : List Int} {i : Nat} (h : i < A.length) : int (A ++ B) i = int A i := by
  unfold int; rw [List.getD_eq_getElem?_getD, List.getElem?_append_left h, List.getD_eq_getElem?_getD]
theorem int_right {A B : List Int} {i : Nat} (h : A.length ≤ i) : int (A ++ B) i = int B (i - A.length) := by
  unfold int; rw [List.getD_eq_getElem?_getD, List.getElem?_append_right h, List.getD_eq_getElem?_getD]
theorem int_ents {l : List Slot} {r : List Int} {i : Nat} (h : i < 4 * r.length) : int (entsR l r) i = entryOf l r i := by
  unfold int entsR
  rw [List.getD_eq_getElem?_getD, List.getElem?_map, List.getElem?_range h]; rfl
theorem ents_len (l : List Slot) (r : List Int) : (entsR l r).length = 4 * r.length := by unfold entsR; simp
theorem TL_set {m x : Img} (hl : x.root.length = m.root.length) (hs : x.snaps = m.snaps) {k : Nat} (hk : k < m.root.length) (ho : ∀ i, i ≠ k → int x.root i = int m.root i) : TL x = (TL m).set k (int x.root k) := by
  unfold TL
  rw [hs, List.set_append_left _ _ hk, ← list_set_of hl ho]
theorem PL_set {m x : Img} (hl : x.root.length = m.root.length) (hs : x.snaps = m.snaps) {n : Nat} (hn : n < 4 * m.root.length) (ho : ∀ i, i ≠ n → entryOf x.slots x.root i = entryOf m.slots m.root i)
    (hp : ∀ s ∈ m.snaps, ∀ i, entryOf x.slots s.root i = entryOf m.slots s.root i) : PL x = (PL m).set n (entryOf x.slots x.root n) := by
  have e1 : entsR x.slots x.root = (entsR m.slots m.root).set n (entryOf x.slots x.root n) := by
    have := list_set_of (l := entsR m.slots m.root) (l' := entsR x.slots x.root) (k := n) (by rw [ents_len, ents_len, hl]) fun i hi => by
      by_cases h : i < 4 * m.root.length
      · rw [int_ents (by omega), int_ents h, ho i hi]
      · rw [int_past (by rw [ents_len]; omega), int_past (by rw [ents_len]; omega)]
    rw [int_ents (by omega)] at this
    exact this
  have e2 : (m.snaps.map (·.root)).map (entsR x.slots) = (m.snaps.map (·.root)).map (entsR m.slots) := by
    refine List.map_congr_left fun r hr => ?_
    obtain ⟨s, h1, rfl⟩ := List.mem_map.1 hr
    exact List.map_congr_left fun i _ => hp s h1 i
  unfold PL
  rw [hs, e2, List.set_append_left _ _ (by rw [ents_len]; exact hn), ← e1]
theorem ents_settled {x : Img} (S : Sound x) {r : List Int} (hr : r ∈ rootsOf x) : entsR (settled x).slots r = entsR x.slots r :=
  List.map_congr_left fun n hn => (settled_entry S hr (by have := List.mem_range.1 hn; omega)).1
theorem PL_settled {x : Img} (S : Sound x) : PL (settled x) = PL x := by
  show entsR (settled x).slots x.root ++ ((x.snaps.map (·.root)).map (entsR (settled x).slots)).flatten = _
  rw [ents_settled S (mem_root x), List.map_congr_left fun r hr => ents_settled S (List.mem_cons_of_mem _ hr)]
  rfl
/-- A number that stands nowhere else. -/
theorem alone {A B : List Int} {k : Nat} {v : Int} (hv : v ≠ 0) (hA : ∀ i, i ≠ k → int A i ≠ v) (hB : v ∉ B) : ∀ i, i ≠ k → int (A ++ B) i ≠ v := fun i hi h => by
  by_cases hl : i < A.length
  · rw [int_left hl] at h; exact hA i hi h
  · rw [int_right (by omega)] at h
    exact hB (List.mem_of_getElem? (int_some h hv))
theorem other {A B : List Int} {k : Nat} {v : Int} (hk : k < A.length) (h : (∃ i, i ≠ k ∧ i < A.length ∧ int A i = v) ∨ v ∈ B) : ∃ i, i ≠ k ∧ i < (A ++ B).length ∧ int (A ++ B) i = v := by
  rcases h with ⟨i, h1, h2, h3⟩ | h
  · exact ⟨i, h1, by simp; omega, by rw [int_left h2]; exact h3⟩
  · obtain ⟨q, hq, e⟩ := mem_root_at h
    exact ⟨A.length + q, by omega, by simp; omega, by rw [int_right (by omega), Nat.add_sub_cancel_left]; exact e⟩
theorem told_two {l : List Int} {x : Int} {i : Nat} (hi : l[i]? = some x) (h : told l x ≠ 1) : ∃ i', i' ≠ i ∧ i' < l.length ∧ int l i' = x := by
  have hl := (List.getElem?_eq_some_iff.1 hi).1
  have e : told l x = told (l.take i) x + (1 + told (l.drop (i + 1)) x) := by
    have e1 : l = l.take i ++ x :: l.drop (i + 1) := by
      have := List.getElem_cons_drop hl
      rw [(List.getElem?_eq_some_iff.1 hi).2] at this
      rw [this, List.take_append_drop]
    have e2 : told (x :: l.drop (i + 1)) x = 1 + told (l.drop (i + 1)) x := by unfold told; simp; omega
    rw [← e2, ← told_append, ← e1]
  by_cases h1 : told (l.take i) x = 0
  · have h2 : told (l.drop (i + 1)) x ≠ 0 := by omega
    obtain ⟨q, hq, eq⟩ := mem_root_at (told_mem h2)
    rw [List.length_drop] at hq
    refine ⟨i + 1 + q, by omega, by omega, ?_⟩
    rw [← eq]; unfold int
    rw [List.getD_eq_getElem?_getD, List.getD_eq_getElem?_getD, List.getElem?_drop]
  · obtain ⟨q, hq, eq⟩ := mem_root_at (told_mem h1)
    rw [List.length_take] at hq
    refine ⟨q, by omega, by omega, ?_⟩
    rw [← eq]; unfold int
    rw [List.getD_eq_getElem?_getD, List.getD_eq_getElem?_getD, List.getElem?_take_of_lt (by omega)]
theorem ents_of {m x : Img} {n : Nat} {e : Int} (E : Eff m x (n / 4) ((entriesAt m (n / 4)).set (n % 4) e)) : (∀ i, i ≠ n → entryOf x.slots x.root i = entryOf m.slots m.root i) ∧ ∀ s ∈ m.snaps, ∀ i, entryOf x.slots s.root i = entryOf m.slots s.root i :=
  ⟨fun i hi => by
    by_cases hk : i / 4 = n / 4
    · rw [E.at_ i hk, int_set_ne (by omega), entry_entries, hk]
    · exact E.else_ i hk, E.past⟩
end Go.Proofs.Ytpboapeoejdipaa
