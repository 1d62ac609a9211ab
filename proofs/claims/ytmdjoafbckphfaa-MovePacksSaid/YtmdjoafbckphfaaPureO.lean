/- The texts PureO, PureO2 in one. Conditions: as each says. -/
import Derived.Test.YtmdjoafbckphfaaPureX
-- PureO: How many slots an image uses, told by what its Roots and its tables tell. No conditions.
namespace Go.Proofs.Ytmdjoafbckphfaa
open Sl
theorem countP_add {p q : Nat → Bool} {F : Nat} (hq : ∀ j, q j = (p j || j == F)) (hp : p F = false) : ∀ N, (List.range N).countP q = (List.range N).countP p + (if F < N then 1 else 0)
  | 0 => rfl
  | N + 1 => by
    have ih := countP_add hq hp N
    rw [List.range_succ, List.countP_append, List.countP_append, ih]
    simp only [List.countP_cons, List.countP_nil]
    by_cases e : N = F
    · subst e
      rw [hq, hp]
      simp
    · rw [hq, show (N == F) = false from by simpa using e, Bool.or_false]
      by_cases h : F < N
      · have h1 : F < N + 1 := by omega
        simp only [if_pos h, if_pos h1]; omega
      · have h1 : ¬ F < N + 1 := by omega
        simp only [if_neg h, if_neg h1]; omega
theorem countP_sum {p q r : Nat → Bool} : ∀ N, (∀ j, j < N → (r j).toNat = (p j).toNat + (q j).toNat) → (List.range N).countP r = (List.range N).countP p + (List.range N).countP q
  | 0, _ => rfl
  | N + 1, h => by
    have ih := countP_sum N fun j hj => h j (by omega)
    have h0 := h N (by omega)
    rw [List.range_succ, List.countP_append, List.countP_append, List.countP_append, ih]
    simp only [List.countP_cons, List.countP_nil]
    revert h0
    cases p N <;> cases q N <;> cases r N <;> simp <;> omega
theorem used_countP : ∀ (l : List Slot) (N : Nat), l.length ≤ N → (List.range N).countP (fun j => !(kindN l j == 0)) = used l
  | [], N, _ => by
    rw [List.countP_eq_zero.2]
    · rfl
    · intro j _; simp [kindN]
  | s :: t, 0, h => by simp at h
  | s :: t, N + 1, h => by
    rw [List.range_succ_eq_map, List.countP_cons, List.countP_map]
    have e : ((fun j => !(kindN (s :: t) j == 0)) ∘ Nat.succ) = (fun j => !(kindN t j == 0)) := by
      funext j; simp [kindN]
    rw [e, used_countP t N (by simp only [List.length_cons] at h; omega)]
    have : kindN (s :: t) 0 = s.kind := rfl
    rw [this, used]
    by_cases h0 : s.kind = 0 <;> simp [h0] <;> omega
/-- How many numbers above 0 (and below N) a list tells. -/
def dct (N : Nat) (l : List Int) : Nat := (List.range N).countP (fun (j : Nat) => decide (0 < j ∧ (j : Int) ∈ l))
theorem dct_new {N F p : Nat} {l : List Int} (hp : p < l.length) (h : int l p ≤ 0 ∨ ∃ i, i ≠ p ∧ i < l.length ∧ int l i = int l p) (hF : 0 < F) (hN : F < N) (hn : (F : Int) ∉ l) : dct N (l.set p (F : Nat)) = dct N l + 1 := by
  unfold dct
  rw [countP_add (p := fun (j : Nat) => decide (0 < j ∧ (j : Int) ∈ l)) (F := F) (fun j => ?_) (by simp [hn]) N, if_pos hN]
  rw [Bool.eq_iff_iff]
  simp only [decide_eq_true_eq, Bool.or_eq_true, beq_iff_eq]
  constructor
  · rintro ⟨h1, h2⟩
    rcases List.mem_or_eq_of_mem_set h2 with h3 | h3
    · exact .inl ⟨h1, h3⟩
    · exact .inr (by omega)
  · rintro (⟨h1, h2⟩ | rfl)
    · refine ⟨h1, ?_⟩
      obtain ⟨i, hi⟩ := List.mem_iff_getElem?.1 h2
      have hil := (List.getElem?_eq_some_iff.1 hi).1
      by_cases hip : i = p
      · subst hip
        have hv : int l i = j := by unfold int; rw [List.getD_eq_getElem?_getD, hi]; rfl
        rcases h with h0 | ⟨i', n1, n2, n3⟩
        · omega
        · refine List.mem_of_getElem? (i := i') ?_
          rw [List.getElem?_set_ne (fun e => n1 e.symm)]
          exact int_some (n3.trans hv) (by omega)
      · exact List.mem_of_getElem? (i := i) (by rw [List.getElem?_set_ne (fun e => hip e.symm)]; exact hi)
    · exact ⟨hF, List.mem_of_getElem? (i := p) (by rw [List.getElem?_set_self hp])⟩
theorem dct_old {N F u p : Nat} {l : List Int} (hp : p < l.length) (hu : int l p = (u : Nat)) (h0 : 0 < u) (huN : u < N) (h : ∀ i, i ≠ p → int l i ≠ (u : Nat)) (hF : 0 < F) (hN : F < N) (hn : (F : Int) ∉ l) : dct N (l.set p (F : Nat)) = dct N l := by
  have key : ∀ (v : Nat), 0 < v → v < N → (∀ i, i ≠ p → int l i ≠ (v : Nat)) → dct N (l.set p (v : Nat)) = dct N (l.set p 0) + 1 := by
    intro v hv hvN hi
    have h1 := dct_new (N := N) (F := v) (p := p) (l := l.set p 0) (by simpa using hp) (.inl (by rw [int_set_eq hp]; omega)) hv hvN (fun hm => by
      obtain ⟨i, hx⟩ := List.mem_iff_getElem?.1 hm
      have hv' : int (l.set p 0) i = v := by unfold int; rw [List.getD_eq_getElem?_getD, hx]; rfl
      by_cases hip : i = p
      · rw [hip, int_set_eq hp] at hv'; omega
      · rw [int_set_ne hip] at hv'; exact hi i hip hv')
    rw [List.set_set] at h1
    exact h1
  have e : l.set p (u : Nat) = l := by
    apply List.ext_getElem?
    intro j
    rw [List.getElem?_set]
    split
    · rename_i e; subst e
      exact (int_some hu (by omega)).symm
    · rfl
  have h1 := key u h0 huN h
  rw [e] at h1
  rw [h1]
  refine key F hF hN fun i _ hi => hn ?_
  exact List.mem_of_getElem? (int_some hi (by omega))
/-- All that Roots tell; all that their tables tell. -/
def TL (m : Img) : List Int := m.root ++ (m.snaps.map (·.root)).flatten
def entsR (l : List Slot) (r : List Int) : List Int := (List.range (4 * r.length)).map (entryOf l r)
def PL (m : Img) : List Int := entsR m.slots m.root ++ ((m.snaps.map (·.root)).map (entsR m.slots)).flatten
theorem mem_TL {m : Img} {x : Int} : x ∈ TL m ↔ ∃ r ∈ rootsOf m, x ∈ r := by
  unfold TL rootsOf
  simp only [List.mem_append, List.mem_flatten, List.mem_cons]
  constructor
  · rintro (h | ⟨r, h1, h2⟩)
    · exact ⟨m.root, .inl rfl, h⟩
    · exact ⟨r, .inr h1, h2⟩
  · rintro ⟨r, h | h, h2⟩
    · subst h; exact .inl h2
    · exact .inr ⟨r, h, h2⟩
theorem mem_ents {l : List Slot} {r : List Int} {x : Int} : x ∈ entsR l r ↔ ∃ n, n < 4 * r.length ∧ entryOf l r n = x := by
  unfold entsR; simp
theorem mem_PL {m : Img} {x : Int} : x ∈ PL m ↔ ∃ r ∈ rootsOf m, ∃ n, n < 4 * r.length ∧ entryOf m.slots r n = x := by
  unfold PL rootsOf
  simp only [List.mem_append, List.mem_flatten, List.mem_cons, mem_ents]
  constructor
  · rintro (h | ⟨y, h1, h2⟩)
    · exact ⟨m.root, .inl rfl, h⟩
    · obtain ⟨r, hr, rfl⟩ := List.mem_map.1 h1
      exact ⟨r, .inr hr, mem_ents.1 h2⟩
  · rintro ⟨r, h | h, h2⟩
    · subst h; exact .inl h2
    · exact .inr ⟨_, List.mem_map.2 ⟨r, h, rfl⟩, mem_ents.2 h2⟩
theorem told_mem {l : List Int} {v : Int} (h : told l v ≠ 0) : v ∈ l := by
  unfold told at h
  obtain ⟨a, ha, hb⟩ := List.countP_pos_iff.1 (Nat.pos_of_ne_zero h)
  rw [← (show a = v from by simpa using hb)]; exact ha
theorem toldAll_mem {ls : List (List Int)} {v : Int} (h : toldAll ls v ≠ 0) : ∃ r ∈ ls, v ∈ r := by
  rcases Classical.em (∃ r ∈ ls, v ∈ r) with h1 | h1
  · exact h1
  · exact absurd (toldAll_zero fun r hr y hy e => h1 ⟨r, hr, by rw [← e]; exact hy⟩) h
theorem sumOf_pos {n : Nat} {f : Nat → Nat} (h : sumOf ((List.range n).map f) ≠ 0) : ∃ k, k < n ∧ f k ≠ 0 := by
  induction n with
  | zero => exact absurd rfl h
  | succ n ih =>
    rw [List.range_succ, List.map_append, sumOf_append] at h
    simp only [List.map_cons, List.map_nil, sumOf] at h
    by_cases h0 : f n = 0
    · obtain ⟨k, hk, hf⟩ := ih (by omega)
      exact ⟨k, by omega, hf⟩
    · exact ⟨n, by omega, h0⟩
theorem kind_cnt {m : Img} (hm : checkErr m = 0) {j : Nat} (hj : j < m.slots.length) : cnt m j = 0 ↔ kindN m.slots j = 0 := by
  have := (check_is hm).2 j hj
  unfold refAt at this
  simp only [Bool.and_eq_true, beq_iff_eq, int_cnt hj] at this
  have h2 := this.2
  constructor
  · intro h
    rw [h] at h2
    simpa using h2.symm
  · intro h
    rw [h] at h2
    have : ((cnt m j : Nat) : Int) = 0 := by simpa using h2
    omega
theorem table_roots {m : Img} (hm : checkErr m = 0) {j : Nat} (hj : 1 ≤ j) : kindN m.slots j = 2 ∧ j < m.slots.length ↔ (j : Int) ∈ TL m := by
  have S := sound_of (check_is hm).1
  rw [mem_TL]
  constructor
  · rintro ⟨h2, hl⟩
    have hc : cnt m j ≠ 0 := fun h => by have := (kind_cnt hm hl).1 h; omega
    have e : cnt m j = toldAll (rootsOf m) j := countAt_other hj (by omega)
    exact toldAll_mem (by omega)
  · rintro ⟨r, hr, h⟩
    rcases S.wired.roots r hr _ h with h0 | h2
    · omega
    · obtain ⟨k, e, k1, k2, k3⟩ := kindOf_ge h2 (by omega)
      obtain rfl : j = k := by omega
      exact ⟨k3, k2⟩
theorem mem_root_at {r : List Int} {x : Int} (h : x ∈ r) : ∃ q, q < r.length ∧ int r q = x := by
  obtain ⟨q, hq⟩ := List.mem_iff_getElem?.1 h
  exact ⟨q, (List.getElem?_eq_some_iff.1 hq).1, by unfold int; rw [List.getD_eq_getElem?_getD, hq]; rfl⟩
theorem page_roots {m : Img} (hm : checkErr m = 0) {j : Nat} (hj : 1 ≤ j) : kindN m.slots j = 1 ∧ j < m.slots.length ↔ (j : Int) ∈ PL m := by
  have S := sound_of (check_is hm).1
  rw [mem_PL]
  constructor
  · rintro ⟨h1, hl⟩
    have hc : cnt m j ≠ 0 := fun h => by have := (kind_cnt hm hl).1 h; omega
    unfold cnt countAt at hc
    rw [if_neg (by omega), if_pos h1, toldAll_page S.wired hj hl (by omega), Nat.zero_add] at hc
    obtain ⟨k, hk, hf⟩ := sumOf_pos hc
    unfold toldBy at hf
    split at hf
    · rename_i hh
      obtain ⟨i, hi, ei⟩ := mem_root_at (told_mem hf)
      obtain ⟨r, hr, hrk⟩ := toldAll_mem (v := ((k + 1 : Nat) : Int)) (ls := rootsOf m) (by have := hh.2; omega)
      obtain ⟨q, hq, eq⟩ := mem_root_at hrk
      have hks : k + 1 < m.slots.length := by omega
      have hx := List.getElem?_eq_getElem hks
      have h4 := slot_table S.slots hx ((kindN_at hx).symm.trans hh.1)
      rw [tableN_at hx] at hi ei
      refine ⟨r, hr, 4 * q + i, by omega, ?_⟩
      unfold entryOf
      rw [show (4 * q + i) / 4 = q from by omega, show (4 * q + i) % 4 = i from by omega, eq, if_pos (by omega), tableAt_at hx]
      exact ei
    · exact absurd rfl hf
  · rintro ⟨r, hr, n, _, e⟩
    have h := entry_okT S.tables r n
    rw [e] at h
    rcases ok_cases h with h0 | ⟨_, h1⟩
    · omega
    · obtain ⟨k, e, k1, k2, k3⟩ := kindOf_ge h1 (by omega)
      obtain rfl : j = k := by omega
      exact ⟨k3, k2⟩
theorem slot_kinds {l : List Slot} (h : slotsErr l = 0) {k : Nat} {s : Slot} (hx : l[k]? = some s) : s.kind = 0 ∨ s.kind = 1 ∨ s.kind = 2 := by
  have := List.all_eq_true.1 (slots_all h) s (List.mem_of_getElem? hx)
  unfold slotFine at this
  split at this
  · exact .inl (by assumption)
  · split at this
    · exact .inr (.inl (by assumption))
    · split at this
      · exact .inr (.inr (by assumption))
      · cases this
theorem kind0_is {l : List Slot} (h : slotsErr l = 0) : kindN l 0 = 0 := by
  have := slotsErr_kind0 h
  cases l with
  | nil => rfl
  | cons a t => exact this
/-- A right image uses as many slots as its Roots tell tables and these pages. -/
theorem used_dct {m : Img} (hm : checkErr m = 0) {N : Nat} (hN : 40 ≤ N) : used m.slots = dct N (TL m) + dct N (PL m) := by
  have S := sound_of (check_is hm).1
  have h40 := (slotsErr_len S.slots).2
  rw [← used_countP m.slots N (by omega)]
  refine countP_sum N fun j _ => ?_
  by_cases hj0 : j = 0
  · subst hj0
    simp [kind0_is S.slots]
  · by_cases hl : j < m.slots.length
    · have a := table_roots hm (j := j) (by omega)
      have b := page_roots hm (j := j) (by omega)
      have hx := List.getElem?_eq_getElem hl
      have hk := slot_kinds S.slots hx
      rw [← kindN_at hx] at hk
      have h0 : 0 < j := by omega
      by_cases ha : kindN m.slots j = 2
      · have a' := a.1 ⟨ha, hl⟩
        have b' : ¬ (j : Int) ∈ PL m := fun h => by have := (b.2 h).1; omega
        simp [ha, a', b', h0]
      · have a' : ¬ (j : Int) ∈ TL m := fun h => ha (a.2 h).1
        by_cases hb : kindN m.slots j = 1
        · have b' := b.1 ⟨hb, hl⟩
          simp [hb, a', b', h0]
        · have b' : ¬ (j : Int) ∈ PL m := fun h => hb (b.2 h).1
          have : kindN m.slots j = 0 := by omega
          simp [this, a', b']
    · have a' : ¬ (j : Int) ∈ TL m := fun h => hl ((table_roots hm (j := j) (by omega)).2 h).2
      have b' : ¬ (j : Int) ∈ PL m := fun h => hl ((page_roots hm (j := j) (by omega)).2 h).2
      have : kindN m.slots j = 0 := by unfold kindN; rw [List.getElem?_eq_none (by omega)]; rfl
      simp [this, a', b']
theorem used_set_le (l : List Slot) (g : Nat) (s : Slot) : used (l.set g s) ≤ used l + 1 := by
  induction l generalizing g with
  | nil => simp [used]
  | cons a t ih =>
    cases g with
    | zero => simp only [List.set_cons_zero, used]; split <;> split <;> omega
    | succ g => have := ih g; simp only [List.set_cons_succ, used]; omega
theorem used_app_le (l : List Slot) (s : Slot) : used (l ++ [s]) ≤ used l + 1 := by
  induction l with
  | nil => simp only [List.nil_append, used]; split <;> omega
  | cons a t ih => simp only [List.cons_append, used]; omega
theorem used_laid_le (l : List Slot) (g : Nat) (s : Slot) : used (laid l g s) ≤ used l + 1 := by
  unfold laid; split
  · exact used_app_le l s
  · exact used_set_le l g s
theorem used_kinds : ∀ (l l' : List Slot), l.map (·.kind) = l'.map (·.kind) → used l = used l'
  | [], [], _ => rfl
  | [], _ :: _, h => by simp at h
  | _ :: _, [], h => by simp at h
  | a :: t, b :: t', h => by
    simp only [List.map_cons, List.cons.injEq] at h
    have := used_kinds t t' h.2
    simp only [used, h.1, this]
theorem write_none38 {m : Img} {n : Nat} {pg : ByteArray} (S : Sound m) (h : writeM m n pg = none) : 38 ≤ used m.slots := by
  unfold writeM at h
  dsimp only at h
  split at h
  · cases h
  · split at h
    · split at h
      · rename_i hg; rw [used_full S.slots hg]; omega
      · cases h
    · split at h
      · rename_i hg; rw [used_full S.slots hg]; omega
      · rename_i hg
        split at h
        · rename_i hg2
          have h1 := used_full (laid_fine S.slots hg (tslot_fine (t := [-1, 0, 0, 0]) rfl rfl)) hg2
          have h2 := used_laid_le m.slots (grab m.slots) (tslot [-1, 0, 0, 0])
          omega
        · cases h
theorem int_get {l : List Int} {i : Nat} (h : i < l.length) : int l i = l[i] := by unfold int; rw [List.getD_eq_getElem?_getD, List.getElem?_eq_getElem h]; rfl
theorem list_set_of {l l' : List Int} {k : Nat} (hl : l'.length = l.length) (ho : ∀ i, i ≠ k → int l' i = int l i) : l' = l.set k (int l' k) := by
  refine List.ext_getElem (by simpa using hl) fun i h1 h2 => ?_
  rw [List.getElem_set]
  split
  · rename_i e; subst e; exact (int_get h1).symm
  · rename_i e
    rw [← int_get h1, ← int_get (by omega)]
    exact ho i fun x => e x.symm
theorem int_left {A B : List Int} {i : Nat} (h : i < A.length) : int (A ++ B) i = int A i := by
  unfold int; rw [List.getD_eq_getElem?_getD, List.getElem?_append_left h, List.getD_eq_getElem?_getD]
theorem int_right {A B : List Int} {i : Nat} (h : A.length ≤ i) : int (A ++ B) i = int B (i - A.length) := by
  unfold int; rw [List.getD_eq_getElem?_getD, List.getElem?_append_right h, List.getD_eq_getElem?_getD]
theorem int_ents {l : List Slot} {r : List Int} {i : Nat} (h : i < 4 * r.length) : int (entsR l r) i = entryOf l r i := by
  unfold int entsR
  rw [List.getD_eq_getElem?_getD, List.getElem?_map, List.getElem?_range h]; rfl
theorem ents_len (l : List Slot) (r : List Int) : (entsR l r).length = 4 * r.length := by unfold entsR; simp
theorem TL_set {m x : Img} (hl : x.root.length = m.root.length) (hs : x.snaps = m.snaps) {k : Nat} (hk : k < m.root.length) (ho : ∀ i, i ≠ k → int x.root i = int m.root i) : TL x = (TL m).set k (int x.root k) := by
  unfold TL
  rw [hs, List.set_append_left _ _ hk, ← list_set_of hl ho]
theorem PL_set {m x : Img} (hl : x.root.length = m.root.length) (hs : x.snaps = m.snaps) {n : Nat} (hn : n < 4 * m.root.length) (ho : ∀ i, i ≠ n → entryOf x.slots x.root i = entryOf m.slots m.root i)
    (hp : ∀ s ∈ m.snaps, ∀ i, entryOf x.slots s.root i = entryOf m.slots s.root i) : PL x = (PL m).set n (entryOf x.slots x.root n) := by
  have e1 : entsR x.slots x.root = (entsR m.slots m.root).set n (entryOf x.slots x.root n) := by
    have := list_set_of (l := entsR m.slots m.root) (l' := entsR x.slots x.root) (k := n) (by rw [ents_len, ents_len, hl]) fun i hi => by
      by_cases h : i < 4 * m.root.length
      · rw [int_ents (by omega), int_ents h, ho i hi]
      · rw [int_past (by rw [ents_len]; omega), int_past (by rw [ents_len]; omega)]
    rw [int_ents (by omega)] at this
    exact this
  have e2 : (m.snaps.map (·.root)).map (entsR x.slots) = (m.snaps.map (·.root)).map (entsR m.slots) := by
    refine List.map_congr_left fun r hr => ?_
    obtain ⟨s, h1, rfl⟩ := List.mem_map.1 hr
    exact List.map_congr_left fun i _ => hp s h1 i
  unfold PL
  rw [hs, e2, List.set_append_left _ _ (by rw [ents_len]; exact hn), ← e1]
theorem ents_settled {x : Img} (S : Sound x) {r : List Int} (hr : r ∈ rootsOf x) : entsR (settled x).slots r = entsR x.slots r :=
  List.map_congr_left fun n hn => (settled_entry S hr (by have := List.mem_range.1 hn; omega)).1
theorem PL_settled {x : Img} (S : Sound x) : PL (settled x) = PL x := by
  show entsR (settled x).slots x.root ++ ((x.snaps.map (·.root)).map (entsR (settled x).slots)).flatten = _
  rw [ents_settled S (mem_root x), List.map_congr_left fun r hr => ents_settled S (List.mem_cons_of_mem _ hr)]
  rfl
/-- A number that stands nowhere else. -/
theorem alone {A B : List Int} {k : Nat} {v : Int} (hv : v ≠ 0) (hA : ∀ i, i ≠ k → int A i ≠ v) (hB : v ∉ B) : ∀ i, i ≠ k → int (A ++ B) i ≠ v := fun i hi h => by
  by_cases hl : i < A.length
  · rw [int_left hl] at h; exact hA i hi h
  · rw [int_right (by omega)] at h
    exact hB (List.mem_of_getElem? (int_some h hv))
theorem other {A B : List Int} {k : Nat} {v : Int} (hk : k < A.length) (h : (∃ i, i ≠ k ∧ i < A.length ∧ int A i = v) ∨ v ∈ B) : ∃ i, i ≠ k ∧ i < (A ++ B).length ∧ int (A ++ B) i = v := by
  rcases h with ⟨i, h1, h2, h3⟩ | h
  · exact ⟨i, h1, by simp; omega, by rw [int_left h2]; exact h3⟩
  · obtain ⟨q, hq, e⟩ := mem_root_at h
    exact ⟨A.length + q, by omega, by simp; omega, by rw [int_right (by omega), Nat.add_sub_cancel_left]; exact e⟩
theorem told_two {l : List Int} {x : Int} {i : Nat} (hi : l[i]? = some x) (h : told l x ≠ 1) : ∃ i', i' ≠ i ∧ i' < l.length ∧ int l i' = x := by
  have hl := (List.getElem?_eq_some_iff.1 hi).1
  have e : told l x = told (l.take i) x + (1 + told (l.drop (i + 1)) x) := by
    have e1 : l = l.take i ++ x :: l.drop (i + 1) := by
      have := List.getElem_cons_drop hl
      rw [(List.getElem?_eq_some_iff.1 hi).2] at this
      rw [this, List.take_append_drop]
    have e2 : told (x :: l.drop (i + 1)) x = 1 + told (l.drop (i + 1)) x := by unfold told; simp; omega
    rw [← e2, ← told_append, ← e1]
  by_cases h1 : told (l.take i) x = 0
  · have h2 : told (l.drop (i + 1)) x ≠ 0 := by omega
    obtain ⟨q, hq, eq⟩ := mem_root_at (told_mem h2)
    rw [List.length_drop] at hq
    refine ⟨i + 1 + q, by omega, by omega, ?_⟩
    rw [← eq]; unfold int
    rw [List.getD_eq_getElem?_getD, List.getD_eq_getElem?_getD, List.getElem?_drop]
  · obtain ⟨q, hq, eq⟩ := mem_root_at (told_mem h1)
    rw [List.length_take] at hq
    refine ⟨q, by omega, by omega, ?_⟩
    rw [← eq]; unfold int
    rw [List.getD_eq_getElem?_getD, List.getD_eq_getElem?_getD, List.getElem?_take_of_lt (by omega)]
theorem ents_of {m x : Img} {n : Nat} {e : Int} (E : Eff m x (n / 4) ((entriesAt m (n / 4)).set (n % 4) e)) : (∀ i, i ≠ n → entryOf x.slots x.root i = entryOf m.slots m.root i) ∧ ∀ s ∈ m.snaps, ∀ i, entryOf x.slots s.root i = entryOf m.slots s.root i :=
  ⟨fun i hi => by
    by_cases hk : i / 4 = n / 4
    · rw [E.at_ i hk, int_set_ne (by omega), entry_entries, hk]
    · exact E.else_ i hk, E.past⟩
end Go.Proofs.Ytmdjoafbckphfaa
-- PureO2: Two pages written, whichever first. No conditions.
namespace Go.Proofs.Ytmdjoafbckphfaa
open Sl
theorem write_at {m x : Img} (hm : checkErr m = 0) {n : Nat} {pg : ByteArray} (hk : n / 4 < m.root.length) (hn : (n : Int) < m.guest) (hp : pg.size = 4) (h : writeM m n pg = some x) :
    (∀ i, i ≠ n / 4 → int x.root i = int m.root i) ∧ (∀ i, i ≠ n → entryOf x.slots x.root i = entryOf m.slots m.root i) ∧ ∀ s ∈ m.snaps, ∀ i, entryOf x.slots s.root i = entryOf m.slots s.root i := by
  have S := sound_of (check_is hm).1
  have hw := S.wired
  obtain ⟨f1, f2, f3⟩ := entries_facts hm hk
  have h4 := (entriesErr_is f1).1
  unfold writeM at h
  dsimp only at h
  split at h
  · rename_i hc
    obtain ⟨ho, he0, hr⟩ := hc
    injection h with h
    rcases ok_cases (entry_okT S.tables m.root n) with h0 | ⟨_, hke⟩
    · omega
    · obtain ⟨d, ed, d1, d2, d3⟩ := kindOf_ge hke (by omega)
      rw [ed, Int.toNat_natCast] at h
      have hds := List.getElem?_eq_getElem d2
      generalize m.slots[d] = sd at hds
      rw [List.getD_eq_getElem?_getD, hds, Option.getD_some] at h
      have G : Grew m.slots (m.slots.set d { sd with data := pg }) (fun _ => False) (· = d) := Grew.set hds rfl (fun _ => rfl) (fun h => absurd rfl h)
      have ent : ∀ r ∈ rootsOf m, ∀ i, entryOf (m.slots.set d { sd with data := pg }) r i = entryOf m.slots r i := fun r hr i => G.entry hw hr fun _ h => h
      subst h
      exact ⟨fun _ _ => rfl, fun i _ => ent _ (mem_root m) i, fun s hs i => ent _ (mem_snap hs) i⟩
  · split at h
    · rename_i ho
      split at h
      · cases h
      · rename_i hg
        injection h with h
        obtain ⟨j, s0, e, j1, hs, hk2, _, hcj, htl⟩ := own_is hm ho
        obtain ⟨o1, o2⟩ := own_only j1 htl e
        obtain ⟨g1, g2, hf, _⟩ := grab_is S.slots hg
        have hL1 := laid_fine S.slots hg (dslot_fine hp)
        generalize grab m.slots = g at *
        have hjl := (List.getElem?_eq_some_iff.1 hs).1
        have hjg : j ≠ g := by rintro rfl; have := hf _ hs; omega
        have hs1 : (laid m.slots g (dslot pg))[j]? = some s0 := (laid_old hjl hjg).trans hs
        have hsf := List.all_eq_true.1 (slots_all S.slots) _ (List.mem_of_getElem? hs)
        rw [e, Int.toNat_natCast, List.getD_eq_getElem?_getD, hs1, Option.getD_some, slot_free0 hsf hk2] at h
        obtain ⟨q1, q2⟩ := laid_kind (s := dslot pg) g1 g2
        have G1 : ∀ {T D : Nat → Prop}, Grew m.slots (laid m.slots g (dslot pg)) T D := Grew.laid hf
        have hkt : (tslot ((entriesAt m (n / 4)).set (n % 4) (g : Nat))).kind = s0.kind := hk2.symm
        have h40 := (slotsErr_len hL1).2
        have hgl : g < (laid m.slots g (dslot pg)).length := (List.getElem?_eq_some_iff.1 (laid_new (s := dslot pg) g2)).1
        have hfg : fine (g : Nat) = true := by unfold fine; simp; omega
        obtain ⟨u1, u2⟩ := set_kind (s := tslot ((entriesAt m (n / 4)).set (n % 4) (g : Nat))) j1 hs1
        have G2 : ∀ {T D : Nat → Prop}, T j → D j → Grew (laid m.slots g (dslot pg)) ((laid m.slots g (dslot pg)).set j (tslot ((entriesAt m (n / 4)).set (n % 4) (g : Nat)))) T D := fun hT hD => Grew.set hs1 hkt (fun h => absurd hT h) (fun h => absurd hD h)
        have hT1 : tablesOk (laid m.slots g (dslot pg)) = true := tables_laid S.tables hf fun y hy => by cases hy
        subst h
        have E := eff_of (R := m.root) S j1 (G1.trans (G2 rfl rfl)) (set_fine' hL1 j1 (tslot_fine (entries_set f1 _ hfg) (not_bare (by omega) g1)))
          (tables_set hT1 hs1 hkt fun y hy => (by
            rcases List.mem_or_eq_of_mem_set hy with h3 | rfl
            · exact (G1 (T := fun _ => True) (D := fun _ => True)).ok (f2 y h3)
            · exact ok_of (.inr q1))) u1 u2 e rfl (fun _ _ => rfl) (fun i hi h => hi (o1 i h)) o2 (by rw [kindOf_N j1 hjl, kindN_at hs]; omega) (f3.set hn rfl _)
        exact ⟨fun _ _ => rfl, ents_of E⟩
    · split at h
      · cases h
      · rename_i hg
        split at h
        · cases h
        · rename_i hgg
          injection h with h
          obtain ⟨g1, g2, hf, _⟩ := grab_is S.slots hg
          have hL1 := laid_fine S.slots hg (tslot_fine (t := [-1, 0, 0, 0]) rfl rfl)
          obtain ⟨c1, c2, hf2, _⟩ := grab_is hL1 hgg
          have hL2 := laid_fine hL1 hgg (dslot_fine hp)
          generalize hG : grab m.slots = g at *
          generalize hG2 : grab (laid m.slots g (tslot [-1, 0, 0, 0])) = d at *
          have hx1 := laid_new (s := tslot [-1, 0, 0, 0]) g2
          have hgd : g ≠ d := by rintro rfl; exact absurd (hf2 _ hx1) (by decide)
          have hx2 : (laid (laid m.slots g (tslot [-1, 0, 0, 0])) d (dslot pg))[g]? = some (tslot [-1, 0, 0, 0]) := (laid_old (List.getElem?_eq_some_iff.1 hx1).1 hgd).trans hx1
          obtain ⟨q1, q2⟩ := laid_kind (s := dslot pg) c1 c2
          have hT1 : tablesOk (laid m.slots g (tslot [-1, 0, 0, 0])) = true := tables_laid S.tables hf fun y hy => ok_of (.inl (by
            have : y = -1 ∨ y = 0 := by simpa [tslot] using hy
            omega))
          have hT2 : tablesOk (laid (laid m.slots g (tslot [-1, 0, 0, 0])) d (dslot pg)) = true := tables_laid hT1 hf2 fun y hy => by cases hy
          have hdl : d < (laid (laid m.slots g (tslot [-1, 0, 0, 0])) d (dslot pg)).length := (List.getElem?_eq_some_iff.1 (laid_new (s := dslot pg) c2)).1
          have h40 := (slotsErr_len hL2).2
          have hfg : fine (d : Nat) = true := by unfold fine; simp; omega
          have hkt : (tslot ((entriesAt m (n / 4)).set (n % 4) (d : Nat))).kind = (tslot [-1, 0, 0, 0]).kind := rfl
          obtain ⟨u1, u2⟩ := set_kind (s := tslot ((entriesAt m (n / 4)).set (n % 4) (d : Nat))) g1 hx2
          have G1 : ∀ {T D : Nat → Prop}, Grew m.slots (laid (laid m.slots g (tslot [-1, 0, 0, 0])) d (dslot pg)) T D := (Grew.laid hf).trans (Grew.laid hf2)
          have G2 : ∀ {T D : Nat → Prop}, T g → D g → Grew (laid (laid m.slots g (tslot [-1, 0, 0, 0])) d (dslot pg)) ((laid (laid m.slots g (tslot [-1, 0, 0, 0])) d (dslot pg)).set g (tslot ((entriesAt m (n / 4)).set (n % 4) (d : Nat)))) T D := fun hT hD => Grew.set hx2 hkt (fun h => absurd hT h) (fun h => absurd hD h)
          subst h
          have E := eff_of (R := m.root.set (n / 4) (g : Nat)) S g1 (G1.trans (G2 rfl rfl)) (set_fine' hL2 g1 (tslot_fine (entries_set f1 _ hfg) (not_bare (by omega) c1)))
            (tables_set hT2 hx2 hkt fun y hy => (by
              rcases List.mem_or_eq_of_mem_set hy with h3 | rfl
              · exact (G1 (T := fun _ => True) (D := fun _ => True)).ok (f2 y h3)
              · exact ok_of (.inr q1))) u1 u2 (int_set_eq hk) (by simp) (fun i hi => int_set_ne hi) (fun i _ => free_roots hw g1 hf (mem_root m) i) (fun s hs i => free_roots hw g1 hf (mem_snap hs) i) (free_no hf (by omega)) (f3.set hn rfl _)
          exact ⟨fun i hi => int_set_ne hi, ents_of E⟩
/-- What a written page makes of the tables and pages that are told. -/
structure Step (m a : Img) (n : Nat) : Prop where
  right : checkErr a = 0
  guest : a.guest = m.guest
  rlen : a.root.length = m.root.length
  tabs : ∃ j : Nat, 1 ≤ j ∧ j < 40 ∧ TL a = (TL m).set (n / 4) j ∧ int (TL a) (n / 4) = j ∧ ∀ i, i ≠ n / 4 → int (TL a) i ≠ j
  pags : ∃ d : Nat, 1 ≤ d ∧ d < 40 ∧ PL a = (PL m).set n d ∧ int (PL a) n = d ∧ ∀ i, i ≠ n → int (PL a) i ≠ d
theorem TL_none {m : Img} (hm : checkErr m = 0) {F : Nat} (hF : 40 ≤ F) : (F : Int) ∉ TL m := fun h => by
  have := ((table_roots hm (j := F) (by omega)).2 h).2
  have := (slotsErr_len (sound_of (check_is hm).1).slots).2
  omega
theorem PL_none {m : Img} (hm : checkErr m = 0) {F : Nat} (hF : 40 ≤ F) : (F : Int) ∉ PL m := fun h => by
  have := ((page_roots hm (j := F) (by omega)).2 h).2
  have := (slotsErr_len (sound_of (check_is hm).1).slots).2
  omega
theorem page_at {m : Img} (hm : checkErr m = 0) {n : Nat} (hn : (n : Int) < m.guest) : n / 4 < m.root.length := by
  have h := (rootF_is (own_facts hm).2.2).1
  unfold wants at h
  omega
theorem write_step {m x : Img} (hm : checkErr m = 0) {n : Nat} {pg : ByteArray} (hn : (n : Int) < m.guest) (hp : pg.size = 4) (h : writeM m n pg = some x) : Step m (settled x) n := by
  have hk := page_at hm hn
  obtain ⟨⟨W, j, d, a1, a2, a3, a4, a5, a6, a7, a8⟩, _⟩ := write_eff hm hk hn hp h
  obtain ⟨r1, r2, r3⟩ := write_at hm hk hn hp h
  have S := W.sound
  have h40 := (slotsErr_len S.slots).2
  have hk2 : kindN x.slots j = 2 := by
    rcases root_cases S.wired (mem_root x) (n / 4) with h0 | h2
    · omega
    · rw [a1, kindOf_N a2 a4] at h2; exact h2
  have htl : toldAll (rootsOf x) j = 1 := (countAt_other a2 (by omega)).symm.trans a3
  obtain ⟨o1, o2⟩ := own_only a2 htl a1
  obtain ⟨p1, p2⟩ := page_only S a1 a2 htl a6 a5 a7
  have eT := TL_set W.rlen W.snaps hk r1
  have eP := PL_set W.rlen W.snaps (n := n) (by omega) r2 r3
  rw [a1] at eT
  rw [a5] at eP
  have hrl := W.rlen
  refine ⟨settled_right S, W.guest, W.rlen, ⟨j, a2, by omega, eT, ?_, ?_⟩, ⟨d, a6, by omega, (PL_settled S).trans eP, ?_, ?_⟩⟩
  · show int (TL x) _ = _
    unfold TL; rw [int_left (by omega), a1]
  · show ∀ i, i ≠ n / 4 → int (TL x) i ≠ _
    refine alone (by omega) (fun i hi h => hi (o1 i h)) fun h => ?_
    obtain ⟨r, hr, h⟩ := List.mem_flatten.1 h
    obtain ⟨s, hs, rfl⟩ := List.mem_map.1 hr
    obtain ⟨q, _, e⟩ := mem_root_at h
    exact o2 s hs q e
  · rw [PL_settled S]; unfold PL; rw [int_left (by rw [ents_len]; omega), int_ents (by omega), a5]
  · rw [PL_settled S]
    refine alone (by omega) (fun i hi h => ?_) fun h => ?_
    · by_cases hl : i < 4 * x.root.length
      · rw [int_ents hl] at h; exact p1 i hi h
      · rw [int_past (by rw [ents_len]; omega)] at h; omega
    · obtain ⟨y, hy, h⟩ := List.mem_flatten.1 h
      obtain ⟨r, hr, rfl⟩ := List.mem_map.1 hy
      obtain ⟨s, hs, rfl⟩ := List.mem_map.1 hr
      obtain ⟨q, _, e⟩ := mem_ents.1 h
      exact p2 s hs q e
/-- The slots that an image uses once a page is written. -/
def Vn (N F : Nat) (a : Img) (k : Nat) : Nat := dct N ((TL a).set (k / 4) (F : Nat)) + dct N ((PL a).set k (F : Nat))
theorem TL_len (m : Img) : m.root.length ≤ (TL m).length := by unfold TL; simp
theorem PL_len (m : Img) : 4 * m.root.length ≤ (PL m).length := by unfold PL; rw [List.length_append, ents_len]; omega
theorem step_V {a y : Img} {k N F : Nat} (h : Step a y k) (ha : checkErr a = 0) (hk : (k : Int) < a.guest) (hF : 40 ≤ F) (hN : F < N) : used y.slots = Vn N F a k ∧ used y.slots ≤ 39 := by
  have hk4 := page_at ha hk
  obtain ⟨j, j1, j2, e1, e2, e3⟩ := h.tabs
  obtain ⟨d, d1, d2, e4, e5, e6⟩ := h.pags
  have t1 := TL_len a
  have t2 := PL_len a
  have hy := h.right
  refine ⟨?_, ?_⟩
  · rw [used_dct hy (N := N) (by omega)]
    unfold Vn
    rw [← dct_old (N := N) (F := F) (p := k / 4) (l := TL y) (by rw [e1]; simp; omega) e2 (by omega) (by omega) e3 (by omega) hN (TL_none hy hF),
      ← dct_old (N := N) (F := F) (p := k) (l := PL y) (by rw [e4]; simp; omega) e5 (by omega) (by omega) e6 (by omega) hN (PL_none hy hF), e1, e4, List.set_set, List.set_set]
  · have S := (sound_of (check_is hy).1).slots
    have h40 := slotsErr_len S
    have := kind0_is S
    cases hl : y.slots with
    | nil => simp [used]
    | cons s t =>
      rw [hl] at this h40
      have hs : s.kind = 0 := this
      have := used_le t
      rw [used, if_pos hs]
      simp only [List.length_cons] at h40
      omega
theorem told_TL (m : Img) (x : Int) : told (TL m) x = toldAll (rootsOf m) x := by
  unfold TL
  rw [told_append, told_flat, rootsOf_told]
/-- A table that is told more than once stands at another place too. -/
theorem tab_other {a : Img} {k j : Nat} (hk : k < a.root.length) (hj : int a.root k = (j : Nat)) (hj1 : 1 ≤ j) (h : toldAll (rootsOf a) j ≠ 1) : ∃ i, i ≠ k ∧ i < (TL a).length ∧ int (TL a) i = (j : Nat) := by
  have e : int (TL a) k = (j : Nat) := by unfold TL; rw [int_left hk, hj]
  exact told_two (int_some e (by omega)) (by rw [told_TL]; exact h)
/-- Where a Root tells a table, its entries are told. -/
theorem pag_at {a : Img} {r : List Int} (hr : r ∈ a.snaps.map (·.root)) {q i : Nat} (hq : q < r.length) (hi : i < 4) {e : Int} (he : entryOf a.slots r (4 * q + i) = e) : e ∈ ((a.snaps.map (·.root)).map (entsR a.slots)).flatten :=
  List.mem_flatten.2 ⟨_, List.mem_map.2 ⟨r, hr, rfl⟩, mem_ents.2 ⟨4 * q + i, by omega, he⟩⟩
theorem ent_is {l : List Slot} {r : List Int} {q i j : Nat} (hi : i < 4) (hj : int r q = (j : Nat)) (hj1 : 1 ≤ j) : entryOf l r (4 * q + i) = int (tableN l j) i := by
  unfold entryOf
  rw [show (4 * q + i) / 4 = q from by omega, show (4 * q + i) % 4 = i from by omega, hj, if_pos (by omega)]
  unfold tableAt tableN
  rw [Int.toNat_natCast]
theorem TL_other_page {a : Img} {k j : Nat} {e : Int} (hk : k / 4 < a.root.length) (hj : int a.root (k / 4) = (j : Nat)) (hj1 : 1 ≤ j) (he : entryOf a.slots a.root k = e) (h : ∃ i, i ≠ k / 4 ∧ i < (TL a).length ∧ int (TL a) i = (j : Nat)) :
    ∃ i, i ≠ k ∧ i < (PL a).length ∧ int (PL a) i = e := by
  have e0 : int (tableN a.slots j) (k % 4) = e := by
    rw [← ent_is (l := a.slots) (r := a.root) (q := k / 4) (by omega) hj hj1, ← he]; congr 1; omega
  obtain ⟨i, h1, h2, h3⟩ := h
  unfold TL at h2 h3
  unfold PL
  refine other (by rw [ents_len]; omega) ?_
  by_cases hl : i < a.root.length
  · rw [int_left hl] at h3
    left
    refine ⟨4 * i + k % 4, by omega, by rw [ents_len]; omega, ?_⟩
    rw [int_ents (by omega), ent_is (by omega) h3 hj1, e0]
  · rw [int_right (by omega)] at h3
    right
    have hm := List.mem_of_getElem? (int_some h3 (by omega))
    obtain ⟨r, hr, hx⟩ := List.mem_flatten.1 hm
    obtain ⟨q, hq, eq⟩ := mem_root_at hx
    exact pag_at hr hq (i := k % 4) (by omega) (by rw [ent_is (by omega) eq hj1, e0])
/-- A page that more than one entry tells stands at another place too. -/
theorem page_other {a : Img} (ha : checkErr a = 0) {k j d : Nat} (hk : k / 4 < a.root.length) (hj : int a.root (k / 4) = (j : Nat)) (hj1 : 1 ≤ j) (he : entryOf a.slots a.root k = (d : Nat)) (hd1 : 1 ≤ d) (h : cnt a d ≠ 1) :
    ∃ i, i ≠ k ∧ i < (PL a).length ∧ int (PL a) i = (d : Nat) := by
  have S := sound_of (check_is ha).1
  have hd : kindN a.slots d = 1 ∧ d < a.slots.length := (page_roots ha hd1).2 (mem_PL.2 ⟨a.root, mem_root a, k, by omega, he⟩)
  have hjt : kindN a.slots j = 2 ∧ j < a.slots.length := (table_roots ha hj1).2 (mem_TL.2 ⟨a.root, mem_root a, List.mem_of_getElem? (int_some hj (by omega))⟩)
  have hx := List.getElem?_eq_getElem hjt.2
  have h4 := slot_table S.slots hx ((kindN_at hx).symm.trans hjt.1)
  have e0 : int (tableN a.slots j) (k % 4) = d := by
    rw [← ent_is (l := a.slots) (r := a.root) (q := k / 4) (by omega) hj hj1, ← he]; congr 1; omega
  by_cases h1 : told (tableN a.slots j) d = 1
  · by_cases ho : ∀ k, k ≠ j → 1 ≤ k → told (tableN a.slots k) d = 0
    · have hjr : 0 < toldAll (rootsOf a) j := toldAll_pos (mem_root a) (List.mem_of_getElem? (int_some hj (by omega)))
      exact absurd (page_one S.wired hj1 hjt.2 hjt.1 hjr hd1 hd.2 hd.1 ho h1) h
    · obtain ⟨t, h5⟩ := Classical.not_forall.1 ho
      have htj : t ≠ j := fun e => h5 fun h6 => absurd e h6
      have ht1 : 1 ≤ t := by
        rcases Nat.lt_or_ge 0 t with h6 | h6
        · exact h6
        · exact absurd (fun _ h7 => by omega) h5
      have htd : told (tableN a.slots t) d ≠ 0 := fun e => h5 fun _ _ => e
      have hdm := told_mem htd
      obtain ⟨i, hi, ei⟩ := mem_root_at hdm
      have htl : t < a.slots.length := by
        rcases Nat.lt_or_ge t a.slots.length with h6 | h6
        · exact h6
        · have : tableN a.slots t = [] := by unfold tableN; rw [List.getElem?_eq_none h6]; rfl
          rw [this] at hdm; cases hdm
      have hty := List.getElem?_eq_getElem htl
      have htk : kindN a.slots t = 2 := by
        have hf := List.all_eq_true.1 (slots_all S.slots) _ (List.mem_of_getElem? hty)
        rw [tableN_at hty] at hi
        rw [kindN_at hty]
        unfold slotFine at hf
        split at hf
        · simp only [Bool.and_eq_true, beq_iff_eq] at hf; omega
        · split at hf
          · simp only [Bool.and_eq_true, beq_iff_eq] at hf; omega
          · split at hf
            · assumption
            · cases hf
      have h44 := slot_table S.slots hty ((kindN_at hty).symm.trans htk)
      rw [tableN_at hty, h44] at hi
      obtain ⟨r, hr, hm⟩ := mem_TL.1 ((table_roots ha ht1).1 ⟨htk, htl⟩)
      obtain ⟨q, hq, eq⟩ := mem_root_at hm
      have ee : entryOf a.slots r (4 * q + i) = (d : Nat) := by rw [ent_is hi eq ht1, ei]
      unfold PL
      refine other (by rw [ents_len]; omega) ?_
      rcases List.mem_cons.1 hr with rfl | hr
      · left
        refine ⟨4 * q + i, fun e => ?_, by rw [ents_len]; omega, by rw [int_ents (by omega), ee]⟩
        rw [show q = k / 4 from by omega, hj] at eq
        omega
      · right; exact pag_at hr hq hi ee
  · have hs := int_some e0 (by omega)
    obtain ⟨i, n1, n2, n3⟩ := told_two hs h1
    rw [tableN_at hx, h4] at n2
    unfold PL
    refine other (by rw [ents_len]; omega) (.inl ⟨4 * (k / 4) + i, by omega, by rw [ents_len]; omega, ?_⟩)
    rw [int_ents (by omega), ent_is n2 hj hj1, n3]
theorem none_V {a : Img} (ha : checkErr a = 0) {k : Nat} {pg : ByteArray} (hk : (k : Int) < a.guest) {N F : Nat} (hF : 40 ≤ F) (hN : F < N) (h : writeM a k pg = none) : 40 ≤ Vn N F a k := by
  have S := sound_of (check_is ha).1
  have hk4 := page_at ha hk
  have t1 := TL_len a
  have t2 := PL_len a
  have hU := used_dct ha (N := N) (by omega)
  have hTk : int (TL a) (k / 4) = int a.root (k / 4) := by unfold TL; rw [int_left hk4]
  have hPk : int (PL a) k = entryOf a.slots a.root k := by unfold PL; rw [int_left (by rw [ents_len]; omega), int_ents (by omega)]
  have tabNew : (int (TL a) (k / 4) ≤ 0 ∨ ∃ i, i ≠ k / 4 ∧ i < (TL a).length ∧ int (TL a) i = int (TL a) (k / 4)) → dct N ((TL a).set (k / 4) (F : Nat)) = dct N (TL a) + 1 := fun h => dct_new (by omega) h (by omega) hN (TL_none ha hF)
  have pagNew : (int (PL a) k ≤ 0 ∨ ∃ i, i ≠ k ∧ i < (PL a).length ∧ int (PL a) i = int (PL a) k) → dct N ((PL a).set k (F : Nat)) = dct N (PL a) + 1 := fun h => dct_new (by omega) h (by omega) hN (PL_none ha hF)
  have h38 := write_none38 S h
  unfold Vn
  by_cases ho : ownT a (k / 4) = true
  · obtain ⟨j, s, e, j1, hs, hk2, hr1, hc, htl⟩ := own_is ha ho
    obtain ⟨o1, o2⟩ := own_only j1 htl e
    have hjl := (List.getElem?_eq_some_iff.1 hs).1
    have h40 := (slotsErr_len S.slots).2
    have hT : dct N ((TL a).set (k / 4) (F : Nat)) = dct N (TL a) := dct_old (u := j) (by omega) (hTk.trans e) (by omega) (by omega) (by
      refine alone (by omega) (fun i hi h => hi (o1 i h)) fun h => ?_
      obtain ⟨r, hr, h⟩ := List.mem_flatten.1 h
      obtain ⟨s, hs, rfl⟩ := List.mem_map.1 hr
      obtain ⟨q, _, e⟩ := mem_root_at h
      exact o2 s hs q e) (by omega) hN (TL_none ha hF)
    unfold writeM at h
    dsimp only at h
    split at h
    · cases h
    · rename_i hc2
      split at h
      · rename_i hg
        have h39 := used_full S.slots hg
        have hP := pagNew (by
          rw [hPk]
          rcases ok_cases (entry_okT S.tables a.root k) with h0 | ⟨h0, hke⟩
          · exact .inl h0
          · right
            obtain ⟨d, ed, d1, d2, d3⟩ := kindOf_ge hke (by omega)
            rw [ed]
            refine page_other ha hk4 e j1 ed d1 fun hc1 => hc2 ⟨ho, h0, ?_⟩
            rw [ed, Int.toNat_natCast, refs_cnt ha d2, hc1]; rfl)
        omega
      · cases h
  · have hcase : int a.root (k / 4) = 0 ∨ ∃ i, i ≠ k / 4 ∧ i < (TL a).length ∧ int (TL a) i = int a.root (k / 4) := by
      rcases root_cases S.wired (mem_root a) (k / 4) with h0 | h2
      · exact .inl h0
      · right
        obtain ⟨j, ej, j1, j2, j3⟩ := kindOf_ge h2 (by omega)
        rw [ej]
        refine tab_other hk4 ej j1 fun h1 => ho ?_
        unfold ownT
        rw [ej, Int.toNat_natCast, decide_eq_true (by omega), refs_cnt ha j2, show cnt a j = 1 from (countAt_other j1 (by omega)).trans h1]; rfl
    have hT := tabNew (by
      rw [hTk]
      exact hcase.imp (fun h => by omega) id)
    have hP := pagNew (by
      rw [hPk]
      rcases hcase with h0 | h1
      · left; unfold entryOf; rw [h0]; exact Int.le_refl _
      · rcases root_cases S.wired (mem_root a) (k / 4) with h0 | h2
        · left; unfold entryOf; rw [h0]; exact Int.le_refl _
        · obtain ⟨j, ej, j1, j2, j3⟩ := kindOf_ge h2 (by omega)
          rw [ej] at h1
          exact .inr (TL_other_page hk4 ej j1 rfl h1))
    omega
theorem set_swap {N p q : Nat} {T : List Int} (hp : p < T.length) (hT : ∀ v : Nat, 40 ≤ v → (v : Int) ∉ T) (hpq : p ≠ q) {a b c : Nat} (ha : 40 ≤ a) (hc : 40 ≤ c) (haN : a < N) (hcN : c < N) (hab : a ≠ b) (hcb : c ≠ b) (hac : a ≠ c) :
    dct N ((T.set p (a : Nat)).set q (b : Nat)) = dct N ((T.set p (c : Nat)).set q (b : Nat)) := by
  have h := dct_old (N := N) (F := c) (u := a) (p := p) (l := (T.set p (a : Nat)).set q (b : Nat)) (by simpa using hp) (by rw [int_set_ne hpq, int_set_eq hp]) (by omega) haN (fun i hi h => by
    by_cases hiq : i = q
    · by_cases hl : q < T.length
      · subst hiq; rw [int_set_eq (by simpa using hl)] at h; omega
      · subst hiq; rw [int_past (by simp; omega)] at h; omega
    · rw [int_set_ne hiq, int_set_ne hi] at h
      exact hT a ha (List.mem_of_getElem? (int_some h (by omega)))) (by omega) hcN (fun hm => by
    rcases List.mem_or_eq_of_mem_set hm with hm | e
    · rcases List.mem_or_eq_of_mem_set hm with hm | e
      · exact hT c hc hm
      · omega
    · omega)
  rw [← h, List.set_comm _ _ (fun e => hpq e.symm), List.set_set]
/-- Whichever of two is new first. -/
theorem set_either {N F p q j j' : Nat} {T : List Int} (hp : p < T.length) (hq : q < T.length) (hF : 40 ≤ F) (hN : F + 2 < N) (hT : ∀ v : Nat, 40 ≤ v → (v : Int) ∉ T) (hj : 1 ≤ j) (hj40 : j < 40) (hj' : 1 ≤ j') (hj'40 : j' < 40)
    (h : ∀ i, i ≠ p → int (T.set p (j : Nat)) i ≠ (j : Nat)) (h' : ∀ i, i ≠ q → int (T.set q (j' : Nat)) i ≠ (j' : Nat)) : dct N ((T.set p (j : Nat)).set q (F : Nat)) = dct N ((T.set q (j' : Nat)).set p (F : Nat)) := by
  by_cases hpq : p = q
  · subst hpq; rw [List.set_set, List.set_set]
  have nG : ∀ (a : Nat) (v F : Nat), 40 ≤ v → a ≠ v → F ≠ v → ∀ p q : Nat, (v : Int) ∉ (T.set p (a : Nat)).set q (F : Nat) := fun a v F hv h1 h2 p q hm => by
    rcases List.mem_or_eq_of_mem_set hm with hm | e
    · rcases List.mem_or_eq_of_mem_set hm with hm | e
      · exact hT v hv hm
      · omega
    · omega
  have e1 : dct N ((T.set p (j : Nat)).set q (F : Nat)) = dct N (((T.set p (j : Nat)).set q (F : Nat)).set p ((F + 1 : Nat) : Int)) := (dct_old (l := (T.set p (j : Nat)).set q (F : Nat)) (u := j) (by simpa using hp) (by rw [int_set_ne hpq, int_set_eq hp]) (by omega) (by omega) (fun i hi => by
    by_cases hiq : i = q
    · subst hiq; rw [int_set_eq (by simpa using hq)]; omega
    · rw [int_set_ne hiq]; exact h i hi) (by omega) (by omega) (nG j (F + 1) F (by omega) (by omega) (by omega) p q)).symm
  have e2 : dct N ((T.set q (j' : Nat)).set p (F : Nat)) = dct N (((T.set q (j' : Nat)).set p (F : Nat)).set q ((F + 1 : Nat) : Int)) := (dct_old (l := (T.set q (j' : Nat)).set p (F : Nat)) (u := j') (by simpa using hq) (by rw [int_set_ne (fun e => hpq e.symm), int_set_eq hq]) (by omega) (by omega) (fun i hi => by
    by_cases hip : i = p
    · subst hip; rw [int_set_eq (by simpa using hp)]; omega
    · rw [int_set_ne hip]; exact h' i hi) (by omega) (by omega) (nG j' (F + 1) F (by omega) (by omega) (by omega) q p)).symm
  have f1 : ((T.set p (j : Nat)).set q (F : Nat)).set p ((F + 1 : Nat) : Int) = (T.set p ((F + 1 : Nat) : Int)).set q (F : Nat) := by rw [List.set_comm _ _ (fun e => hpq e.symm), List.set_set]
  have f2 : ((T.set q (j' : Nat)).set p (F : Nat)).set q ((F + 1 : Nat) : Int) = (T.set p (F : Nat)).set q ((F + 1 : Nat) : Int) := by rw [List.set_comm _ _ hpq, List.set_set, List.set_comm _ _ (fun e => hpq e.symm)]
  rw [e1, e2, f1, f2]
  rw [set_swap (c := F + 2) hp hT hpq (by omega) (by omega) (by omega) hN (by omega) (by omega) (by omega), List.set_comm _ _ hpq,
    set_swap (c := F + 1) hq hT (fun e => hpq e.symm) hF (by omega) (by omega) (by omega) (by omega) (by omega) (by omega), List.set_comm _ _ (fun e => hpq e.symm),
    set_swap (c := F) hp hT hpq (by omega) hF hN (by omega) (by omega) (by omega) (by omega)]
/-- The slots that are used then do not hang on which page is written first. -/
theorem V_either {m a b : Img} {n k : Nat} (hm : checkErr m = 0) (hn : (n : Int) < m.guest) (hk : (k : Int) < m.guest) (ha : Step m a n) (hb : Step m b k) {N F : Nat} (hF : 40 ≤ F) (hN : F + 2 < N) : Vn N F a k = Vn N F b n := by
  have hn4 := page_at hm hn
  have hk4 := page_at hm hk
  have t1 := TL_len m
  have t2 := PL_len m
  obtain ⟨j, j1, j2, e1, _, e3⟩ := ha.tabs
  obtain ⟨d, d1, d2, e4, _, e6⟩ := ha.pags
  obtain ⟨j', j1', j2', e1', _, e3'⟩ := hb.tabs
  obtain ⟨d', d1', d2', e4', _, e6'⟩ := hb.pags
  unfold Vn
  rw [e1, e4, e1', e4'] at *
  rw [set_either (by omega) (by omega) hF hN (fun v hv => TL_none hm hv) j1 j2 j1' j2' e3 e3', set_either (by omega) (by omega) hF hN (fun v hv => PL_none hm hv) d1 d2 d1' d2' e6 e6']
/-- As many slots are used, or none is left either way. -/
theorem order_used {m a b : Img} {n k : Nat} {one two : ByteArray} (hm : checkErr m = 0) (hn : (n : Int) < m.guest) (hk : (k : Int) < m.guest) (h1 : one.size = 4) (h2 : two.size = 4) (ha : Step m a n) (hb : Step m b k) :
    (∀ x y, writeM a k two = some x → writeM b n one = some y → used (settled x).slots = used (settled y).slots) ∧ (∀ x, writeM a k two = some x → writeM b n one ≠ none) ∧ ∀ y, writeM b n one = some y → writeM a k two ≠ none := by
  have hv := V_either hm hn hk ha hb (N := 100) (F := 40) (by omega) (by omega)
  have hka : (k : Int) < a.guest := by rw [ha.guest]; exact hk
  have hnb : (n : Int) < b.guest := by rw [hb.guest]; exact hn
  have sx := fun x (h : writeM a k two = some x) => step_V (N := 100) (F := 40) (write_step ha.right hka h2 h) ha.right hka (by omega) (by omega)
  have sy := fun y (h : writeM b n one = some y) => step_V (N := 100) (F := 40) (write_step hb.right hnb h1 h) hb.right hnb (by omega) (by omega)
  refine ⟨fun x y hx hy => ?_, fun x hx hy => ?_, fun y hy hx => ?_⟩
  · rw [(sx x hx).1, (sy y hy).1, hv]
  · have := none_V hb.right hnb (N := 100) (F := 40) (by omega) (by omega) hy
    have := sx x hx
    omega
  · have := none_V ha.right hka (N := 100) (F := 40) (by omega) (by omega) hx
    have := sy y hy
    omega
end Go.Proofs.Ytmdjoafbckphfaa
