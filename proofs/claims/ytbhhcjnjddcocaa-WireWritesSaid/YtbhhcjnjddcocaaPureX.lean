/- The texts PureX, PureX2, PureX3, PureX4 in one. Conditions: as each says. -/
import Derived.Test.YtbhhcjnjddcocaaPureL
import Derived.Test.YtbhhcjnjddcocaaPureE
-- PureX: What a change of an image's slots leaves as it was. No conditions.
namespace Go.Proofs.Ytbhhcjnjddcocaa
open Sl
section
variable {l L L' : List Slot} {T D T' D' : Nat → Prop} {m : Img}
/-- Slots that are used stay, and of their kinds; their tables but at T, their data but at D. -/
def Grew (l L : List Slot) (T D : Nat → Prop) : Prop := l.length ≤ L.length ∧ ∀ j s, l[j]? = some s → s.kind ≠ 0 → ∃ s', L[j]? = some s' ∧ s'.kind = s.kind ∧ (¬ T j → s'.table = s.table) ∧ (¬ D j → s'.data = s.data)
theorem Grew.refl : Grew l l T D := ⟨Nat.le_refl _, fun _ s h _ => ⟨s, h, rfl, fun _ => rfl, fun _ => rfl⟩⟩
theorem Grew.trans (h : Grew l L T D) (h' : Grew L L' T D) : Grew l L' T D := ⟨Nat.le_trans h.1 h'.1, fun j s hs hk => by
  obtain ⟨s1, a1, a2, a3, a4⟩ := h.2 j s hs hk
  obtain ⟨s2, b1, b2, b3, b4⟩ := h'.2 j s1 a1 (by rw [a2]; exact hk)
  exact ⟨s2, b1, b2.trans a2, fun t => (b3 t).trans (a3 t), fun d => (b4 d).trans (a4 d)⟩⟩
theorem Grew.laid {g : Nat} {s : Slot} (hf : ∀ s, l[g]? = some s → s.kind = 0) : Grew l (laid l g s) T D :=
  ⟨by rw [laid_len']; split <;> omega, fun j s hj hk => by
    have hn : j ≠ g := by rintro rfl; exact hk (hf s hj)
    exact ⟨s, (laid_old (List.getElem?_eq_some_iff.1 hj).1 hn).trans hj, rfl, fun _ => rfl, fun _ => rfl⟩⟩
theorem Grew.set {i : Nat} {s0 s1 : Slot} (hs : l[i]? = some s0) (hk : s1.kind = s0.kind) (hT : ¬ T i → s1.table = s0.table) (hD : ¬ D i → s1.data = s0.data) : Grew l (l.set i s1) T D :=
  ⟨by simp, fun j s hj _ => by
    have hl := (List.getElem?_eq_some_iff.1 hj).1
    by_cases hn : i = j
    · subst hn
      rw [hs] at hj
      injection hj with hj
      subst hj
      exact ⟨s1, by rw [List.getElem?_set_self hl], hk, hT, hD⟩
    · exact ⟨s, by rw [List.getElem?_set_ne hn]; exact hj, rfl, fun _ => rfl, fun _ => rfl⟩⟩
theorem Grew.kind (h : Grew l L T D) {e c : Int} (hc : 0 < c) (hk : kindOf l e = c) : kindOf L e = c := by
  obtain ⟨k, rfl, k1, k2, k3⟩ := kindOf_ge hk (by omega)
  have hx := List.getElem?_eq_getElem k2
  rw [kindN_at hx] at k3
  obtain ⟨s', a1, a2, _⟩ := h.2 k _ hx (by omega)
  rw [kindOf_N k1 (List.getElem?_eq_some_iff.1 a1).1, kindN_at a1, a2, k3]
theorem Grew.table (h : Grew l L T D) {e : Int} (hk : kindOf l e = 2) (hT : ¬ T e.toNat) : tableAt L e = tableAt l e := by
  obtain ⟨k, rfl, k1, k2, k3⟩ := kindOf_ge hk (by omega)
  have hx := List.getElem?_eq_getElem k2
  rw [kindN_at hx] at k3
  obtain ⟨s', a1, a2, a3, _⟩ := h.2 k _ hx (by omega)
  rw [Int.toNat_natCast] at hT
  rw [tableAt_at a1, tableAt_at hx, a3 hT]
theorem ok_cases {e : Int} (h : entryOk l e = true) : e ≤ 0 ∨ (0 < e ∧ kindOf l e = 1) := by
  unfold entryOk at h
  simp only [Bool.or_eq_true, decide_eq_true_eq, beq_iff_eq] at h
  rcases h with h | h
  · exact .inl h
  · rcases Int.lt_or_le 0 e with h0 | h0
    · exact .inr ⟨h0, h⟩
    · exact .inl h0
theorem ok_of {e : Int} (h : e ≤ 0 ∨ kindOf l e = 1) : entryOk l e = true := by
  unfold entryOk
  simp only [Bool.or_eq_true, decide_eq_true_eq, beq_iff_eq]
  exact h
theorem Grew.ok (h : Grew l L T D) {e : Int} (he : entryOk l e = true) : entryOk L e = true := by
  rcases ok_cases he with h0 | ⟨_, h1⟩
  · exact ok_of (.inl h0)
  · exact ok_of (.inr (h.kind (by omega) h1))
theorem Grew.page (h : Grew l L T D) {e : Int} (he : entryOk l e = true) (hD : 0 < e → ¬ D e.toNat) : pageV L e = pageV l e := by
  rcases ok_cases he with h0 | ⟨h0, h1⟩
  · rw [pageV_no h0, pageV_no h0]
  · have hd := hD h0
    obtain ⟨k, rfl, k1, k2, k3⟩ := kindOf_ge h1 (by omega)
    have hx := List.getElem?_eq_getElem k2
    rw [kindN_at hx] at k3
    obtain ⟨s', a1, a2, _, a4⟩ := h.2 k _ hx (by omega)
    rw [Int.toNat_natCast] at hd
    rw [pageV_at a1 (by omega), pageV_at hx (by omega), a4 hd]
theorem root_cases (hw : Wired m) {r : List Int} (hr : r ∈ rootsOf m) (i : Nat) : int r i = 0 ∨ kindOf m.slots (int r i) = 2 := by
  by_cases hi : i < r.length
  · exact hw.roots r hr _ (by unfold int; rw [List.getD_eq_getElem?_getD, List.getElem?_eq_getElem hi]; exact List.getElem_mem _)
  · left; unfold int; rw [List.getD_eq_getElem?_getD, List.getElem?_eq_none (by omega)]; rfl
theorem Grew.entry (h : Grew m.slots L T D) (hw : Wired m) {r : List Int} (hr : r ∈ rootsOf m) {n : Nat} (hT : 0 < int r (n / 4) → ¬ T (int r (n / 4)).toNat) : entryOf L r n = entryOf m.slots r n := by
  unfold entryOf
  rcases root_cases hw hr (n / 4) with h0 | h2
  · rw [h0]; rfl
  · by_cases hp : 0 < int r (n / 4)
    · rw [if_pos hp, if_pos hp, h.table h2 (hT hp)]
    · rw [if_neg hp, if_neg hp]
theorem int_mem {t : List Int} {i : Nat} : int t i = 0 ∨ int t i ∈ t := by
  unfold int
  rw [List.getD_eq_getElem?_getD]
  cases hx : t[i]? with
  | none => exact .inl rfl
  | some y => exact .inr (List.mem_of_getElem? hx)
theorem entry_okT (h : tablesOk l = true) (r : List Int) (n : Nat) : entryOk l (entryOf l r n) = true := by
  unfold entryOf
  split
  · rcases int_mem (t := tableAt l (int r (n / 4))) (i := n % 4) with h0 | hm
    · rw [h0]; exact ok_of (.inl (Int.le_refl _))
    · cases hs : l[(int r (n / 4)).toNat]? with
      | none =>
        have e : tableAt l (int r (n / 4)) = [] := by unfold tableAt; rw [hs]; rfl
        rw [e] at hm; simp at hm
      | some s =>
        have e : tableAt l (int r (n / 4)) = s.table := by unfold tableAt; rw [hs]; rfl
        rw [e] at hm ⊢
        exact List.all_eq_true.1 (List.all_eq_true.1 h s (List.mem_of_getElem? hs)) _ hm
  · exact ok_of (.inl (Int.le_refl _))
theorem tables_laid (h : tablesOk l = true) {g : Nat} {s : Slot} (hf : ∀ s, l[g]? = some s → s.kind = 0) (hs : ∀ e ∈ s.table, entryOk (laid l g s) e = true) : tablesOk (laid l g s) = true := by
  refine List.all_eq_true.2 fun y hy => List.all_eq_true.2 fun e he => ?_
  rcases laid_mem hy with h1 | rfl
  · exact (Grew.laid (T := fun _ => False) (D := fun _ => False) hf).ok (List.all_eq_true.1 (List.all_eq_true.1 h y h1) e he)
  · exact hs e he
theorem tables_set (h : tablesOk l = true) {i : Nat} {s0 s1 : Slot} (hs : l[i]? = some s0) (hk : s1.kind = s0.kind) (he : ∀ e ∈ s1.table, entryOk l e = true) : tablesOk (l.set i s1) = true := by
  have hg : Grew l (l.set i s1) (fun _ => True) (fun _ => True) := Grew.set hs hk (fun h => absurd trivial h) (fun h => absurd trivial h)
  refine List.all_eq_true.2 fun y hy => List.all_eq_true.2 fun e he' => ?_
  rcases List.mem_or_eq_of_mem_set hy with h1 | rfl
  · exact hg.ok (List.all_eq_true.1 (List.all_eq_true.1 h y h1) e he')
  · exact hg.ok (he e he')
theorem Grew.rootAt (h : Grew l L T D) {g : Int} {r : List Int} {k : Nat} (hr : rootAt l g r k = true) (hT : 0 < int r k → ¬ T (int r k).toNat) : rootAt L g r k = true := by
  unfold Sl.rootAt at hr ⊢
  simp only [Bool.or_eq_true, Bool.and_eq_true, beq_iff_eq] at hr ⊢
  rcases hr with h0 | ⟨h2, hu⟩
  · exact .inl h0
  · obtain ⟨j, ej, j1, _⟩ := kindOf_ge h2 (by omega)
    exact .inr ⟨h.kind (by omega) h2, by rw [h.table h2 (hT (by omega))]; exact hu⟩
theorem rootF_is {g : Int} {r : List Int} (h : rootFine l g r = true) : (r.length : Int) = wants g ∧ ∀ k, k < r.length → rootAt l g r k = true := by
  unfold rootFine at h
  simp only [Bool.and_eq_true, decide_eq_true_eq] at h
  exact ⟨h.1, fun k hk => upto_iff.1 h.2 k hk⟩
theorem rootF_ok {g : Int} {r : List Int} (h : (r.length : Int) = wants g) (h2 : ∀ k, k < r.length → rootAt l g r k = true) : rootFine l g r = true := by
  unfold rootFine
  simp only [Bool.and_eq_true, decide_eq_true_eq]
  exact ⟨h, upto_iff.2 h2⟩
theorem rootAt_congr {g : Int} {r r' : List Int} {k : Nat} (h : int r k = int r' k) : rootAt l g r k = rootAt l g r' k := by unfold rootAt; rw [h]
theorem int_set_eq {r : List Int} {k : Nat} {v : Int} (h : k < r.length) : int (r.set k v) k = v := by unfold int; rw [List.getD_eq_getElem?_getD, List.getElem?_set_self h]; rfl
theorem int_set_ne {r : List Int} {k i : Nat} {v : Int} (h : i ≠ k) : int (r.set k v) i = int r i := by unfold int; rw [List.getD_eq_getElem?_getD, List.getElem?_set_ne (fun e => h e.symm), List.getD_eq_getElem?_getD]
theorem Grew.rootFine (h : Grew l L T D) {g : Int} {r : List Int} (hr : rootFine l g r = true) (hT : ∀ i, 0 < int r i → ¬ T (int r i).toNat) : rootFine L g r = true :=
  rootF_ok (rootF_is hr).1 fun k hk => h.rootAt ((rootF_is hr).2 k hk) (hT k)
/-- What a Root tells once, it tells at one place. -/
theorem told_uniq {r : List Int} {x : Int} (h : told r x ≤ 1) {a b : Nat} (ha : r[a]? = some x) (hb : r[b]? = some x) : a = b := by
  have key : ∀ a b : Nat, a < b → r[a]? = some x → r[b]? = some x → 2 ≤ told r x := by
    intro a b hab ha hb
    have e : told r x = told (r.take b) x + told (r.drop b) x := by rw [← told_append, List.take_append_drop]
    have m1 : x ∈ r.take b := List.mem_of_getElem? (i := a) (by rw [List.getElem?_take_of_lt hab]; exact ha)
    have h1 : 0 < told (r.take b) x := told_pos m1
    have m2 : x ∈ r.drop b := List.mem_of_getElem? (i := 0) (by rw [List.getElem?_drop, Nat.add_zero]; exact hb)
    have h2 : 0 < told (r.drop b) x := told_pos m2
    omega
  rcases Nat.lt_trichotomy a b with h1 | h1 | h1
  · have := key a b h1 ha hb; omega
  · exact h1
  · have := key b a h1 hb ha; omega
theorem int_some {r : List Int} {i : Nat} {x : Int} (h : int r i = x) (hx : x ≠ 0) : r[i]? = some x := by
  unfold int at h
  rw [List.getD_eq_getElem?_getD] at h
  cases hy : r[i]? with
  | none => rw [hy] at h; exact absurd h.symm hx
  | some y => rw [hy] at h; exact congrArg some h
theorem rootsOf_told (m : Img) (n : Int) : toldAll (rootsOf m) n = told m.root n + toldAll (m.snaps.map (·.root)) n := rfl
theorem own_only {j k : Nat} (hj1 : 1 ≤ j) (h1 : toldAll (rootsOf m) j = 1) (hk : int m.root k = (j : Nat)) : (∀ i, int m.root i = (j : Nat) → i = k) ∧ ∀ s ∈ m.snaps, ∀ i, int s.root i ≠ (j : Nat) := by
  have hj : (j : Int) ≠ 0 := by omega
  have hp := told_pos (List.mem_of_getElem? (int_some hk hj))
  rw [rootsOf_told] at h1
  refine ⟨fun i hi => told_uniq (by omega) (int_some hi hj) (int_some hk hj), fun s hs i hi => ?_⟩
  have := toldAll_pos (List.mem_map.2 ⟨s, hs, rfl⟩ : s.root ∈ m.snaps.map (·.root)) (List.mem_of_getElem? (int_some hi hj))
  omega
theorem sumOf_two {n a b : Nat} {f : Nat → Nat} (ha : a < n) (hb : b < n) (hab : a ≠ b) : f a + f b ≤ sumOf ((List.range n).map f) := by
  have h1 := sumOf_one (n := n) (k := a) (f := fun i => if i = a then 0 else f i) (g := f) ha (fun i hi => by simp [hi]) (f a) (by simp)
  have h2 : (fun i => if i = a then 0 else f i) b ≤ sumOf ((List.range n).map (fun i => if i = a then 0 else f i)) := sumOf_mem (List.mem_map.2 ⟨b, List.mem_range.2 hb, rfl⟩)
  have h3 : (fun i => if i = a then 0 else f i) b = f b := if_neg (fun e => hab e.symm)
  omega
theorem refs_cnt (h : checkErr m = 0) {j : Nat} (hj : j < m.slots.length) : int m.refs j = (cnt m j : Nat) := by
  have := (check_is h).2 j hj
  unfold refAt at this
  simp only [Bool.and_eq_true, beq_iff_eq] at this
  rw [this.1, int_cnt hj]
/-- A page that is told once: no other entry tells it. -/
theorem page_only (S : Sound m) {n j d : Nat} (hj : int m.root (n / 4) = (j : Nat)) (hj1 : 1 ≤ j) (h1 : toldAll (rootsOf m) j = 1) (hd1 : 1 ≤ d) (he : entryOf m.slots m.root n = (d : Nat)) (hc : cnt m d = 1) :
    (∀ i, i ≠ n → entryOf m.slots m.root i ≠ (d : Nat)) ∧ ∀ s ∈ m.snaps, ∀ i, entryOf m.slots s.root i ≠ (d : Nat) := by
  obtain ⟨o1, o2⟩ := own_only hj1 h1 hj
  have hk1 : kindOf m.slots (d : Nat) = 1 := by
    rcases ok_cases (entry_okT S.tables m.root n) with h0 | ⟨_, h0⟩
    · omega
    · rw [he] at h0; exact h0
  obtain ⟨d', e', _, hdl, hdk⟩ := kindOf_ge hk1 (by omega)
  obtain rfl : d' = d := by omega
  have hsum : sumOf ((List.range (m.slots.length - 1)).map (fun k => toldBy m.slots (rootsOf m) d' (k + 1))) ≤ 1 := by
    unfold cnt countAt at hc
    rw [if_neg (by omega), if_pos hdk] at hc
    omega
  have tab : ∀ r ∈ rootsOf m, ∀ i, entryOf m.slots r i = (d' : Nat) → ∃ k, int r (i / 4) = (k : Nat) ∧ 1 ≤ k ∧ k < m.slots.length ∧ (tableN m.slots k)[i % 4]? = some (d' : Int) ∧ 1 ≤ toldBy m.slots (rootsOf m) d' k := by
    intro r hr i hi
    unfold entryOf at hi
    split at hi
    · rename_i hp
      rcases root_cases S.wired hr (i / 4) with h0 | h2
      · omega
      · obtain ⟨k, ek, k1, k2, k3⟩ := kindOf_ge h2 (by omega)
        rw [ek] at hi
        have hi : int (tableN m.slots k) (i % 4) = (d' : Nat) := hi
        have hs := int_some hi (by omega)
        refine ⟨k, ek, k1, k2, hs, ?_⟩
        unfold toldBy
        rw [if_pos ⟨k3, toldAll_pos hr (List.mem_of_getElem? (int_some ek (by omega)))⟩]
        exact told_pos (List.mem_of_getElem? hs)
    · omega
  have hroot : m.root ∈ rootsOf m := List.mem_cons_self ..
  obtain ⟨k0, a1, a2, a3, a4, a5⟩ := tab m.root hroot n he
  obtain rfl : k0 = j := by omega
  have same : ∀ r ∈ rootsOf m, ∀ i, entryOf m.slots r i = (d' : Nat) → int r (i / 4) = (k0 : Nat) ∧ i % 4 = n % 4 := by
    intro r hr i hi
    obtain ⟨k, b1, b2, b3, b4, b5⟩ := tab r hr i hi
    obtain rfl : k = k0 := by
      refine Classical.byContradiction fun hne => ?_
      have := sumOf_two (n := m.slots.length - 1) (a := k - 1) (b := k0 - 1) (f := fun k => toldBy m.slots (rootsOf m) d' (k + 1)) (by omega) (by omega) (by omega)
      rw [show k - 1 + 1 = k from by omega, show k0 - 1 + 1 = k0 from by omega] at this
      omega
    refine ⟨b1, told_uniq ?_ b4 a4⟩
    have := sumOf_mem (l := (List.range (m.slots.length - 1)).map (fun k => toldBy m.slots (rootsOf m) d' (k + 1))) (List.mem_map.2 ⟨k - 1, List.mem_range.2 (by omega), rfl⟩)
    rw [show k - 1 + 1 = k from by omega] at this
    unfold toldBy at a5
    split at a5
    · rename_i hh
      have e : toldBy m.slots (rootsOf m) d' k = told (tableN m.slots k) d' := by unfold toldBy; rw [if_pos hh]
      omega
    · omega
  refine ⟨fun i hi hh => ?_, fun s hs i hh => ?_⟩
  · obtain ⟨c1, c2⟩ := same m.root hroot i hh
    have := o1 (i / 4) c1
    omega
  · obtain ⟨c1, _⟩ := same s.root (List.mem_cons_of_mem _ (List.mem_map.2 ⟨s, hs, rfl⟩)) i hh
    exact o2 s hs _ c1
theorem sound_mk (S : Sound m) {R : List Int} {G : Int} (hL : slotsErr L = 0) (hG : guestOk G = true) (ht : tablesOk L = true) (hr : rootFine L G R = true) (hs : ∀ s ∈ m.snaps, rootFine L s.guest s.root = true) : Sound { guest := G, root := R, slots := L, refs := m.refs, snaps := m.snaps } := by
  refine ⟨?_, hL, S.names, ?_, ht, ?_⟩
  · have := sizesOk_is S.sizes; have := slotsErr_len hL; exact sizesOk_yes ⟨this.1, this.2, by dsimp only; omega⟩
  · have := S.guests
    unfold guestsOk at this ⊢
    simp only [Bool.and_eq_true] at this ⊢
    exact ⟨hG, this.2⟩
  · unfold rootsOk
    simp only [Bool.and_eq_true]
    exact ⟨hr, List.all_eq_true.2 hs⟩
theorem sound_roots (S : Sound m) : guestOk m.guest = true ∧ rootFine m.slots m.guest m.root = true ∧ ∀ s ∈ m.snaps, rootFine m.slots s.guest s.root = true := by
  have h1 := S.guests
  have h2 := S.roots
  unfold guestsOk at h1
  unfold rootsOk at h2
  simp only [Bool.and_eq_true] at h1 h2
  exact ⟨h1.1, h2.1, List.all_eq_true.1 h2.2⟩
end
end Go.Proofs.Ytbhhcjnjddcocaa
-- PureX2: What putM and writeM make of a right image. No conditions.
namespace Go.Proofs.Ytbhhcjnjddcocaa
open Sl
/-- The k-th table of an image is turned to t. -/
structure Eff (m x : Img) (k : Nat) (t : List Int) : Prop where
  sound : Sound x
  snaps : x.snaps = m.snaps
  guest : x.guest = m.guest
  rlen : x.root.length = m.root.length
  at_ : ∀ n, n / 4 = k → entryOf x.slots x.root n = int t (n % 4)
  else_ : ∀ n, n / 4 ≠ k → entryOf x.slots x.root n = entryOf m.slots m.root n
  past : ∀ s ∈ m.snaps, ∀ n, entryOf x.slots s.root n = entryOf m.slots s.root n
  page : ∀ e, entryOk m.slots e = true → pageV x.slots e = pageV m.slots e
/-- Entries behind the last page are none. -/
def Behind (g : Int) (k : Nat) (t : List Int) : Prop := ∀ i : Nat, i < 4 → g ≤ 4 * (k : Int) + i → int t i = 0
theorem behind_upto {g : Int} {k : Nat} {t : List Int} (h : Behind g k t) : upto (fun i => decide (4 * (k : Int) + i < g) || int t i == 0) 4 = true := by
  refine upto_iff.2 fun i hi => ?_
  by_cases hg : 4 * (k : Int) + i < g
  · simp [hg]
  · simp [h i hi (by omega)]
theorem entry_entries (m : Img) (n : Nat) : entryOf m.slots m.root n = int (entriesAt m (n / 4)) (n % 4) := by
  unfold entryOf entriesAt
  split
  · rfl
  · have : n % 4 = 0 ∨ n % 4 = 1 ∨ n % 4 = 2 ∨ n % 4 = 3 := by omega
    rcases this with e | e | e | e <;> rw [e] <;> rfl
theorem mem_root (m : Img) : m.root ∈ rootsOf m := List.mem_cons_self ..
theorem mem_snap {m : Img} {s : Snap} (h : s ∈ m.snaps) : s.root ∈ rootsOf m := List.mem_cons_of_mem _ (List.mem_map.2 ⟨s, h, rfl⟩)
theorem eff_of {m : Img} (S : Sound m) {k j : Nat} {L : List Slot} {R t : List Int} (hj1 : 1 ≤ j) (G : Grew m.slots L (· = j) (· = j)) (hL : slotsErr L = 0) (hT : tablesOk L = true) (hk2 : kindOf L j = 2) (ht : tableAt L j = t)
    (hR : int R k = (j : Nat)) (hRl : R.length = m.root.length) (hRo : ∀ i, i ≠ k → int R i = int m.root i) (hn : ∀ i, i ≠ k → int m.root i ≠ (j : Nat)) (hs : ∀ s ∈ m.snaps, ∀ i, int s.root i ≠ (j : Nat)) (hnp : kindOf m.slots j ≠ 1) (hb : Behind m.guest k t) :
    Eff m { m with slots := L, root := R } k t := by
  obtain ⟨r1, r2, r3⟩ := sound_roots S
  have hw := S.wired
  refine ⟨sound_mk S hL r1 hT ?_ fun s h => ?_, rfl, rfl, hRl, fun n e => ?_, fun n e => ?_, fun s h n => ?_, fun e he => ?_⟩
  · refine rootF_ok (by rw [hRl]; exact (rootF_is r2).1) fun i hi => ?_
    by_cases hik : i = k
    · subst hik
      unfold rootAt
      rw [hR, hk2, ht, behind_upto hb]
      simp
    · rw [rootAt_congr (hRo i hik)]
      exact G.rootAt ((rootF_is r2).2 i (by omega)) fun h0 h1 => hn i hik (by omega)
  · exact G.rootFine (r3 s h) fun i h0 h1 => hs s h i (by omega)
  · show entryOf L R n = _
    unfold entryOf
    rw [e, hR, if_pos (by omega), ht]
  · show entryOf L R n = _
    have e1 : entryOf L R n = entryOf L m.root n := by unfold entryOf; rw [hRo _ e]
    rw [e1]
    exact G.entry hw (mem_root m) fun h0 h1 => hn _ e (by omega)
  · exact G.entry hw (mem_snap h) fun h0 h1 => hs s h (n / 4) (by omega)
  · refine G.page he fun h0 h1 => ?_
    rcases ok_cases he with h2 | ⟨_, h2⟩
    · omega
    · exact hnp (by rw [show (j : Int) = e from by omega]; exact h2)
theorem own_is {m : Img} (hm : checkErr m = 0) {k : Nat} (h : ownT m k = true) : ∃ j s, int m.root k = (j : Nat) ∧ 1 ≤ j ∧ m.slots[j]? = some s ∧ s.kind = 2 ∧ int m.refs j = 1 ∧ cnt m j = 1 ∧ toldAll (rootsOf m) j = 1 := by
  have S := sound_of (check_is hm).1
  unfold ownT at h
  simp only [Bool.and_eq_true, decide_eq_true_eq, beq_iff_eq] at h
  rcases root_cases S.wired (mem_root m) k with h0 | h2
  · omega
  · obtain ⟨j, e, j1, j2, j3⟩ := kindOf_ge h2 (by omega)
    have hx := List.getElem?_eq_getElem j2
    have hr := h.2
    rw [e, Int.toNat_natCast] at hr
    have hc := refs_cnt hm j2
    have hc1 : cnt m j = 1 := by omega
    refine ⟨j, _, e, j1, hx, (kindN_at hx).symm.trans j3, hr, hc1, ?_⟩
    rw [← hc1]
    exact (countAt_other j1 (by omega)).symm
theorem free_no {l : List Slot} {g : Nat} (hf : ∀ s, l[g]? = some s → s.kind = 0) {c : Int} (hc : 0 < c) : kindOf l g ≠ c := fun h => by
  obtain ⟨j, e, j1, j2, j3⟩ := kindOf_ge h (by omega)
  obtain rfl : j = g := by omega
  have hx := List.getElem?_eq_getElem j2
  rw [kindN_at hx, hf _ hx] at j3
  omega
theorem free_roots {m : Img} (hw : Wired m) {g : Nat} (hg : 1 ≤ g) (hf : ∀ s, m.slots[g]? = some s → s.kind = 0) {r : List Int} (hr : r ∈ rootsOf m) (i : Nat) : int r i ≠ (g : Nat) := fun h => by
  rcases root_cases hw hr i with h0 | h2
  · omega
  · rw [h] at h2; exact free_no hf (by omega) h2
theorem free_entry {l : List Slot} {g : Nat} (hg : 1 ≤ g) (hf : ∀ s, l[g]? = some s → s.kind = 0) {e : Int} (he : entryOk l e = true) : e ≠ (g : Nat) := fun h => by
  rcases ok_cases he with h0 | ⟨_, h2⟩
  · omega
  · rw [h] at h2; exact free_no hf (by omega) h2
theorem laid_kind {l : List Slot} {g : Nat} {s : Slot} (h1 : 1 ≤ g) (h2 : g ≤ l.length) : kindOf (laid l g s) g = s.kind ∧ tableAt (laid l g s) g = s.table := by
  have hx := laid_new (s := s) h2
  exact ⟨by rw [kindOf_N h1 (List.getElem?_eq_some_iff.1 hx).1, kindN_at hx], tableAt_at hx⟩
theorem set_kind {l : List Slot} {g : Nat} {s0 s : Slot} (h1 : 1 ≤ g) (h2 : l[g]? = some s0) : kindOf (l.set g s) g = s.kind ∧ tableAt (l.set g s) g = s.table := by
  have hl := (List.getElem?_eq_some_iff.1 h2).1
  have hx : (l.set g s)[g]? = some s := List.getElem?_set_self hl
  exact ⟨by rw [kindOf_N h1 (by simp; omega), kindN_at hx], tableAt_at hx⟩
/-- What put makes of a right image. -/
theorem put_eff {m x : Img} (hm : checkErr m = 0) {k : Nat} {t : List Int} (hk : k < m.root.length) (ht : entriesErr t = 0) (hto : ∀ e ∈ t, entryOk m.slots e = true) (hb : Behind m.guest k t) (h : putM m k t = some x) : Eff m x k t := by
  have S := sound_of (check_is hm).1
  have hw := S.wired
  obtain ⟨r1, r2, r3⟩ := sound_roots S
  unfold putM at h
  split at h
  · rename_i e
    injection h with h
    subst h
    exact ⟨S, rfl, rfl, rfl, fun n hn => by rw [entry_entries, e, hn], fun _ _ => rfl, fun _ _ _ => rfl, fun _ _ => rfl⟩
  · split at h
    · rename_i hbr
      injection h with h
      subst h
      refine ⟨sound_mk S S.slots r1 S.tables ?_ r3, rfl, rfl, by simp, fun n hn => ?_, fun n hn => ?_, fun _ _ _ => rfl, fun _ _ => rfl⟩
      · refine rootF_ok (by rw [List.length_set]; exact (rootF_is r2).1) fun i hi => ?_
        rw [List.length_set] at hi
        by_cases hik : i = k
        · subst hik; unfold rootAt; rw [int_set_eq hk]; rfl
        · rw [rootAt_congr (int_set_ne hik)]; exact (rootF_is r2).2 i hi
      · have e1 : entryOf m.slots (m.root.set k 0) n = 0 := by unfold entryOf; rw [hn, int_set_eq hk]; rfl
        refine e1.trans ?_
        rcases int_mem (t := t) (i := n % 4) with h0 | hmem
        · exact h0.symm
        · have := List.all_eq_true.1 hbr _ hmem
          simp only [beq_iff_eq] at this
          exact this.symm
      · show entryOf m.slots (m.root.set k 0) n = _
        unfold entryOf
        rw [int_set_ne hn]
    · rename_i hnb
      have hnb : bare t = false := by simpa using hnb
      split at h
      · rename_i ho
        injection h with h
        subst h
        obtain ⟨j, s0, e, j1, hs, hk2, hr, hc, htl⟩ := own_is hm ho
        obtain ⟨o1, o2⟩ := own_only j1 htl e
        rw [e, Int.toNat_natCast]
        obtain ⟨q1, q2⟩ := set_kind (s := tslot t) j1 hs
        exact eff_of (L := m.slots.set j (tslot t)) (R := m.root) S j1 (Grew.set hs (by rw [hk2]; rfl) (fun h => absurd rfl h) (fun h => absurd rfl h)) (set_fine' S.slots j1 (tslot_fine ht hnb))
          (tables_set S.tables hs (by rw [hk2]; rfl) hto) q1 q2 e rfl (fun _ _ => rfl) (fun i hi h => hi (o1 i h)) o2 (by rw [kindOf_N j1 (List.getElem?_eq_some_iff.1 hs).1, kindN_at hs]; omega) hb
      · split at h
        · cases h
        · rename_i hg
          injection h with h
          subst h
          obtain ⟨g1, g2, hf, _⟩ := grab_is S.slots hg
          generalize hgg : grab m.slots = g at *
          obtain ⟨q1, q2⟩ := laid_kind (s := tslot t) g1 g2
          have G : Grew m.slots (laid m.slots g (tslot t)) (· = g) (· = g) := Grew.laid hf
          exact eff_of (L := laid m.slots g (tslot t)) (R := m.root.set k (g : Nat)) S g1 G (by rw [← hgg]; exact laid_fine S.slots (by rw [hgg]; exact hg) (tslot_fine ht hnb))
            (tables_laid S.tables hf fun e he => G.ok (hto e he)) q1 q2 (int_set_eq hk) (by simp) (fun i hi => int_set_ne hi) (fun i _ => free_roots hw g1 hf (mem_root m) i) (fun s hs i => free_roots hw g1 hf (mem_snap hs) i) (free_no hf (by omega)) hb
/-- The n-th page of an image is another, all else is as it was. -/
structure WEff (m x : Img) (n : Nat) (pg : ByteArray) : Prop where
  sound : Sound x
  snaps : x.snaps = m.snaps
  guest : x.guest = m.guest
  rlen : x.root.length = m.root.length
  new : pageV x.slots (entryOf x.slots x.root n) = pg
  else_ : ∀ i, i ≠ n → pageV x.slots (entryOf x.slots x.root i) = pageV m.slots (entryOf m.slots m.root i)
  past : ∀ s ∈ m.snaps, ∀ i, pageV x.slots (entryOf x.slots s.root i) = pageV m.slots (entryOf m.slots s.root i)
theorem weff_of {m x : Img} (S : Sound m) {n : Nat} {e : Int} {pg : ByteArray} (h4 : (entriesAt m (n / 4)).length = 4) (E : Eff m x (n / 4) ((entriesAt m (n / 4)).set (n % 4) e)) (hp : pageV x.slots e = pg) : WEff m x n pg := by
  refine ⟨E.sound, E.snaps, E.guest, E.rlen, ?_, fun i hi => ?_, fun s hs i => ?_⟩
  · rw [E.at_ n rfl, int_set_eq (by omega)]; exact hp
  · have e1 : entryOf x.slots x.root i = entryOf m.slots m.root i := by
      by_cases hk : i / 4 = n / 4
      · rw [E.at_ i hk, int_set_ne (by omega), entry_entries, hk]
      · exact E.else_ i hk
    rw [e1]
    exact E.page _ (entry_okT S.tables _ _)
  · rw [E.past s hs]
    exact E.page _ (entry_okT S.tables _ _)
theorem entries_facts {m : Img} (hm : checkErr m = 0) {k : Nat} (hk : k < m.root.length) : entriesErr (entriesAt m k) = 0 ∧ (∀ e ∈ entriesAt m k, entryOk m.slots e = true) ∧ Behind m.guest k (entriesAt m k) := by
  have S := sound_of (check_is hm).1
  obtain ⟨r1, r2, r3⟩ := sound_roots S
  unfold entriesAt
  rcases root_cases S.wired (mem_root m) k with h0 | h2
  · rw [h0, if_neg (by omega)]
    refine ⟨rfl, fun e he => ok_of (.inl ?_), fun i hi _ => ?_⟩
    · have : e = 0 := by simpa using he
      omega
    · have : i = 0 ∨ i = 1 ∨ i = 2 ∨ i = 3 := by omega
      rcases this with e | e | e | e <;> rw [e] <;> rfl
  · obtain ⟨j, e, j1, j2, j3⟩ := kindOf_ge h2 (by omega)
    have hx := List.getElem?_eq_getElem j2
    have hk2 := (kindN_at hx).symm.trans j3
    have hsf := List.all_eq_true.1 (slots_all S.slots) _ (List.mem_of_getElem? hx)
    rw [e, if_pos (by omega), tableAt_at hx]
    refine ⟨?_, fun y hy => List.all_eq_true.1 (List.all_eq_true.1 S.tables _ (List.mem_of_getElem? hx)) y hy, fun i hi hg => ?_⟩
    · unfold slotFine at hsf
      rw [if_neg (by omega), if_neg (by omega), if_pos hk2] at hsf
      simp only [Bool.and_eq_true, beq_iff_eq] at hsf
      exact hsf.1.2
    · have := (rootF_is r2).2 k hk
      unfold rootAt at this
      rw [e, tableAt_at hx] at this
      simp only [Bool.or_eq_true, Bool.and_eq_true, beq_iff_eq] at this
      rcases this with h0 | ⟨_, hu⟩
      · omega
      · have := upto_iff.1 hu i hi
        simp only [Bool.or_eq_true, decide_eq_true_eq, beq_iff_eq] at this
        omega
theorem Behind.set {g : Int} {k : Nat} {t : List Int} (h : Behind g k t) {n : Nat} (hn : (n : Int) < g) (hk : n / 4 = k) (e : Int) : Behind g k (t.set (n % 4) e) := fun i hi hg => by
  rw [int_set_ne (by omega)]; exact h i hi hg
theorem entries_set {t : List Int} (h : entriesErr t = 0) (i : Nat) {e : Int} (he : fine e = true) : entriesErr (t.set i e) = 0 := by
  obtain ⟨h1, h2⟩ := entriesErr_is h
  refine entriesErr_ok (by rw [List.length_set, h1]) ?_
  rw [List.all_eq_true] at h2 ⊢
  intro x hx
  rcases List.mem_or_eq_of_mem_set hx with h3 | rfl
  · exact h2 x h3
  · exact he
/-- What set makes of a right image. -/
theorem set_eff {m x : Img} (hm : checkErr m = 0) {n : Nat} {e : Int} (hk : n / 4 < m.root.length) (hn : (n : Int) < m.guest) (he : fine e = true) (h0 : e ≤ 0) (h : setM m n e = some x) : WEff m x n zeroP := by
  obtain ⟨f1, f2, f3⟩ := entries_facts hm hk
  refine weff_of (sound_of (check_is hm).1) (entriesErr_is f1).1 (put_eff hm hk (entries_set f1 _ he) (fun y hy => ?_) (f3.set hn rfl e) h) (pageV_no h0)
  rcases List.mem_or_eq_of_mem_set hy with h3 | rfl
  · exact f2 y h3
  · exact ok_of (.inl h0)
end Go.Proofs.Ytbhhcjnjddcocaa
-- PureX3: What writeM makes of a right image. No conditions.
namespace Go.Proofs.Ytbhhcjnjddcocaa
open Sl
theorem sumOf_zeros (n : Nat) : sumOf ((List.range n).map fun _ => 0) = 0 := by
  induction n with
  | zero => rfl
  | succ n ih => rw [List.range_succ, List.map_append, sumOf_append, ih]; rfl
theorem told_none {l : List Int} {v : Int} (h : ∀ y ∈ l, y ≠ v) : told l v = 0 := told_zero h
theorem told_set_new {l : List Int} {v : Int} {k : Nat} (hk : k < l.length) (h : ∀ y ∈ l, y ≠ v) : told (l.set k v) v = 1 := by
  induction l generalizing k with
  | nil => simp at hk
  | cons a t ih =>
    cases k with
    | zero =>
      have h0 := told_none (l := t) (v := v) (fun y hy => h y (List.mem_cons_of_mem _ hy))
      unfold told at h0 ⊢
      simp [h0]
    | succ k =>
      have h1 := ih (k := k) (by simpa using hk) (fun y hy => h y (List.mem_cons_of_mem _ hy))
      have ha := h a (List.mem_cons_self ..)
      unfold told at h1 ⊢
      simp [h1, ha]
theorem toldAll_zero {ls : List (List Int)} {v : Int} (h : ∀ r ∈ ls, ∀ y ∈ r, y ≠ v) : toldAll ls v = 0 := by
  induction ls with
  | nil => rfl
  | cons r t ih =>
    have e : toldAll (r :: t) v = told r v + toldAll t v := rfl
    rw [e, told_none (h r (List.mem_cons_self ..)), ih fun r' hr => h r' (List.mem_cons_of_mem _ hr)]
/-- A page that one entry of one told table tells. -/
theorem page_one {x : Img} (hw : Wired x) {j d : Nat} (hj1 : 1 ≤ j) (hjl : j < x.slots.length) (hj2 : kindN x.slots j = 2) (hjt : 0 < toldAll (rootsOf x) j) (hd1 : 1 ≤ d) (hdl : d < x.slots.length) (hd2 : kindN x.slots d = 1)
    (ho : ∀ k, k ≠ j → 1 ≤ k → told (tableN x.slots k) d = 0) (h1 : told (tableN x.slots j) d = 1) : cnt x d = 1 := by
  unfold cnt countAt
  rw [if_neg (by omega), if_pos hd2, toldAll_page hw hd1 hdl (by omega)]
  have := sumOf_one (n := x.slots.length - 1) (k := j - 1) (f := fun _ => 0) (g := fun k => toldBy x.slots (rootsOf x) d (k + 1)) (by omega) (fun i hi => by
    show 0 = toldBy _ _ _ _
    unfold toldBy
    split
    · exact (ho (i + 1) (by omega) (by omega)).symm
    · rfl) 1 (by
    show toldBy _ _ _ _ = _
    rw [show j - 1 + 1 = j from by omega]
    unfold toldBy
    rw [if_pos ⟨hj2, hjt⟩, h1])
  rw [this, sumOf_zeros]
/-- The n-th page stands where one table of one Root tells it. -/
def After (x : Img) (n : Nat) : Prop := ∃ j d : Nat, int x.root (n / 4) = (j : Nat) ∧ 1 ≤ j ∧ cnt x j = 1 ∧ j < x.slots.length ∧ entryOf x.slots x.root n = (d : Nat) ∧ 1 ≤ d ∧ cnt x d = 1 ∧ d < x.slots.length
theorem cnt_congr {x y : Img} (hl : y.slots.length = x.slots.length) (hk : ∀ n, kindN y.slots n = kindN x.slots n) (ht : ∀ n, tableN y.slots n = tableN x.slots n) (hr : rootsOf y = rootsOf x) (n : Nat) : cnt y n = cnt x n := by
  unfold cnt countAt toldBy
  simp only [hl, hk, ht, hr]
theorem kindN_set {l : List Slot} {i : Nat} {s0 s : Slot} (hs : l[i]? = some s0) (hk : s.kind = s0.kind) (n : Nat) : kindN (l.set i s) n = kindN l n := by
  by_cases hn : i = n
  · subst hn
    have hx : (l.set i s)[i]? = some s := List.getElem?_set_self (List.getElem?_eq_some_iff.1 hs).1
    rw [kindN_at hx, kindN_at hs, hk]
  · unfold kindN; rw [List.getElem?_set_ne hn]
theorem tableN_set {l : List Slot} {i : Nat} {s0 s : Slot} (hs : l[i]? = some s0) (hk : s.table = s0.table) (n : Nat) : tableN (l.set i s) n = tableN l n := by
  by_cases hn : i = n
  · subst hn
    have hx : (l.set i s)[i]? = some s := List.getElem?_set_self (List.getElem?_eq_some_iff.1 hs).1
    rw [tableN_at hx, tableN_at hs, hk]
  · unfold tableN; rw [List.getElem?_set_ne hn]
theorem slot_free0 {s : Slot} (h : slotFine s = true) (hk : s.kind = 2) (t : List Int) : { s with table := t } = tslot t := by
  unfold slotFine at h
  rw [if_neg (by omega), if_neg (by omega), if_pos hk] at h
  simp only [Bool.and_eq_true, beq_iff_eq] at h
  obtain ⟨k, ⟨a⟩, tb⟩ := s
  have ha : a.size = 0 := h.1.1
  obtain rfl : a = #[] := Array.size_eq_zero_iff.1 ha
  have hk : k = 2 := hk
  subst hk
  rfl
theorem table_ent {l : List Slot} (h : tablesOk l = true) {k : Nat} {e : Int} (he : e ∈ tableN l k) : entryOk l e = true := by
  unfold tableN at he
  cases hs : l[k]? with
  | none => rw [hs] at he; simp at he
  | some s =>
    rw [hs] at he
    exact List.all_eq_true.1 (List.all_eq_true.1 h s (List.mem_of_getElem? hs)) _ he
/-- What a page written into a new slot makes. -/
theorem new_page {m : Img} (S : Sound m) {n j d : Nat} {L : List Slot} {R : List Int} {pg : ByteArray} (hn : (n : Int) < m.guest) (he : entriesErr (entriesAt m (n / 4)) = 0) (hb : Behind m.guest (n / 4) (entriesAt m (n / 4)))
    (hj1 : 1 ≤ j) (G : Grew m.slots L (· = j) (· = j)) (hL : slotsErr L = 0) (hT : tablesOk L = true) (hk2 : kindOf L j = 2) (ht : tableAt L j = (entriesAt m (n / 4)).set (n % 4) (d : Nat))
    (hR : int R (n / 4) = (j : Nat)) (hRl : R.length = m.root.length) (hRo : ∀ i, i ≠ n / 4 → int R i = int m.root i) (hno : ∀ i, i ≠ n / 4 → int m.root i ≠ (j : Nat)) (hs : ∀ s ∈ m.snaps, ∀ i, int s.root i ≠ (j : Nat)) (hnp : kindOf m.slots j ≠ 1)
    (hd1 : 1 ≤ d) (hdk : kindOf L d = 1) (hdp : pageV L d = pg) (hjt : toldAll (rootsOf { m with slots := L, root := R }) j = 1) (hde : ∀ e ∈ entriesAt m (n / 4), e ≠ (d : Nat)) (hdo : ∀ k, k ≠ j → 1 ≤ k → told (tableN L k) d = 0) :
    WEff m { m with slots := L, root := R } n pg ∧ After { m with slots := L, root := R } n := by
  have E := eff_of S hj1 G hL hT hk2 ht hR hRl hRo hno hs hnp (hb.set hn rfl _)
  have h4 := (entriesErr_is he).1
  obtain ⟨j', ej, _, jl, jk⟩ := kindOf_ge hk2 (by omega)
  obtain rfl : j = j' := by omega
  obtain ⟨d', ed, _, dl, dk⟩ := kindOf_ge hdk (by omega)
  obtain rfl : d = d' := by omega
  refine ⟨weff_of S h4 E hdp, j, d, hR, hj1, ?_, jl, ?_, hd1, ?_, dl⟩
  · rw [← hjt]; exact countAt_other hj1 (by show kindN L j ≠ 1; omega)
  · rw [E.at_ n rfl, int_set_eq (by omega)]
  · refine page_one E.sound.wired hj1 jl jk (by rw [hjt]; omega) hd1 dl dk hdo ?_
    have e : tableN L j = (entriesAt m (n / 4)).set (n % 4) (d : Nat) := by rw [← ht]; unfold tableAt tableN; rw [Int.toNat_natCast]
    show told (tableN L j) d = 1
    rw [e]
    exact told_set_new (by omega) hde
theorem not_bare {t : List Int} {i : Nat} (hi : i < t.length) {d : Nat} (hd : 1 ≤ d) : bare (t.set i (d : Nat)) = false := by
  have hm : ((d : Nat) : Int) ∈ t.set i (d : Nat) := List.mem_of_getElem? (i := i) (by rw [List.getElem?_set_self hi])
  cases hb : bare (t.set i (d : Nat))
  · rfl
  · have := List.all_eq_true.1 hb _ hm
    simp only [beq_iff_eq] at this
    omega
theorem told_free {l : List Slot} (h : tablesOk l = true) {g : Nat} (hg : 1 ≤ g) (hf : ∀ s, l[g]? = some s → s.kind = 0) (k : Nat) : told (tableN l k) g = 0 := told_none fun _ hy => free_entry hg hf (table_ent h hy)
theorem told_laid {l : List Slot} {g d : Nat} {s : Slot} (hg : g ≤ l.length) (hd : told s.table d = 0) (h : ∀ k, told (tableN l k) d = 0) (k : Nat) : told (tableN (laid l g s) k) d = 0 := by
  by_cases hk : k = g
  · subst hk; rw [tableN_at (laid_new hg)]; exact hd
  · by_cases hl : k < l.length
    · have e : tableN (laid l g s) k = tableN l k := by unfold tableN; rw [laid_old hl hk]
      rw [e]; exact h k
    · have e : tableN (laid l g s) k = [] := by unfold tableN; rw [laid_past (by omega) hk]; rfl
      rw [e]; rfl
theorem told_setN {l : List Slot} {j d : Nat} {s : Slot} (h : ∀ k, told (tableN l k) d = 0) (k : Nat) (hk : k ≠ j) : told (tableN (l.set j s) k) d = 0 := by
  have e : tableN (l.set j s) k = tableN l k := by unfold tableN; rw [List.getElem?_set_ne (fun e => hk e.symm)]
  rw [e]; exact h k
theorem write_eff {m x : Img} (hm : checkErr m = 0) {n : Nat} {pg : ByteArray} (hk : n / 4 < m.root.length) (hn : (n : Int) < m.guest) (hp : pg.size = 4) (h : writeM m n pg = some x) : (WEff m x n pg ∧ After x n) ∧ x.slots.length ≤ m.slots.length + 2 := by
  have S := sound_of (check_is hm).1
  have hw := S.wired
  obtain ⟨r1, r2, r3⟩ := sound_roots S
  obtain ⟨f1, f2, f3⟩ := entries_facts hm hk
  have h4 := (entriesErr_is f1).1
  unfold writeM at h
  dsimp only at h
  split at h
  · rename_i hc
    obtain ⟨ho, he0, hr⟩ := hc
    injection h with h
    obtain ⟨j, s0, e, j1, hs, hk2, _, hcj, htl⟩ := own_is hm ho
    obtain ⟨o1, o2⟩ := own_only j1 htl e
    rcases ok_cases (entry_okT S.tables m.root n) with h0 | ⟨_, hke⟩
    · omega
    · obtain ⟨d, ed, d1, d2, d3⟩ := kindOf_ge hke (by omega)
      rw [ed, Int.toNat_natCast] at h hr
      have hcd : cnt m d = 1 := by have := refs_cnt hm d2; omega
      obtain ⟨p1, p2⟩ := page_only S e j1 htl d1 ed hcd
      have hds := List.getElem?_eq_getElem d2
      generalize m.slots[d] = sd at hds
      rw [List.getD_eq_getElem?_getD, hds, Option.getD_some] at h
      have hkd : sd.kind = 1 := (kindN_at hds).symm.trans d3
      have hsf := List.all_eq_true.1 (slots_all S.slots) _ (List.mem_of_getElem? hds)
      have hsf2 : slotFine { sd with data := pg } = true := by
        unfold slotFine at hsf ⊢
        rw [if_neg (by omega), if_pos hkd] at hsf
        rw [if_neg (by show ¬ sd.kind = 0; omega), if_pos (by show sd.kind = 1; exact hkd)]
        simp only [Bool.and_eq_true, beq_iff_eq] at hsf ⊢
        exact ⟨hp, hsf.2⟩
      have G : Grew m.slots (m.slots.set d { sd with data := pg }) (fun _ => False) (· = d) := Grew.set hds rfl (fun _ => rfl) (fun h => absurd rfl h)
      have ent : ∀ r ∈ rootsOf m, ∀ i, entryOf (m.slots.set d { sd with data := pg }) r i = entryOf m.slots r i := fun r hr i => G.entry hw hr fun _ h => h
      have pag : ∀ r i, entryOf m.slots r i ≠ (d : Nat) → pageV (m.slots.set d { sd with data := pg }) (entryOf m.slots r i) = pageV m.slots (entryOf m.slots r i) := fun r i hne => G.page (entry_okT S.tables r i) fun h0 h1 => hne (by omega)
      have hset : (m.slots.set d { sd with data := pg })[d]? = some { sd with data := pg } := List.getElem?_set_self d2
      subst h
      refine ⟨⟨⟨sound_mk S (set_fine' S.slots d1 hsf2) r1 (tables_set S.tables hds rfl fun y hy => table_ent S.tables (k := d) (by rw [tableN_at hds]; exact hy)) (G.rootFine r2 fun _ _ h => h) fun s hs => G.rootFine (r3 s hs) fun _ _ h => h, rfl, rfl, rfl, ?_, fun i hi => ?_, fun s hs i => ?_⟩, j, d, e, j1, ?_, ?_, ?_, d1, ?_, ?_⟩, by simp⟩
      · show pageV (m.slots.set d _) (entryOf (m.slots.set d _) m.root n) = pg
        rw [ent _ (mem_root m), ed, pageV_at hset (by omega)]
      · show pageV (m.slots.set d _) (entryOf (m.slots.set d _) m.root i) = _
        rw [ent _ (mem_root m)]; exact pag _ _ (p1 i hi)
      · show pageV (m.slots.set d _) (entryOf (m.slots.set d _) s.root i) = _
        rw [ent _ (mem_snap hs)]; exact pag _ _ (p2 s hs i)
      · exact (cnt_congr (x := m) (y := { m with slots := m.slots.set d { sd with data := pg } }) (by simp) (fun i => kindN_set (s := { sd with data := pg }) hds rfl i) (fun i => tableN_set (s := { sd with data := pg }) hds rfl i) rfl j).trans hcj
      · simp; exact (List.getElem?_eq_some_iff.1 hs).1
      · show entryOf (m.slots.set d _) m.root n = _
        rw [ent _ (mem_root m), ed]
      · exact (cnt_congr (x := m) (y := { m with slots := m.slots.set d { sd with data := pg } }) (by simp) (fun i => kindN_set (s := { sd with data := pg }) hds rfl i) (fun i => tableN_set (s := { sd with data := pg }) hds rfl i) rfl d).trans hcd
      · simp; exact d2
  · split at h
    · rename_i ho
      split at h
      · cases h
      · rename_i hg
        injection h with h
        obtain ⟨j, s0, e, j1, hs, hk2, _, hcj, htl⟩ := own_is hm ho
        obtain ⟨o1, o2⟩ := own_only j1 htl e
        obtain ⟨g1, g2, hf, _⟩ := grab_is S.slots hg
        have hL1 := laid_fine S.slots hg (dslot_fine hp)
        generalize grab m.slots = g at *
        have hjl := (List.getElem?_eq_some_iff.1 hs).1
        have hjg : j ≠ g := by rintro rfl; have := hf _ hs; omega
        have hs1 : (laid m.slots g (dslot pg))[j]? = some s0 := (laid_old hjl hjg).trans hs
        have hsf := List.all_eq_true.1 (slots_all S.slots) _ (List.mem_of_getElem? hs)
        rw [e, Int.toNat_natCast, List.getD_eq_getElem?_getD, hs1, Option.getD_some, slot_free0 hsf hk2] at h
        obtain ⟨q1, q2⟩ := laid_kind (s := dslot pg) g1 g2
        have G1 : ∀ {T D : Nat → Prop}, Grew m.slots (laid m.slots g (dslot pg)) T D := Grew.laid hf
        have hkt : (tslot ((entriesAt m (n / 4)).set (n % 4) (g : Nat))).kind = s0.kind := hk2.symm
        have hgl : g < (laid m.slots g (dslot pg)).length := (List.getElem?_eq_some_iff.1 (laid_new (s := dslot pg) g2)).1
        have h40 := (slotsErr_len hL1).2
        have hfg : fine (g : Nat) = true := by unfold fine; simp; omega
        obtain ⟨u1, u2⟩ := set_kind (s := tslot ((entriesAt m (n / 4)).set (n % 4) (g : Nat))) j1 hs1
        have G2 : ∀ {T D : Nat → Prop}, T j → D j → Grew (laid m.slots g (dslot pg)) ((laid m.slots g (dslot pg)).set j (tslot ((entriesAt m (n / 4)).set (n % 4) (g : Nat)))) T D := fun hT hD => Grew.set hs1 hkt (fun h => absurd hT h) (fun h => absurd hD h)
        have hT1 : tablesOk (laid m.slots g (dslot pg)) = true := tables_laid S.tables hf fun y hy => by cases hy
        subst h
        refine ⟨new_page (d := g) (L := (laid m.slots g (dslot pg)).set j (tslot ((entriesAt m (n / 4)).set (n % 4) (g : Nat)))) (R := m.root) S hn f1 f3 j1 (G1.trans (G2 rfl rfl)) (set_fine' hL1 j1 (tslot_fine (entries_set f1 _ hfg) (not_bare (by omega) g1)))
          (tables_set hT1 hs1 hkt fun y hy => ?_) u1 u2 e rfl (fun _ _ => rfl) (fun i hi h => hi (o1 i h)) o2 (by rw [kindOf_N j1 hjl, kindN_at hs]; omega) g1 ((G2 (T := fun _ => True) (D := fun _ => True) trivial trivial).kind (by omega) q1) ?_ htl (fun y hy => free_entry g1 hf (f2 y hy)) ?_, ?_⟩
        · rcases List.mem_or_eq_of_mem_set hy with h3 | rfl
          · exact (G1 (T := fun _ => True) (D := fun _ => True)).ok (f2 y h3)
          · exact ok_of (.inr q1)
        · have hx : ((laid m.slots g (dslot pg)).set j (tslot ((entriesAt m (n / 4)).set (n % 4) (g : Nat))))[g]? = some (dslot pg) := by rw [List.getElem?_set_ne hjg]; exact laid_new g2
          rw [pageV_at hx (by omega)]; rfl
        · exact fun k hkj _ => told_setN (told_laid g2 rfl (told_free S.tables g1 hf)) k hkj
        · simp only [List.length_set]; rw [laid_len']; split <;> omega
    · split at h
      · cases h
      · rename_i hg
        split at h
        · cases h
        · rename_i hgg
          injection h with h
          obtain ⟨g1, g2, hf, _⟩ := grab_is S.slots hg
          have hL1 := laid_fine S.slots hg (tslot_fine (t := [-1, 0, 0, 0]) rfl rfl)
          obtain ⟨c1, c2, hf2, _⟩ := grab_is hL1 hgg
          have hL2 := laid_fine hL1 hgg (dslot_fine hp)
          generalize hG : grab m.slots = g at *
          generalize hG2 : grab (laid m.slots g (tslot [-1, 0, 0, 0])) = d at *
          have hx1 := laid_new (s := tslot [-1, 0, 0, 0]) g2
          have hgd : g ≠ d := by rintro rfl; exact absurd (hf2 _ hx1) (by decide)
          have hx2 : (laid (laid m.slots g (tslot [-1, 0, 0, 0])) d (dslot pg))[g]? = some (tslot [-1, 0, 0, 0]) := (laid_old (List.getElem?_eq_some_iff.1 hx1).1 hgd).trans hx1
          have hfd : ∀ s, m.slots[d]? = some s → s.kind = 0 := fun s hs => hf2 s ((laid_old (List.getElem?_eq_some_iff.1 hs).1 (fun e => hgd e.symm)).trans hs)
          obtain ⟨q1, q2⟩ := laid_kind (s := dslot pg) c1 c2
          have hT1 : tablesOk (laid m.slots g (tslot [-1, 0, 0, 0])) = true := tables_laid S.tables hf fun y hy => ok_of (.inl (by
            have : y = -1 ∨ y = 0 := by simpa [tslot] using hy
            omega))
          have hT2 : tablesOk (laid (laid m.slots g (tslot [-1, 0, 0, 0])) d (dslot pg)) = true := tables_laid hT1 hf2 fun y hy => by cases hy
          have hdl : d < (laid (laid m.slots g (tslot [-1, 0, 0, 0])) d (dslot pg)).length := (List.getElem?_eq_some_iff.1 (laid_new (s := dslot pg) c2)).1
          have h40 := (slotsErr_len hL2).2
          have hfg : fine (d : Nat) = true := by unfold fine; simp; omega
          have hkt : (tslot ((entriesAt m (n / 4)).set (n % 4) (d : Nat))).kind = (tslot [-1, 0, 0, 0]).kind := rfl
          obtain ⟨u1, u2⟩ := set_kind (s := tslot ((entriesAt m (n / 4)).set (n % 4) (d : Nat))) g1 hx2
          have G1 : ∀ {T D : Nat → Prop}, Grew m.slots (laid (laid m.slots g (tslot [-1, 0, 0, 0])) d (dslot pg)) T D := (Grew.laid hf).trans (Grew.laid hf2)
          have G2 : ∀ {T D : Nat → Prop}, T g → D g → Grew (laid (laid m.slots g (tslot [-1, 0, 0, 0])) d (dslot pg)) ((laid (laid m.slots g (tslot [-1, 0, 0, 0])) d (dslot pg)).set g (tslot ((entriesAt m (n / 4)).set (n % 4) (d : Nat)))) T D := fun hT hD => Grew.set hx2 hkt (fun h => absurd hT h) (fun h => absurd hD h)
          have hfr : ∀ r ∈ rootsOf m, ∀ y ∈ r, y ≠ (g : Nat) := fun r hr y hy => by
            rcases hw.roots r hr y hy with h0 | h2
            · omega
            · intro h; rw [h] at h2; exact free_no hf (by omega) h2
          subst h
          refine ⟨new_page (d := d) (j := g) (L := (laid (laid m.slots g (tslot [-1, 0, 0, 0])) d (dslot pg)).set g (tslot ((entriesAt m (n / 4)).set (n % 4) (d : Nat)))) (R := m.root.set (n / 4) (g : Nat)) S hn f1 f3 g1 (G1.trans (G2 rfl rfl)) (set_fine' hL2 g1 (tslot_fine (entries_set f1 _ hfg) (not_bare (by omega) c1)))
            (tables_set hT2 hx2 hkt fun y hy => ?_) u1 u2 (int_set_eq hk) (by simp) (fun i hi => int_set_ne hi) (fun i _ => free_roots hw g1 hf (mem_root m) i) (fun s hs i => free_roots hw g1 hf (mem_snap hs) i) (free_no hf (by omega)) c1 ((G2 (T := fun _ => True) (D := fun _ => True) trivial trivial).kind (by omega) q1) ?_ ?_ (fun y hy => free_entry c1 hfd (f2 y hy)) ?_, ?_⟩
          · rcases List.mem_or_eq_of_mem_set hy with h3 | rfl
            · exact (G1 (T := fun _ => True) (D := fun _ => True)).ok (f2 y h3)
            · exact ok_of (.inr q1)
          · have hx : ((laid (laid m.slots g (tslot [-1, 0, 0, 0])) d (dslot pg)).set g (tslot ((entriesAt m (n / 4)).set (n % 4) (d : Nat))))[d]? = some (dslot pg) := by rw [List.getElem?_set_ne hgd]; exact laid_new c2
            rw [pageV_at hx (by omega)]; rfl
          · rw [rootsOf_told, toldAll_zero fun r hr => hfr r (List.mem_cons_of_mem _ hr)]
            show told (m.root.set (n / 4) (g : Nat)) g + 0 = 1
            rw [told_set_new hk (hfr _ (mem_root m))]
          · exact fun k hkj _ => told_setN (told_laid c2 rfl (told_laid g2 (told_none fun y hy => by
              have : y = -1 ∨ y = 0 := by simpa [tslot] using hy
              omega) (told_free S.tables c1 hfd))) k hkj
          · simp only [List.length_set]; rw [laid_len', laid_len']; split <;> split <;> omega
end Go.Proofs.Ytbhhcjnjddcocaa
-- PureX4: What resizeM makes of a right image; what is settled has the same pages. No conditions.
namespace Go.Proofs.Ytbhhcjnjddcocaa
open Sl
theorem page_in {m : Img} (hm : checkErr m = 0) {n : Nat} (hn : (n : Int) < m.guest) : n / 4 < m.root.length := by
  have h := (rootF_is (own_facts hm).2.2).1
  unfold wants at h
  omega
theorem write_hw {m : Img} {n : Int} {pg : ByteArray} (x : Img) (he : lookE m n = 0) (hp : pg.size = 4) (h : writeM m n.toNat pg = some x) : CBd x ∧ Wired x := by
  obtain ⟨hm, h0, hn⟩ := look_is he
  obtain ⟨k, rfl⟩ := Int.eq_ofNat_of_zero_le h0
  have S := (write_eff hm (page_in hm hn) hn hp h).1.1.sound
  exact ⟨S.cbd, S.wired⟩
theorem set_hw {m : Img} {n e : Int} (hf : fine e = true) (h0 : e ≤ 0) (x : Img) (he : lookE m n = 0) (h : setM m n.toNat e = some x) : CBd x ∧ Wired x := by
  obtain ⟨hm, h1, hn⟩ := look_is he
  obtain ⟨k, rfl⟩ := Int.eq_ofNat_of_zero_le h1
  have S := (set_eff hm (page_in hm hn) hn hf h0 h).sound
  exact ⟨S.cbd, S.wired⟩
theorem int_app {l : List Int} {n i : Nat} : int (l ++ List.replicate n 0) i = int l i := by
  unfold int
  simp only [List.getD_eq_getElem?_getD]
  by_cases h : i < l.length
  · rw [List.getElem?_append_left h]
  · rw [List.getElem?_append_right (by omega), List.getElem?_eq_none (l := l) (by omega)]
    by_cases h2 : i - l.length < n
    · rw [List.getElem?_replicate, if_pos h2]; rfl
    · rw [List.getElem?_eq_none (by simp; omega)]
theorem int_take {l : List Int} {n i : Nat} (h : i < n) : int (l.take n) i = int l i := by
  unfold int
  simp only [List.getD_eq_getElem?_getD]
  rw [List.getElem?_take_of_lt h]
theorem int_past {l : List Int} {i : Nat} (h : l.length ≤ i) : int l i = 0 := by
  unfold int
  rw [List.getD_eq_getElem?_getD, List.getElem?_eq_none h]; rfl
/-- Behind the last page there is none. -/
theorem entry_behind {m : Img} (hm : checkErr m = 0) {n : Nat} (hn : m.guest ≤ (n : Int)) : entryOf m.slots m.root n = 0 := by
  rw [entry_entries]
  by_cases hk : n / 4 < m.root.length
  · exact (entries_facts hm hk).2.2 _ (by omega) (by omega)
  · have : int m.root (n / 4) = 0 := int_past (by omega)
    unfold entriesAt
    rw [this, if_neg (by omega)]
    have : n % 4 = 0 ∨ n % 4 = 1 ∨ n % 4 = 2 ∨ n % 4 = 3 := by omega
    rcases this with e | e | e | e <;> rw [e] <;> rfl
def pageAt (m : Img) (r : List Int) (n : Nat) : ByteArray := pageV m.slots (entryOf m.slots r n)
/-- What a change that keeps snapshots leaves. -/
structure REff (m x : Img) (g : Nat) : Prop where
  sound : Sound x
  snaps : x.snaps = m.snaps
  guest : x.guest = (g : Nat)
  rlen : x.root.length = (g + 3) / 4
  pages : ∀ i, i < g → pageAt x x.root i = pageAt m m.root i
  past : ∀ s ∈ m.snaps, ∀ i, pageAt x s.root i = pageAt m s.root i
theorem cut_reff {m y : Img} (S : Sound y) (hsn : y.snaps = m.snaps) {g : Nat} (hg : g ≤ 16) (hb : ∀ i : Nat, g ≤ i → i / 4 = g / 4 → 0 < g % 4 → entryOf y.slots y.root i = 0)
    (hp : ∀ i, i < g → pageAt y y.root i = pageAt m m.root i) (hpast : ∀ s ∈ m.snaps, ∀ i, pageAt y s.root i = pageAt m s.root i) :
    REff m { y with guest := g, root := (y.root ++ List.replicate 16 0).take (wants g).toNat } g := by
  have hw : (wants (g : Int)).toNat = (g + 3) / 4 := by unfold wants; omega
  obtain ⟨r1, r2, r3⟩ := sound_roots S
  have hl : ((y.root ++ List.replicate 16 0).take (wants g).toNat).length = (g + 3) / 4 := by rw [List.length_take, List.length_append, List.length_replicate, hw]; omega
  have hi : ∀ i, i < (g + 3) / 4 → int ((y.root ++ List.replicate 16 0).take (wants g).toNat) i = int y.root i := fun i h => by rw [int_take (by omega), int_app]
  have hent : ∀ i, i < g → entryOf y.slots ((y.root ++ List.replicate 16 0).take (wants g).toNat) i = entryOf y.slots y.root i := fun i h => by unfold entryOf; rw [hi _ (by omega)]
  refine ⟨sound_mk S S.slots (by unfold guestOk; simp; omega) S.tables (rootF_ok ?_ fun k hk => ?_) r3, hsn, rfl, hl, fun i h => ?_, hpast⟩
  · rw [hl]; unfold wants; omega
  · rw [hl] at hk
    rw [rootAt_congr (hi k hk)]
    unfold rootAt
    simp only [Bool.or_eq_true, Bool.and_eq_true, beq_iff_eq]
    rcases root_cases S.wired (mem_root y) k with h0 | h2
    · exact .inl h0
    · refine .inr ⟨h2, upto_iff.2 fun i h4 => ?_⟩
      simp only [Bool.or_eq_true, decide_eq_true_eq, beq_iff_eq]
      by_cases hlt : 4 * (k : Int) + i < g
      · exact .inl hlt
      · right
        have e := hb (4 * k + i) (by omega) (by omega) (by omega)
        unfold entryOf at e
        rw [show (4 * k + i) / 4 = k from by omega, show (4 * k + i) % 4 = i from by omega] at e
        obtain ⟨j, ej, j1, _⟩ := kindOf_ge h2 (by omega)
        rw [if_pos (by omega)] at e
        exact e
  · show pageV y.slots (entryOf y.slots _ i) = _
    rw [hent i h]
    exact hp i h
theorem resize_eff {m x : Img} (hm : checkErr m = 0) {g : Nat} (hg : g ≤ 16) (h : resizeM m g = some x) : REff m x g := by
  have S := sound_of (check_is hm).1
  unfold resizeM at h
  split at h
  · rename_i hc
    cases hy : putM m (g / 4) ((entriesAt m (g / 4)).take (g % 4) ++ List.replicate (4 - g % 4) 0) with
    | none => rw [hy] at h; cases h
    | some y =>
      rw [hy] at h
      injection h with h
      subst h
      obtain ⟨f1, f2, f3⟩ := entries_facts hm hc.2
      obtain ⟨q1, q2⟩ := entriesErr_is f1
      have hlen : ((entriesAt m (g / 4)).take (g % 4)).length = g % 4 := by rw [List.length_take]; omega
      have hti : ∀ i, i < g % 4 → int ((entriesAt m (g / 4)).take (g % 4) ++ List.replicate (4 - g % 4) 0) i = int (entriesAt m (g / 4)) i := fun i hi => by rw [int_app, int_take hi]
      have htz : ∀ i, g % 4 ≤ i → int ((entriesAt m (g / 4)).take (g % 4) ++ List.replicate (4 - g % 4) 0) i = 0 := fun i hi => by rw [int_app, int_past (by omega)]
      have E := put_eff hm hc.2 (entriesErr_ok (by rw [List.length_append, hlen, List.length_replicate]; omega) (List.all_eq_true.2 fun e he => by
        rcases List.mem_append.1 he with h1 | h1
        · exact List.all_eq_true.1 q2 e (List.mem_of_mem_take h1)
        · rw [(List.mem_replicate.1 h1).2]; rfl)) (fun e he => by
        rcases List.mem_append.1 he with h1 | h1
        · exact f2 e (List.mem_of_mem_take h1)
        · rw [(List.mem_replicate.1 h1).2]; exact ok_of (.inl (Int.le_refl _))) (fun i hi hgi => by
        by_cases hlt : i < g % 4
        · rw [hti i hlt]; exact f3 i hi hgi
        · exact htz i (by omega)) hy
      refine cut_reff E.sound E.snaps hg (fun i h1 h2 _ => ?_) (fun i hi => ?_) (fun s hs i => ?_)
      · rw [E.at_ i h2]; exact htz _ (by omega)
      · unfold pageAt
        have e1 : entryOf y.slots y.root i = entryOf m.slots m.root i := by
          by_cases hk : i / 4 = g / 4
          · rw [E.at_ i hk, hti _ (by omega), entry_entries, hk]
          · exact E.else_ i hk
        rw [e1]
        exact E.page _ (entry_okT S.tables _ _)
      · unfold pageAt
        rw [E.past s hs]
        exact E.page _ (entry_okT S.tables _ _)
  · rename_i hc
    injection h with h
    subst h
    refine cut_reff S rfl hg (fun i h1 h2 h3 => ?_) (fun _ _ => rfl) (fun _ _ _ => rfl)
    by_cases hk : g / 4 < m.root.length
    · exact absurd ⟨h3, hk⟩ hc
    · unfold entryOf
      rw [h2, int_past (by omega)]
      rfl
theorem resize_hw {m : Img} {g : Int} (x : Img) (hm : checkErr m = 0) (h0 : 0 ≤ g) (h16 : g ≤ 16) (h : resizeM m g.toNat = some x) : CBd x ∧ Wired x := by
  obtain ⟨k, rfl⟩ := Int.eq_ofNat_of_zero_le h0
  have S := (resize_eff hm (by omega) h).sound
  exact ⟨S.cbd, S.wired⟩
theorem settled_pages {x : Img} (S : Sound x) {r : List Int} (hr : r ∈ rootsOf x) (n : Nat) : pageAt (settled x) r n = pageAt x r n := by
  unfold pageAt
  by_cases hn : n / 4 < r.length
  · obtain ⟨e1, e2⟩ := settled_entry S hr hn
    rw [e1, e2]
  · have e : ∀ l : List Slot, entryOf l r n = 0 := fun l => by unfold entryOf; rw [int_past (by omega)]; rfl
    rw [e, e, pageV_no (Int.le_refl _), pageV_no (Int.le_refl _)]
end Go.Proofs.Ytbhhcjnjddcocaa
