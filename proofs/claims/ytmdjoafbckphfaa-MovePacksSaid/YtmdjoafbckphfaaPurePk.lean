/- The plain model of Pack: slots get new numbers. No conditions. -/
import Derived.Test.YtmdjoafbckphfaaPureO
namespace Go.Proofs.Ytmdjoafbckphfaa
open Sl
def keptS (s : Slot) : Bool := !(s.kind == 0)
def ren (l : List Slot) (e : Int) : Int := if e ≤ 0 then e else ((used (l.take e.toNat) + 1 : Nat) : Int)
def renS (l : List Slot) (s : Slot) : Slot := { s with table := s.table.map (ren l) }
def renP (l : List Slot) (s : Snap) : Snap := { s with root := s.root.map (ren l) }
def packS (l : List Slot) : List Slot := freeSlot :: (l.filter keptS).map (renS l)
def packR (l : List Slot) (f : List Int) : List Int := 0 :: ((l.zip f).filter (fun x => keptS x.1)).map (·.2)
def packM (m : Img) : Img := ⟨m.guest, m.root.map (ren m.slots), packS m.slots, packR m.slots m.refs, m.snaps.map (renP m.slots)⟩
section
variable {l : List Slot}
theorem kept_yes {s : Slot} (h : s.kind ≠ 0) : keptS s = true := by unfold keptS; simpa using h
theorem kept_no {s : Slot} (h : s.kind = 0) : keptS s = false := by unfold keptS; simp [h]
theorem filter_len (l : List Slot) : (l.filter keptS).length = used l := by
  induction l with
  | nil => rfl
  | cons a l ih =>
    by_cases h : a.kind = 0
    · rw [List.filter_cons_of_neg (by rw [kept_no h]; decide), ih]; simp [used, h]
    · rw [List.filter_cons_of_pos (kept_yes h), List.length_cons, ih]; simp [used, h]; omega
theorem filter_at : ∀ (l : List Slot) (n : Nat) (s : Slot), l[n]? = some s → s.kind ≠ 0 → (l.filter keptS)[used (l.take n)]? = some s := by
  intro l
  induction l with
  | nil => intro n s h; simp at h
  | cons a l ih =>
    intro n s h hk
    cases n with
    | zero =>
      simp at h; subst h
      rw [List.filter_cons_of_pos (kept_yes hk)]; rfl
    | succ n =>
      have h' : l[n]? = some s := by simpa using h
      have := ih n s h' hk
      by_cases ha : a.kind = 0
      · rw [List.filter_cons_of_neg (by rw [kept_no ha]; decide), List.take_succ_cons]
        simpa [used, ha] using this
      · rw [List.filter_cons_of_pos (kept_yes ha), List.take_succ_cons]
        have e : used (a :: l.take n) = used (l.take n) + 1 := by simp [used, ha]; omega
        rw [e]; simpa using this
theorem filter_back : ∀ (l : List Slot) (j : Nat) (s : Slot), (l.filter keptS)[j]? = some s → ∃ n, l[n]? = some s ∧ s.kind ≠ 0 ∧ used (l.take n) = j := by
  intro l
  induction l with
  | nil => intro j s h; simp at h
  | cons a l ih =>
    intro j s h
    by_cases ha : a.kind = 0
    · rw [List.filter_cons_of_neg (by rw [kept_no ha]; decide)] at h
      obtain ⟨n, h1, h2, h3⟩ := ih j s h
      exact ⟨n + 1, by simpa using h1, h2, by rw [List.take_succ_cons]; simp [used, ha, h3]⟩
    · rw [List.filter_cons_of_pos (kept_yes ha)] at h
      cases j with
      | zero => simp at h; subst h; exact ⟨0, rfl, ha, rfl⟩
      | succ j =>
        obtain ⟨n, h1, h2, h3⟩ := ih j s (by simpa using h)
        exact ⟨n + 1, by simpa using h1, h2, by rw [List.take_succ_cons]; simp [used, ha, h3]; omega⟩
theorem used_app (a b : List Slot) : used (a ++ b) = used a + used b := by
  induction a with
  | nil => simp [used]
  | cons x a ih => simp only [List.cons_append, used, ih]; omega
theorem used_mono {n k : Nat} (h : n ≤ k) : used (l.take n) ≤ used (l.take k) := by
  have e : l.take k = l.take n ++ (l.take k).drop n := by
    have := List.take_append_drop n (l.take k)
    rw [List.take_take, Nat.min_eq_left h] at this
    exact this.symm
  rw [e, used_app]; omega
theorem used_lt {n k : Nat} {s : Slot} (hs : l[n]? = some s) (hk : s.kind ≠ 0) (h : n < k) : used (l.take n) < used (l.take k) := by
  have h1 := used_take_succ l n s hs
  rw [if_neg hk] at h1
  have h2 := used_mono (l := l) (n := n + 1) (k := k) h
  omega
theorem used_max {n : Nat} : used (l.take n) ≤ used l := by
  have := used_mono (l := l) (n := n) (k := max n l.length) (by omega)
  rwa [List.take_of_length_le (l := l) (i := max n l.length) (by omega)] at this
theorem used_ltAll {n : Nat} {s : Slot} (hs : l[n]? = some s) (hk : s.kind ≠ 0) : used (l.take n) < used l := by
  have h1 := used_take_succ l n s hs
  rw [if_neg hk] at h1
  have := used_max (l := l) (n := n + 1)
  omega
theorem ren_low {e : Int} (h : e ≤ 0) : ren l e = e := by unfold ren; rw [if_pos h]
theorem ren_zero : ren l 0 = 0 := ren_low (Int.le_refl _)
theorem ren_nat {n : Nat} (h : 1 ≤ n) : ren l (n : Nat) = ((used (l.take n) + 1 : Nat) : Int) := by unfold ren; rw [if_neg (by omega), Int.toNat_natCast]
theorem ren_pos {e : Int} : 0 < ren l e ↔ 0 < e := by
  unfold ren
  split
  · rfl
  · omega
theorem ren_le {e : Int} : ren l e ≤ 0 ↔ e ≤ 0 := by
  have := ren_pos (l := l) (e := e)
  omega
theorem ren_eq0 {e : Int} : ren l e = 0 ↔ e = 0 := by
  unfold ren
  split
  · rfl
  · omega
/-- A number that is none, or a slot's that is used. -/
def ValidE (l : List Slot) (e : Int) : Prop := e ≤ 0 ∨ ∃ n s, e = (n : Nat) ∧ 1 ≤ n ∧ l[n]? = some s ∧ s.kind ≠ 0
theorem ren_inj {x y : Int} (hx : ValidE l x) (hy : ValidE l y) (h : ren l x = ren l y) : x = y := by
  rcases hx with hx | ⟨n, s, rfl, h1, h2, h3⟩
  · have := (ren_le (l := l) (e := x)).2 hx
    have hy' : y ≤ 0 := (ren_le (l := l)).1 (by omega)
    rw [ren_low hx, ren_low hy'] at h
    exact h
  · rcases hy with hy | ⟨k, t, rfl, k1, k2, k3⟩
    · have := (ren_le (l := l) (e := (n : Nat))).1 (by rw [h]; exact ren_le.2 hy)
      omega
    · rw [ren_nat h1, ren_nat k1] at h
      rcases Nat.lt_trichotomy n k with hh | hh | hh
      · have := used_lt h2 h3 hh; omega
      · rw [hh]
      · have := used_lt k2 k3 hh; omega
theorem pack_len : (packS l).length = used l + 1 := by unfold packS; rw [List.length_cons, List.length_map, filter_len]
theorem pack_at {n : Nat} {s : Slot} (hs : l[n]? = some s) (hk : s.kind ≠ 0) : (packS l)[used (l.take n) + 1]? = some (renS l s) := by
  unfold packS
  rw [List.getElem?_cons_succ, List.getElem?_map, filter_at l n s hs hk]; rfl
theorem pack_back {j : Nat} {t : Slot} (h : (packS l)[j + 1]? = some t) : ∃ n s, l[n]? = some s ∧ s.kind ≠ 0 ∧ used (l.take n) = j ∧ t = renS l s := by
  unfold packS at h
  rw [List.getElem?_cons_succ, List.getElem?_map] at h
  cases hx : (l.filter keptS)[j]? with
  | none => rw [hx] at h; cases h
  | some s =>
    rw [hx] at h
    obtain ⟨n, h1, h2, h3⟩ := filter_back l j s hx
    injection h with h
    exact ⟨n, s, h1, h2, h3, h.symm⟩
theorem valid_kind {e c : Int} (hk : kindOf l e = c) (hc : 0 < c) : ∃ (n : Nat) (s : Slot), e = n ∧ 1 ≤ n ∧ l[n]? = some s ∧ s.kind = c := by
  obtain ⟨k, rfl, k1, k2, k3⟩ := kindOf_ge hk (by omega)
  have hx := List.getElem?_eq_getElem k2
  rw [kindN_at hx] at k3
  exact ⟨k, _, rfl, k1, hx, k3⟩
theorem valid_of {e c : Int} (hk : kindOf l e = c) (hc : 0 < c) : ValidE l e := by
  obtain ⟨n, s, e1, e2, e3, e4⟩ := valid_kind hk hc
  exact .inr ⟨n, s, e1, e2, e3, by omega⟩
theorem valid_ok {e : Int} (h : entryOk l e = true) : ValidE l e := by
  rcases ok_cases h with h | ⟨_, h⟩
  · exact .inl h
  · exact valid_of h (by omega)
theorem pack_kind {e c : Int} (hk : kindOf l e = c) (hc : 0 < c) : kindOf (packS l) (ren l e) = c := by
  obtain ⟨n, s, rfl, n1, hs, hk⟩ := valid_kind hk hc
  have hp := pack_at hs (by omega)
  have hl := (List.getElem?_eq_some_iff.1 hp).1
  rw [ren_nat n1, kindOf_N (by omega) hl, kindN_at hp]; exact hk
theorem pack_table {e : Int} (hk : kindOf l e = 2) : tableAt (packS l) (ren l e) = (tableAt l e).map (ren l) := by
  obtain ⟨n, s, rfl, n1, hs, hk⟩ := valid_kind hk (by omega)
  have hp := pack_at hs (by omega)
  rw [ren_nat n1, tableAt_at hp, tableAt_at hs]; rfl
theorem int_map (r : List Int) (k : Nat) : int (r.map (ren l)) k = ren l (int r k) := by
  unfold int
  rw [List.getD_eq_getElem?_getD, List.getElem?_map, List.getD_eq_getElem?_getD]
  cases r[k]? with
  | none => exact ren_zero.symm
  | some x => rfl
theorem pack_ok {e : Int} (h : entryOk l e = true) : entryOk (packS l) (ren l e) = true := by
  rcases ok_cases h with h | ⟨_, h⟩
  · exact ok_of (.inl (ren_le.2 h))
  · exact ok_of (.inr (pack_kind h (by omega)))
theorem pack_page {e : Int} (h : entryOk l e = true) : pageV (packS l) (ren l e) = pageV l e := by
  rcases ok_cases h with h0 | ⟨_, h1⟩
  · rw [pageV_no (ren_le.2 h0), pageV_no h0]
  · obtain ⟨n, s, rfl, n1, hs, hk⟩ := valid_kind h1 (by omega)
    rw [ren_nat n1, pageV_at (pack_at hs (by omega)) (by omega), pageV_at hs (by omega)]; rfl
/-- Entries of a Root whose numbers are tables' or none. -/
theorem pack_entry {r : List Int} (h : ∀ k, int r k = 0 ∨ kindOf l (int r k) = 2) (n : Nat) : entryOf (packS l) (r.map (ren l)) n = ren l (entryOf l r n) := by
  unfold entryOf
  rw [int_map]
  by_cases hp : 0 < int r (n / 4)
  · rw [if_pos (ren_pos.2 hp), if_pos hp]
    rcases h (n / 4) with h0 | h2
    · omega
    · rw [pack_table h2, int_map]
  · rw [if_neg (fun hh => hp (ren_pos.1 hh)), if_neg hp, ren_zero]
theorem told_map {r : List Int} {x : Int} (h : ∀ y ∈ r, ren l y = ren l x → y = x) : told (r.map (ren l)) (ren l x) = told r x := by
  unfold told
  rw [List.countP_map]
  apply List.countP_congr
  intro y hy
  simp only [Function.comp, beq_iff_eq]
  exact ⟨h y hy, fun e => by rw [e]⟩
theorem toldAll_map {ls : List (List Int)} {x : Int} (h : ∀ r ∈ ls, ∀ y ∈ r, ren l y = ren l x → y = x) : toldAll (ls.map (List.map (ren l))) (ren l x) = toldAll ls x := by
  unfold toldAll
  rw [List.map_map]
  congr 1
  exact List.map_congr_left fun r hr => told_map (h r hr)
end
section
variable {m : Img}
theorem rootsOf_pack : rootsOf (packM m) = (rootsOf m).map (List.map (ren m.slots)) := by
  unfold rootsOf packM
  rw [List.map_cons, List.map_map, List.map_map]
  rfl
theorem valid_root (S : Sound m) {r : List Int} (hr : r ∈ rootsOf m) {e : Int} (he : e ∈ r) : ValidE m.slots e := by
  obtain ⟨q, hq, rfl⟩ := mem_root_at he
  rcases root_cases S.wired hr q with h0 | h2
  · exact .inl (by omega)
  · exact valid_of h2 (by omega)
theorem valid_table (S : Sound m) {s : Slot} (hs : s ∈ m.slots) {e : Int} (he : e ∈ s.table) : ValidE m.slots e := valid_ok (List.all_eq_true.1 (List.all_eq_true.1 S.tables s hs) e he)
theorem pack_pageAt (S : Sound m) {r : List Int} (hr : r ∈ rootsOf m) (n : Nat) : pageAt (packM m) (r.map (ren m.slots)) n = pageAt m r n := by
  unfold pageAt
  rw [show (packM m).slots = packS m.slots from rfl, pack_entry (fun k => root_cases S.wired hr k), pack_page (entry_okT S.tables r n)]
theorem slot_first (S : Sound m) : m.slots.head? = some freeSlot := by
  have h0 := kind0_is S.slots
  have hl := (slotsErr_len S.slots).1
  have hx := List.getElem?_eq_getElem (show 0 < m.slots.length by omega)
  rw [kindN_at hx] at h0
  have hf := List.all_eq_true.1 (slots_all S.slots) _ (List.getElem_mem (show 0 < m.slots.length by omega))
  rw [List.head?_eq_getElem?, hx, free_is hf h0]
theorem used_lt_len (S : Sound m) : used m.slots + 1 ≤ m.slots.length := by
  have h := slot_first S
  cases hs : m.slots with
  | nil => rw [hs] at h; cases h
  | cons a l =>
    rw [hs] at h
    injection h with h
    subst h
    have := used_le l
    simp only [used, List.length_cons, freeSlot]
    simp; omega
theorem slot_fine (S : Sound m) {n : Nat} {s : Slot} (h : m.slots[n]? = some s) : slotFine s = true := List.all_eq_true.1 (slots_all S.slots) _ (List.mem_of_getElem? h)
theorem fine_ren (S : Sound m) {e : Int} (h : entryOk m.slots e = true) (hf : fine e = true) : fine (ren m.slots e) = true := by
  unfold fine at hf ⊢
  simp only [Bool.and_eq_true, decide_eq_true_eq] at hf ⊢
  rcases ok_cases h with h0 | ⟨_, h1⟩
  · rw [ren_low h0]; exact hf
  · obtain ⟨n, s, rfl, n1, hs, hk⟩ := valid_kind h1 (by omega)
    rw [ren_nat n1]
    have := used_ltAll hs (by omega)
    have := used_lt_len S
    have := (slotsErr_len S.slots).2
    omega
theorem renS_fine (S : Sound m) {s : Slot} (hm : s ∈ m.slots) (hk : s.kind ≠ 0) : slotFine (renS m.slots s) = true := by
  have hf : slotFine s = true := List.all_eq_true.1 (slots_all S.slots) _ hm
  have ht := List.all_eq_true.1 S.tables s hm
  unfold slotFine at hf ⊢
  have ek : (renS m.slots s).kind = s.kind := rfl
  have ed : (renS m.slots s).data = s.data := rfl
  have et : (renS m.slots s).table = s.table.map (ren m.slots) := rfl
  rw [ek, ed, et, List.length_map]
  rw [if_neg hk] at hf ⊢
  split at hf
  · rename_i h1; rw [if_pos h1]; exact hf
  · rename_i h1
    rw [if_neg h1]
    split at hf
    · rename_i h2
      rw [if_pos h2]
      simp only [Bool.and_eq_true, beq_iff_eq, Bool.not_eq_true'] at hf ⊢
      obtain ⟨⟨f1, f2⟩, f3⟩ := hf
      obtain ⟨f4, f5⟩ := entriesErr_is f2
      refine ⟨⟨f1, ?_⟩, ?_⟩
      · unfold entriesErr
        rw [if_pos (by rw [List.length_map]; exact f4), if_pos]
        rw [List.all_map]
        refine List.all_eq_true.2 fun e he => ?_
        exact fine_ren S (List.all_eq_true.1 ht e he) (List.all_eq_true.1 f5 e he)
      · unfold bare at f3 ⊢
        rw [List.all_map, ← f3]
        apply Bool.eq_iff_iff.2
        simp only [List.all_eq_true, Function.comp, beq_iff_eq, ren_eq0]
    · cases hf
theorem pack_slotsErr (S : Sound m) : slotsErr (packS m.slots) = 0 := by
  have h1 := used_lt_len S
  have h2 := (slotsErr_len S.slots).2
  unfold slotsErr
  rw [if_neg (by rw [pack_len]; omega), if_pos, if_pos (show kind0 (packS m.slots) = 0 from rfl)]
  refine List.all_eq_true.2 fun t ht => ?_
  unfold packS at ht
  rcases List.mem_cons.1 ht with rfl | ht
  · rfl
  · obtain ⟨s, hs, rfl⟩ := List.mem_map.1 ht
    obtain ⟨hs1, hs2⟩ := List.mem_filter.1 hs
    exact renS_fine S hs1 (by unfold keptS at hs2; simpa using hs2)
theorem pack_tables (S : Sound m) : tablesOk (packS m.slots) = true := by
  refine List.all_eq_true.2 fun t ht => List.all_eq_true.2 fun e he => ?_
  unfold packS at ht
  rcases List.mem_cons.1 ht with rfl | ht
  · cases he
  · obtain ⟨s, hs, rfl⟩ := List.mem_map.1 ht
    obtain ⟨hs1, _⟩ := List.mem_filter.1 hs
    obtain ⟨y, hy, rfl⟩ := List.mem_map.1 he
    exact pack_ok (List.all_eq_true.1 (List.all_eq_true.1 S.tables s hs1) y hy)
theorem pack_rootFine {l : List Slot} {g : Int} {r : List Int} (h : rootFine l g r = true) : rootFine (packS l) g (r.map (ren l)) = true := by
  obtain ⟨h1, h2⟩ := rootF_is h
  refine rootF_ok (by rw [List.length_map]; exact h1) fun k hk => ?_
  rw [List.length_map] at hk
  have := h2 k hk
  unfold rootAt at this ⊢
  rw [int_map]
  simp only [Bool.or_eq_true, Bool.and_eq_true, beq_iff_eq] at this ⊢
  rcases this with h0 | ⟨h3, h4⟩
  · exact .inl (ren_eq0.2 h0)
  · refine .inr ⟨pack_kind h3 (by omega), ?_⟩
    rw [pack_table h3]
    rw [upto_iff] at h4 ⊢
    intro i hi
    have := h4 i hi
    rw [int_map]
    simp only [Bool.or_eq_true, decide_eq_true_eq, beq_iff_eq] at this ⊢
    exact this.imp id ren_eq0.2
theorem snap_map_at (l : List Slot) (p : List Snap) (k : Nat) : (snapAt (p.map (renP l)) k).name = (snapAt p k).name := by
  unfold snapAt
  rw [List.getD_eq_getElem?_getD, List.getElem?_map, List.getD_eq_getElem?_getD]
  cases p[k]? <;> rfl
theorem pack_sound (S : Sound m) : Sound (packM m) := by
  refine ⟨?_, pack_slotsErr S, ?_, ?_, pack_tables S, ?_⟩
  · have := sizesOk_is S.sizes
    have := used_lt_len S
    refine sizesOk_yes ⟨?_, ?_, ?_⟩
    · show 1 ≤ (packS m.slots).length; rw [pack_len]; omega
    · show (packS m.slots).length ≤ 40; rw [pack_len]; omega
    · show (m.snaps.map _).length ≤ 3; rw [List.length_map]; omega
  · have := S.names
    unfold namesOk at this ⊢
    show upto (nameAt (m.snaps.map _)) (m.snaps.map _).length = true
    rw [List.length_map, ← this]
    apply upto_congr
    intro k _
    unfold nameAt
    rw [snap_map_at, snap_map_at]
  · have := S.guests
    unfold guestsOk at this ⊢
    simp only [Bool.and_eq_true] at this ⊢
    refine ⟨this.1, ?_⟩
    show (m.snaps.map _).all _ = true
    rw [List.all_map]; exact this.2
  · have := S.roots
    unfold rootsOk at this ⊢
    simp only [Bool.and_eq_true] at this ⊢
    refine ⟨pack_rootFine this.1, ?_⟩
    show (m.snaps.map _).all _ = true
    rw [List.all_map]
    refine List.all_eq_true.2 fun s hs => ?_
    exact pack_rootFine (List.all_eq_true.1 this.2 s hs)
/-- Sums over slots that are used, numbered anew. -/
theorem sum_pack {l : List Slot} {f g : Nat → Nat} (h0 : ∀ n s, l[n]? = some s → s.kind = 0 → f n = 0) (h1 : ∀ n s, l[n]? = some s → s.kind ≠ 0 → f n = g (used (l.take n))) :
    ∀ N, N ≤ l.length → sumOf ((List.range N).map f) = sumOf ((List.range (used (l.take N))).map g) := by
  intro N
  induction N with
  | zero => intro _; rfl
  | succ N ih =>
    intro hN
    have hx := List.getElem?_eq_getElem (show N < l.length by omega)
    generalize l[N] = s at hx
    have hu := used_take_succ l N s hx
    rw [List.range_succ, List.map_append, sumOf_append, ih (by omega), hu]
    by_cases hk : s.kind = 0
    · rw [if_pos hk, Nat.add_zero]
      simp [sumOf, h0 N s hx hk]
    · rw [if_neg hk, List.range_succ, List.map_append, sumOf_append]
      simp [sumOf, h1 N s hx hk]
theorem refs_lenP (h : checkErr m = 0) : m.refs.length = m.slots.length := (sh_is (check_is h).1).1.refs
theorem slot_one (S : Sound m) {n : Nat} {s : Slot} (hs : m.slots[n]? = some s) (hk : s.kind ≠ 0) : 1 ≤ n := by
  rcases Nat.eq_zero_or_pos n with h | h
  · subst h
    have := kind0_is S.slots
    rw [kindN_at hs] at this
    exact absurd this hk
  · exact h
theorem pack_told (S : Sound m) {n : Nat} {s : Slot} (hs : m.slots[n]? = some s) (hk : s.kind ≠ 0) : toldAll (rootsOf (packM m)) ((used (m.slots.take n) + 1 : Nat) : Int) = toldAll (rootsOf m) n := by
  have n1 := slot_one S hs hk
  rw [rootsOf_pack, ← ren_nat n1]
  exact toldAll_map fun r hr y hy h => ren_inj (valid_root S hr hy) (.inr ⟨n, s, rfl, n1, hs, hk⟩) h
theorem pack_cnt (S : Sound m) {n : Nat} {s : Slot} (hs : m.slots[n]? = some s) (hk : s.kind ≠ 0) : cnt (packM m) (used (m.slots.take n) + 1) = cnt m n := by
  have n1 := slot_one S hs hk
  have hp := pack_at hs hk
  unfold cnt countAt
  rw [if_neg (show ¬ (used (m.slots.take n) + 1 = 0) by omega), if_neg (show ¬ n = 0 by omega), pack_told S hs hk, show (packM m).slots = packS m.slots from rfl, kindN_at hp, kindN_at hs, show (renS m.slots s).kind = s.kind from rfl]
  congr 1
  by_cases h1 : s.kind = 1
  · rw [if_pos h1, if_pos h1, pack_len, Nat.add_sub_cancel]
    have hl := (slotsErr_len S.slots).1
    have e1 : sumOf ((List.range (m.slots.length - 1)).map (fun k => toldBy m.slots (rootsOf m) n (k + 1))) = sumOf ((List.range m.slots.length).map (toldBy m.slots (rootsOf m) n)) := by
      rw [show m.slots.length = (m.slots.length - 1) + 1 from by omega, List.range_succ_eq_map, List.map_cons, List.map_map]
      have e0 : toldBy m.slots (rootsOf m) n 0 = 0 := by
        unfold toldBy
        rw [if_neg (fun hh => by have := kind0_is S.slots; omega)]
      simp only [sumOf, e0, Nat.zero_add, Nat.add_sub_cancel]
      rfl
    rw [e1, sum_pack (l := m.slots) (g := fun k => toldBy (packS m.slots) (rootsOf (packM m)) (used (m.slots.take n) + 1) (k + 1)) ?_ ?_ m.slots.length (Nat.le_refl _), List.take_length]
    · intro k t ht hk0
      unfold toldBy
      rw [if_neg (fun hh => by rw [kindN_at ht] at hh; omega)]
    · intro k t ht hkt
      have k1 := slot_one S ht hkt
      have hq := pack_at ht hkt
      unfold toldBy
      rw [kindN_at ht, kindN_at hq, tableN_at ht, tableN_at hq, pack_told S ht hkt, ← ren_nat n1, show (renS m.slots t).kind = t.kind from rfl, show (renS m.slots t).table = t.table.map (ren m.slots) from rfl,
        told_map fun y hy h => ren_inj (valid_table S (List.mem_of_getElem? ht) hy) (.inr ⟨n, s, rfl, n1, hs, hk⟩) h]
  · rw [if_neg h1, if_neg h1]
theorem zip_at : ∀ (l : List Slot) (f : List Int) (n : Nat) (s : Slot) (r : Int), l[n]? = some s → s.kind ≠ 0 → f[n]? = some r → (((l.zip f).filter (fun x => keptS x.1)).map (·.2))[used (l.take n)]? = some r := by
  intro l
  induction l with
  | nil => intro f n s r h; simp at h
  | cons a l ih =>
    intro f n s r h hk hf
    cases f with
    | nil => simp at hf
    | cons b f =>
      cases n with
      | zero =>
        simp at h hf; subst h hf
        rw [List.zip_cons_cons, List.filter_cons_of_pos (p := fun x : Slot × Int => keptS x.1) (show keptS a = true from kept_yes hk)]; rfl
      | succ n =>
        have := ih f n s r (by simpa using h) hk (by simpa using hf)
        rw [List.zip_cons_cons, List.take_succ_cons]
        by_cases ha : a.kind = 0
        · rw [List.filter_cons_of_neg (p := fun x : Slot × Int => keptS x.1) (show ¬ keptS a = true by rw [kept_no ha]; decide)]
          simpa [used, ha] using this
        · rw [List.filter_cons_of_pos (p := fun x : Slot × Int => keptS x.1) (show keptS a = true from kept_yes ha)]
          have e : used (a :: l.take n) = used (l.take n) + 1 := by simp [used, ha]; omega
          rw [e]; simpa using this
theorem zip_len : ∀ (l : List Slot) (f : List Int), f.length = l.length → (((l.zip f).filter (fun x => keptS x.1)).map (·.2)).length = used l := by
  intro l
  induction l with
  | nil => intro f _; rfl
  | cons a l ih =>
    intro f h
    cases f with
    | nil => simp at h
    | cons b f =>
      have := ih f (by simpa using h)
      rw [List.zip_cons_cons]
      by_cases ha : a.kind = 0
      · rw [List.filter_cons_of_neg (p := fun x : Slot × Int => keptS x.1) (show ¬ keptS a = true by rw [kept_no ha]; decide), this]; simp [used, ha]
      · rw [List.filter_cons_of_pos (p := fun x : Slot × Int => keptS x.1) (show keptS a = true from kept_yes ha), List.map_cons, List.length_cons, this]; simp [used, ha]; omega
theorem packR_len {l : List Slot} {f : List Int} (h : f.length = l.length) : (packR l f).length = (packS l).length := by
  unfold packR
  rw [List.length_cons, zip_len l f h, pack_len]
theorem pack_right (h : checkErr m = 0) : checkErr (packM m) = 0 := by
  have S := sound_of (check_is h).1
  have hr := refs_lenP h
  have hsh : shapeErr (packM m) = 0 := (pack_sound S).shape (packR_len hr)
  unfold checkErr
  rw [if_neg (fun hh => hh hsh), if_pos]
  refine upto_iff.2 fun k hk => ?_
  have hk : k < (packS m.slots).length := hk
  unfold refAt
  simp only [Bool.and_eq_true, beq_iff_eq]
  rw [int_cnt (m := packM m) hk]
  cases k with
  | zero => exact ⟨rfl, rfl⟩
  | succ j =>
    obtain ⟨n, s, h1, h2, h3, h4⟩ := pack_back (List.getElem?_eq_getElem hk)
    subst h3
    have hl := (List.getElem?_eq_some_iff.1 h1).1
    have hf := List.getElem?_eq_getElem (show n < m.refs.length by omega)
    have hc := refs_cnt h hl
    rw [int_at hf] at hc
    have e1 : int (packM m).refs (used (m.slots.take n) + 1) = m.refs[n] := by
      refine int_at ?_
      show (packR m.slots m.refs)[used (m.slots.take n) + 1]? = _
      unfold packR
      rw [List.getElem?_cons_succ]
      exact zip_at m.slots m.refs n s _ h1 h2 hf
    rw [e1, pack_cnt S h1 h2, hc]
    refine ⟨rfl, ?_⟩
    have h5 := kind_cnt h hl
    rw [kindN_at h1] at h5
    rw [show (packM m).slots = packS m.slots from rfl, kindN_at (pack_at h1 h2), show (renS m.slots s).kind = s.kind from rfl]
    have h6 : cnt m n ≠ 0 := fun e => h2 (h5.1 e)
    have h7 : (((cnt m n : Nat) : Int) == 0) = false := by simpa using h6
    have h8 : (s.kind == 0) = false := by simpa using h2
    rw [h7, h8]
theorem used_allkept : ∀ (l : List Slot), (∀ s ∈ l, s.kind ≠ 0) → used l = l.length := by
  intro l
  induction l with
  | nil => intro _; rfl
  | cons a l ih =>
    intro h
    have := ih fun s hs => h s (List.mem_cons_of_mem _ hs)
    simp [used, h a (List.mem_cons_self ..), this]; omega
theorem pack_kinds {l : List Slot} : ∀ s ∈ (l.filter keptS).map (renS l), s.kind ≠ 0 := fun s hs => by
  obtain ⟨t, ht, rfl⟩ := List.mem_map.1 hs
  have := (List.mem_filter.1 ht).2
  unfold keptS at this
  simpa [renS] using this
theorem ren_again {l : List Slot} {e : Int} (h : ValidE (packS l) e) : ren (packS l) e = e := by
  rcases h with h | ⟨n, s, rfl, n1, hs, hk⟩
  · exact ren_low h
  · rw [ren_nat n1]
    have hl := (List.getElem?_eq_some_iff.1 hs).1
    rw [pack_len] at hl
    obtain ⟨j, rfl⟩ : ∃ j, n = j + 1 := ⟨n - 1, by omega⟩
    have e : used ((packS l).take (j + 1)) = j := by
      unfold packS
      rw [List.take_succ_cons]
      have : used (((l.filter keptS).map (renS l)).take j) = j := by
        rw [used_allkept _ fun s hs => pack_kinds s (List.mem_of_mem_take hs), List.length_take, List.length_map, filter_len]; omega
      simp [used, freeSlot, this]
    rw [e]
theorem pack_filter {l : List Slot} : (packS l).filter keptS = (l.filter keptS).map (renS l) := by
  unfold packS
  rw [List.filter_cons_of_neg (by decide), List.filter_eq_self.2 fun s hs => kept_yes (pack_kinds s hs)]
theorem zip_kept : ∀ (q : List Slot) (f : List Int), (∀ s ∈ q, s.kind ≠ 0) → f.length = q.length → ((q.zip f).filter (fun x => keptS x.1)).map (·.2) = f := by
  intro q
  induction q with
  | nil => intro f _ h; cases f with | nil => rfl | cons b f => simp at h
  | cons a q ih =>
    intro f h hl
    cases f with
    | nil => simp at hl
    | cons b f =>
      rw [List.zip_cons_cons, List.filter_cons_of_pos (p := fun x : Slot × Int => keptS x.1) (show keptS a = true from kept_yes (h a (List.mem_cons_self ..))), List.map_cons, ih f (fun s hs => h s (List.mem_cons_of_mem _ hs)) (by simpa using hl)]
theorem map_again {l : List Slot} {r : List Int} (h : ∀ e ∈ r, ValidE (packS l) (ren l e)) : (r.map (ren l)).map (ren (packS l)) = r.map (ren l) := by
  rw [List.map_map]
  exact List.map_congr_left fun e he => ren_again (h e he)
theorem valid_pack {l : List Slot} {e : Int} (h : ValidE l e) : ValidE (packS l) (ren l e) := by
  rcases h with h | ⟨n, s, rfl, n1, hs, hk⟩
  · exact .inl (ren_le.2 h)
  · exact .inr ⟨used (l.take n) + 1, renS l s, by rw [ren_nat n1], by omega, pack_at hs hk, hk⟩
theorem pack_again (h : checkErr m = 0) : packM (packM m) = packM m := by
  have S := sound_of (check_is h).1
  have hr := refs_lenP h
  have e1 : (packM m).root.map (ren (packM m).slots) = (packM m).root := map_again fun e he => valid_pack (valid_root S (List.mem_cons_self ..) he)
  have e2 : packS (packM m).slots = (packM m).slots := by
    show packS (packS m.slots) = packS m.slots
    unfold packS
    congr 1
    rw [show freeSlot :: (m.slots.filter keptS).map (renS m.slots) = packS m.slots from rfl, pack_filter, List.map_map]
    refine List.map_congr_left fun s hs => ?_
    have hm := (List.mem_filter.1 hs).1
    show (⟨s.kind, s.data, (s.table.map (ren m.slots)).map (ren (packS m.slots))⟩ : Slot) = ⟨s.kind, s.data, s.table.map (ren m.slots)⟩
    rw [map_again fun e he => valid_pack (valid_table S hm he)]
  have e3 : packR (packM m).slots (packM m).refs = (packM m).refs := by
    show packR (packS m.slots) (packR m.slots m.refs) = packR m.slots m.refs
    have hz := zip_len m.slots m.refs hr
    unfold packR
    congr 1
    generalize ((m.slots.zip m.refs).filter (fun x => keptS x.1)).map (·.2) = f at hz ⊢
    unfold packS
    rw [List.zip_cons_cons, List.filter_cons_of_neg (p := fun x : Slot × Int => keptS x.1) (show ¬ keptS freeSlot = true by decide)]
    exact zip_kept _ f pack_kinds (by rw [List.length_map, filter_len]; exact hz)
  have e4 : (packM m).snaps.map (renP (packM m).slots) = (packM m).snaps := by
    show (m.snaps.map (renP m.slots)).map (renP (packS m.slots)) = m.snaps.map (renP m.slots)
    rw [List.map_map]
    refine List.map_congr_left fun s hs => ?_
    show (⟨s.name, s.guest, (s.root.map (ren m.slots)).map (ren (packS m.slots))⟩ : Snap) = ⟨s.name, s.guest, s.root.map (ren m.slots)⟩
    rw [map_again fun e he => valid_pack (valid_root S (mem_snap hs) he)]
  show (⟨_, (packM m).root.map (ren (packM m).slots), packS (packM m).slots, packR (packM m).slots (packM m).refs, (packM m).snaps.map (renP (packM m).slots)⟩ : Img) = packM m
  rw [e1, e2, e3, e4]
/-- How many numbers there are: one more. -/
theorem dct_cons {N : Nat} {a : Int} {l : List Int} : dct N (a :: l) = dct N l + (if 0 < a ∧ a < N ∧ a ∉ l then 1 else 0) := by
  unfold dct
  by_cases h : 0 < a ∧ a < N ∧ a ∉ l
  · rw [if_pos h]
    obtain ⟨h1, h2, h3⟩ := h
    obtain ⟨F, rfl⟩ := Int.eq_ofNat_of_zero_le (Int.le_of_lt h1)
    rw [countP_add (F := F) (p := fun (j : Nat) => decide (0 < j ∧ (j : Int) ∈ l)) ?_ ?_ N, if_pos (by omega)]
    · intro j
      rw [Bool.eq_iff_iff]
      simp only [List.mem_cons, Bool.or_eq_true, decide_eq_true_eq, beq_iff_eq]
      constructor
      · rintro ⟨h4, h5 | h5⟩
        · exact .inr (by omega)
        · exact .inl ⟨h4, h5⟩
      · rintro (⟨h4, h5⟩ | rfl)
        · exact ⟨h4, .inr h5⟩
        · exact ⟨by omega, .inl rfl⟩
    · simpa using fun _ => h3
  · rw [if_neg h, Nat.add_zero]
    apply List.countP_congr
    intro j hj
    have hjN := List.mem_range.1 hj
    simp only [List.mem_cons, decide_eq_true_eq]
    constructor
    · rintro ⟨h4, h5 | h5⟩
      · refine ⟨h4, Classical.byContradiction fun h6 => h ⟨by omega, by omega, by rw [← h5]; exact h6⟩⟩
      · exact ⟨h4, h5⟩
    · rintro ⟨h4, h5⟩
      exact ⟨h4, .inr h5⟩
theorem dct_map {N : Nat} {f : Int → Int} : ∀ (l : List Int), (∀ a ∈ l, 0 < f a ↔ 0 < a) → (∀ a ∈ l, a < N) → (∀ a ∈ l, f a < N) → (∀ a ∈ l, ∀ b ∈ l, f a = f b → a = b) → dct N (l.map f) = dct N l := by
  intro l
  induction l with
  | nil => intro _ _ _ _; rfl
  | cons a l ih =>
    intro h1 h2 h3 h4
    have hm : ∀ {b}, b ∈ l → b ∈ a :: l := fun hb => List.mem_cons_of_mem _ hb
    have ha : a ∈ a :: l := List.mem_cons_self ..
    rw [List.map_cons, dct_cons, dct_cons, ih (fun b hb => h1 b (hm hb)) (fun b hb => h2 b (hm hb)) (fun b hb => h3 b (hm hb)) (fun b hb c hc => h4 b (hm hb) c (hm hc))]
    have e : f a ∈ l.map f ↔ a ∈ l := ⟨fun hh => by obtain ⟨b, hb, e⟩ := List.mem_map.1 hh; rw [← h4 b (hm hb) a ha e]; exact hb, fun hh => List.mem_map.2 ⟨a, hh, rfl⟩⟩
    congr 1
    have e2 : (0 < f a ∧ f a < N ∧ f a ∉ l.map f) ↔ (0 < a ∧ a < N ∧ a ∉ l) := by
      rw [h1 a ha, e]
      exact ⟨fun ⟨x, _, z⟩ => ⟨x, h2 a ha, z⟩, fun ⟨x, _, z⟩ => ⟨x, h3 a ha, z⟩⟩
    by_cases hh : 0 < a ∧ a < N ∧ a ∉ l
    · rw [if_pos hh, if_pos (e2.2 hh)]
    · rw [if_neg hh, if_neg (fun x => hh (e2.1 x))]
end
end Go.Proofs.Ytmdjoafbckphfaa
