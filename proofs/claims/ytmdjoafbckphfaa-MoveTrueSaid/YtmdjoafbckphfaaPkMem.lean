/- Memory laws for Pack: an append into a row that goes on, a map of numbers, rows of an own image turned. Conditions: as each says. -/
import Derived.Test.YtmdjoafbckphfaaPurePk
import Derived.Test.YtmdjoafbckphfaaWRes
import Derived.Test.YtmdjoafbckphfaaOwnP
namespace Go.Proofs.Ytmdjoafbckphfaa
open Go.RowKit Sl
theorem splice_take {α : Type} (L el : List α) (a N : Nat) (h : a + el.length ≤ N) (hN : N ≤ L.length) : (L.take a ++ el ++ L.drop (a + el.length)).take N = (L.take N).take a ++ el ++ (L.take N).drop (a + el.length) := by
  have ha : (L.take a).length = a := by rw [List.length_take]; omega
  rw [List.take_append, List.take_of_length_le (by rw [List.length_append, ha]; exact h), List.length_append, ha, List.take_take, Nat.min_eq_left (by omega), List.drop_take]
section
variable {P : Program}
/-- append(s[:k], x) where s is a row of the call's own that is longer: x stands at k then, all else as it was. -/
theorem app_in_row (w : World) (base : Nat) (t ty e : TypeId) (i : TypeInfo) (size : Nat) (ht : P.underlying t = some (.slice e)) (hi : P.info? e = some i)
    (hsize : i.size = size) (g n c k : Nat) (xs : List Value) (h : w.ownsRow base e size (.slice (some ⟨g, 0, none⟩) n c) n xs) (hk : k < n)
    (ad : Addr) (m2 : Nat) (el : List Value) (hel : el.length = size) (hcells : ∀ j u, el[j]? = some u → w.cell? (ad.add j) = some u) (h1 : ∀ u ∈ el, u.oneCell' = true) :
    ∃ w', (Builtin.append_ #[t, t] ty #[.slice (some ⟨g, 0, none⟩) k c, .slice (some ad) 1 m2]).run P w = .ok (.slice (some ⟨g, 0, none⟩) (k + 1) c) w' ∧
      w'.ownsRow base e size (.slice (some ⟨g, 0, none⟩) n c) n (xs.take (k * size) ++ el ++ xs.drop ((k + 1) * size)) ∧ w.grownBy w' (some g) := by
  have hx : xs.length = n * size := h.1
  rcases h.2 with ⟨hv, _⟩ | ⟨g', cap, cur, hv, hbg, hg, hnc, hcm, hcs, htake⟩
  · simp at hv
  · simp only [Value.slice.injEq, Option.some.injEq, Addr.mk.injEq, and_true, true_and] at hv
    obtain ⟨rfl, rfl⟩ := hv
    have hks : k * size + size ≤ n * size := by rw [← Nat.succ_mul]; exact Nat.mul_le_mul_right _ hk
    have hns : n * size ≤ cur.size := by rw [hcs]; exact Nat.mul_le_mul_right _ hnc
    have hst := run_storeCells_at P g (k * size) e el 0 cur w hg (by rw [hel]; simpa using (by omega : k * size + size ≤ cur.size)) h1
    simp only [Nat.add_zero] at hst
    have hfirst := run_firstCells_some (P := P) w size 1 ad 1 m2 el (by rw [hel, Nat.one_mul]) hcells
    have hroom : k + 1 ≤ c := by omega
    have hrun : (Builtin.append_ #[t, t] ty #[.slice (some ⟨g, 0, none⟩) k c, .slice (some ad) 1 m2]).run P w = .ok (.slice (some ⟨g, 0, none⟩) (k + 1) c) (w.setRow g (cur.toList.take (k * size) ++ el ++ cur.toList.drop (k * size + el.length)).toArray) := by
      simp [Builtin.append_, run_underlying ht, sizeOf, typeInfo, hi, hsize, Builtin.lenOf, hfirst, hroom, Addr.add_lit, hst]
    refine ⟨_, hrun, ⟨?_, .inr ⟨g, c, _, rfl, hbg, setRow_heap w g cur _ _ _ hg, hnc, hcm, ?_, ?_⟩⟩, ⟨rfl, rfl, rfl, by simp, fun j _ hj => setRow_other w g j _ (fun e => hj (by simp [e]))⟩⟩
    · simp only [List.length_append, List.length_take, List.length_drop, hx, hel, Nat.succ_mul]
      omega
    · simp only [List.size_toArray, List.length_append, List.length_take, List.length_drop, Array.length_toList, hel]
      omega
    · have e1 := splice_take cur.toList el (k * size) (n * size) (by rw [hel]; exact hks) (by rw [Array.length_toList]; exact hns)
      rw [htake] at e1
      rw [Nat.succ_mul, ← hel]
      rw [hel] at e1 ⊢
      exact e1
end

-- Maps of numbers.
/-- Block b is a map that holds these numbers by these keys. -/
def MapAt (W : World) (b : Nat) (ks : List (Int × Int)) : Prop := ∃ es c, W.heap[b]? = some (.map es c) ∧ es.toList.map (fun e => (e.key, e.val)) = ks.map (fun p => (Value.int .i64 p.1, Value.int .i64 p.2))
section
variable {W W' : World} {b : Nat} {ks : List (Int × Int)}
theorem MapAt.lt (h : MapAt W b ks) : b < W.heap.size := by obtain ⟨es, c, h, _⟩ := h; exact (Array.getElem?_eq_some_iff.1 h).1
theorem MapAt.next (h : MapAt W b ks) (hb : Below W.heap.size W W') : MapAt W' b ks := by have hl := h.lt; obtain ⟨es, c, h1, h2⟩ := h; exact ⟨es, c, (hb.block b hl).trans h1, h2⟩
theorem MapAt.kept {row : Option Nat} (h : MapAt W b ks) (hg : W.grownBy W' row) (hn : some b ≠ row) : MapAt W' b ks := by have hl := h.lt; obtain ⟨es, c, h1, h2⟩ := h; exact ⟨es, c, (hg.block b hl hn).trans h1, h2⟩
theorem find_hit (k v k' : Int) : ∀ (es : List MapEntry) (ks : List (Int × Int)) (i : Nat), es.map (fun e => (e.key, e.val)) = ks.map (fun p => (Value.int .i64 p.1, Value.int .i64 p.2)) → ks.find? (fun p => p.1 == k) = some (k', v) →
    ∃ j, Instr.findNow (.int .i64) (.int .i64 k) es i = some (some (j, .int .i64 v))
  | [], ks, i, h, hf => by
    cases ks with
    | nil => cases hf
    | cons p ks => simp at h
  | e :: es, [], i, h, hf => by cases hf
  | e :: es, p :: ks, i, h, hf => by
    simp only [List.map_cons, List.cons.injEq, Prod.mk.injEq] at h
    obtain ⟨⟨h1, h2⟩, h3⟩ := h
    rw [List.find?_cons] at hf
    cases hp : (p.1 == k)
    · rw [hp] at hf
      have hb : (k == p.1) = false := by simp at hp ⊢; exact fun e => hp e.symm
      obtain ⟨j, hj⟩ := find_hit k v k' es ks (i + 1) h3 hf
      refine ⟨j, ?_⟩
      simp only [Instr.findNow, Instr.sameNow, h1, if_true, hb]
      exact hj
    · rw [hp] at hf
      have hb : (k == p.1) = true := by simp at hp ⊢; exact hp.symm
      injection hf with hf
      subst hf
      refine ⟨i, ?_⟩
      simp only [Instr.findNow, Instr.sameNow, h1, if_true, hb, h2]
end
section
variable {P : Program} {T K E : TypeId}
theorem run_getI (ht : P.underlying T = some (.map K E)) (hk : P.underlying K = some (.int .i64)) {W : World} {b : Nat} {ks : List (Int × Int)} (h : MapAt W b ks) {k k' v : Int} (hf : ks.find? (fun p => p.1 == k) = some (k', v)) :
    (Instr.lookup T (.map (some b)) (.int .i64 k) false).run P W = .ok (.int .i64 v) W := by
  obtain ⟨es, c, h1, h2⟩ := h
  obtain ⟨j, hj⟩ := find_hit k v k' es.toList ks 0 h2 hf
  have hf' : (Instr.findKey K (.int .i64 k) es.toList).run P W = .ok (some (j, .int .i64 v)) W := by
    simp [Instr.findKey, run_underlying hk, hj]
  simp [Instr.lookup, run_underlying ht, MapKept.run_getObj_map h1, run_checkKey_int hk, hf']
theorem run_putI (ht : P.underlying T = some (.map K E)) (hk : P.underlying K = some (.int .i64)) {W : World} {b : Nat} {ks : List (Int × Int)} (h : MapAt W b ks) {k v : Int} (hn : ∀ p ∈ ks, p.1 ≠ k) :
    ∃ W', (Instr.mapUpdate T (.map (some b)) (.int .i64 k) (.int .i64 v)).run P W = .ok () W' ∧ MapAt W' b (ks ++ [(k, v)]) ∧ W.grownBy W' (some b) := by
  have hl := h.lt
  obtain ⟨es, c, h1, h2⟩ := h
  have hne : ∀ e ∈ es.toList, ∃ k', e.key = .int .i64 k' ∧ k' ≠ k := fun e he => by
    have hm : (e.key, e.val) ∈ es.toList.map (fun e => (e.key, e.val)) := List.mem_map.2 ⟨e, he, rfl⟩
    rw [h2] at hm
    obtain ⟨p, hp, e1⟩ := List.mem_map.1 hm
    injection e1 with e1 e2
    exact ⟨p.1, e1.symm, hn p hp⟩
  have hf : (Instr.findKey K (.int .i64 k) es.toList).run P W = .ok none W := by
    simp [Instr.findKey, run_underlying hk, findNow_none k es.toList 0 hne]
  refine ⟨{ W with heap := W.heap.setIfInBounds b (.map (es.push ⟨.int .i64 k, .int .i64 v, c⟩) (c + 1)) }, ?_, ⟨es.push ⟨.int .i64 k, .int .i64 v, c⟩, c + 1, ?_, ?_⟩, ⟨rfl, rfl, rfl, by simp, fun j _ hj => ?_⟩⟩
  · simp [Instr.mapUpdate, run_underlying ht, MapKept.run_getObj_map h1, run_checkKey_int hk, hf, MapKept.run_setObj_map _ h1]
  · simp [hl]
  · simp [h2]
  · show (W.heap.setIfInBounds b _)[j]? = _
    rw [Array.getElem?_setIfInBounds, if_neg (fun e => hj (by rw [e]))]
end
end Go.Proofs.Ytmdjoafbckphfaa
