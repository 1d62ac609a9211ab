/- An argument that is a slice of snapshots, opened. No conditions beside the reach. -/
import Derived.Test.YtnjjnioilbnnpaaOpen
import Derived.Test.YtnjjnioilbnnpaaImg
import Derived.Lib.SmallJoins
namespace Go.Proofs.Ytnjjnioilbnnpaa
open Go.RowKit Go.ChangeShapes Go.WideShapes Go.Deep Sl
section
variable {H : Type} {enc : TypeId × Value → H} {P : Program} {w : World} {base : Nat} {spare : Nat → Bool} {held : Bool}
theorem opened_snaps {t e ti : TypeId} {f0 f1 f2 : Field} {fuel : Nat} {v : Value} {x : DataW H × List MemPlace} (ht : P.underlying t = some (.slice e)) (he : P.underlying e = some (.struct #[f0, f1, f2]))
    (e0 : P.underlying f0.type = some .string) (e1 : P.underlying f1.type = some (.int .i64)) (e2 : P.underlying f2.type = some (.slice ti)) (ei : P.underlying ti = some (.int .i64))
    (o0 : f0.offset = 0) (o1 : f1.offset = 1) (o2 : f2.offset = 2) (c0 : P.cellsOf f0.type = 1) (c1 : P.cellsOf f1.type = 1) (c2 : P.cellsOf f2.type = 1) (ci : P.cellsOf ti = 1) (bi : P.bytesOf ti = 8)
    (hc : P.cellsOf e = 3) (hby : P.bytesOf e = 48)
    (h : DataW.trod enc P w base spare held fuel t [v] = some x) (hsp : ∀ b, spare b = true) (hw : ∀ n ∈ x.1.weights P t, n ≤ reachBytes) :
    ∃ A n c l, v = .slice A n c ∧ n ≤ c ∧ c ≤ 17592186044416 ∧ SnapsR w w.heap.size A n l := by
  rcases open_slice ht h with ⟨hcs, hx⟩ | ⟨a, len, cap, m, n, D, Pl, hcs, hb, hl, hm, hmm, hx, hi⟩
  · simp only [List.cons.injEq, and_true] at hcs
    exact ⟨none, 0, 0, [], hcs, Nat.le_refl _, by omega, SnapsR.none_⟩
  · simp only [List.cons.injEq, and_true] at hcs
    rw [hsp] at hmm
    simp only [if_true] at hmm
    subst hmm
    rw [hc] at hi
    have hreach : m * 48 ≤ reachBytes := by
      refine hw _ ?_
      rw [hx]
      simp only [DataW.weights, ht, hby, List.length_map, List.length_range]
      rw [show len + (m - len) = m from by omega]
      simp
    have hmr : m ≤ 17592186044416 := by simp only [reachBytes] at hreach; omega
    have hel : ∀ i, i < len → ∃ s, SnapAt w w.heap.size (a.add (i * 3)).block (a.add (i * 3)).off s ∧ (a.add (i * 3)).block < w.heap.size ∧ (a.add (i * 3)).spot = none := by
      intro i hil
      obtain ⟨cs', hcl, ht'⟩ := hi i (by omega)
      obtain ⟨_, hcl3, hat⟩ := World.cells?_some hcl
      obtain ⟨ys, n', hn', hy, hlen, hyl, hf⟩ := DataW.trod_struct he ht'
      have hDw : ∀ z ∈ (D i).weights P e, z ≤ reachBytes := by
        intro z hz
        refine hw z ?_
        rw [hx]
        simp only [DataW.weights, ht, List.mem_cons, List.mem_append]
        refine Or.inr (Or.inl ?_)
        clear hw hx hi hf
        have hmem : D i ∈ (List.range len).map D := List.mem_map.2 ⟨i, List.mem_range.2 hil, rfl⟩
        generalize (List.range len).map D = L at hmem
        induction L with
        | nil => cases hmem
        | cons d L ih =>
          simp only [DataW.weightsAll, List.mem_append]
          rcases List.mem_cons.1 hmem with rfl | h'
          · exact Or.inl hz
          · exact Or.inr (ih h')
      simp only [Prod.mk.injEq] at hy
      match cs', hcl3 with
      | [v0, v1, v2], _ =>
      have g0 := hf 0 f0 rfl
      have g1 := hf 1 f1 rfl
      have g2 := hf 2 f2 rfl
      rw [o0, c0] at g0; rw [o1, c1] at g1; rw [o2, c2] at g2
      simp only [List.drop_zero, List.take_succ_cons, List.take_zero, List.drop_succ_cons] at g0 g1 g2
      match ys, hyl with
      | [y0, y1, y2], _ =>
      simp only [List.getElem?_cons_zero, List.getElem?_cons_succ] at g0 g1 g2
      obtain ⟨d, hd, rfl, hds⟩ := DataW.trod_string e0 g0
      obtain ⟨k, hk, rfl, _⟩ := DataW.trod_int e1 g1
      rw [hy.1] at hDw
      simp only [List.map_cons, List.map_nil, DataW.weights, he] at hDw
      have w2 : ∀ z ∈ y2.1.weights P f2.type, z ≤ reachBytes := fun z hz => hDw z (by simp [DataW.weightsEach, hz])
      have w1 : d.size ≤ reachBytes := by
        refine hDw _ ?_
        simp [DataW.weightsEach, DataW.weights]
      obtain ⟨tA, tn, tc, xs, hv, hn1, hn2, hr, _⟩ := opened_ints e2 ei ci bi g2 hsp w2
      simp only [List.cons.injEq, and_true] at hk hd
      subst hk hd hv
      have k0 := hat 0 (by omega)
      have k1 := hat 1 (by omega)
      have k2 := hat 2 (by omega)
      simp only [List.getElem?_cons_zero, List.getElem?_cons_succ] at k0 k1 k2
      obtain ⟨hlt, hspot⟩ := cell_lt k0
      have hz : (a.add (i * 3)).add 0 = a.add (i * 3) := by simp [Addr.add]
      rw [hz] at hlt hspot k0
      have hform := addr_form hspot
      rw [hform] at k1 k2
      rw [add_form] at k1 k2
      rw [hform] at k0
      exact ⟨⟨d, k, xs⟩, ⟨tA, tn, tc, k0, k1, k2, ⟨by simp only [reachBytes] at w1; show d.size ≤ _; omega, hn1, by omega, hr⟩⟩, hlt, hspot⟩
    have hall : ∃ l : List Snap, l.length = len ∧ ∀ i s, l[i]? = some s → SnapAt w w.heap.size (a.add (i * 3)).block (a.add (i * 3)).off s := by
      clear hi hx hw
      have key : ∀ k, k ≤ len → ∃ l : List Snap, l.length = k ∧ ∀ i s, l[i]? = some s → SnapAt w w.heap.size (a.add (i * 3)).block (a.add (i * 3)).off s := by
        intro k
        induction k with
        | zero => intro _; exact ⟨[], rfl, fun i s h => by simp at h⟩
        | succ k ih =>
          intro hk
          obtain ⟨l, hl1, hl2⟩ := ih (by omega)
          obtain ⟨s, hs, _, _⟩ := hel k (by omega)
          refine ⟨l ++ [s], by simp [hl1], fun i s' hi' => ?_⟩
          rw [List.getElem?_append] at hi'
          split at hi'
          · exact hl2 i s' hi'
          · rename_i hge
            have : i = k := by
              rcases Nat.lt_or_ge (i - l.length) 1 with h | h
              · omega
              · rw [List.getElem?_eq_none (by simpa using h)] at hi'; cases hi'
            subst this
            rw [hl1, Nat.sub_self] at hi'
            simp at hi'
            subst hi'
            exact hs
      exact key len (Nat.le_refl _)
    obtain ⟨l, hl1, hl2⟩ := hall
    refine ⟨some a, len, m, l, hcs, hl, hmr, hl1, fun hn => ?_⟩
    obtain ⟨_, _, hlt, hspot⟩ := hel 0 hn
    have hz : a.add (0 * 3) = a := by simp [Addr.add]
    rw [hz] at hlt hspot
    have hform := addr_form hspot
    refine ⟨a.block, a.off, by rw [← hform], hlt, fun k s hs => ?_⟩
    have := hl2 k s hs
    rw [hform, add_form] at this
    exact this
end
end Go.Proofs.Ytnjjnioilbnnpaa
