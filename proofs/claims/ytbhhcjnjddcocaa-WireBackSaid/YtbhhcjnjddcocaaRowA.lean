/- Arguments opened, by their types. Conditions: as each text says. -/
import Derived.Test.YtbhhcjnjddcocaaBase
import Derived.Deep.Slices
import Derived.Deep.Fields
import Derived.SliceStrings
import Derived.SizedLaws
import Derived.ProofKit
import Derived.Test.YtbhhcjnjddcocaaMemA
import Derived.Lib.SmallJoins
-- Open: Arguments opened: slices of integers, of strings, of slots, read as lists. No conditions beside the reach.
namespace Go.Proofs.Ytbhhcjnjddcocaa
open Go.RowKit Go.ChangeShapes Go.WideShapes Go.Deep Sl

theorem cell_lt {w : World} {a : Addr} {v : Value} (h : w.cell? a = some v) : a.block < w.heap.size ∧ a.spot = none := by
  unfold World.cell? at h
  split at h
  · rename_i hh
    refine ⟨(Array.getElem?_eq_some_iff.1 hh).1, ?_⟩
    cases hs : a.spot with
    | none => rfl
    | some _ => rw [hs] at h; simp at h
  · cases h
theorem addr_form {a : Addr} (h : a.spot = none) : a = ⟨a.block, a.off, none⟩ := by cases a; simp at h; subst h; rfl
theorem add_form (b o n : Nat) : (⟨b, o, none⟩ : Addr).add n = ⟨b, o + n, none⟩ := by
  unfold Addr.add
  by_cases h : n = 0 <;> simp [h]

def I64 (x : Int) : Prop := -9223372036854775808 ≤ x ∧ x ≤ 9223372036854775807
theorem i64_of_wf {x : Int} (h : (Lit.int .i64 x).wf = true) : I64 x := by
  have := h; simp [Lit.wf, IntKind.min, IntKind.max, IntKind.signed, IntKind.bits] at this; unfold I64; omega

section
variable {H : Type} {enc : TypeId × Value → H} {P : Program} {w : World} {base : Nat} {spare : Nat → Bool} {held : Bool}
theorem opened_ints {t e : TypeId} {fuel : Nat} {v : Value} {x : DataW H × List MemPlace} (ht : P.underlying t = some (.slice e)) (he : P.underlying e = some (.int .i64)) (hc : P.cellsOf e = 1) (hby : P.bytesOf e = 8)
    (h : DataW.trod enc P w base spare held fuel t [v] = some x) (hsp : ∀ b, spare b = true) (hw : ∀ n ∈ x.1.weights P t, n ≤ reachBytes) :
    ∃ A n c xs, v = .slice A n c ∧ n ≤ c ∧ c ≤ 17592186044416 ∧ Rd w w.heap.size 1 A n (ints xs) ∧ (∀ z ∈ xs, I64 z) := by
  rcases open_ints ht he hc h with ⟨hcs, hx⟩ | ⟨a, len, cap, zs, hcs, _, hl, hm, hz, hx, hcell, hwz⟩
  · simp only [List.cons.injEq, and_true] at hcs
    exact ⟨none, 0, 0, [], hcs, Nat.le_refl _, by omega, Rd.none_, fun z hz => by cases hz⟩
  · simp only [List.cons.injEq, and_true] at hcs
    rw [hsp] at hz
    simp only [if_true] at hz
    have hreach : cap * 8 ≤ reachBytes := by
      refine hw _ ?_
      rw [hx]
      simp only [DataW.weights, ht, hby, lits, List.length_map, List.length_take, List.length_drop, hz]
      rw [show min len cap + (cap - len) = cap from by omega]
      simp
    refine ⟨some a, len, cap, zs.take len, hcs, hl, by simp only [reachBytes] at hreach; omega, ⟨by simp [ints, hz]; omega, fun hn => ?_⟩, fun z hz => i64_of_wf (hwz z (List.mem_of_mem_take hz))⟩
    have h0 := hcell 0 (by omega)
    obtain ⟨hlt, hspot⟩ := cell_lt h0
    rw [block_add] at hlt
    have hspot' : a.spot = none := by simpa [Addr.add] using hspot
    have ha := addr_form hspot'
    refine ⟨a.block, a.off, by rw [← ha], hlt, fun j u hu => ?_⟩
    unfold ints at hu
    rw [List.getElem?_map, List.getElem?_take] at hu
    split at hu
    · rename_i hj
      have hjl : j < zs.length := by omega
      have := hcell j hjl
      rw [ha, add_form] at this
      rw [this]
      rw [List.getElem?_eq_getElem hjl] at hu
      simp only [Option.map_some, Option.some.injEq] at hu
      rw [← hu, List.getD_eq_getElem?_getD, List.getElem?_eq_getElem hjl]
      rfl
    · simp at hu
theorem opened_slots {t e ti : TypeId} {f0 f1 f2 : Field} {fuel : Nat} {v : Value} {x : DataW H × List MemPlace} (ht : P.underlying t = some (.slice e)) (he : P.underlying e = some (.struct #[f0, f1, f2]))
    (e0 : P.underlying f0.type = some (.int .i64)) (e1 : P.underlying f1.type = some .string) (e2 : P.underlying f2.type = some (.slice ti)) (ei : P.underlying ti = some (.int .i64))
    (o0 : f0.offset = 0) (o1 : f1.offset = 1) (o2 : f2.offset = 2) (c0 : P.cellsOf f0.type = 1) (c1 : P.cellsOf f1.type = 1) (c2 : P.cellsOf f2.type = 1) (ci : P.cellsOf ti = 1) (bi : P.bytesOf ti = 8)
    (hc : P.cellsOf e = 3) (hby : P.bytesOf e = 48)
    (h : DataW.trod enc P w base spare held fuel t [v] = some x) (hsp : ∀ b, spare b = true) (hw : ∀ n ∈ x.1.weights P t, n ≤ reachBytes) :
    ∃ A n c l, v = .slice A n c ∧ n ≤ c ∧ c ≤ 17592186044416 ∧ SlotsR w w.heap.size A n l := by
  rcases open_slice ht h with ⟨hcs, hx⟩ | ⟨a, len, cap, m, n, D, Pl, hcs, hb, hl, hm, hmm, hx, hi⟩
  · simp only [List.cons.injEq, and_true] at hcs
    exact ⟨none, 0, 0, [], hcs, Nat.le_refl _, by omega, SlotsR.none_⟩
  · simp only [List.cons.injEq, and_true] at hcs
    rw [hsp] at hmm
    simp only [if_true] at hmm
    subst hmm
    rw [hc] at hi
    have hreach : m * 48 ≤ reachBytes := by
      refine hw _ ?_
      rw [hx]
      simp only [DataW.weights, ht, hby, List.length_map, List.length_range]
      rw [show len + (m - len) = m from by omega]
      simp
    have hmr : m ≤ 17592186044416 := by simp only [reachBytes] at hreach; omega
    have hel : ∀ i, i < len → ∃ s, SlotAt w w.heap.size (a.add (i * 3)).block (a.add (i * 3)).off s ∧ (a.add (i * 3)).block < w.heap.size ∧ (a.add (i * 3)).spot = none := by
      intro i hil
      obtain ⟨cs', hcl, ht'⟩ := hi i (by omega)
      obtain ⟨_, hcl3, hat⟩ := World.cells?_some hcl
      obtain ⟨ys, n', hn', hy, hlen, hyl, hf⟩ := DataW.trod_struct he ht'
      have hDw : ∀ z ∈ (D i).weights P e, z ≤ reachBytes := by
        intro z hz
        refine hw z ?_
        rw [hx]
        simp only [DataW.weights, ht, List.mem_cons, List.mem_append]
        refine Or.inr (Or.inl ?_)
        clear hw hx hi hf
        have hmem : D i ∈ (List.range len).map D := List.mem_map.2 ⟨i, List.mem_range.2 hil, rfl⟩
        generalize (List.range len).map D = L at hmem
        induction L with
        | nil => cases hmem
        | cons d L ih =>
          simp only [DataW.weightsAll, List.mem_append]
          rcases List.mem_cons.1 hmem with rfl | h'
          · exact Or.inl hz
          · exact Or.inr (ih h')
      simp only [Prod.mk.injEq] at hy
      match cs', hcl3 with
      | [v0, v1, v2], _ =>
      have g0 := hf 0 f0 rfl
      have g1 := hf 1 f1 rfl
      have g2 := hf 2 f2 rfl
      rw [o0, c0] at g0; rw [o1, c1] at g1; rw [o2, c2] at g2
      simp only [List.drop_zero, List.take_succ_cons, List.take_zero, List.drop_succ_cons] at g0 g1 g2
      match ys, hyl with
      | [y0, y1, y2], _ =>
      simp only [List.getElem?_cons_zero, List.getElem?_cons_succ] at g0 g1 g2
      obtain ⟨k, hk, rfl, _⟩ := DataW.trod_int e0 g0
      obtain ⟨d, hd, rfl, hds⟩ := DataW.trod_string e1 g1
      rw [hy.1] at hDw
      simp only [List.map_cons, List.map_nil, DataW.weights, he] at hDw
      have w2 : ∀ z ∈ y2.1.weights P f2.type, z ≤ reachBytes := fun z hz => hDw z (by simp [DataW.weightsEach, hz])
      have w1 : d.size ≤ reachBytes := by
        refine hDw _ ?_
        simp [DataW.weightsEach, DataW.weights]
      obtain ⟨tA, tn, tc, xs, hv, hn1, hn2, hr, _⟩ := opened_ints e2 ei ci bi g2 hsp w2
      simp only [List.cons.injEq, and_true] at hk hd
      subst hk hd hv
      have k0 := hat 0 (by omega)
      have k1 := hat 1 (by omega)
      have k2 := hat 2 (by omega)
      simp only [List.getElem?_cons_zero, List.getElem?_cons_succ] at k0 k1 k2
      obtain ⟨hlt, hspot⟩ := cell_lt k0
      have hz : (a.add (i * 3)).add 0 = a.add (i * 3) := by simp [Addr.add]
      rw [hz] at hlt hspot k0
      have hform := addr_form hspot
      rw [hform] at k1 k2
      rw [add_form] at k1 k2
      rw [hform] at k0
      exact ⟨⟨k, d, xs⟩, ⟨tA, tn, tc, k0, k1, k2, ⟨by simp only [reachBytes] at w1; show d.size ≤ _; omega, hn1, by omega, hr⟩⟩, hlt, hspot⟩
    have hall : ∃ l : List Slot, l.length = len ∧ ∀ i s, l[i]? = some s → SlotAt w w.heap.size (a.add (i * 3)).block (a.add (i * 3)).off s := by
      clear hi hx hw
      have key : ∀ k, k ≤ len → ∃ l : List Slot, l.length = k ∧ ∀ i s, l[i]? = some s → SlotAt w w.heap.size (a.add (i * 3)).block (a.add (i * 3)).off s := by
        intro k
        induction k with
        | zero => intro _; exact ⟨[], rfl, fun i s h => by simp at h⟩
        | succ k ih =>
          intro hk
          obtain ⟨l, hl1, hl2⟩ := ih (by omega)
          obtain ⟨s, hs, _, _⟩ := hel k (by omega)
          refine ⟨l ++ [s], by simp [hl1], fun i s' hi' => ?_⟩
          rw [List.getElem?_append] at hi'
          split at hi'
          · exact hl2 i s' hi'
          · rename_i hge
            have : i = k := by
              rcases Nat.lt_or_ge (i - l.length) 1 with h | h
              · omega
              · rw [List.getElem?_eq_none (by simpa using h)] at hi'; cases hi'
            subst this
            rw [hl1, Nat.sub_self] at hi'
            simp at hi'
            subst hi'
            exact hs
      exact key len (Nat.le_refl _)
    obtain ⟨l, hl1, hl2⟩ := hall
    refine ⟨some a, len, m, l, hcs, hl, hmr, hl1, fun hn => ?_⟩
    obtain ⟨_, _, hlt, hspot⟩ := hel 0 hn
    have hz : a.add (0 * 3) = a := by simp [Addr.add]
    rw [hz] at hlt hspot
    have hform := addr_form hspot
    refine ⟨a.block, a.off, by rw [← hform], hlt, fun k s hs => ?_⟩
    have := hl2 k s hs
    rw [hform, add_form] at this
    exact this
end
end Go.Proofs.Ytbhhcjnjddcocaa
-- Row: The last step of a law's row: behind a call that answered true and left all old blocks alone, the row's post holds. No conditions.
namespace Go.Proofs.Ytbhhcjnjddcocaa
open Go.ChangeShapes Go.WideShapes Go.ChangeAt Go.RowKit Sl

theorem Try.own : ownKnob Try.prog.godebug = none := by kernel_rfl
theorem Try.laidOut : laidOutB Try.prog = true := by kernel_rfl

section
variable {H : Type} {enc : TypeId × Value → H}
theorem trodAll_below {W W' : World} (hb : Below W.heap.size W W') : ∀ (ts : List TypeId) (vs : List Value) (ds : List (DataW H)) (ps : List MemPlace), DataW.TrodAll enc Try.prog W 0 (fun _ => true) true ts vs ds ps →
    (∀ t ∈ ts, Try.prog.readableRec t = true ∧ t < Try.prog.types.size) → (∀ p ∈ ps, p.block < W.heap.size) → DataW.TrodAll enc Try.prog W' 0 (fun b => decide (b < W.heap.size)) true ts vs ds ps
  | [], vs, ds, ps, h, _, _ => by
    obtain ⟨rfl, rfl, rfl⟩ := trodAll_nil h
    exact trodAll_mk0
  | t :: ts, vs, ds, ps, h, hr, hl => by
    obtain ⟨v, vs', d, ds', p, q, rfl, rfl, rfl, h1, h2⟩ := trodAll_cons h
    exact ⟨p, q, (Below.trod Try.laidOut (hr t (by simp)).1 (hr t (by simp)).2 h1 hb (fun x hx => hl x (List.mem_append_left _ hx))),
      (trodAll_below hb ts vs' ds' q h2 (fun t ht => hr t (by simp [ht])) (fun x hx => hl x (List.mem_append_right _ hx))), rfl⟩

theorem law_post {f : Func} {s : ChangeSpec} {W W' : World} {args : Array Value} {ds : List (DataW H)} {before : List MemPlace} (hs : s.vars = []) (hres : f.resultTypes = #[4])
    (hread : ∀ t ∈ f.params.toList, Try.prog.readableRec t = true ∧ t < Try.prog.types.size)
    (hW : DataW.Whole enc Try.prog f.params.toList [] false W args.toList ds [] before) (hfn : s.fn H (ds ++ []) = { results := [.lit (.bool true)], args := ds }) (hb : Below W.heap.size W W') :
    s.post enc Try.prog f false true false false W args (.bool true) W' := by
  have hW' := hW
  obtain ⟨p, q, hA, hV, rfl, hz, hn⟩ := hW
  have hlt := hW'.lt
  obtain ⟨_, rfl⟩ := trodVars_none hV
  refine ⟨ds, [], p ++ [], [], p, [], by rw [hs]; exact hW', ?_, ?_, ?_, hb.frame _, fun h => by cases h⟩
  · rw [hfn, hres]
    exact trodAll_mk1 (shut_bool Try.underlying4 true)
  · rw [hfn]
    exact trodAll_below hb _ _ _ _ hA hread (fun x hx => hlt x (by simpa using hx))
  · rw [hs, hfn]
    exact rfl

theorem weight_at {ts : List TypeId} {ds : List (DataW H)} (h : (DataW.weightsEach Try.prog ts ds).all (· ≤ reachBytes) = true) {j : Nat} {t : TypeId} {d : DataW H} (ht : ts[j]? = some t) (hd : ds[j]? = some d) :
    ∀ n ∈ d.weights Try.prog t, n ≤ reachBytes := fun n hn => by
  have := List.all_eq_true.1 h _ (DataW.weights_mem_each ht hd n hn)
  simpa using this
theorem args_of {args : Array Value} {l : List Value} (h : args.toList = l) : args = l.toArray := by rw [← h]

theorem opened_slots_at {W : World} {v : Value} {d : DataW H} {p : List MemPlace} (hs : ∃ a n c, v = .slice a n c) (h : DataW.Trod enc Try.prog W 0 (fun _ => true) true 23 v d p) (hw : ∀ n ∈ d.weights Try.prog 23, n ≤ reachBytes) :
    ∃ A n c l, v = .slice A n c ∧ n ≤ c ∧ c ≤ 17592186044416 ∧ SlotsR W W.heap.size A n l := by
  obtain ⟨fuel, hf⟩ := h
  obtain ⟨a, n, c, rfl⟩ := hs
  exact opened_slots Try.underlying23 Try.underlying45 Try.underlying3 Try.underlying9 Try.underlying22 Try.underlying3 rfl rfl rfl (by kernel_rfl) (by kernel_rfl) (by kernel_rfl) (by kernel_rfl) (by kernel_rfl) (by kernel_rfl) (by kernel_rfl) hf (fun _ => rfl) hw
theorem opened_ints_at {W : World} {v : Value} {d : DataW H} {p : List MemPlace} (hs : ∃ a n c, v = .slice a n c) (h : DataW.Trod enc Try.prog W 0 (fun _ => true) true 22 v d p) (hw : ∀ n ∈ d.weights Try.prog 22, n ≤ reachBytes) :
    ∃ A n c xs, v = .slice A n c ∧ n ≤ c ∧ c ≤ 17592186044416 ∧ Rd W W.heap.size 1 A n (ints xs) ∧ (∀ z ∈ xs, I64 z) := by
  obtain ⟨fuel, hf⟩ := h
  obtain ⟨a, n, c, rfl⟩ := hs
  exact opened_ints Try.underlying22 Try.underlying3 (by kernel_rfl) (by kernel_rfl) hf (fun _ => rfl) hw
end
end Go.Proofs.Ytbhhcjnjddcocaa
-- Row2: Arguments opened, by their types. No conditions beside the reach.
namespace Go.Proofs.Ytbhhcjnjddcocaa
open Go.ChangeShapes Go.WideShapes Go.ChangeAt Go.RowKit Sl

section
variable {H : Type} {enc : TypeId × Value → H} {W : World} {base : Nat} {v : Value} {d : DataW H} {p : List MemPlace}
set_option maxRecDepth 100000 in
theorem op_int (hv : Value.okWide Try.prog W .any base 3 v) (h : DataW.Trod enc Try.prog W 0 (fun _ => true) true 3 v d p) (_ : ∀ n ∈ d.weights Try.prog 3, n ≤ reachBytes) : ∃ x, v = .int .i64 x ∧ I64 x := by
  obtain ⟨x, rfl, _, _, hw⟩ := open_int Try.underlying3 hv h
  exact ⟨x, rfl, i64_of_wf hw⟩
set_option maxRecDepth 100000 in
theorem op_string (hv : Value.okWide Try.prog W .any base 9 v) (h : DataW.Trod enc Try.prog W 0 (fun _ => true) true 9 v d p) (hw : ∀ n ∈ d.weights Try.prog 9, n ≤ reachBytes) : ∃ s, v = .string s ∧ s.size ≤ 140737488351232 := by
  obtain ⟨s, rfl, rfl, _, _⟩ := ChangeMaps.open_string Try.underlying9 hv h
  exact ⟨s, rfl, hw s.size (by simp [DataW.weights])⟩
set_option maxRecDepth 100000 in
theorem op_ints (hv : Value.okWide Try.prog W .any base 22 v) (h : DataW.Trod enc Try.prog W 0 (fun _ => true) true 22 v d p) (hw : ∀ n ∈ d.weights Try.prog 22, n ≤ reachBytes) :
    ∃ A n c xs, v = .slice A n c ∧ n ≤ c ∧ c ≤ 17592186044416 ∧ Rd W W.heap.size 1 A n (ints xs) ∧ (∀ z ∈ xs, I64 z) := opened_ints_at (okWide_slice Try.underlying22 hv) h hw
set_option maxRecDepth 100000 in
theorem op_slots (hv : Value.okWide Try.prog W .any base 23 v) (h : DataW.Trod enc Try.prog W 0 (fun _ => true) true 23 v d p) (hw : ∀ n ∈ d.weights Try.prog 23, n ≤ reachBytes) :
    ∃ A n c l, v = .slice A n c ∧ n ≤ c ∧ c ≤ 17592186044416 ∧ SlotsR W W.heap.size A n l := opened_slots_at (okWide_slice Try.underlying23 hv) h hw
set_option maxRecDepth 100000 in
theorem op_slot (hv : Value.okWide Try.prog W .any base 45 v) (h : DataW.Trod enc Try.prog W 0 (fun _ => true) true 45 v d p) (hw : ∀ n ∈ d.weights Try.prog 45, n ≤ reachBytes) :
    ∃ s A n c, v = .agg #[.int .i64 s.kind, .string s.data, .slice A n c] ∧ SlotV W W.heap.size s A n c := by
  obtain ⟨v0, v1, v2, y0, y1, y2, m, rfl, rfl, rfl, h0, h1, h2⟩ := Joins.open_agg3 Try.underlying45 (by kernel_rfl) (by kernel_rfl) hv h
  obtain ⟨k, hk, rfl, _⟩ := DataW.trod_int Try.underlying3 h0
  obtain ⟨s, hs, rfl, _⟩ := DataW.trod_string Try.underlying9 h1
  simp only [DataW.weights, Try.underlying45] at hw
  obtain ⟨A, n, c, xs, hv2, hn, hc, hr, _⟩ := opened_ints Try.underlying22 Try.underlying3 (by kernel_rfl) (by kernel_rfl) h2 (fun _ => rfl) (fun z hz => hw z (by simp [DataW.weightsEach, hz]))
  have hsz := hw s.size (by simp [DataW.weightsEach, DataW.weights])
  simp only [List.cons.injEq, and_true] at hk hs
  subst hk hs hv2
  exact ⟨⟨k, s, xs⟩, A, n, c, rfl, ⟨by simp only [reachBytes] at hsz; show s.size ≤ _; omega, hn, by omega, hr⟩⟩
end
end Go.Proofs.Ytbhhcjnjddcocaa
-- Open2: An argument that is a slice of snapshots, opened. No conditions beside the reach.
namespace Go.Proofs.Ytbhhcjnjddcocaa
open Go.RowKit Go.ChangeShapes Go.WideShapes Go.Deep Sl
section
variable {H : Type} {enc : TypeId × Value → H} {P : Program} {w : World} {base : Nat} {spare : Nat → Bool} {held : Bool}
theorem opened_snaps {t e ti : TypeId} {f0 f1 f2 : Field} {fuel : Nat} {v : Value} {x : DataW H × List MemPlace} (ht : P.underlying t = some (.slice e)) (he : P.underlying e = some (.struct #[f0, f1, f2]))
    (e0 : P.underlying f0.type = some .string) (e1 : P.underlying f1.type = some (.int .i64)) (e2 : P.underlying f2.type = some (.slice ti)) (ei : P.underlying ti = some (.int .i64))
    (o0 : f0.offset = 0) (o1 : f1.offset = 1) (o2 : f2.offset = 2) (c0 : P.cellsOf f0.type = 1) (c1 : P.cellsOf f1.type = 1) (c2 : P.cellsOf f2.type = 1) (ci : P.cellsOf ti = 1) (bi : P.bytesOf ti = 8)
    (hc : P.cellsOf e = 3) (hby : P.bytesOf e = 48)
    (h : DataW.trod enc P w base spare held fuel t [v] = some x) (hsp : ∀ b, spare b = true) (hw : ∀ n ∈ x.1.weights P t, n ≤ reachBytes) :
    ∃ A n c l, v = .slice A n c ∧ n ≤ c ∧ c ≤ 17592186044416 ∧ SnapsR w w.heap.size A n l := by
  rcases open_slice ht h with ⟨hcs, hx⟩ | ⟨a, len, cap, m, n, D, Pl, hcs, hb, hl, hm, hmm, hx, hi⟩
  · simp only [List.cons.injEq, and_true] at hcs
    exact ⟨none, 0, 0, [], hcs, Nat.le_refl _, by omega, SnapsR.none_⟩
  · simp only [List.cons.injEq, and_true] at hcs
    rw [hsp] at hmm
    simp only [if_true] at hmm
    subst hmm
    rw [hc] at hi
    have hreach : m * 48 ≤ reachBytes := by
      refine hw _ ?_
      rw [hx]
      simp only [DataW.weights, ht, hby, List.length_map, List.length_range]
      rw [show len + (m - len) = m from by omega]
      simp
    have hmr : m ≤ 17592186044416 := by simp only [reachBytes] at hreach; omega
    have hel : ∀ i, i < len → ∃ s, SnapAt w w.heap.size (a.add (i * 3)).block (a.add (i * 3)).off s ∧ (a.add (i * 3)).block < w.heap.size ∧ (a.add (i * 3)).spot = none := by
      intro i hil
      obtain ⟨cs', hcl, ht'⟩ := hi i (by omega)
      obtain ⟨_, hcl3, hat⟩ := World.cells?_some hcl
      obtain ⟨ys, n', hn', hy, hlen, hyl, hf⟩ := DataW.trod_struct he ht'
      have hDw : ∀ z ∈ (D i).weights P e, z ≤ reachBytes := by
        intro z hz
        refine hw z ?_
        rw [hx]
        simp only [DataW.weights, ht, List.mem_cons, List.mem_append]
        refine Or.inr (Or.inl ?_)
        clear hw hx hi hf
        have hmem : D i ∈ (List.range len).map D := List.mem_map.2 ⟨i, List.mem_range.2 hil, rfl⟩
        generalize (List.range len).map D = L at hmem
        induction L with
        | nil => cases hmem
        | cons d L ih =>
          simp only [DataW.weightsAll, List.mem_append]
          rcases List.mem_cons.1 hmem with rfl | h'
          · exact Or.inl hz
          · exact Or.inr (ih h')
      simp only [Prod.mk.injEq] at hy
      match cs', hcl3 with
      | [v0, v1, v2], _ =>
      have g0 := hf 0 f0 rfl
      have g1 := hf 1 f1 rfl
      have g2 := hf 2 f2 rfl
      rw [o0, c0] at g0; rw [o1, c1] at g1; rw [o2, c2] at g2
      simp only [List.drop_zero, List.take_succ_cons, List.take_zero, List.drop_succ_cons] at g0 g1 g2
      match ys, hyl with
      | [y0, y1, y2], _ =>
      simp only [List.getElem?_cons_zero, List.getElem?_cons_succ] at g0 g1 g2
      obtain ⟨d, hd, rfl, hds⟩ := DataW.trod_string e0 g0
      obtain ⟨k, hk, rfl, _⟩ := DataW.trod_int e1 g1
      rw [hy.1] at hDw
      simp only [List.map_cons, List.map_nil, DataW.weights, he] at hDw
      have w2 : ∀ z ∈ y2.1.weights P f2.type, z ≤ reachBytes := fun z hz => hDw z (by simp [DataW.weightsEach, hz])
      have w1 : d.size ≤ reachBytes := by
        refine hDw _ ?_
        simp [DataW.weightsEach, DataW.weights]
      obtain ⟨tA, tn, tc, xs, hv, hn1, hn2, hr, _⟩ := opened_ints e2 ei ci bi g2 hsp w2
      simp only [List.cons.injEq, and_true] at hk hd
      subst hk hd hv
      have k0 := hat 0 (by omega)
      have k1 := hat 1 (by omega)
      have k2 := hat 2 (by omega)
      simp only [List.getElem?_cons_zero, List.getElem?_cons_succ] at k0 k1 k2
      obtain ⟨hlt, hspot⟩ := cell_lt k0
      have hz : (a.add (i * 3)).add 0 = a.add (i * 3) := by simp [Addr.add]
      rw [hz] at hlt hspot k0
      have hform := addr_form hspot
      rw [hform] at k1 k2
      rw [add_form] at k1 k2
      rw [hform] at k0
      exact ⟨⟨d, k, xs⟩, ⟨tA, tn, tc, k0, k1, k2, ⟨by simp only [reachBytes] at w1; show d.size ≤ _; omega, hn1, by omega, hr⟩⟩, hlt, hspot⟩
    have hall : ∃ l : List Snap, l.length = len ∧ ∀ i s, l[i]? = some s → SnapAt w w.heap.size (a.add (i * 3)).block (a.add (i * 3)).off s := by
      clear hi hx hw
      have key : ∀ k, k ≤ len → ∃ l : List Snap, l.length = k ∧ ∀ i s, l[i]? = some s → SnapAt w w.heap.size (a.add (i * 3)).block (a.add (i * 3)).off s := by
        intro k
        induction k with
        | zero => intro _; exact ⟨[], rfl, fun i s h => by simp at h⟩
        | succ k ih =>
          intro hk
          obtain ⟨l, hl1, hl2⟩ := ih (by omega)
          obtain ⟨s, hs, _, _⟩ := hel k (by omega)
          refine ⟨l ++ [s], by simp [hl1], fun i s' hi' => ?_⟩
          rw [List.getElem?_append] at hi'
          split at hi'
          · exact hl2 i s' hi'
          · rename_i hge
            have : i = k := by
              rcases Nat.lt_or_ge (i - l.length) 1 with h | h
              · omega
              · rw [List.getElem?_eq_none (by simpa using h)] at hi'; cases hi'
            subst this
            rw [hl1, Nat.sub_self] at hi'
            simp at hi'
            subst hi'
            exact hs
      exact key len (Nat.le_refl _)
    obtain ⟨l, hl1, hl2⟩ := hall
    refine ⟨some a, len, m, l, hcs, hl, hmr, hl1, fun hn => ?_⟩
    obtain ⟨_, _, hlt, hspot⟩ := hel 0 hn
    have hz : a.add (0 * 3) = a := by simp [Addr.add]
    rw [hz] at hlt hspot
    have hform := addr_form hspot
    refine ⟨a.block, a.off, by rw [← hform], hlt, fun k s hs => ?_⟩
    have := hl2 k s hs
    rw [hform, add_form] at this
    exact this
end
end Go.Proofs.Ytbhhcjnjddcocaa
-- Row3: An argument that is an image, opened. No conditions beside the reach.
namespace Go.Proofs.Ytbhhcjnjddcocaa
open Go.ChangeShapes Go.WideShapes Go.ChangeAt Go.RowKit Sl

section
variable {H : Type} {enc : TypeId × Value → H} {W : World} {base : Nat} {v : Value} {d : DataW H} {p : List MemPlace}
/-- An image's five cells, read. -/
theorem opened_image {n : Nat} {vg vr vs vf vp : Value} {yg yr ys yf yp : DataW H × List MemPlace}
    (hg : DataW.trod enc Try.prog W 0 (fun _ => true) true n 3 [vg] = some yg) (hr : DataW.trod enc Try.prog W 0 (fun _ => true) true n 22 [vr] = some yr) (hs : DataW.trod enc Try.prog W 0 (fun _ => true) true n 23 [vs] = some ys)
    (hf : DataW.trod enc Try.prog W 0 (fun _ => true) true n 22 [vf] = some yf) (hp : DataW.trod enc Try.prog W 0 (fun _ => true) true n 24 [vp] = some yp)
    (wr : ∀ z ∈ yr.1.weights Try.prog 22, z ≤ reachBytes) (ws : ∀ z ∈ ys.1.weights Try.prog 23, z ≤ reachBytes) (wf : ∀ z ∈ yf.1.weights Try.prog 22, z ≤ reachBytes) (wp : ∀ z ∈ yp.1.weights Try.prog 24, z ≤ reachBytes) :
    ∃ (u : IV) (m : Img), vg = .int .i64 m.guest ∧ vr = .slice u.rA u.rn u.rc ∧ vs = .slice u.sA u.sn u.sc ∧ vf = .slice u.fA u.fn u.fc ∧ vp = .slice u.pA u.pn u.pc ∧ ImgR W W.heap.size u m := by
  obtain ⟨g, hg', rfl, _⟩ := DataW.trod_int Try.underlying3 hg
  obtain ⟨rA, rn, rc, xr, rfl, r1, r2, r3, _⟩ := opened_ints Try.underlying22 Try.underlying3 (by kernel_rfl) (by kernel_rfl) hr (fun _ => rfl) wr
  obtain ⟨sA, sn, sc, xs, rfl, s1, s2, s3⟩ := opened_slots Try.underlying23 Try.underlying45 Try.underlying3 Try.underlying9 Try.underlying22 Try.underlying3 rfl rfl rfl (by kernel_rfl) (by kernel_rfl) (by kernel_rfl) (by kernel_rfl) (by kernel_rfl) (by kernel_rfl) (by kernel_rfl) hs (fun _ => rfl) ws
  obtain ⟨fA, fn, fc, xf, rfl, f1, f2, f3, _⟩ := opened_ints Try.underlying22 Try.underlying3 (by kernel_rfl) (by kernel_rfl) hf (fun _ => rfl) wf
  obtain ⟨pA, pn, pc, xp, rfl, p1, p2, p3⟩ := opened_snaps Try.underlying24 Try.underlying48 Try.underlying9 Try.underlying3 Try.underlying22 Try.underlying3 rfl rfl rfl (by kernel_rfl) (by kernel_rfl) (by kernel_rfl) (by kernel_rfl) (by kernel_rfl) (by kernel_rfl) (by kernel_rfl) hp (fun _ => rfl) wp
  have hgv : vg = .int .i64 g := by simpa using hg'
  exact ⟨⟨rA, rn, rc, sA, sn, sc, fA, fn, fc, pA, pn, pc⟩, ⟨g, xr, xs, xf, xp⟩, hgv, rfl, rfl, rfl, rfl, ⟨r3, r1, by show rn ≤ _ ∧ rc ≤ _; omega, s3, s1, by show sn ≤ _ ∧ sc ≤ _; omega, f3, f1, by show fn ≤ _ ∧ fc ≤ _; omega, p3, p1, by show pn ≤ _ ∧ pc ≤ _; omega⟩⟩
set_option maxRecDepth 100000 in
theorem op_image (hv : Value.okWide Try.prog W .any base 26 v) (h : DataW.Trod enc Try.prog W 0 (fun _ => true) true 26 v d p) (hw : ∀ n ∈ d.weights Try.prog 26, n ≤ reachBytes) :
    ∃ (u : IV) (m : Img), v = .agg #[.int .i64 m.guest, .slice u.rA u.rn u.rc, .slice u.sA u.sn u.sc, .slice u.fA u.fn u.fc, .slice u.pA u.pn u.pc] ∧ ImgR W W.heap.size u m := by
  obtain ⟨cs, rfl, hsz⟩ := okWide_struct Try.underlying26 hv
  obtain ⟨fuel, hf0⟩ := h
  obtain ⟨ys, n, hn, hy, hlen, hyl, hf⟩ := DataW.trod_struct Try.underlying26 hf0
  have h5 : Try.prog.cellsOf 26 = 5 := by kernel_rfl
  rw [h5] at hsz
  obtain ⟨l⟩ := cs
  match l, hsz with
  | [c0, c1, c2, c3, c4], _ =>
  match ys, hyl with
  | [y0, y1, y2, y3, y4], _ =>
  have g0 := hf 0 _ rfl
  have g1 := hf 1 _ rfl
  have g2 := hf 2 _ rfl
  have g3 := hf 3 _ rfl
  have g4 := hf 4 _ rfl
  have ci : Try.prog.cellsOf 3 = 1 := by kernel_rfl
  have ca : Try.prog.cellsOf 22 = 1 := by kernel_rfl
  have cs' : Try.prog.cellsOf 23 = 1 := by kernel_rfl
  have cp : Try.prog.cellsOf 24 = 1 := by kernel_rfl
  simp only [List.getElem_toArray, List.getElem_cons_zero, List.getElem_cons_succ, ci, ca, cs', cp, Value.cells, List.drop_zero, List.take_succ_cons, List.take_zero, List.drop_succ_cons, List.getElem?_cons_zero, List.getElem?_cons_succ] at g0 g1 g2 g3 g4
  simp only [Prod.mk.injEq] at hy
  rw [hy.1] at hw
  simp only [List.map_cons, List.map_nil, DataW.weights, Try.underlying26] at hw
  obtain ⟨u, m, rfl, rfl, rfl, rfl, rfl, hi⟩ := opened_image g0 g1 g2 g3 g4 (fun z hz => hw z (by simp [DataW.weightsEach, hz])) (fun z hz => hw z (by simp [DataW.weightsEach, hz])) (fun z hz => hw z (by simp [DataW.weightsEach, hz])) (fun z hz => hw z (by simp [DataW.weightsEach, hz]))
  exact ⟨u, m, rfl, hi⟩
end
end Go.Proofs.Ytbhhcjnjddcocaa
