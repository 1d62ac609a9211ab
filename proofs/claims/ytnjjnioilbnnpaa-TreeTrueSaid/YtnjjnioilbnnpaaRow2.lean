/- Arguments opened, by their types. No conditions beside the reach. -/
import Derived.Test.YtnjjnioilbnnpaaRow
import Derived.Test.YtnjjnioilbnnpaaStrs
import Derived.Lib.SmallJoins
namespace Go.Proofs.Ytnjjnioilbnnpaa
open Go.ChangeShapes Go.WideShapes Go.ChangeAt Go.RowKit Sl

section
variable {H : Type} {enc : TypeId × Value → H} {W : World} {base : Nat} {v : Value} {d : DataW H} {p : List MemPlace}
set_option maxRecDepth 100000 in
theorem op_int (hv : Value.okWide Try.prog W .any base 3 v) (h : DataW.Trod enc Try.prog W 0 (fun _ => true) true 3 v d p) (_ : ∀ n ∈ d.weights Try.prog 3, n ≤ reachBytes) : ∃ x, v = .int .i64 x ∧ I64 x := by
  obtain ⟨x, rfl, _, _, hw⟩ := open_int Try.underlying3 hv h
  exact ⟨x, rfl, i64_of_wf hw⟩
set_option maxRecDepth 100000 in
theorem op_string (hv : Value.okWide Try.prog W .any base 9 v) (h : DataW.Trod enc Try.prog W 0 (fun _ => true) true 9 v d p) (hw : ∀ n ∈ d.weights Try.prog 9, n ≤ reachBytes) : ∃ s, v = .string s ∧ s.size ≤ 140737488351232 := by
  obtain ⟨s, rfl, rfl, _, _⟩ := ChangeMaps.open_string Try.underlying9 hv h
  exact ⟨s, rfl, hw s.size (by simp [DataW.weights])⟩
set_option maxRecDepth 100000 in
theorem op_ints (hv : Value.okWide Try.prog W .any base 22 v) (h : DataW.Trod enc Try.prog W 0 (fun _ => true) true 22 v d p) (hw : ∀ n ∈ d.weights Try.prog 22, n ≤ reachBytes) :
    ∃ A n c xs, v = .slice A n c ∧ n ≤ c ∧ c ≤ 17592186044416 ∧ Rd W W.heap.size 1 A n (ints xs) ∧ (∀ z ∈ xs, I64 z) := opened_ints_at (okWide_slice Try.underlying22 hv) h hw
set_option maxRecDepth 100000 in
theorem op_slots (hv : Value.okWide Try.prog W .any base 23 v) (h : DataW.Trod enc Try.prog W 0 (fun _ => true) true 23 v d p) (hw : ∀ n ∈ d.weights Try.prog 23, n ≤ reachBytes) :
    ∃ A n c l, v = .slice A n c ∧ n ≤ c ∧ c ≤ 17592186044416 ∧ SlotsR W W.heap.size A n l := opened_slots_at (okWide_slice Try.underlying23 hv) h hw
set_option maxRecDepth 100000 in
theorem op_slot (hv : Value.okWide Try.prog W .any base 41 v) (h : DataW.Trod enc Try.prog W 0 (fun _ => true) true 41 v d p) (hw : ∀ n ∈ d.weights Try.prog 41, n ≤ reachBytes) :
    ∃ s A n c, v = .agg #[.int .i64 s.kind, .string s.data, .slice A n c] ∧ SlotV W W.heap.size s A n c := by
  obtain ⟨v0, v1, v2, y0, y1, y2, m, rfl, rfl, rfl, h0, h1, h2⟩ := Joins.open_agg3 Try.underlying41 (by kernel_rfl) (by kernel_rfl) hv h
  obtain ⟨k, hk, rfl, _⟩ := DataW.trod_int Try.underlying3 h0
  obtain ⟨s, hs, rfl, _⟩ := DataW.trod_string Try.underlying9 h1
  simp only [DataW.weights, Try.underlying41] at hw
  obtain ⟨A, n, c, xs, hv2, hn, hc, hr, _⟩ := opened_ints Try.underlying22 Try.underlying3 (by kernel_rfl) (by kernel_rfl) h2 (fun _ => rfl) (fun z hz => hw z (by simp [DataW.weightsEach, hz]))
  have hsz := hw s.size (by simp [DataW.weightsEach, DataW.weights])
  simp only [List.cons.injEq, and_true] at hk hs
  subst hk hs hv2
  exact ⟨⟨k, s, xs⟩, A, n, c, rfl, ⟨by simp only [reachBytes] at hsz; show s.size ≤ _; omega, hn, by omega, hr⟩⟩
set_option maxRecDepth 100000 in
theorem op_strs (hv : Value.okWide Try.prog W .any base 53 v) (h : DataW.Trod enc Try.prog W 0 (fun _ => true) true 53 v d p) (hw : ∀ n ∈ d.weights Try.prog 53, n ≤ reachBytes) :
    ∃ A n c l, v = .slice A n c ∧ n ≤ c ∧ c ≤ 17592186044416 ∧ StrsR W W.heap.size A n l := by
  obtain ⟨a, n, c, rfl⟩ := okWide_slice Try.underlying53 hv
  obtain ⟨fuel, hf⟩ := h
  rcases open_strings Try.underlying53 Try.underlying9 (by kernel_rfl) hf with ⟨hcs, hx⟩ | ⟨a, len, cap, ss, hcs, _, hl, hm, hz, hx, hcell, hws⟩
  · simp only [Value.cells, List.cons.injEq, and_true] at hcs
    exact ⟨none, 0, 0, [], hcs, Nat.le_refl _, by omega, Rd.none_, fun s hs => by cases hs⟩
  · simp only [Value.cells, List.cons.injEq, and_true] at hcs
    simp only [if_true] at hz
    simp only [Prod.mk.injEq] at hx
    obtain ⟨rfl, _⟩ := hx
    have hreach : cap * 16 ≤ reachBytes := by
      refine hw _ ?_
      simp only [DataW.weights, Try.underlying53, show Try.prog.bytesOf 9 = 16 from by kernel_rfl]
      simp [strs, hz, show min len cap + (cap - len) = cap from by omega]
    have hbig : ∀ s ∈ ss.take len, s.size ≤ 140737488351232 := by
      intro s hs
      refine hw _ ?_
      simp only [DataW.weights, Try.underlying53, List.mem_cons, List.mem_append]
      refine Or.inr (Or.inl ?_)
      unfold strs
      clear hw hcell hws
      generalize ss.take len = L at hs
      induction L with
      | nil => cases hs
      | cons a L ih =>
        simp only [List.map_cons, DataW.weightsAll, List.mem_append]
        rcases List.mem_cons.1 hs with rfl | h'
        · left; simp [DataW.weights]
        · exact Or.inr (ih h')
    refine ⟨some a, len, cap, ss.take len, hcs, hl, by simp only [reachBytes] at hreach; omega, ⟨by simp [hz]; omega, fun hn => ?_⟩, hbig⟩
    have h0 := hcell 0 (by omega)
    obtain ⟨hlt, hspot⟩ := cell_lt h0
    rw [block_add] at hlt
    have hspot' : a.spot = none := by simpa [Addr.add] using hspot
    have ha := addr_form hspot'
    refine ⟨a.block, a.off, by rw [← ha], hlt, fun j u hu => ?_⟩
    rw [List.getElem?_map, List.getElem?_take] at hu
    split at hu
    · rename_i hj
      have hjl : j < ss.length := by omega
      have := hcell j hjl
      rw [ha, add_form] at this
      rw [this]
      rw [List.getElem?_eq_getElem hjl] at hu
      simp only [Option.map_some, Option.some.injEq] at hu
      rw [← hu, List.getD_eq_getElem?_getD, List.getElem?_eq_getElem hjl]
      rfl
    · simp at hu
end
end Go.Proofs.Ytnjjnioilbnnpaa
