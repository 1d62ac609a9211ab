/- An argument that is an image, opened. No conditions beside the reach. -/
import Derived.Test.YtnjjnioilbnnpaaRow2
import Derived.Test.YtnjjnioilbnnpaaOpen2
namespace Go.Proofs.Ytnjjnioilbnnpaa
open Go.ChangeShapes Go.WideShapes Go.ChangeAt Go.RowKit Sl

section
variable {H : Type} {enc : TypeId × Value → H} {W : World} {base : Nat} {v : Value} {d : DataW H} {p : List MemPlace}
/-- An image's five cells, read. -/
theorem opened_image {n : Nat} {vg vr vs vf vp : Value} {yg yr ys yf yp : DataW H × List MemPlace}
    (hg : DataW.trod enc Try.prog W 0 (fun _ => true) true n 3 [vg] = some yg) (hr : DataW.trod enc Try.prog W 0 (fun _ => true) true n 22 [vr] = some yr) (hs : DataW.trod enc Try.prog W 0 (fun _ => true) true n 23 [vs] = some ys)
    (hf : DataW.trod enc Try.prog W 0 (fun _ => true) true n 22 [vf] = some yf) (hp : DataW.trod enc Try.prog W 0 (fun _ => true) true n 24 [vp] = some yp)
    (wr : ∀ z ∈ yr.1.weights Try.prog 22, z ≤ reachBytes) (ws : ∀ z ∈ ys.1.weights Try.prog 23, z ≤ reachBytes) (wf : ∀ z ∈ yf.1.weights Try.prog 22, z ≤ reachBytes) (wp : ∀ z ∈ yp.1.weights Try.prog 24, z ≤ reachBytes) :
    ∃ (u : IV) (m : Img), vg = .int .i64 m.guest ∧ vr = .slice u.rA u.rn u.rc ∧ vs = .slice u.sA u.sn u.sc ∧ vf = .slice u.fA u.fn u.fc ∧ vp = .slice u.pA u.pn u.pc ∧ ImgR W W.heap.size u m := by
  obtain ⟨g, hg', rfl, _⟩ := DataW.trod_int Try.underlying3 hg
  obtain ⟨rA, rn, rc, xr, rfl, r1, r2, r3, _⟩ := opened_ints Try.underlying22 Try.underlying3 (by kernel_rfl) (by kernel_rfl) hr (fun _ => rfl) wr
  obtain ⟨sA, sn, sc, xs, rfl, s1, s2, s3⟩ := opened_slots Try.underlying23 Try.underlying41 Try.underlying3 Try.underlying9 Try.underlying22 Try.underlying3 rfl rfl rfl (by kernel_rfl) (by kernel_rfl) (by kernel_rfl) (by kernel_rfl) (by kernel_rfl) (by kernel_rfl) (by kernel_rfl) hs (fun _ => rfl) ws
  obtain ⟨fA, fn, fc, xf, rfl, f1, f2, f3, _⟩ := opened_ints Try.underlying22 Try.underlying3 (by kernel_rfl) (by kernel_rfl) hf (fun _ => rfl) wf
  obtain ⟨pA, pn, pc, xp, rfl, p1, p2, p3⟩ := opened_snaps Try.underlying24 Try.underlying64 Try.underlying9 Try.underlying3 Try.underlying22 Try.underlying3 rfl rfl rfl (by kernel_rfl) (by kernel_rfl) (by kernel_rfl) (by kernel_rfl) (by kernel_rfl) (by kernel_rfl) (by kernel_rfl) hp (fun _ => rfl) wp
  have hgv : vg = .int .i64 g := by simpa using hg'
  exact ⟨⟨rA, rn, rc, sA, sn, sc, fA, fn, fc, pA, pn, pc⟩, ⟨g, xr, xs, xf, xp⟩, hgv, rfl, rfl, rfl, rfl, ⟨r3, r1, by show rc ≤ _; omega, s3, s1, by show sc ≤ _; omega, f3, f1, by show fc ≤ _; omega, p3, p1, by show pc ≤ _; omega⟩⟩
set_option maxRecDepth 100000 in
theorem op_image (hv : Value.okWide Try.prog W .any base 26 v) (h : DataW.Trod enc Try.prog W 0 (fun _ => true) true 26 v d p) (hw : ∀ n ∈ d.weights Try.prog 26, n ≤ reachBytes) :
    ∃ (u : IV) (m : Img), v = .agg #[.int .i64 m.guest, .slice u.rA u.rn u.rc, .slice u.sA u.sn u.sc, .slice u.fA u.fn u.fc, .slice u.pA u.pn u.pc] ∧ ImgR W W.heap.size u m := by
  obtain ⟨cs, rfl, hsz⟩ := okWide_struct Try.underlying26 hv
  obtain ⟨fuel, hf0⟩ := h
  obtain ⟨ys, n, hn, hy, hlen, hyl, hf⟩ := DataW.trod_struct Try.underlying26 hf0
  have h5 : Try.prog.cellsOf 26 = 5 := by kernel_rfl
  rw [h5] at hsz
  obtain ⟨l⟩ := cs
  match l, hsz with
  | [c0, c1, c2, c3, c4], _ =>
  match ys, hyl with
  | [y0, y1, y2, y3, y4], _ =>
  have g0 := hf 0 _ rfl
  have g1 := hf 1 _ rfl
  have g2 := hf 2 _ rfl
  have g3 := hf 3 _ rfl
  have g4 := hf 4 _ rfl
  have ci : Try.prog.cellsOf 3 = 1 := by kernel_rfl
  have ca : Try.prog.cellsOf 22 = 1 := by kernel_rfl
  have cs' : Try.prog.cellsOf 23 = 1 := by kernel_rfl
  have cp : Try.prog.cellsOf 24 = 1 := by kernel_rfl
  simp only [List.getElem_toArray, List.getElem_cons_zero, List.getElem_cons_succ, ci, ca, cs', cp, Value.cells, List.drop_zero, List.take_succ_cons, List.take_zero, List.drop_succ_cons, List.getElem?_cons_zero, List.getElem?_cons_succ] at g0 g1 g2 g3 g4
  simp only [Prod.mk.injEq] at hy
  rw [hy.1] at hw
  simp only [List.map_cons, List.map_nil, DataW.weights, Try.underlying26] at hw
  obtain ⟨u, m, rfl, rfl, rfl, rfl, rfl, hi⟩ := opened_image g0 g1 g2 g3 g4 (fun z hz => hw z (by simp [DataW.weightsEach, hz])) (fun z hz => hw z (by simp [DataW.weightsEach, hz])) (fun z hz => hw z (by simp [DataW.weightsEach, hz])) (fun z hz => hw z (by simp [DataW.weightsEach, hz]))
  exact ⟨u, m, rfl, hi⟩
end
end Go.Proofs.Ytnjjnioilbnnpaa
