/- The texts Pair, TreeBegun in one. Conditions: as each says. -/
import Derived.Test.YtbhhcjnjddcocaaCheck
import Derived.Test.YtbhhcjnjddcocaaSame
-- Pair: The laws' image 'pair': what it holds, where it lies. No conditions.
namespace Go.Proofs.Ytbhhcjnjddcocaa
open Go.RowKit Sl

theorem Box.set {W : World} {b : Nat} {g : Int} {v : IV} (h : Box W b g v) (a : Addr) (u : Value) (hn : b ≠ a.block) : Box (W.setCell a u) b g v :=
  ⟨cell_set_far h.1 hn, cell_set_far h.2.1 hn, cell_set_far h.2.2.1 hn, cell_set_far h.2.2.2.1 hn, cell_set_far h.2.2.2.2 hn⟩
def noB : ByteArray := { data := #[] }
def pSlots (t4 : List Int) : List Slot := [⟨0, { data := #[] }, []⟩, ⟨1, { data := #[97, 97, 97, 97] }, []⟩, ⟨2, { data := #[] }, [1, 0, -1, 1]⟩, ⟨1, { data := #[98, 98, 98, 98] }, []⟩, ⟨2, { data := #[] }, t4⟩]
def pImg (g : Int) (root refs t4 : List Int) : Img := ⟨g, root, pSlots t4, refs, [⟨{ data := #[111, 108, 100] }, 4, [2]⟩]⟩
def pV (h : Nat) : IV := ⟨some ⟨h + 1, 0, none⟩, 2, 2, some ⟨h + 1 + 1 + 1 + 1, 0, none⟩, 5, 5, some ⟨h + 1 + 1 + 1 + 1 + 1, 0, none⟩, 5, 5, some ⟨h + 1 + 1 + 1 + 1 + 1 + 1 + 1, 0, none⟩, 1, 1⟩
/-- The blocks of a pair that was made at heap size h. -/
structure PairAt (W : World) (h : Nat) (root refs t4 : List Int) : Prop where
  root : RowB W (h + 1) root
  t2 : RowB W (h + 1 + 1) [1, 0, -1, 1]
  t4 : RowB W (h + 1 + 1 + 1) t4
  slots : W.heap[h + 1 + 1 + 1 + 1]? = some (.cells #[.int .i64 0, .string { data := #[] }, .slice none 0 0, .int .i64 1, .string { data := #[97, 97, 97, 97] }, .slice none 0 0, .int .i64 2, .string { data := #[] }, .slice (some ⟨h + 1 + 1, 0, none⟩) 4 4,
    .int .i64 1, .string { data := #[98, 98, 98, 98] }, .slice none 0 0, .int .i64 2, .string { data := #[] }, .slice (some ⟨h + 1 + 1 + 1, 0, none⟩) 4 4] 45 (0, 0))
  refs : RowB W (h + 1 + 1 + 1 + 1 + 1) refs
  old : RowB W (h + 1 + 1 + 1 + 1 + 1 + 1) [2]
  snaps : W.heap[h + 1 + 1 + 1 + 1 + 1 + 1 + 1]? = some (.cells #[.string { data := #[111, 108, 100] }, .int .i64 4, .slice (some ⟨h + 1 + 1 + 1 + 1 + 1 + 1, 0, none⟩) 1 1] 48 (0, 0))
section
variable {W W' : World} {h M : Nat} {root refs t4 : List Int}
theorem PairAt.keep (p : PairAt W h root refs t4) (hb : Below M W W') (hM : h + 1 + 1 + 1 + 1 + 1 + 1 + 1 < M) : PairAt W' h root refs t4 :=
  ⟨p.root.keep hb (by omega), p.t2.keep hb (by omega), p.t4.keep hb (by omega), (hb.block _ (by omega)).trans p.slots, p.refs.keep hb (by omega), p.old.keep hb (by omega), (hb.block _ hM).trans p.snaps⟩
theorem PairAt.drewN (p : PairAt W h root refs t4) (q : Nat) : PairAt (W.drewN q) h root refs t4 := ⟨p.root, p.t2, p.t4, p.slots, p.refs, p.old, p.snaps⟩
theorem PairAt.lt (p : PairAt W h root refs t4) : h + 1 + 1 + 1 + 1 + 1 + 1 + 1 < W.heap.size := (Array.getElem?_eq_some_iff.1 p.snaps).1
theorem PairAt.setRefs (p : PairAt W h root refs t4) (k : Nat) (y : Int) : PairAt (W.setCell ⟨h + 1 + 1 + 1 + 1 + 1, k, none⟩ (.int .i64 y)) h root (refs.set k y) t4 :=
  ⟨p.root.other _ _ (by dsimp only; omega), p.t2.other _ _ (by dsimp only; omega), p.t4.other _ _ (by dsimp only; omega), (heap_setCell_other _ _ _ _ (by dsimp only; omega)).trans p.slots, p.refs.set k y, p.old.other _ _ (by dsimp only; omega), (heap_setCell_other _ _ _ _ (by dsimp only; omega)).trans p.snaps⟩
theorem PairAt.setT4 (p : PairAt W h root refs t4) (k : Nat) (y : Int) : PairAt (W.setCell ⟨h + 1 + 1 + 1, k, none⟩ (.int .i64 y)) h root refs (t4.set k y) :=
  ⟨p.root.other _ _ (by dsimp only; omega), p.t2.other _ _ (by dsimp only; omega), p.t4.set k y, (heap_setCell_other _ _ _ _ (by dsimp only; omega)).trans p.slots, p.refs.other _ _ (by dsimp only; omega), p.old.other _ _ (by dsimp only; omega), (heap_setCell_other _ _ _ _ (by dsimp only; omega)).trans p.snaps⟩
theorem PairAt.setRoot (p : PairAt W h root refs t4) (k : Nat) (y : Int) : PairAt (W.setCell ⟨h + 1, k, none⟩ (.int .i64 y)) h (root.set k y) refs t4 :=
  ⟨p.root.set k y, p.t2.other _ _ (by dsimp only; omega), p.t4.other _ _ (by dsimp only; omega), (heap_setCell_other _ _ _ _ (by dsimp only; omega)).trans p.slots, p.refs.other _ _ (by dsimp only; omega), p.old.other _ _ (by dsimp only; omega), (heap_setCell_other _ _ _ _ (by dsimp only; omega)).trans p.snaps⟩
theorem PairAt.img (p : PairAt W h root refs t4) (g : Int) (h2 : root.length = 2) (h5 : refs.length = 5) (h4 : t4.length = 4) : ImgR W W.heap.size (pV h) (pImg g root refs t4) := by
  have hl := p.lt
  refine ⟨p.root.rd h2, Nat.le_refl _, (by show 2 ≤ 4611686018427387903 ∧ 2 ≤ 9223372036854775807; decide), ?_, Nat.le_refl _, (by show 5 ≤ 4611686018427387903 ∧ 5 ≤ 9223372036854775807; decide), p.refs.rd h5, Nat.le_refl _, (by show 5 ≤ 4611686018427387903 ∧ 5 ≤ 9223372036854775807; decide), ?_, Nat.le_refl _, (by show 1 ≤ 4611686018427387903 ∧ 1 ≤ 9223372036854775807; decide)⟩
  · refine SlotsR.of_block [⟨⟨0, { data := #[] }, []⟩, none, 0, 0⟩, ⟨⟨1, { data := #[97, 97, 97, 97] }, []⟩, none, 0, 0⟩, ⟨⟨2, { data := #[] }, [1, 0, -1, 1]⟩, some ⟨h + 1 + 1, 0, none⟩, 4, 4⟩, ⟨⟨1, { data := #[98, 98, 98, 98] }, []⟩, none, 0, 0⟩, ⟨⟨2, { data := #[] }, t4⟩, some ⟨h + 1 + 1 + 1, 0, none⟩, 4, 4⟩] _ p.slots (by omega) rfl rfl rfl ?_
    intro x hx
    simp only [List.mem_cons, List.not_mem_nil, or_false] at hx
    rcases hx with rfl | rfl | rfl | rfl | rfl
    · exact ⟨by decide, by decide, by decide, Rd.none_⟩
    · exact ⟨by decide, by decide, by decide, Rd.none_⟩
    · exact ⟨by dsimp only; decide, by dsimp only; decide, by dsimp only; decide, p.t2.rd rfl⟩
    · exact ⟨by decide, by decide, by decide, Rd.none_⟩
    · exact ⟨by dsimp only; decide, by dsimp only; decide, by dsimp only; decide, p.t4.rd h4⟩
  · refine ⟨rfl, fun _ => ⟨h + 1 + 1 + 1 + 1 + 1 + 1 + 1, 0, rfl, hl, fun k s hs => ?_⟩⟩
    cases k with
    | zero =>
      simp only [pImg, List.getElem?_cons_zero, Option.some.injEq] at hs
      subst hs
      have hc := fun j => cell_of_row W (h + 1 + 1 + 1 + 1 + 1 + 1 + 1) j _ _ _ p.snaps
      exact ⟨some ⟨h + 1 + 1 + 1 + 1 + 1 + 1, 0, none⟩, 1, 1, hc 0, hc 1, hc 2, by dsimp only; decide, by decide, by decide, p.old.rd rfl⟩
    | succ k => simp [pImg] at hs
end
theorem allocs8 (w : World) (o0 o1 o2 o3 o4 o5 o6 o7 : Obj) :
    ((((((((w.alloc o0).alloc o1).alloc o2).alloc o3).alloc o4).alloc o5).alloc o6).alloc o7).heap[w.heap.size + 1]? = some o1 ∧
    ((((((((w.alloc o0).alloc o1).alloc o2).alloc o3).alloc o4).alloc o5).alloc o6).alloc o7).heap[w.heap.size + 1 + 1]? = some o2 ∧
    ((((((((w.alloc o0).alloc o1).alloc o2).alloc o3).alloc o4).alloc o5).alloc o6).alloc o7).heap[w.heap.size + 1 + 1 + 1]? = some o3 ∧
    ((((((((w.alloc o0).alloc o1).alloc o2).alloc o3).alloc o4).alloc o5).alloc o6).alloc o7).heap[w.heap.size + 1 + 1 + 1 + 1]? = some o4 ∧
    ((((((((w.alloc o0).alloc o1).alloc o2).alloc o3).alloc o4).alloc o5).alloc o6).alloc o7).heap[w.heap.size + 1 + 1 + 1 + 1 + 1]? = some o5 ∧
    ((((((((w.alloc o0).alloc o1).alloc o2).alloc o3).alloc o4).alloc o5).alloc o6).alloc o7).heap[w.heap.size + 1 + 1 + 1 + 1 + 1 + 1]? = some o6 ∧
    ((((((((w.alloc o0).alloc o1).alloc o2).alloc o3).alloc o4).alloc o5).alloc o6).alloc o7).heap[w.heap.size + 1 + 1 + 1 + 1 + 1 + 1 + 1]? = some o7 := by
  have e : ∀ (W : World) (o : Obj) (k : Nat), k < W.heap.size → (W.alloc o).heap[k]? = W.heap[k]? := fun W o k hk => (below1 W o).block k hk
  have n : ∀ (W : World) (o : Obj) (k : Nat), k = W.heap.size → (W.alloc o).heap[k]? = some o := fun W o k hk => by subst hk; exact heap_alloc_new W o
  refine ⟨?_, ?_, ?_, ?_, ?_, ?_, ?_⟩
  · iterate 6 rw [e _ _ _ (by simp only [World.size_alloc]; omega)]
    exact n _ _ _ (by simp only [World.size_alloc])
  · iterate 5 rw [e _ _ _ (by simp only [World.size_alloc]; omega)]
    exact n _ _ _ (by simp only [World.size_alloc])
  · iterate 4 rw [e _ _ _ (by simp only [World.size_alloc]; omega)]
    exact n _ _ _ (by simp only [World.size_alloc])
  · iterate 3 rw [e _ _ _ (by simp only [World.size_alloc]; omega)]
    exact n _ _ _ (by simp only [World.size_alloc])
  · iterate 2 rw [e _ _ _ (by simp only [World.size_alloc]; omega)]
    exact n _ _ _ (by simp only [World.size_alloc])
  · rw [e _ _ _ (by simp only [World.size_alloc]; omega)]
    exact n _ _ _ (by simp only [World.size_alloc])
  · exact n _ _ _ (by simp only [World.size_alloc])
/-- What pair answers. -/
def PairRes (w : World) (e : Ending) (w' : World) : Prop :=
  e = .returned (.agg #[.int .i64 6, .slice (some ⟨w.heap.size + 1, 0, none⟩) 2 2, .slice (some ⟨w.heap.size + 1 + 1 + 1 + 1, 0, none⟩) 5 5, .slice (some ⟨w.heap.size + 1 + 1 + 1 + 1 + 1, 0, none⟩) 5 5, .slice (some ⟨w.heap.size + 1 + 1 + 1 + 1 + 1 + 1 + 1, 0, none⟩) 1 1]) ∧
  PairAt w' w.heap.size [2, 4] [0, 2, 2, 1, 1] [3, 0, 0, 0] ∧ Below w.heap.size w w'
set_option maxRecDepth 100000 in
set_option maxHeartbeats 1000000 in
theorem pair_any (w : World) : Calls Try.prog 24 #[] w (PairRes w) := by
  go_enter Try.func24, Try.ntmps24
  go_wp2
  refine bodyPost_ret (v := .agg #[.int .i64 6, .slice (some ⟨w.heap.size + 1, 0, none⟩) 2 2, .slice (some ⟨w.heap.size + 1 + 1 + 1 + 1, 0, none⟩) 5 5, .slice (some ⟨w.heap.size + 1 + 1 + 1 + 1 + 1, 0, none⟩) 5 5, .slice (some ⟨w.heap.size + 1 + 1 + 1 + 1 + 1 + 1 + 1, 0, none⟩) 1 1]) (by simp [results, Try.results24, go_sem]) rfl ⟨rfl, ?_, ?_⟩
  · obtain ⟨h1, h2, h3, h4, h5, h6, h7⟩ := allocs8 w _ _ _ _ _ _ _ _
    exact ⟨h1, h2, h3, h4, h5, h6, h7⟩
  · repeat (first | exact Below.refl _ _ | refine Below.alloc ?_ (by simp; try omega) _)
end Go.Proofs.Ytbhhcjnjddcocaa
-- TreeBegun: The constant checks of the tree's laws. No conditions.
namespace Go.Proofs.Ytbhhcjnjddcocaa
open Go.RowKit Sl

theorem p_shape : shapeErr (pImg 6 [2, 4] [0, 2, 2, 1, 1] [3, 0, 0, 0]) = 0 := by decide +kernel
theorem p_cnt : cntV (pImg 6 [2, 4] [0, 2, 2, 1, 1] [3, 0, 0, 0]) = [0, 2, 2, 1, 1] := by decide +kernel
theorem p_check : checkErr (pImg 6 [2, 4] [0, 2, 2, 1, 1] [3, 0, 0, 0]) = 0 := by decide +kernel
theorem p_check9 : checkErr (pImg 6 [2, 4] [0, 1, 2, 1, 1] [3, 0, 0, 0]) = 9 := by decide +kernel
theorem p_shape1 : shapeErr (pImg 5 [2, 4] [0, 2, 2, 1, 1] [3, 3, 0, 0]) = 1 := by decide +kernel
theorem p_look2 : lookN (pImg 6 [2, 4] [0, 2, 2, 1, 1] [3, 0, 0, 0]) 2 = -1 ∧ lookE (pImg 6 [2, 4] [0, 2, 2, 1, 1] [3, 0, 0, 0]) 2 = 0 := by decide +kernel
theorem p_look4 : lookN (pImg 6 [2, 4] [0, 2, 2, 1, 1] [3, 0, 0, 0]) 4 = 3 ∧ lookE (pImg 6 [2, 4] [0, 2, 2, 1, 1] [3, 0, 0, 0]) 4 = 0 := by decide +kernel
section
variable (W : World) (h : Nat)
theorem pc_counts (p : PairAt W h [2, 4] [0, 2, 2, 1, 1] [3, 0, 0, 0]) : Calls Try.prog 23 #[.agg #[.int .i64 6, .slice (some ⟨h + 1, 0, none⟩) 2 2, .slice (some ⟨h + 1 + 1 + 1 + 1, 0, none⟩) 5 5, .slice (some ⟨h + 1 + 1 + 1 + 1 + 1, 0, none⟩) 5 5, .slice (some ⟨h + 1 + 1 + 1 + 1 + 1 + 1 + 1, 0, none⟩) 1 1]] W (IntsRes W.heap.size [0, 2, 2, 1, 1] 0 W) := by
  have := tcounts_any (pV h) _ W (p.img 6 rfl rfl rfl)
  rw [p_shape, p_cnt] at this
  exact this
theorem pc_shape (p : PairAt W h [2, 4] [0, 2, 2, 1, 1] [3, 0, 0, 0]) : Calls Try.prog 30 #[.agg #[.int .i64 6, .slice (some ⟨h + 1, 0, none⟩) 2 2, .slice (some ⟨h + 1 + 1 + 1 + 1, 0, none⟩) 5 5, .slice (some ⟨h + 1 + 1 + 1 + 1 + 1, 0, none⟩) 5 5, .slice (some ⟨h + 1 + 1 + 1 + 1 + 1 + 1 + 1, 0, none⟩) 1 1]] W fun e w' => e = .returned (.int .i64 0) ∧ Below W.heap.size W w' := by
  have := shape_any (pV h) _ W (p.img 6 rfl rfl rfl)
  rw [p_shape] at this
  exact this
theorem pc_check (p : PairAt W h [2, 4] [0, 2, 2, 1, 1] [3, 0, 0, 0]) : Calls Try.prog 12 #[.agg #[.int .i64 6, .slice (some ⟨h + 1, 0, none⟩) 2 2, .slice (some ⟨h + 1 + 1 + 1 + 1, 0, none⟩) 5 5, .slice (some ⟨h + 1 + 1 + 1 + 1 + 1, 0, none⟩) 5 5, .slice (some ⟨h + 1 + 1 + 1 + 1 + 1 + 1 + 1, 0, none⟩) 1 1]] W fun e w' => e = .returned (.int .i64 0) ∧ Below W.heap.size W w' := by
  have := tcheck_any (pV h) _ W (p.img 6 rfl rfl rfl)
  rw [p_check] at this
  exact this
theorem pc_check9 (p : PairAt W h [2, 4] [0, 1, 2, 1, 1] [3, 0, 0, 0]) : Calls Try.prog 12 #[.agg #[.int .i64 6, .slice (some ⟨h + 1, 0, none⟩) 2 2, .slice (some ⟨h + 1 + 1 + 1 + 1, 0, none⟩) 5 5, .slice (some ⟨h + 1 + 1 + 1 + 1 + 1, 0, none⟩) 5 5, .slice (some ⟨h + 1 + 1 + 1 + 1 + 1 + 1 + 1, 0, none⟩) 1 1]] W fun e w' => e = .returned (.int .i64 9) ∧ Below W.heap.size W w' := by
  have := tcheck_any (pV h) _ W (p.img 6 rfl rfl rfl)
  rw [p_check9] at this
  exact this
theorem pc_shape1 (p : PairAt W h [2, 4] [0, 2, 2, 1, 1] [3, 3, 0, 0]) : Calls Try.prog 30 #[.agg #[.int .i64 5, .slice (some ⟨h + 1, 0, none⟩) 2 2, .slice (some ⟨h + 1 + 1 + 1 + 1, 0, none⟩) 5 5, .slice (some ⟨h + 1 + 1 + 1 + 1 + 1, 0, none⟩) 5 5, .slice (some ⟨h + 1 + 1 + 1 + 1 + 1 + 1 + 1, 0, none⟩) 1 1]] W fun e w' => e = .returned (.int .i64 1) ∧ Below W.heap.size W w' := by
  have := shape_any (pV h) _ W (p.img 5 rfl rfl rfl)
  rw [p_shape1] at this
  exact this
end

end Go.Proofs.Ytbhhcjnjddcocaa
