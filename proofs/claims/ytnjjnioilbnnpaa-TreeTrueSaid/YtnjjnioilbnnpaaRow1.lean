/- A row of numbers of the call's own, known whole. No conditions. -/
import Derived.Test.YtnjjnioilbnnpaaShape0
import Derived.Test.YtnjjnioilbnnpaaClone
import Derived.Test.YtnjjnioilbnnpaaCopy
import Derived.Test.YtnjjnioilbnnpaaPureC
import Derived.Laws.MakeOwn
namespace Go.Proofs.Ytnjjnioilbnnpaa
open Go.RowKit Sl

/-- The block b is the row xs. -/
def RowB (W : World) (b : Nat) (xs : List Int) : Prop := W.heap[b]? = some (.cells (ints xs).toArray 3 (0, 0))
section
variable {W W' : World} {b k M n base : Nat} {xs : List Int} {x : Int}
theorem RowB.lt (h : RowB W b xs) : b < W.heap.size := (Array.getElem?_eq_some_iff.1 h).1
theorem RowB.cell (h : RowB W b xs) (hx : xs[k]? = some x) : W.cell? ⟨b, k, none⟩ = some (.int .i64 x) := by
  rw [cell_of_row _ _ _ _ _ _ h, List.getElem?_toArray]; unfold ints; rw [List.getElem?_map, hx]; rfl
theorem RowB.frozen (h : RowB W b xs) (k : Nat) : W.frozen? ⟨b, k, none⟩ = false := frozen_of_row _ _ k _ _ h
theorem RowB.set (h : RowB W b xs) (k : Nat) (y : Int) : RowB (W.setCell ⟨b, k, none⟩ (.int .i64 y)) b (xs.set k y) := by
  have := heap_setCell_same W b k _ _ (.int .i64 y) h
  unfold RowB
  rw [this]
  congr 2
  rw [← Array.toList_inj]
  simp [ints, List.map_set]
theorem RowB.other (h : RowB W b xs) (a : Addr) (v : Value) (hn : b ≠ a.block) : RowB (W.setCell a v) b xs := (heap_setCell_other W a b v hn).trans h
theorem RowB.keep (h : RowB W b xs) (hb : Below M W W') (hM : b < M) : RowB W' b xs := (hb.block b hM).trans h
theorem RowB.drewN (h : RowB W b xs) (q : Nat) : RowB (W.drewN q) b xs := h
theorem RowB.own (h : RowB W b xs) (hb : base ≤ b) (hn : xs.length = n) (hm : n ≤ maxLen) : W.ownsRow base 3 1 (.slice (some ⟨b, 0, none⟩) n n) n (ints xs) := own_of_block h hb (by simp [ints, hn]) hm
theorem RowB.rd (h : RowB W b xs) (hn : xs.length = n) : Rd W W.heap.size 1 (some ⟨b, 0, none⟩) n (ints xs) := Rd.of_block h h.lt (by simp) (by simp [ints, hn])
end
theorem RowB.new (W : World) (xs : List Int) : RowB (W.alloc (.cells (ints xs).toArray 3)) W.heap.size xs := heap_alloc_new W _
theorem made_zeros (n : Nat) : madeCells #[Value.int .i64 0] n = (ints (List.replicate n 0)).toArray := by
  rw [← Array.toList_inj]
  apply List.ext_getElem?
  intro j
  unfold madeCells ints
  rw [Array.getElem?_toList, Array.getElem?_map, List.map_replicate]
  by_cases hj : j < n
  · simp [hj, Nat.mod_one]
  · simp [hj]
theorem make_ints (n : Nat) (hn : n ≤ 1000000) (W : World) : (Instr.makeSlice 22 (.int .i64 (n : Nat)) (.int .i64 (n : Nat))).run Try.prog W = .ok (.slice (some ⟨W.heap.size, 0, none⟩) n n) (W.alloc (.cells (ints (List.replicate n 0)).toArray 3)) := by
  obtain ⟨i0, hi0, hz0, hz1, hz2⟩ := info_parts Try.infoInt
  have h := run_makeSlice (P := Try.prog) (w := W) 22 3 i0 (.int .i64 0) Try.underlying22 hi0 hz0 .i64 .i64 n n (by omega) (Int.le_refl _) (by rw [hz1]; simp; omega) (by rw [hz2]; omega) (by omega)
  rw [h, hz1]
  have e : (Value.int .i64 0).cells = #[.int .i64 0] := rfl
  rw [e, Nat.mul_one, Int.toNat_natCast, made_zeros]
end Go.Proofs.Ytnjjnioilbnnpaa
