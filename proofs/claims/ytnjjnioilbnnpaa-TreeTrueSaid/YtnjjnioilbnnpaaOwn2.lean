/- Append of one element; slices cut from their beginning. Conditions: the bound on bytes that the model asks. -/
import Derived.Test.YtnjjnioilbnnpaaOwn
namespace Go.Proofs.Ytnjjnioilbnnpaa
open Go.RowKit Sl

theorem own_below {w w' : World} {base size n : Nat} {e : TypeId} {v : Value} {xs : List Value} (h : w.ownsRow base e size v n xs) (hb : Below w.heap.size w w') : w'.ownsRow base e size v n xs := by
  obtain ⟨h1, h2⟩ := h
  refine ⟨h1, ?_⟩
  rcases h2 with h2 | ⟨g, cap, cur, hv, hg, hh, r⟩
  · exact Or.inl h2
  · exact Or.inr ⟨g, cap, cur, hv, hg, by rw [hb.block g (Array.getElem?_eq_some_iff.1 hh).1]; exact hh, r⟩
section
variable {P : Program}
/-- append(v, x) of one element of whatever size. -/
theorem app_one (w : World) (base : Nat) (t ty e : TypeId) (i : TypeInfo) (z : Value) (size bytes : Nat) (ht : P.underlying t = some (.slice e)) (hi : P.info? e = some i) (hz : i.zero = some z)
    (hsize : i.size = size) (hby : i.bytes = bytes) (hzs : z.cells.size = size) (hsz : 0 < size) (v : Value) (n : Nat) (xs : List Value) (hown : w.ownsRow base e size v n xs)
    (el : Array Value) (hel : el.size = size) (h1 : ∀ u ∈ el.toList, u.oneCell' = true) (hb : (n + 1) * bytes ≤ 140737488355328) (h63 : n + 1 ≤ maxLen) (hbase : base ≤ w.heap.size) :
    ∃ A' c' w', (Builtin.append_ #[t, t] ty #[v, .slice (some ⟨w.heap.size, 0, none⟩) 1 1]).run P (w.alloc (.cells el e)) = .ok (.slice A' (n + 1) c') w' ∧ w'.ownsRow base e size (.slice A' (n + 1) c') (n + 1) (xs ++ el.toList) ∧ Below base w w' ∧
      n + 1 ≤ c' ∧ c' ≤ maxLen ∧ (w.alloc (.cells el e)).grownBy w' v.ownBlock ∧ ((Value.slice A' (n + 1) c').ownBlock = v.ownBlock ∨ (Value.slice A' (n + 1) c').ownBlock = some (w.heap.size + 1)) := by
  have hr : Rd (w.alloc (.cells el e)) (w.heap.size + 1) size (some ⟨w.heap.size, 0, none⟩) 1 el.toList := Rd.of_block (heap_alloc_new w _) (by omega) rfl (by simpa using hel)
  obtain ⟨A', c', w', g1, g2, g3, g4, g5, g6, g7⟩ := run_app (P := P) (w.alloc (.cells el e)) base t ty e i z size bytes ht hi hz hsize hby hzs hsz v n xs (hown.alloc _) _ _ 1 1 _ hr h1 hb h63 (by simp; omega)
  exact ⟨A', c', w', g1, g2, ((Below.refl _ _).alloc hbase _).trans g3, g4, g5, g6, by simpa using g7⟩
/-- 's[:k]' -/
theorem run_upto (T E : TypeId) (size : Nat) (hT : P.underlying T = some (.slice E)) (hs : ∀ W : World, (sizeOf E).run P W = .ok size W) (A : Option Addr) (n c k : Nat) (hk : k ≤ c) (W : World) :
    (Instr.slice T (.slice A n c) none (some (.int .i64 (k : Int))) none).run P W = .ok (.slice A k c) W := by
  have hE : P.elem T = E := by simp [Program.elem, hT]
  rw [run_slice_h (P := P) (w := W) T A n c (by rw [hE]; exact hT) .i64 k (by omega) (by omega), hE, hs]
  simp only [sliced, Result.andThen, Int.toNat_natCast, Nat.zero_mul, Nat.sub_zero]
  have : (if c = 0 then A else A.map (·.add 0)) = A := by
    split
    · rfl
    · cases A <;> simp [Addr.add]
  rw [this]
end
end Go.Proofs.Ytnjjnioilbnnpaa
