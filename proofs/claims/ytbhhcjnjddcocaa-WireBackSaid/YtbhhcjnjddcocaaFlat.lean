/- flat.Write, flat.Resize, and the reference's. Conditions: the pages are read in blocks below the heap's size. -/
import Derived.Test.YtbhhcjnjddcocaaPages
import Derived.Test.YtbhhcjnjddcocaaMemA
namespace Go.Proofs.Ytbhhcjnjddcocaa
open Go.RowKit Sl

theorem own_some {w : World} {base size n c : Nat} {e : TypeId} {A : Option Addr} {xs : List Value} (h : w.ownsRow base e size (.slice A n c) n xs) (hn : 0 < n) : ∃ g, A = some ⟨g, 0, none⟩ ∧ base ≤ g ∧ g < w.heap.size := by
  rcases h.2 with ⟨hv, rfl⟩ | ⟨g, cap, cur, hv, hb, hh, _⟩
  · omega
  · simp only [Value.slice.injEq] at hv
    obtain ⟨rfl, _, _⟩ := hv
    exact ⟨g, rfl, hb, (Array.getElem?_eq_some_iff.1 hh).1⟩
/-- What a function answers that makes a slice of its own, and an error. -/
def OwnPair (base : Nat) (el : TypeId) (size : Nat) (xs : List Value) (er : Int) (w : World) (e : Ending) (w' : World) : Prop :=
  ∃ A n c, e = .returned (.tuple #[.slice A n c, .int .i64 er]) ∧ w'.ownsRow base el size (.slice A n c) n xs ∧ Below base w w' ∧ n ≤ c ∧ c ≤ maxLen
theorem OwnPair.mk_nil {base : Nat} {el : TypeId} {size : Nat} {xs : List Value} {er er' : Int} {w w' : World} (hx : xs = []) (he : er = er') (hb : Below base w w') : OwnPair base el size xs er w (.returned (.tuple #[.slice none 0 0, .int .i64 er'])) w' := by
  subst hx; subst he
  exact ⟨none, 0, 0, rfl, World.ownsRow_nil _ _ _ _, hb, Nat.le_refl _, by simp⟩

theorem flatWrite_no {l : List ByteArray} {n : Int} {p : ByteArray} (h : flatReadE l n ≠ 0) : flatWriteE l n p = flatReadE l n ∧ flatWriteV l n p = [] := by
  have : flatWriteE l n p = flatReadE l n := by unfold flatWriteE; rw [if_neg h]
  exact ⟨this, by unfold flatWriteV; rw [this, if_neg h]⟩
theorem flatWrite_form {l : List ByteArray} {n : Int} {p : ByteArray} (h : flatReadE l n = 0) (hp : p.size ≠ 4) : flatWriteE l n p = 1 ∧ flatWriteV l n p = [] := by
  have : flatWriteE l n p = 1 := by unfold flatWriteE; rw [if_pos h, if_neg hp]
  exact ⟨this, by unfold flatWriteV; rw [this, if_neg (by decide)]⟩
theorem flatWrite_ok {l : List ByteArray} {n : Int} {p : ByteArray} (h : flatReadE l n = 0) (hp : p.size = 4) : flatWriteE l n p = 0 ∧ flatWriteV l n p = l.set n.toNat p := by
  have : flatWriteE l n p = 0 := by unfold flatWriteE; rw [if_pos h, if_pos hp]
  exact ⟨this, by unfold flatWriteV; rw [this, if_pos rfl]⟩
theorem flatRead_is {l : List ByteArray} {n : Int} (h : flatReadE l n = 0) : pagesErr l = 0 ∧ 0 ≤ n ∧ n < l.length := by
  unfold flatReadE at h
  split at h
  · split at h
    · rename_i h1 h2; exact ⟨h1, h2.1, h2.2⟩
    · omega
  · rename_i h1; exact absurd h h1

end Go.Proofs.Ytbhhcjnjddcocaa
