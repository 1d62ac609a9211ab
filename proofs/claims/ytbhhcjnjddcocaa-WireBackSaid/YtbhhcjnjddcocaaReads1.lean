/- The texts Reads1, Reads2, Reads3, Reads4 in one. Conditions: as each says. -/
import Derived.Test.YtbhhcjnjddcocaaCheck
import Derived.Test.YtbhhcjnjddcocaaPureA
import Derived.Test.YtbhhcjnjddcocaaPages
import Derived.Test.YtbhhcjnjddcocaaMemA
import Derived.StillTailTactics
import Derived.Test.YtbhhcjnjddcocaaFlat
import Derived.Test.YtbhhcjnjddcocaaTreeBegun
-- Reads1: reads.page, reads.all, and the reference's pageOf, ReadOf, AllOf. Conditions: the image is read below the heap's size; entries are pages of it.
namespace Go.Proofs.Ytbhhcjnjddcocaa
open Go.RowKit Sl

theorem ret_str {a b : ByteArray} (h : b = a) : Ending.returned (.string a) = .returned (.string b) := by rw [h]

end Go.Proofs.Ytbhhcjnjddcocaa
-- Reads2: The reference's ReadOf, AllOf, snapAt, PastOf; reads.Read, All, Past. Conditions: the image is read below the heap's size.
namespace Go.Proofs.Ytbhhcjnjddcocaa
open Go.RowKit Sl

/-- The image's five cells, as an argument. -/
abbrev imgV (m : Img) (v : IV) : Value := .agg #[.int .i64 m.guest, .slice v.rA v.rn v.rc, .slice v.sA v.sn v.sc, .slice v.fA v.fn v.fc, .slice v.pA v.pn v.pc]

end Go.Proofs.Ytbhhcjnjddcocaa
-- Reads3: reads.Read, All, Past; the reference's PastOf. Conditions: the image is read below the heap's size.
namespace Go.Proofs.Ytbhhcjnjddcocaa
open Go.RowKit Sl

theorem read_no {m : Img} {x : Int} (h : lookE m x ≠ 0) : readV m x = noP := by unfold readV; rw [if_neg h]
theorem read_ok {m : Img} {n : Nat} (h : lookE m (n : Nat) = 0) : readV m (n : Nat) = pageV m.slots (entryOf m.slots m.root n) := by unfold readV; rw [if_pos h, Int.toNat_natCast]
theorem allM_no {m : Img} (h : checkErr m ≠ 0) : allM m = [] := by unfold allM; rw [if_neg h]
theorem allM_ok {m : Img} (h : checkErr m = 0) : allM m = allV m.slots m.root m.guest.toNat := by unfold allM; rw [if_pos h]
theorem OwnRes.pair {base : Nat} {el : TypeId} {size n : Nat} {xs : List Value} {w w' : World} {A : Option Addr} {c : Nat} (ho : w'.ownsRow base el size (.slice A n c) n xs) (hb : Below base w w') (h1 : n ≤ c) (h2 : c ≤ maxLen) {xs' : List Value} {er er' : Int} (hx : xs = xs') (he : er = er') :
    OwnPair base el size xs' er w (.returned (.tuple #[.slice A n c, .int .i64 er'])) w' := by
  subst hx; subst he; exact ⟨A, n, c, rfl, ho, hb, h1, h2⟩
theorem own_base {w : World} {base base' size n : Nat} {e : TypeId} {v : Value} {xs : List Value} (h : w.ownsRow base e size v n xs) (hb : base' ≤ base) : w.ownsRow base' e size v n xs :=
  ⟨h.1, h.2.imp id fun ⟨g, cap, cur, h1, h2, h3⟩ => ⟨g, cap, cur, h1, by omega, h3⟩⟩

end Go.Proofs.Ytbhhcjnjddcocaa
-- Reads4: The reference's PastOf; the laws' readsBegun. Conditions: the image is read below the heap's size.
namespace Go.Proofs.Ytbhhcjnjddcocaa
open Go.RowKit Sl

section
variable {wa W W' : World} {k b o o' : Nat} {a b' c d f u : Value}
theorem img_keep7 (hlt : k < wa.heap.size) (hb' : b < wa.heap.size) (hb : Below wa.heap.size W W')
    (h : W.cell? ⟨k, 0, none⟩ = some a ∧ W.cell? ⟨k, 1, none⟩ = some b' ∧ W.cell? ⟨k, 2, none⟩ = some c ∧ W.cell? ⟨k, 3, none⟩ = some d ∧ W.cell? ⟨k, 4, none⟩ = some f ∧ W.cell? ⟨b, o, none⟩ = some u ∧ Below wa.heap.size wa W) :
    W'.cell? ⟨k, 0, none⟩ = some a ∧ W'.cell? ⟨k, 1, none⟩ = some b' ∧ W'.cell? ⟨k, 2, none⟩ = some c ∧ W'.cell? ⟨k, 3, none⟩ = some d ∧ W'.cell? ⟨k, 4, none⟩ = some f ∧ W'.cell? ⟨b, o, none⟩ = some u ∧ Below wa.heap.size wa W' := by
  obtain ⟨h0, h1, h2, h3, h4, h5, h6⟩ := h
  exact ⟨(hb.cell (by simp; omega)).trans h0, (hb.cell (by simp; omega)).trans h1, (hb.cell (by simp; omega)).trans h2, (hb.cell (by simp; omega)).trans h3, (hb.cell (by simp; omega)).trans h4, (hb.cell (by simp; omega)).trans h5, h6.trans hb⟩
theorem img_keep7N (hlt : k < wa.heap.size) (hb' : b < wa.heap.size) (hb : Below W.heap.size W W')
    (h : W.cell? ⟨k, 0, none⟩ = some a ∧ W.cell? ⟨k, 1, none⟩ = some b' ∧ W.cell? ⟨k, 2, none⟩ = some c ∧ W.cell? ⟨k, 3, none⟩ = some d ∧ W.cell? ⟨k, 4, none⟩ = some f ∧ W.cell? ⟨b, o, none⟩ = some u ∧ Below wa.heap.size wa W) :
    W'.cell? ⟨k, 0, none⟩ = some a ∧ W'.cell? ⟨k, 1, none⟩ = some b' ∧ W'.cell? ⟨k, 2, none⟩ = some c ∧ W'.cell? ⟨k, 3, none⟩ = some d ∧ W'.cell? ⟨k, 4, none⟩ = some f ∧ W'.cell? ⟨b, o, none⟩ = some u ∧ Below wa.heap.size wa W' :=
  img_keep7 hlt hb' (hb.mono h.2.2.2.2.2.2.size) h
theorem img_keep7A (hlt : k < wa.heap.size) (hb' : b < wa.heap.size) (ob : Obj)
    (h : W.cell? ⟨k, 0, none⟩ = some a ∧ W.cell? ⟨k, 1, none⟩ = some b' ∧ W.cell? ⟨k, 2, none⟩ = some c ∧ W.cell? ⟨k, 3, none⟩ = some d ∧ W.cell? ⟨k, 4, none⟩ = some f ∧ W.cell? ⟨b, o, none⟩ = some u ∧ Below wa.heap.size wa W) :
    (W.alloc ob).cell? ⟨k, 0, none⟩ = some a ∧ (W.alloc ob).cell? ⟨k, 1, none⟩ = some b' ∧ (W.alloc ob).cell? ⟨k, 2, none⟩ = some c ∧ (W.alloc ob).cell? ⟨k, 3, none⟩ = some d ∧ (W.alloc ob).cell? ⟨k, 4, none⟩ = some f ∧ (W.alloc ob).cell? ⟨b, o, none⟩ = some u ∧ Below wa.heap.size wa (W.alloc ob) :=
  img_keep7N hlt hb' (below1 W ob) h
end

end Go.Proofs.Ytbhhcjnjddcocaa
