/- tree.Own. Conditions: the image is read below the heap's size, its sizes are bounded. -/
import Derived.Test.YtbhhcjnjddcocaaOwnP
import Derived.Deep.DeepCutAuto
namespace Go.Proofs.Ytbhhcjnjddcocaa
open Go.RowKit Sl

theorem img_keepS {wa W : World} {k b' j : Nat} {a b c d f u : Value} (hlt : k < wa.heap.size) (ho : wa.heap.size ≤ b')
    (h : W.cell? ⟨k, 0, none⟩ = some a ∧ W.cell? ⟨k, 1, none⟩ = some b ∧ W.cell? ⟨k, 2, none⟩ = some c ∧ W.cell? ⟨k, 3, none⟩ = some d ∧ W.cell? ⟨k, 4, none⟩ = some f ∧ Below wa.heap.size wa W) :
    (W.setCell ⟨b', j, none⟩ u).cell? ⟨k, 0, none⟩ = some a ∧ (W.setCell ⟨b', j, none⟩ u).cell? ⟨k, 1, none⟩ = some b ∧ (W.setCell ⟨b', j, none⟩ u).cell? ⟨k, 2, none⟩ = some c ∧ (W.setCell ⟨b', j, none⟩ u).cell? ⟨k, 3, none⟩ = some d ∧ (W.setCell ⟨b', j, none⟩ u).cell? ⟨k, 4, none⟩ = some f ∧ Below wa.heap.size wa (W.setCell ⟨b', j, none⟩ u) :=
  img_keepB hlt ((Below.refl _ _).setCell (p := ⟨b', j, none⟩) ho u) h
/-- The block b is an image's box that holds nothing yet. -/
structure ZB (W : World) (b : Nat) : Prop where
  heap : W.heap[b]? = some (.cells #[.int .i64 0, .slice none 0 0, .slice none 0 0, .slice none 0 0, .slice none 0 0] 26 (0, 0))
theorem ZB.new (W : World) : ZB (W.alloc (.cells #[.int .i64 0, .slice none 0 0, .slice none 0 0, .slice none 0 0, .slice none 0 0] 26)) W.heap.size := ⟨heap_alloc_new W _⟩
theorem ZB.newD (W : World) : ZB (W.alloc (.cells #[.int .i64 0, .slice none 0 0, .slice none 0 0, .slice none 0 0, .slice none 0 0] 26)).drew W.heap.size := ⟨heap_alloc_new W _⟩
def mkZ (W : World) : World := W.alloc (.cells #[.int .i64 0, .slice none 0 0, .slice none 0 0, .slice none 0 0, .slice none 0 0] 26)
def mkD (W : World) : World := (W.alloc (.cells #[.int .i64 0, .slice none 0 0, .slice none 0 0, .slice none 0 0, .slice none 0 0] 26)).drew
theorem mkZ_is (W : World) : W.alloc (.cells #[.int .i64 0, .slice none 0 0, .slice none 0 0, .slice none 0 0, .slice none 0 0] 26) = mkZ W := rfl
theorem mkD_is (W : World) : (W.alloc (.cells #[.int .i64 0, .slice none 0 0, .slice none 0 0, .slice none 0 0, .slice none 0 0] 26)).drew = mkD W := rfl
theorem mkZ_ZB (W : World) : ZB (mkZ W) W.heap.size := ZB.new W
theorem mkD_ZB (W : World) : ZB (mkD W) W.heap.size := ZB.newD W
theorem ZB.next {W W' : World} {b : Nat} (h : ZB W b) (hb : Below W.heap.size W W') : ZB W' b := ⟨(hb.block b (Array.getElem?_eq_some_iff.1 h.heap).1).trans h.heap⟩
theorem ZB.cells {W : World} {b : Nat} (h : ZB W b) : W.cell? ⟨b, 0, none⟩ = some (.int .i64 0) ∧ W.cell? ⟨b, 1, none⟩ = some (.slice none 0 0) ∧ W.cell? ⟨b, 2, none⟩ = some (.slice none 0 0) ∧ W.cell? ⟨b, 3, none⟩ = some (.slice none 0 0) ∧ W.cell? ⟨b, 4, none⟩ = some (.slice none 0 0) := by
  have := fun j => cell_of_row W b j _ _ _ h.heap
  exact ⟨this 0, this 1, this 2, this 3, this 4⟩
theorem ZB.froz {W : World} {b : Nat} (h : ZB W b) : W.frozen? ⟨b, 0, none⟩ = false ∧ W.frozen? ⟨b, 1, none⟩ = false ∧ W.frozen? ⟨b, 2, none⟩ = false ∧ W.frozen? ⟨b, 3, none⟩ = false ∧ W.frozen? ⟨b, 4, none⟩ = false := by
  have := fun j => frozen_of_row W b j _ _ h.heap
  exact ⟨this 0, this 1, this 2, this 3, this 4⟩
/-- An image's five cells laid down in a box. -/
theorem five {W : World} {b : Nat} (h : BoxB W b) (hc : ∃ g v, Box W b g v) (g : Int) (v : IV) :
    Box (((((W.setCell ⟨b, 0, none⟩ (.int .i64 g)).setCell ⟨b, 1, none⟩ (.slice v.rA v.rn v.rc)).setCell ⟨b, 2, none⟩ (.slice v.sA v.sn v.sc)).setCell ⟨b, 3, none⟩ (.slice v.fA v.fn v.fc)).setCell ⟨b, 4, none⟩ (.slice v.pA v.pn v.pc)) b g v ∧
    BoxB (((((W.setCell ⟨b, 0, none⟩ (.int .i64 g)).setCell ⟨b, 1, none⟩ (.slice v.rA v.rn v.rc)).setCell ⟨b, 2, none⟩ (.slice v.sA v.sn v.sc)).setCell ⟨b, 3, none⟩ (.slice v.fA v.fn v.fc)).setCell ⟨b, 4, none⟩ (.slice v.pA v.pn v.pc)) b ∧
    W.grownBy (((((W.setCell ⟨b, 0, none⟩ (.int .i64 g)).setCell ⟨b, 1, none⟩ (.slice v.rA v.rn v.rc)).setCell ⟨b, 2, none⟩ (.slice v.sA v.sn v.sc)).setCell ⟨b, 3, none⟩ (.slice v.fA v.fn v.fc)).setCell ⟨b, 4, none⟩ (.slice v.pA v.pn v.pc)) (some b) := by
  obtain ⟨g', v', c0, c1, c2, c3, c4⟩ := hc
  refine ⟨⟨?_, ?_, ?_, ?_, ?_⟩, ((((h.set _ _).set _ _).set _ _).set _ _).set _ _, ((((grown_set W b 0 _).trans (grown_set _ b 1 _)).trans (grown_set _ b 2 _)).trans (grown_set _ b 3 _)).trans (grown_set _ b 4 _)⟩ <;> go_simp
theorem ZB.box {W : World} {b : Nat} (h : ZB W b) : BoxB W b ∧ ∃ g v, Box W b g v := ⟨⟨_, h.heap⟩, 0, ⟨none, 0, 0, none, 0, 0, none, 0, 0, none, 0, 0⟩, h.cells⟩
/-- What Own answers. -/
def OwnOut (w : World) (m : Img) (e : Ending) (w' : World) : Prop := ∃ v' tg q p, e = .returned (imgV m v') ∧ OwnI w' w.heap.size tg v' q p m ∧ Below w.heap.size w w'
/-- What Own has gathered when its first statement is done. -/
def OwnR (w : World) (m : Img) (q0 : List SV) (p0 : List PV) (sn pn : Nat) (s3 : Value) (wx : World) : Prop :=
  ∃ (bo : Nat) (v' : IV) (tg : Nat → Nat), s3 = .pointer (some ⟨bo, 0, none⟩) ∧ PartI w wx w.heap.size tg v' q0 p0 m 0 0 ∧ v'.sn = sn ∧ v'.pn = pn ∧ Box wx bo m.guest v' ∧ BoxB wx bo ∧ w.heap.size + 1 < bo ∧ ZB wx (w.heap.size + 1) ∧ Below w.heap.size w wx
theorem ownR_of {w w3 w4 w5 w6 wx : World} {b3 b4 b5 b6 bo : Nat} {A3 A4 A5 A6 : Option Addr} {rn fn sn pn c3 c4 c5 c6 : Nat} {m : Img} {q0 : List SV} {p0 : List PV}
    (ho3 : w3.ownsRow b3 3 1 (.slice A3 rn c3) rn (ints m.root)) (ho4 : w4.ownsRow b4 3 1 (.slice A4 fn c4) fn (ints m.refs)) (ho5 : w5.ownsRow b5 45 3 (.slice A5 sn c5) sn (q0.flatMap SV.cells)) (ho6 : w6.ownsRow b6 48 3 (.slice A6 pn c6) pn (p0.flatMap PV.cells))
    (hc3 : rn ≤ c3) (hm3 : c3 ≤ maxLen) (hc4 : fn ≤ c4) (hm4 : c4 ≤ maxLen) (hc5 : sn ≤ c5) (hm5 : c5 ≤ maxLen) (hc6 : pn ≤ c6) (hm6 : c6 ≤ maxLen)
    (G4 : Below w3.heap.size w3 w4) (G5 : Below w4.heap.size w4 w5) (G6 : Below w5.heap.size w5 w6) (hb3 : w.heap.size ≤ b3) (hb4 : w3.heap.size ≤ b4) (hb34 : b3 ≤ w3.heap.size) (hb5 : w.heap.size ≤ b5) (hb6 : w.heap.size ≤ b6)
    (U6 : Below w.heap.size w w6) (hr : rn ≤ 1000000) (hf : fn ≤ 1000000) (hs : sn ≤ 1000000) (hp : pn ≤ 1000000) (hq0 : q0.map (·.s) = m.slots) (hp0 : p0.map (·.s) = m.snaps)
    (hvq : ∀ (k : Nat) (x : SV), q0[k]? = some x → SlotV w w.heap.size x.s x.A x.n x.c) (hvp : ∀ (k : Nat) (x : PV), p0[k]? = some x → SnapV w w.heap.size x.s x.A x.n x.c)
    (hz : ZB w6 (w.heap.size + 1)) (hg : w6.grownBy wx (some bo)) (hbo : w.heap.size + 1 < bo) (hT : bo < w6.heap.size → TypeB w6 bo 26)
    (hx : Box wx bo m.guest ⟨A3, rn, c3, A5, sn, c5, A4, fn, c4, A6, pn, c6⟩) (hB : BoxB wx bo) :
    OwnR w m q0 p0 sn pn (.pointer (some ⟨bo, 0, none⟩)) wx := by
  have hz3 := G4.size
  have hz4 := G5.size
  have hz5 := G6.size
  unfold maxLen at *
  have far : ∀ {e : TypeId} {size n base : Nat} {v : Value} {xs : List Value}, w6.ownsRow base e size v n xs → e ≠ 26 → wx.ownsRow base e size v n xs := by
    intro e size n base v xs ho hne
    refine ho.kept hg ?_
    rcases Nat.lt_or_ge bo w6.heap.size with hl | hl
    · exact own_far ho (hT hl) (fun h => hne h.symm)
    · refine .inr fun e => ?_
      have := (ho.lt _ e).2
      omega
  have r3 := far (own_below (own_below (own_below ho3 G4) G5) G6) (by decide)
  have r4 := far (own_below (own_below ho4 G5) G6) (by decide)
  have r5 := far (own_below ho5 G6) (by decide)
  have r6 := far ho6 (by decide)
  refine ⟨bo, ⟨A3, rn, c3, A5, sn, c5, A4, fn, c4, A6, pn, c6⟩, fun g => if g < w3.heap.size then 0 else 1, rfl, ⟨?_, ?_, ?_, hc5, ?_, ?_, hc6, ?_, hq0, hp0, ?_, ?_⟩, rfl, rfl, hx, hB, hbo, ?_, ?_⟩
  · exact ⟨hc3, ⟨by show rn ≤ _; omega, by show c3 ≤ _; omega⟩, .inr ⟨own_base r3 hb3, fun b e => if_pos (ho3.lt b e).2⟩⟩
  · exact ⟨hc4, ⟨by show fn ≤ _; omega, by show c4 ≤ _; omega⟩, .inr ⟨own_base r4 (by omega), fun b e => if_neg (by have := (ho4.lt b e).1; omega)⟩⟩
  · exact own_base r5 hb5
  · exact ⟨by show sn ≤ _; omega, by show c5 ≤ _; omega⟩
  · exact own_base r6 hb6
  · exact ⟨by show pn ≤ _; omega, by show c6 ≤ _; omega⟩
  · exact fun j x hx => ⟨(hvq j x hx).data, fun h => absurd h (Nat.not_lt_zero _), fun _ => hvq j x hx⟩
  · exact fun j x hx => ⟨(hvp j x hx).name, fun h => absurd h (Nat.not_lt_zero _), fun _ => hvp j x hx⟩
  · exact ⟨(hg.block _ (Array.getElem?_eq_some_iff.1 hz.heap).1 (fun e => by injection e; omega)).trans hz.heap⟩
  · exact U6.grown hg U6.size (fun k e => by injection e; omega)

end Go.Proofs.Ytbhhcjnjddcocaa
