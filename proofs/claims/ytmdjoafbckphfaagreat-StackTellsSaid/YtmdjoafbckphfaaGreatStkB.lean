/- stack.Write, SameStacks; the six cells of a stack's box. Conditions: the stack is read below the heap's size. (Printed by gen_stkb.py.) -/
import Derived.Test.YtmdjoafbckphfaaGreatStkA
import Derived.Test.YtmdjoafbckphfaaGreatStkF
import Derived.Test.YtmdjoafbckphfaaGreatWApi
import Derived.Test.YtmdjoafbckphfaaGreatSameImg
import Derived.Test.YtmdjoafbckphfaaGreatRegZ
namespace Go.Proofs.YtmdjoafbckphfaaGreat
open Go.RowKit Sl
/-- The block b is a stack's box that holds nothing yet. -/
structure ZS (W : World) (b : Nat) : Prop where
  heap : W.heap[b]? = some (.cells #[.slice none 0 0, .int .i64 0, .slice none 0 0, .slice none 0 0, .slice none 0 0, .slice none 0 0] 29 (0, 0))
section
variable {W W' : World} {b B : Nat}
theorem ZS.new (W : World) : ZS (W.alloc (.cells #[.slice none 0 0, .int .i64 0, .slice none 0 0, .slice none 0 0, .slice none 0 0, .slice none 0 0] 29)) W.heap.size := ⟨heap_alloc_new W _⟩
theorem ZS.nextB (h : ZS W b) (hb : Below B W W') (hl : b < B) : ZS W' b := ⟨(hb.block b hl).trans h.heap⟩
theorem ZS.lt (h : ZS W b) : b < W.heap.size := (Array.getElem?_eq_some_iff.1 h.heap).1
theorem ZS.next (h : ZS W b) (hb : Below W.heap.size W W') : ZS W' b := h.nextB hb h.lt
theorem ZS.boxG (h : ZS W b) : BoxG W b 29 := ⟨_, h.heap⟩
theorem ZS.cells (h : ZS W b) : W.cell? ⟨b, 0, none⟩ = some (.slice none 0 0) ∧ W.cell? ⟨b, 1, none⟩ = some (.int .i64 0) ∧ W.cell? ⟨b, 2, none⟩ = some (.slice none 0 0) ∧ W.cell? ⟨b, 3, none⟩ = some (.slice none 0 0) ∧ W.cell? ⟨b, 4, none⟩ = some (.slice none 0 0) ∧ W.cell? ⟨b, 5, none⟩ = some (.slice none 0 0) := by
  have := fun j => cell_of_row W b j _ _ _ h.heap
  exact ⟨this 0, this 1, this 2, this 3, this 4, this 5⟩
theorem ZS.froz (h : ZS W b) : W.frozen? ⟨b, 0, none⟩ = false ∧ W.frozen? ⟨b, 1, none⟩ = false ∧ W.frozen? ⟨b, 2, none⟩ = false ∧ W.frozen? ⟨b, 3, none⟩ = false ∧ W.frozen? ⟨b, 4, none⟩ = false ∧ W.frozen? ⟨b, 5, none⟩ = false := by
  have := fun j => frozen_of_row W b j _ _ h.heap
  exact ⟨this 0, this 1, this 2, this 3, this 4, this 5⟩
end
theorem Fresh.next {w w' : World} {B : Nat} {v : IV} {m : Img} (h : Fresh w B v m) (hb : Below w.heap.size w w') : Fresh w' B v m := h.imp id fun ⟨_, _, _, _, hB, ho⟩ => ⟨_, _, _, _, hB, ho.next hb⟩
/-- A stack of the call's own memory. -/
structure StkN (w : World) (B : Nat) (A : Option Addr) (n c : Nat) (v : IV) (s : Stk) : Prop where
  base : w.ownsRow B 9 1 (.slice A n c) n (s.base.map Value.string)
  len : s.base.length ≤ 16
  sizes : ∀ p ∈ s.base, p.size ≤ 140737488351232
  top : Fresh w B v s.top
theorem StkN.stkR {w : World} {B : Nat} {A : Option Addr} {n c : Nat} {v : IV} {s : Stk} (h : StkN w B A n c v s) : StkR w A n c v s :=
  ⟨⟨Rd.of_own h.base, h.sizes⟩, by have h1 := h.base.1; have h2 := h.len; simp at h1; omega, h.top.imgR⟩
theorem StkN.kept {w w' : World} {B b : Nat} {A : Option Addr} {n c : Nat} {v : IV} {s : Stk} (h : StkN w B A n c v s) (hg : w.grownBy w' (some b)) (hT : TypeB w b 29) : StkN w' B A n c v s :=
  ⟨h.base.kept hg (own_far h.base hT (by decide)), h.len, h.sizes, h.top.kept hg hT (by decide) (by decide) (by decide)⟩
theorem StkN.next {w w' : World} {B : Nat} {A : Option Addr} {n c : Nat} {v : IV} {s : Stk} (h : StkN w B A n c v s) (hb : Below w.heap.size w w') : StkN w' B A n c v s := ⟨own_below h.base hb, h.len, h.sizes, h.top.next hb⟩
theorem StkN.none_ (w : World) (B : Nat) : StkN w B none 0 0 noV noStk := ⟨World.ownsRow_nil _ _ _ _, by decide, (fun p hp => by cases hp), .inl ⟨rfl, rfl⟩⟩
theorem six {W : World} {b : Nat} (h : BoxG W b 29) (hc : ∃ A n c g v, BoxS W b A n c g v) (A : Option Addr) (n c : Nat) (g : Int) (v : IV) :
    BoxS ((((((W.setCell ⟨b, 0, none⟩ (.slice A n c)).setCell ⟨b, 1, none⟩ (.int .i64 g)).setCell ⟨b, 2, none⟩ (.slice v.rA v.rn v.rc)).setCell ⟨b, 3, none⟩ (.slice v.sA v.sn v.sc)).setCell ⟨b, 4, none⟩ (.slice v.fA v.fn v.fc)).setCell ⟨b, 5, none⟩ (.slice v.pA v.pn v.pc)) b A n c g v ∧ BoxG ((((((W.setCell ⟨b, 0, none⟩ (.slice A n c)).setCell ⟨b, 1, none⟩ (.int .i64 g)).setCell ⟨b, 2, none⟩ (.slice v.rA v.rn v.rc)).setCell ⟨b, 3, none⟩ (.slice v.sA v.sn v.sc)).setCell ⟨b, 4, none⟩ (.slice v.fA v.fn v.fc)).setCell ⟨b, 5, none⟩ (.slice v.pA v.pn v.pc)) b 29 ∧ W.grownBy ((((((W.setCell ⟨b, 0, none⟩ (.slice A n c)).setCell ⟨b, 1, none⟩ (.int .i64 g)).setCell ⟨b, 2, none⟩ (.slice v.rA v.rn v.rc)).setCell ⟨b, 3, none⟩ (.slice v.sA v.sn v.sc)).setCell ⟨b, 4, none⟩ (.slice v.fA v.fn v.fc)).setCell ⟨b, 5, none⟩ (.slice v.pA v.pn v.pc)) (some b) := by
  obtain ⟨_, _, _, _, _, c0, c1, c2, c3, c4, c5⟩ := hc
  refine ⟨⟨?_, ?_, ?_, ?_, ?_, ?_⟩, (((((h.set _ _).set _ _).set _ _).set _ _).set _ _).set _ _, (((((grown_set W b 0 _).trans (grown_set _ b 1 _)).trans (grown_set _ b 2 _)).trans (grown_set _ b 3 _)).trans (grown_set _ b 4 _)).trans (grown_set _ b 5 _)⟩ <;> go_simp
theorem BoxS.kept {W W' : World} {b n c : Nat} {A : Option Addr} {g : Int} {v : IV} {row : Option Nat} (h : BoxS W b A n c g v) (hg : W.grownBy W' row) (hn : some b ≠ row) : BoxS W' b A n c g v :=
  ⟨hg.cell h.1 hn, hg.cell h.2.1 hn, hg.cell h.2.2.1 hn, hg.cell h.2.2.2.1 hn, hg.cell h.2.2.2.2.1 hn, hg.cell h.2.2.2.2.2 hn⟩
theorem ZS.box {W : World} {b : Nat} (h : ZS W b) : ∃ A n c g v, BoxS W b A n c g v := ⟨none, 0, 0, 0, noV, h.cells⟩
/-- The result's six cells are laid down. -/
theorem outS {w W : World} {b base B : Nat} {A : Option Addr} {n c : Nat} {g : Int} {v : IV} {s : Stk} (hz : ZS W b) (hN : StkN W B A n c v s) (hb : Below base w W) (hbw : base ≤ w.heap.size) (hl : base ≤ b) :
    BoxS ((((((W.setCell ⟨b, 0, none⟩ (.slice A n c)).setCell ⟨b, 1, none⟩ (.int .i64 g)).setCell ⟨b, 2, none⟩ (.slice v.rA v.rn v.rc)).setCell ⟨b, 3, none⟩ (.slice v.sA v.sn v.sc)).setCell ⟨b, 4, none⟩ (.slice v.fA v.fn v.fc)).setCell ⟨b, 5, none⟩ (.slice v.pA v.pn v.pc)) b A n c g v ∧ StkN ((((((W.setCell ⟨b, 0, none⟩ (.slice A n c)).setCell ⟨b, 1, none⟩ (.int .i64 g)).setCell ⟨b, 2, none⟩ (.slice v.rA v.rn v.rc)).setCell ⟨b, 3, none⟩ (.slice v.sA v.sn v.sc)).setCell ⟨b, 4, none⟩ (.slice v.fA v.fn v.fc)).setCell ⟨b, 5, none⟩ (.slice v.pA v.pn v.pc)) B A n c v s ∧ Below base w ((((((W.setCell ⟨b, 0, none⟩ (.slice A n c)).setCell ⟨b, 1, none⟩ (.int .i64 g)).setCell ⟨b, 2, none⟩ (.slice v.rA v.rn v.rc)).setCell ⟨b, 3, none⟩ (.slice v.sA v.sn v.sc)).setCell ⟨b, 4, none⟩ (.slice v.fA v.fn v.fc)).setCell ⟨b, 5, none⟩ (.slice v.pA v.pn v.pc)) := by
  have h6 := six hz.boxG hz.box A n c g v
  exact ⟨h6.1, hN.kept h6.2.2 hz.boxG.ty, hb.grown h6.2.2 (Nat.le_trans hbw hb.size) (fun j e => by injection e with e; omega)⟩
theorem boxes2S (w : World) (A : Option Addr) (n c : Nat) (g : Int) (v : IV) :
    Below w.heap.size w ((w.alloc (.cells #[.slice A n c, .int .i64 g, .slice v.rA v.rn v.rc, .slice v.sA v.sn v.sc, .slice v.fA v.fn v.fc, .slice v.pA v.pn v.pc] 29)).alloc (.cells #[.slice none 0 0, .int .i64 0, .slice none 0 0, .slice none 0 0, .slice none 0 0, .slice none 0 0] 29)) ∧ BoxS ((w.alloc (.cells #[.slice A n c, .int .i64 g, .slice v.rA v.rn v.rc, .slice v.sA v.sn v.sc, .slice v.fA v.fn v.fc, .slice v.pA v.pn v.pc] 29)).alloc (.cells #[.slice none 0 0, .int .i64 0, .slice none 0 0, .slice none 0 0, .slice none 0 0, .slice none 0 0] 29)) w.heap.size A n c g v ∧ ZS ((w.alloc (.cells #[.slice A n c, .int .i64 g, .slice v.rA v.rn v.rc, .slice v.sA v.sn v.sc, .slice v.fA v.fn v.fc, .slice v.pA v.pn v.pc] 29)).alloc (.cells #[.slice none 0 0, .int .i64 0, .slice none 0 0, .slice none 0 0, .slice none 0 0, .slice none 0 0] 29)) (w.heap.size + 1) ∧ ((w.alloc (.cells #[.slice A n c, .int .i64 g, .slice v.rA v.rn v.rc, .slice v.sA v.sn v.sc, .slice v.fA v.fn v.fc, .slice v.pA v.pn v.pc] 29)).alloc (.cells #[.slice none 0 0, .int .i64 0, .slice none 0 0, .slice none 0 0, .slice none 0 0, .slice none 0 0] 29)).heap.size = w.heap.size + 1 + 1 := by
  have h1 := below1 w (.cells #[.slice A n c, .int .i64 g, .slice v.rA v.rn v.rc, .slice v.sA v.sn v.sc, .slice v.fA v.fn v.fc, .slice v.pA v.pn v.pc] 29)
  have x1 := BoxS.new w A n c g v 29
  have s1 : (w.alloc (.cells #[.slice A n c, .int .i64 g, .slice v.rA v.rn v.rc, .slice v.sA v.sn v.sc, .slice v.fA v.fn v.fc, .slice v.pA v.pn v.pc] 29)).heap.size = w.heap.size + 1 := World.size_alloc _ _
  generalize w.alloc (.cells #[.slice A n c, .int .i64 g, .slice v.rA v.rn v.rc, .slice v.sA v.sn v.sc, .slice v.fA v.fn v.fc, .slice v.pA v.pn v.pc] 29) = w1 at *
  have h2 := below1 w1 (.cells #[.slice none 0 0, .int .i64 0, .slice none 0 0, .slice none 0 0, .slice none 0 0, .slice none 0 0] 29)
  have z2 := ZS.new w1
  have s2 : (w1.alloc (.cells #[.slice none 0 0, .int .i64 0, .slice none 0 0, .slice none 0 0, .slice none 0 0, .slice none 0 0] 29)).heap.size = w1.heap.size + 1 := World.size_alloc _ _
  exact ⟨below_next h1 h2, x1.keep h2 (by omega), by rw [← s1]; exact z2, by rw [s2, s1]⟩
set_option maxRecDepth 100000 in
set_option maxHeartbeats 2000000 in
theorem swrite_no (A : Option Addr) (n c : Nat) (l : List ByteArray) (v : IV) (m : Img) (x : Int) (pg : ByteArray) (w : World) (h : StkR w A n c v ⟨l, m⟩) (hp : checkS ⟨l, m⟩ ≠ 0) :
    Calls Tryz.prog 7 #[stkV A n c m v, .int .i64 x, .string pg] w (StkOut noStk (checkS ⟨l, m⟩) w) := by
  have K1' := fun W (hb : Below w.heap.size w W) => stcheck_any A n c l v m W (h.next hb)
  obtain ⟨f1, f2, f3, f4⟩ := boxes2S w A n c m.guest v
  obtain ⟨rA, rn, rc, sA, sn, sc, fA, fn, fc, pA, pn, pc⟩ := v
  dsimp only [stkV, imgV] at *
  have K1 := Lib.hid (K1' _ f1)
  have hz : (checkS ⟨l, m⟩ != 0) = true := by simpa using hp
  generalize checkS ⟨l, m⟩ = er at *
  obtain ⟨x0, x1, x2, x3, x4, x5⟩ := f2
  dsimp only at x0 x1 x2 x3 x4 x5
  clear K1' h hp
  go_enter Tryz.func7, Tryz.ntmps7
  go_wp2_with fail
  generalize ((w.alloc (.cells #[.slice A n c, .int .i64 m.guest, .slice rA rn rc, .slice sA sn sc, .slice fA fn fc, .slice pA pn pc] 29)).alloc (.cells #[.slice none 0 0, .int .i64 0, .slice none 0 0, .slice none 0 0, .slice none 0 0, .slice none 0 0] 29)) = W2 at *
  refine K1.out.mono ?_
  rintro e w3 ⟨rfl, hb⟩
  have zs := f3.next hb
  have th := below_next f1 hb
  clear x0 x1 x2 x3 x4 x5 f1 f3 K1
  have O := outS (g := 0) zs (StkN.none_ _ w.heap.size) th (Nat.le_refl _) (by omega)
  dsimp only [noV] at O
  obtain ⟨⟨k0, k1, k2, k3, k4, k5⟩, hN, hB⟩ := O
  obtain ⟨y0, y1, y2, y3, y4, y5⟩ := zs.cells
  obtain ⟨q0, q1, q2, q3, q4, q5⟩ := zs.froz
  have HK := Lib.hid (And.intro k0 (And.intro k1 (And.intro k2 (And.intro k3 (And.intro k4 (And.intro k5 (And.intro hN hB)))))))
  clear zs th k0 k1 k2 k3 k4 k5 hN hB
  go_wp2_with fail
  obtain ⟨k0, k1, k2, k3, k4, k5, hN, hB⟩ := HK.out
  refine bodyPost_ret (v := .tuple #[stkV none 0 0 noImg noV, .int .i64 er]) ?_ rfl ⟨none, 0, 0, noV, rfl, hN.stkR, hB⟩
  simp [results, Tryz.results7, go_sem, stkV, noImg, noV, k0, k1, k2, k3, k4, k5]
set_option maxRecDepth 100000 in
set_option maxHeartbeats 2000000 in
theorem swrite_full (A : Option Addr) (n c : Nat) (l : List ByteArray) (v : IV) (m : Img) (x : Int) (pg : ByteArray) (w : World) (h : StkR w A n c v ⟨l, m⟩) (hp : checkS ⟨l, m⟩ = 0) (he : writeE m x pg ≠ 0) :
    Calls Tryz.prog 7 #[stkV A n c m v, .int .i64 x, .string pg] w (StkOut noStk (writeE m x pg) w) := by
  have K1' := fun W (hb : Below w.heap.size w W) => stcheck_any A n c l v m W (h.next hb)
  have K2' := fun W (hb : Below w.heap.size w W) => write_any v m x pg W (h.next hb).top (fun y => write_hw y)
  have hz : (writeE m x pg != 0) = true := by simpa using he
  clear he
  generalize writeE m x pg = er at *
  generalize writeI m x pg = z at *
  obtain ⟨f1, f2, f3, f4⟩ := boxes2S w A n c m.guest v
  obtain ⟨rA, rn, rc, sA, sn, sc, fA, fn, fc, pA, pn, pc⟩ := v
  dsimp only [stkV, imgV] at *
  rw [hp] at K1'
  have K1 := Lib.hid (K1' _ f1)
  have K2 := Lib.hid K2'
  obtain ⟨x0, x1, x2, x3, x4, x5⟩ := f2
  dsimp only at x0 x1 x2 x3 x4 x5
  clear K1' K2' h hp
  go_enter Tryz.func7, Tryz.ntmps7
  go_wp2_with fail
  generalize ((w.alloc (.cells #[.slice A n c, .int .i64 m.guest, .slice rA rn rc, .slice sA sn sc, .slice fA fn fc, .slice pA pn pc] 29)).alloc (.cells #[.slice none 0 0, .int .i64 0, .slice none 0 0, .slice none 0 0, .slice none 0 0, .slice none 0 0] 29)) = W2 at *
  refine K1.out.mono ?_
  rintro e w3 ⟨rfl, hb⟩
  have zs := f3.next hb
  have th := below_next f1 hb
  have X3 := BoxS.keep (v := ⟨rA, rn, rc, sA, sn, sc, fA, fn, fc, pA, pn, pc⟩) ⟨x0, x1, x2, x3, x4, x5⟩ hb (by omega)
  have l3 := hb.size
  clear x0 x1 x2 x3 x4 x5 f1 f3 K1 hb
  obtain ⟨x0, x1, x2, x3, x4, x5⟩ := X3
  dsimp only at x0 x1 x2 x3 x4 x5
  have ZH := Lib.hid zs
  have TH := Lib.hid th
  clear zs
  go_wp2_with fail
  refine (K2.out _ th).mono ?_
  rintro e w5 ⟨⟨brA, brn, brc, bsA, bsn, bsc, bfA, bfn, bfc, bpA, bpn, bpc⟩, rfl, hF, hb⟩
  have X5 := BoxS.keep (v := ⟨rA, rn, rc, sA, sn, sc, fA, fn, fc, pA, pn, pc⟩) ⟨x0, x1, x2, x3, x4, x5⟩ hb (by omega)
  have l5 := hb.size
  have hx := Box.new w5 z.guest ⟨brA, brn, brc, bsA, bsn, bsc, bfA, bfn, bfc, bpA, bpn, bpc⟩ 27
  have b1 := below1 w5 (.cells #[.int .i64 z.guest, .slice brA brn brc, .slice bsA bsn bsc, .slice bfA bfn bfc, .slice bpA bpn bpc] 27)
  have s6 : (w5.alloc (.cells #[.int .i64 z.guest, .slice brA brn brc, .slice bsA bsn bsc, .slice bfA bfn bfc, .slice bpA bpn bpc] 27)).heap.size = w5.heap.size + 1 := World.size_alloc _ _
  have zs := (ZH.out.next hb).next b1
  have th := below_next (below_next TH.out hb) b1
  have hF6 := hF.next b1
  have X6 := X5.keep b1 (by omega)
  dsimp only [imgV] at hx b1 zs th hF6 X6 ⊢
  clear x0 x1 x2 x3 x4 x5 X5 hb hF ZH TH K2 b1
  have HX := Lib.hid hx
  clear X6 hF6 hx
  have O := outS (g := 0) zs (StkN.none_ _ w.heap.size) th (Nat.le_refl _) (by omega)
  dsimp only [noV] at O
  obtain ⟨⟨k0, k1, k2, k3, k4, k5⟩, hN, hB⟩ := O
  obtain ⟨y0, y1, y2, y3, y4, y5⟩ := zs.cells
  obtain ⟨q0, q1, q2, q3, q4, q5⟩ := zs.froz
  have HK := Lib.hid (And.intro k0 (And.intro k1 (And.intro k2 (And.intro k3 (And.intro k4 (And.intro k5 (And.intro hN hB)))))))
  clear zs th k0 k1 k2 k3 k4 k5 hN hB
  go_wp2_with fail
  obtain ⟨k0, k1, k2, k3, k4, k5, hN, hB⟩ := HK.out
  refine bodyPost_ret (v := .tuple #[stkV none 0 0 noImg noV, .int .i64 er]) ?_ rfl ⟨none, 0, 0, noV, rfl, hN.stkR, hB⟩
  simp [results, Tryz.results7, go_sem, stkV, noImg, noV, k0, k1, k2, k3, k4, k5]
set_option maxRecDepth 100000 in
set_option maxHeartbeats 2000000 in
theorem swrite_ok (A : Option Addr) (n c : Nat) (l : List ByteArray) (v : IV) (m : Img) (x : Int) (pg : ByteArray) (w : World) (h : StkR w A n c v ⟨l, m⟩) (hp : checkS ⟨l, m⟩ = 0) (he : writeE m x pg = 0) :
    Calls Tryz.prog 7 #[stkV A n c m v, .int .i64 x, .string pg] w (StkOut ⟨l, writeI m x pg⟩ (0) w) := by
  have K1' := fun W (hb : Below w.heap.size w W) => stcheck_any A n c l v m W (h.next hb)
  have K2' := fun W (hb : Below w.heap.size w W) => write_any v m x pg W (h.next hb).top (fun y => write_hw y)
  have h16 := (pagesErr_len (checkS_is hp).1).1
  have hnl := h.base.len
  have hss := h.base.2
  have K3' := fun W (hb : Below w.heap.size w W) => cloneStrs A n c (l.map Value.string) W (h.next hb).base.1 (oneCell_strs l) (by dsimp only at hnl h16; omega)
  have K3 := Lib.hid K3'
  clear K3'
  rw [he] at K2'
  clear he
  generalize writeI m x pg = z at *
  obtain ⟨f1, f2, f3, f4⟩ := boxes2S w A n c m.guest v
  obtain ⟨rA, rn, rc, sA, sn, sc, fA, fn, fc, pA, pn, pc⟩ := v
  dsimp only [stkV, imgV] at *
  rw [hp] at K1'
  have K1 := Lib.hid (K1' _ f1)
  have K2 := Lib.hid K2'
  obtain ⟨x0, x1, x2, x3, x4, x5⟩ := f2
  dsimp only at x0 x1 x2 x3 x4 x5
  clear K1' K2' h hp
  go_enter Tryz.func7, Tryz.ntmps7
  go_wp2_with fail
  generalize ((w.alloc (.cells #[.slice A n c, .int .i64 m.guest, .slice rA rn rc, .slice sA sn sc, .slice fA fn fc, .slice pA pn pc] 29)).alloc (.cells #[.slice none 0 0, .int .i64 0, .slice none 0 0, .slice none 0 0, .slice none 0 0, .slice none 0 0] 29)) = W2 at *
  refine K1.out.mono ?_
  rintro e w3 ⟨rfl, hb⟩
  have zs := f3.next hb
  have th := below_next f1 hb
  have X3 := BoxS.keep (v := ⟨rA, rn, rc, sA, sn, sc, fA, fn, fc, pA, pn, pc⟩) ⟨x0, x1, x2, x3, x4, x5⟩ hb (by omega)
  have l3 := hb.size
  clear x0 x1 x2 x3 x4 x5 f1 f3 K1 hb
  obtain ⟨x0, x1, x2, x3, x4, x5⟩ := X3
  dsimp only at x0 x1 x2 x3 x4 x5
  have ZH := Lib.hid zs
  have TH := Lib.hid th
  clear zs
  go_wp2_with fail
  refine (K2.out _ th).mono ?_
  rintro e w5 ⟨⟨brA, brn, brc, bsA, bsn, bsc, bfA, bfn, bfc, bpA, bpn, bpc⟩, rfl, hF, hb⟩
  have X5 := BoxS.keep (v := ⟨rA, rn, rc, sA, sn, sc, fA, fn, fc, pA, pn, pc⟩) ⟨x0, x1, x2, x3, x4, x5⟩ hb (by omega)
  have l5 := hb.size
  have hx := Box.new w5 z.guest ⟨brA, brn, brc, bsA, bsn, bsc, bfA, bfn, bfc, bpA, bpn, bpc⟩ 27
  have b1 := below1 w5 (.cells #[.int .i64 z.guest, .slice brA brn brc, .slice bsA bsn bsc, .slice bfA bfn bfc, .slice bpA bpn bpc] 27)
  have s6 : (w5.alloc (.cells #[.int .i64 z.guest, .slice brA brn brc, .slice bsA bsn bsc, .slice bfA bfn bfc, .slice bpA bpn bpc] 27)).heap.size = w5.heap.size + 1 := World.size_alloc _ _
  have zs := (ZH.out.next hb).next b1
  have th := below_next (below_next TH.out hb) b1
  have hF6 := hF.next b1
  have X6 := X5.keep b1 (by omega)
  dsimp only [imgV] at hx b1 zs th hF6 X6 ⊢
  clear x0 x1 x2 x3 x4 x5 X5 hb hF ZH TH K2 b1
  have HF6 := Lib.hid hF6
  have ZH := Lib.hid zs
  have TH := Lib.hid th
  obtain ⟨x0, x1, x2, x3, x4, x5⟩ := X6
  obtain ⟨c0, c1, c2, c3, c4⟩ := hx
  dsimp only at x0 x1 x2 x3 x4 x5 c0 c1 c2 c3 c4
  clear hF6 zs
  go_wp2_with fail
  generalize (w5.alloc (.cells #[.int .i64 z.guest, .slice brA brn brc, .slice bsA bsn bsc, .slice bfA bfn bfc, .slice bpA bpn bpc] 27)) = W6 at *
  have hl1 : w.heap.size < W6.heap.size := by omega
  have hl2 : w5.heap.size < W6.heap.size := by omega
  have mvT := Lib.hid (fun (W' : World) (hb : Below W6.drew.heap.size W6.drew W') => (show W'.cell? ⟨w.heap.size, 0, none⟩ = some (.slice A n c) ∧ W'.cell? ⟨w5.heap.size, 0, none⟩ = some (.int .i64 z.guest) ∧ W'.cell? ⟨w5.heap.size, 1, none⟩ = some (.slice brA brn brc) ∧ W'.cell? ⟨w5.heap.size, 2, none⟩ = some (.slice bsA bsn bsc) ∧ W'.cell? ⟨w5.heap.size, 3, none⟩ = some (.slice bfA bfn bfc) ∧ W'.cell? ⟨w5.heap.size, 4, none⟩ = some (.slice bpA bpn bpc) from ⟨(hb.cell (p := ⟨w.heap.size, 0, none⟩) hl1).trans x0, (hb.cell (p := ⟨w5.heap.size, 0, none⟩) hl2).trans c0, (hb.cell (p := ⟨w5.heap.size, 1, none⟩) hl2).trans c1, (hb.cell (p := ⟨w5.heap.size, 2, none⟩) hl2).trans c2, (hb.cell (p := ⟨w5.heap.size, 3, none⟩) hl2).trans c3, (hb.cell (p := ⟨w5.heap.size, 4, none⟩) hl2).trans c4⟩))
  clear x0 x1 x2 x3 x4 x5 c0 c1 c2 c3 c4
  refine wp_region_z (S := fun W' => W'.cell? ⟨w.heap.size, 0, none⟩ = some (.slice A n c) ∧ W'.cell? ⟨w5.heap.size, 0, none⟩ = some (.int .i64 z.guest) ∧ W'.cell? ⟨w5.heap.size, 1, none⟩ = some (.slice brA brn brc) ∧ W'.cell? ⟨w5.heap.size, 2, none⟩ = some (.slice bsA bsn bsc) ∧ W'.cell? ⟨w5.heap.size, 3, none⟩ = some (.slice bfA bfn bfc) ∧ W'.cell? ⟨w5.heap.size, 4, none⟩ = some (.slice bpA bpn bpc)) 5 (by kernel_rfl) (fun hC => ?_)
  have hSS := mvT.out W6.drew (Below.refl _ _)
  apply wpAnyZ_take (i := 0)
  case hi => rfl
  case hs => kernel_rfl
  case hf => kernel_rfl
  case hr => kernel_rfl
  case hu => kernel_rfl
  case hw => exact fun z h1 h2 => (by have h2 : z < 7 := h2; have h3 : z = 5 ∨ z = 6 := (by omega); rcases h3 with rfl | rfl; exact ⟨[1, 2], by kernel_rfl⟩; exact ⟨[1, 2, 5], by kernel_rfl⟩)
  case hQ => exact fun _ _ _ h => h
  case hy => exact Or.inl ⟨by rfl, fun w' hSw => by (obtain ⟨s0, s1, s2, s3, s4, s5⟩ := hSw; go_simp; try with_reducible rfl)⟩
  case hS => assumption
  case hC => assumption
  clear hC
  intro hC
  apply wpAnyZ_take (i := 1)
  case hi => rfl
  case hs => kernel_rfl
  case hf => kernel_rfl
  case hr => kernel_rfl
  case hu => kernel_rfl
  case hw => exact fun z h1 h2 => (by have h2 : z < 7 := h2; have h3 : z = 5 ∨ z = 6 := (by omega); rcases h3 with rfl | rfl; exact ⟨[2], by kernel_rfl⟩; exact ⟨[2, 5], by kernel_rfl⟩)
  case hQ => exact fun _ _ _ h => h
  case hy => exact Or.inl ⟨by rfl, fun w' hSw => by (obtain ⟨s0, s1, s2, s3, s4, s5⟩ := hSw; go_simp; try with_reducible rfl)⟩
  case hS => assumption
  case hC => assumption
  clear hC
  intro hC
  apply wpAnyZ_take (i := 3)
  case hi => rfl
  case hs => kernel_rfl
  case hf => kernel_rfl
  case hr => kernel_rfl
  case hu => kernel_rfl
  case hw => exact fun z h1 h2 => (by have h2 : z < 7 := h2; have h3 : z = 5 ∨ z = 6 := (by omega); rcases h3 with rfl | rfl; exact ⟨[4], by kernel_rfl⟩; exact ⟨[4, 5], by kernel_rfl⟩)
  case hQ => exact fun _ _ _ h => h
  case hy => exact Or.inl ⟨by rfl, fun w' hSw => by (obtain ⟨s0, s1, s2, s3, s4, s5⟩ := hSw; go_simp; try with_reducible rfl)⟩
  case hS => assumption
  case hC => assumption
  clear hC
  intro hC
  clear hSS hC
  refine wpAnyZ_one (i := 2) (by kernel_rfl) rfl (fun K' hK => ?_)
  go_simp
  refine (K3.out _ th.drew).mono ?_
  rintro e' w10 ⟨A10, c10, rfl, ho, hb, hc1, hc2⟩
  refine hK.out _ _ (fun _ => mvT.out _ hb) ?_
  clear hK
  have zs := (ZH.out.next (Below.refl _ _).drew).next hb
  have TU := below_next TH.out.drew hb
  have hl10 := hb.size
  have hN : StkN w10 w.heap.size A10 n c10 ⟨brA, brn, brc, bsA, bsn, bsc, bfA, bfn, bfc, bpA, bpn, bpc⟩ ⟨l, z⟩ :=
    ⟨own_base ho (Nat.le_trans TH.out.size (Nat.le_refl _)), h16, hss, ((HF6.out.next (Below.refl _ _).drew).next hb).mono (by omega)⟩
  have O := outS (g := z.guest) zs hN TU (Nat.le_refl _) (by omega)
  dsimp only at O
  obtain ⟨⟨k0, k1, k2, k3, k4, k5⟩, hN', hB⟩ := O
  obtain ⟨y0, y1, y2, y3, y4, y5⟩ := zs.cells
  obtain ⟨q0, q1, q2, q3, q4, q5⟩ := zs.froz
  have HK := Lib.hid (And.intro k0 (And.intro k1 (And.intro k2 (And.intro k3 (And.intro k4 (And.intro k5 (And.intro hN' hB)))))))
  clear k0 k1 k2 k3 k4 k5 hN' hB hN zs TU ho
  refine wpAnyZ_one (i := 4) (by kernel_rfl) rfl (fun K' hK => ?_)
  go_simp
  refine hK.out _ _ (fun _ => mvT.out _ hb) ?_
  clear hK
  refine wpAnyZ_one (i := 5) (by kernel_rfl) rfl (fun K' hK => ?_)
  go_simp
  refine hK.out _ _ (fun h => absurd h (by decide)) ?_
  clear hK
  refine wpAnyZ_one (i := 6) (by kernel_rfl) rfl (fun K' hK => ?_)
  go_simp
  refine hK.out _ _ (fun h => absurd h (by decide)) ?_
  clear hK
  refine wpAnyZ_done (by kernel_rfl) ?_ _
  clear mvT y0 y1 y2 y3 y4 y5 q0 q1 q2 q3 q4 q5
  go_wp2_with fail
  obtain ⟨k0, k1, k2, k3, k4, k5, hN, hB⟩ := HK.out
  refine bodyPost_ret (v := .tuple #[stkV A10 n c10 z ⟨brA, brn, brc, bsA, bsn, bsc, bfA, bfn, bfc, bpA, bpn, bpc⟩, .int .i64 0]) ?_ rfl ⟨_, _, _, _, rfl, hN.stkR, hB⟩
  simp [results, Tryz.results7, go_sem, stkV, k0, k1, k2, k3, k4, k5]
theorem swrite_any (A : Option Addr) (n c : Nat) (l : List ByteArray) (v : IV) (m : Img) (x : Int) (pg : ByteArray) (w : World) (h : StkR w A n c v ⟨l, m⟩) :
    Calls Tryz.prog 7 #[stkV A n c m v, .int .i64 x, .string pg] w (StkOut (writeSV ⟨l, m⟩ x pg) (writeSE ⟨l, m⟩ x pg) w) := by
  by_cases hp : checkS ⟨l, m⟩ = 0
  · have e1 : writeSE ⟨l, m⟩ x pg = writeE m x pg := by unfold writeSE; rw [if_pos hp]
    by_cases he : writeE m x pg = 0
    · have e2 : writeSV ⟨l, m⟩ x pg = ⟨l, writeI m x pg⟩ := by unfold writeSV; rw [if_pos (by rw [e1]; exact he)]
      rw [e1, e2, he]; exact swrite_ok A n c l v m x pg w h hp he
    · have e2 : writeSV ⟨l, m⟩ x pg = noStk := by unfold writeSV; rw [if_neg (by rw [e1]; exact he)]
      rw [e1, e2]; exact swrite_full A n c l v m x pg w h hp he
  · have e1 : writeSE ⟨l, m⟩ x pg = checkS ⟨l, m⟩ := by unfold writeSE; rw [if_neg hp]
    have e2 : writeSV ⟨l, m⟩ x pg = noStk := by unfold writeSV; rw [if_neg (by rw [e1]; exact hp)]
    rw [e1, e2]; exact swrite_no A n c l v m x pg w h hp
end Go.Proofs.YtmdjoafbckphfaaGreat
