/- Words for stacks; Check, Read and the reference's CheckStack, StackError, StackRead. Conditions: the stack is read below the heap's size. -/
import Derived.Test.YtmdjoafbckphfaaGreatStkP
import Derived.Test.YtmdjoafbckphfaaGreatReads1
import Derived.Test.YtmdjoafbckphfaaGreatFlat
namespace Go.Proofs.YtmdjoafbckphfaaGreat
open Go.RowKit Sl
def stkV (A : Option Addr) (n c : Nat) (m : Img) (v : IV) : Value := .agg #[.slice A n c, .int .i64 m.guest, .slice v.rA v.rn v.rc, .slice v.sA v.sn v.sc, .slice v.fA v.fn v.fc, .slice v.pA v.pn v.pc]
/-- A stack is read: its base, its top. -/
structure StkR (w : World) (A : Option Addr) (n c : Nat) (v : IV) (s : Stk) : Prop where
  base : StrsR w w.heap.size A n s.base
  cap : n ≤ 4611686018427387903
  top : ImgR w w.heap.size v s.top
theorem StkR.next {w w' : World} {A : Option Addr} {n c : Nat} {v : IV} {s : Stk} (h : StkR w A n c v s) (hb : Below w.heap.size w w') : StkR w' A n c v s := ⟨h.base.next hb, h.cap, h.top.next hb⟩
/-- The cells of a stack's box. -/
def BoxS (w : World) (b : Nat) (A : Option Addr) (n c : Nat) (g : Int) (v : IV) : Prop :=
  w.cell? ⟨b, 0, none⟩ = some (.slice A n c) ∧ w.cell? ⟨b, 1, none⟩ = some (.int .i64 g) ∧ w.cell? ⟨b, 2, none⟩ = some (.slice v.rA v.rn v.rc) ∧ w.cell? ⟨b, 3, none⟩ = some (.slice v.sA v.sn v.sc) ∧ w.cell? ⟨b, 4, none⟩ = some (.slice v.fA v.fn v.fc) ∧ w.cell? ⟨b, 5, none⟩ = some (.slice v.pA v.pn v.pc)
theorem BoxS.new (w : World) (A : Option Addr) (n c : Nat) (g : Int) (v : IV) (T : TypeId) : BoxS (w.alloc (.cells #[.slice A n c, .int .i64 g, .slice v.rA v.rn v.rc, .slice v.sA v.sn v.sc, .slice v.fA v.fn v.fc, .slice v.pA v.pn v.pc] T)) w.heap.size A n c g v := by
  have h := fun j => cell_of_row (w.alloc (.cells #[.slice A n c, .int .i64 g, .slice v.rA v.rn v.rc, .slice v.sA v.sn v.sc, .slice v.fA v.fn v.fc, .slice v.pA v.pn v.pc] T)) w.heap.size j _ _ _ (heap_alloc_new w _)
  exact ⟨h 0, h 1, h 2, h 3, h 4, h 5⟩
theorem BoxS.keep {W W' : World} {b M n c : Nat} {A : Option Addr} {g : Int} {v : IV} (h : BoxS W b A n c g v) (hb : Below M W W') (hM : b < M) : BoxS W' b A n c g v :=
  ⟨(hb.cell (p := ⟨b, 0, none⟩) hM).trans h.1, (hb.cell (p := ⟨b, 1, none⟩) hM).trans h.2.1, (hb.cell (p := ⟨b, 2, none⟩) hM).trans h.2.2.1, (hb.cell (p := ⟨b, 3, none⟩) hM).trans h.2.2.2.1, (hb.cell (p := ⟨b, 4, none⟩) hM).trans h.2.2.2.2.1, (hb.cell (p := ⟨b, 5, none⟩) hM).trans h.2.2.2.2.2⟩
/-- A stack and an error are answered. -/
def StkOut (s : Stk) (er : Int) (w : World) (e : Ending) (w' : World) : Prop := ∃ A n c v, e = .returned (.tuple #[stkV A n c s.top v, .int .i64 er]) ∧ StkR w' A n c v s ∧ Below w.heap.size w w'
set_option maxRecDepth 100000 in
set_option maxHeartbeats 1000000 in
theorem stcheck_any (A : Option Addr) (n c : Nat) (l : List ByteArray) (v : IV) (m : Img) (w : World) (h : StkR w A n c v ⟨l, m⟩) :
    Calls Tryz.prog 12 #[stkV A n c m v] w fun e w' => e = .returned (.int .i64 (checkS ⟨l, m⟩)) ∧ Below w.heap.size w w' := by
  have K1' := fun W (hb : Below w.heap.size w W) => pcheck_any A n c l W (h.next hb).base (by have := h.cap; omega)
  have K2' := fun W (hb : Below w.heap.size w W) => tcheck_any v m W (h.next hb).top
  obtain ⟨rA, rn, rc, sA, sn, sc, fA, fn, fc, pA, pn, pc⟩ := v
  have HB1 := below1 w (.cells #[.slice A n c, .int .i64 m.guest, .slice rA rn rc, .slice sA sn sc, .slice fA fn fc, .slice pA pn pc] 29)
  have X1 := BoxS.new w A n c m.guest ⟨rA, rn, rc, sA, sn, sc, fA, fn, fc, pA, pn, pc⟩ 29
  have hl1 : w.heap.size < (w.alloc (.cells #[.slice A n c, .int .i64 m.guest, .slice rA rn rc, .slice sA sn sc, .slice fA fn fc, .slice pA pn pc] 29)).heap.size := by simp
  dsimp only [stkV, imgV] at *
  have K1 := Lib.hid (K1' _ HB1)
  have K2 := Lib.hid (K2' _ HB1)
  clear K1' K2' h
  unfold checkS
  by_cases hp : pagesErr l = 0
  · rw [if_pos hp]
    rw [hp] at K1
    obtain ⟨x0, x1, x2, x3, x4, x5⟩ := X1
    dsimp only at x0 x1 x2 x3 x4 x5
    go_enter Tryz.func12, Tryz.ntmps12
    go_wp2_with fail
    refine K1.out.mono ?_
    rintro e w2 ⟨rfl, rfl⟩
    go_wp2_with fail
    refine K2.out.mono ?_
    rintro e w2 ⟨rfl, hb⟩
    go_wp2_with fail
    go_ret
    exact ⟨rfl, below_next HB1 hb⟩
  · rw [if_neg hp]
    have hz : (pagesErr l != 0) = true := by simpa using hp
    generalize pagesErr l = er at *
    obtain ⟨x0, x1, x2, x3, x4, x5⟩ := X1
    dsimp only at x0 x1 x2 x3 x4 x5
    go_enter Tryz.func12, Tryz.ntmps12
    go_wp2_with fail
    refine K1.out.mono ?_
    rintro e w2 ⟨rfl, rfl⟩
    go_wp2_with fail
    go_ret
    exact ⟨rfl, HB1⟩
set_option maxRecDepth 100000 in
set_option maxHeartbeats 1000000 in
theorem rstcheck_any (A : Option Addr) (n c : Nat) (l : List ByteArray) (v : IV) (m : Img) (w : World) (h : StkR w A n c v ⟨l, m⟩) :
    Calls Tryz.prog 13 #[stkV A n c m v] w fun e w' => e = .returned (.int .i64 (checkS ⟨l, m⟩)) ∧ Below w.heap.size w w' := by
  have K1' := fun W (hb : Below w.heap.size w W) => rpcheck_any A n c l W (h.next hb).base (by have := h.cap; omega)
  have K2' := fun W (hb : Below w.heap.size w W) => rcheckimg_any v m W (h.next hb).top
  obtain ⟨rA, rn, rc, sA, sn, sc, fA, fn, fc, pA, pn, pc⟩ := v
  have HB1 := below1 w (.cells #[.slice A n c, .int .i64 m.guest, .slice rA rn rc, .slice sA sn sc, .slice fA fn fc, .slice pA pn pc] 29)
  have X1 := BoxS.new w A n c m.guest ⟨rA, rn, rc, sA, sn, sc, fA, fn, fc, pA, pn, pc⟩ 29
  have hl1 : w.heap.size < (w.alloc (.cells #[.slice A n c, .int .i64 m.guest, .slice rA rn rc, .slice sA sn sc, .slice fA fn fc, .slice pA pn pc] 29)).heap.size := by simp
  dsimp only [stkV, imgV] at *
  have K1 := Lib.hid (K1' _ HB1)
  have K2 := Lib.hid (K2' _ HB1)
  clear K1' K2' h
  unfold checkS
  by_cases hp : pagesErr l = 0
  · rw [if_pos hp]
    rw [hp] at K1
    obtain ⟨x0, x1, x2, x3, x4, x5⟩ := X1
    dsimp only at x0 x1 x2 x3 x4 x5
    go_enter Tryz.func13, Tryz.ntmps13
    go_wp2_with fail
    refine K1.out.mono ?_
    rintro e w2 ⟨rfl, rfl⟩
    go_wp2_with fail
    refine K2.out.mono ?_
    rintro e w2 ⟨rfl, hb⟩
    go_wp2_with fail
    go_ret
    exact ⟨rfl, below_next HB1 hb⟩
  · rw [if_neg hp]
    have hz : (pagesErr l != 0) = true := by simpa using hp
    generalize pagesErr l = er at *
    obtain ⟨x0, x1, x2, x3, x4, x5⟩ := X1
    dsimp only at x0 x1 x2 x3 x4 x5
    go_enter Tryz.func13, Tryz.ntmps13
    go_wp2_with fail
    refine K1.out.mono ?_
    rintro e w2 ⟨rfl, rfl⟩
    go_wp2_with fail
    go_ret
    exact ⟨rfl, HB1⟩
set_option maxRecDepth 100000 in
set_option maxHeartbeats 1000000 in
theorem rserr_any (A : Option Addr) (n c : Nat) (l : List ByteArray) (v : IV) (m : Img) (x : Int) (w : World) (h : StkR w A n c v ⟨l, m⟩) :
    Calls Tryz.prog 8 #[stkV A n c m v, .int .i64 x] w fun e w' => e = .returned (.int .i64 (errS ⟨l, m⟩ x)) ∧ Below w.heap.size w w' := by
  have K1' := fun W (hb : Below w.heap.size w W) => rstcheck_any A n c l v m W (h.next hb)
  have K2' := fun W (hb : Below w.heap.size w W) => rlookE_any v m x W (h.next hb).top
  obtain ⟨rA, rn, rc, sA, sn, sc, fA, fn, fc, pA, pn, pc⟩ := v
  have HB1 := below1 w (.cells #[.slice A n c, .int .i64 m.guest, .slice rA rn rc, .slice sA sn sc, .slice fA fn fc, .slice pA pn pc] 29)
  have X1 := BoxS.new w A n c m.guest ⟨rA, rn, rc, sA, sn, sc, fA, fn, fc, pA, pn, pc⟩ 29
  have hl1 : w.heap.size < (w.alloc (.cells #[.slice A n c, .int .i64 m.guest, .slice rA rn rc, .slice sA sn sc, .slice fA fn fc, .slice pA pn pc] 29)).heap.size := by simp
  dsimp only [stkV, imgV] at *
  have K1 := Lib.hid (K1' _ HB1)
  have K2 := Lib.hid K2'
  clear K1' K2' h
  unfold errS
  by_cases hp : checkS ⟨l, m⟩ = 0
  · rw [if_pos hp]
    rw [hp] at K1
    obtain ⟨x0, x1, x2, x3, x4, x5⟩ := X1
    dsimp only at x0 x1 x2 x3 x4 x5
    go_enter Tryz.func8, Tryz.ntmps8
    go_wp2_with fail
    generalize w.alloc (.cells #[.slice A n c, .int .i64 m.guest, .slice rA rn rc, .slice sA sn sc, .slice fA fn fc, .slice pA pn pc] 29) = w1 at *
    refine K1.out.mono ?_
    rintro e w2 ⟨rfl, hb⟩
    have D := below_next HB1 hb
    have y1 := (hb.cell (p := ⟨w.heap.size, 1, none⟩) hl1).trans x1
    have y2 := (hb.cell (p := ⟨w.heap.size, 2, none⟩) hl1).trans x2
    have y3 := (hb.cell (p := ⟨w.heap.size, 3, none⟩) hl1).trans x3
    have y4 := (hb.cell (p := ⟨w.heap.size, 4, none⟩) hl1).trans x4
    have y5 := (hb.cell (p := ⟨w.heap.size, 5, none⟩) hl1).trans x5
    go_wp2_with fail
    refine (K2.out _ D).mono ?_
    rintro e w3 ⟨rfl, hb3⟩
    go_wp2_with fail
    go_ret
    exact ⟨rfl, below_next D hb3⟩
  · rw [if_neg hp]
    have hz : (checkS ⟨l, m⟩ != 0) = true := by simpa using hp
    generalize checkS ⟨l, m⟩ = er at *
    obtain ⟨x0, x1, x2, x3, x4, x5⟩ := X1
    dsimp only at x0 x1 x2 x3 x4 x5
    go_enter Tryz.func8, Tryz.ntmps8
    go_wp2_with fail
    refine K1.out.mono ?_
    rintro e w2 ⟨rfl, hb⟩
    go_wp2_with fail
    go_ret
    exact ⟨rfl, below_next HB1 hb⟩
set_option maxRecDepth 100000 in
set_option maxHeartbeats 1000000 in
theorem sread_any (A : Option Addr) (n c : Nat) (l : List ByteArray) (v : IV) (m : Img) (x : Int) (w : World) (h : StkR w A n c v ⟨l, m⟩) :
    Calls Tryz.prog 6 #[stkV A n c m v, .int .i64 x] w fun e w' => e = .returned (.tuple #[.string (readS ⟨l, m⟩ x), .int .i64 (errS ⟨l, m⟩ x)]) ∧ Below w.heap.size w w' := by
  have K1' := fun W (hb : Below w.heap.size w W) => stcheck_any A n c l v m W (h.next hb)
  have K2' := fun W (hb : Below w.heap.size w W) => tlook_any v m x W (h.next hb).top
  have K3' := fun W (hb : Below w.heap.size w W) => fread_any A n c l x W (h.next hb).base (by have := h.cap; omega)
  have K4' := fun W (hb : Below w.heap.size w W) => tread_any v m x W (h.next hb).top
  obtain ⟨rA, rn, rc, sA, sn, sc, fA, fn, fc, pA, pn, pc⟩ := v
  have HB1 := below1 w (.cells #[.slice A n c, .int .i64 m.guest, .slice rA rn rc, .slice sA sn sc, .slice fA fn fc, .slice pA pn pc] 29)
  have X1 := BoxS.new w A n c m.guest ⟨rA, rn, rc, sA, sn, sc, fA, fn, fc, pA, pn, pc⟩ 29
  have hl1 : w.heap.size < (w.alloc (.cells #[.slice A n c, .int .i64 m.guest, .slice rA rn rc, .slice sA sn sc, .slice fA fn fc, .slice pA pn pc] 29)).heap.size := by simp
  dsimp only [stkV, imgV] at *
  have K1 := Lib.hid K1'
  have K2 := Lib.hid K2'
  have K3 := Lib.hid K3'
  have K4 := Lib.hid K4'
  clear K1' K2' K3' K4' h
  by_cases hp : checkS ⟨l, m⟩ = 0
  · rw [hp] at K1
    by_cases hl : lookE m x = 0
    · rw [errS_ok hp hl]
      rw [hl] at K2 K4
      by_cases he : lookN m x = 0
      · rw [he] at K2
        by_cases hf : flatReadE l x = 0
        · rw [readS_base hp hl he hf]
          rw [hf] at K3
          have T := Lib.hid HB1
          have XS := Lib.hid X1
          have LS := Lib.hid hl1
          clear HB1 X1 hl1
          obtain ⟨c1_0, c1_1, c1_2, c1_3, c1_4, c1_5⟩ := XS.out
          try dsimp only at c1_0 c1_1 c1_2 c1_3 c1_4 c1_5
          go_enter Tryz.func6, Tryz.ntmps6
          go_wp2_with fail
          generalize (w.alloc (.cells #[.slice A n c, .int .i64 m.guest, .slice rA rn rc, .slice sA sn sc, .slice fA fn fc, .slice pA pn pc] 29)) = W2 at *
          refine (K1.out _ T.out).mono ?_
          rintro e w3 ⟨rfl, hb⟩
          clear c1_0 c1_1 c1_2 c1_3 c1_4 c1_5
          have T' := Lib.hid (below_next T.out hb)
          have XS' := Lib.hid (XS.out.keep hb LS.out)
          have LS' := Lib.hid (Nat.lt_of_lt_of_le LS.out hb.size)
          clear T XS LS hb
          have T := T'
          have XS := XS'
          have LS := LS'
          clear T' XS' LS'
          obtain ⟨c4_0, c4_1, c4_2, c4_3, c4_4, c4_5⟩ := XS.out
          try dsimp only at c4_0 c4_1 c4_2 c4_3 c4_4 c4_5
          go_wp2_with fail
          refine (K2.out _ T.out).mono ?_
          rintro e w5 ⟨rfl, hb⟩
          clear c4_0 c4_1 c4_2 c4_3 c4_4 c4_5
          have T' := Lib.hid (below_next T.out hb)
          have XS' := Lib.hid (XS.out.keep hb LS.out)
          have LS' := Lib.hid (Nat.lt_of_lt_of_le LS.out hb.size)
          clear T XS LS hb
          have T := T'
          have XS := XS'
          have LS := LS'
          clear T' XS' LS'
          obtain ⟨c6_0, c6_1, c6_2, c6_3, c6_4, c6_5⟩ := XS.out
          try dsimp only at c6_0 c6_1 c6_2 c6_3 c6_4 c6_5
          go_wp2_with fail
          refine (K3.out _ T.out).mono ?_
          rintro e w7 ⟨rfl, rfl⟩
          clear c6_0 c6_1 c6_2 c6_3 c6_4 c6_5
          obtain ⟨c8_0, c8_1, c8_2, c8_3, c8_4, c8_5⟩ := XS.out
          try dsimp only at c8_0 c8_1 c8_2 c8_3 c8_4 c8_5
          go_wp2_with fail
          go_ret2
          exact ⟨rfl, T.out⟩
        · rw [readS_top hp hl (.inr hf)]
          have hz : (flatReadE l x == 0) = false := by simpa using hf
          generalize flatReadE l x = ef at *
          have T := Lib.hid HB1
          have XS := Lib.hid X1
          have LS := Lib.hid hl1
          clear HB1 X1 hl1
          obtain ⟨c1_0, c1_1, c1_2, c1_3, c1_4, c1_5⟩ := XS.out
          try dsimp only at c1_0 c1_1 c1_2 c1_3 c1_4 c1_5
          go_enter Tryz.func6, Tryz.ntmps6
          go_wp2_with fail
          generalize (w.alloc (.cells #[.slice A n c, .int .i64 m.guest, .slice rA rn rc, .slice sA sn sc, .slice fA fn fc, .slice pA pn pc] 29)) = W2 at *
          refine (K1.out _ T.out).mono ?_
          rintro e w3 ⟨rfl, hb⟩
          clear c1_0 c1_1 c1_2 c1_3 c1_4 c1_5
          have T' := Lib.hid (below_next T.out hb)
          have XS' := Lib.hid (XS.out.keep hb LS.out)
          have LS' := Lib.hid (Nat.lt_of_lt_of_le LS.out hb.size)
          clear T XS LS hb
          have T := T'
          have XS := XS'
          have LS := LS'
          clear T' XS' LS'
          obtain ⟨c4_0, c4_1, c4_2, c4_3, c4_4, c4_5⟩ := XS.out
          try dsimp only at c4_0 c4_1 c4_2 c4_3 c4_4 c4_5
          go_wp2_with fail
          refine (K2.out _ T.out).mono ?_
          rintro e w5 ⟨rfl, hb⟩
          clear c4_0 c4_1 c4_2 c4_3 c4_4 c4_5
          have T' := Lib.hid (below_next T.out hb)
          have XS' := Lib.hid (XS.out.keep hb LS.out)
          have LS' := Lib.hid (Nat.lt_of_lt_of_le LS.out hb.size)
          clear T XS LS hb
          have T := T'
          have XS := XS'
          have LS := LS'
          clear T' XS' LS'
          obtain ⟨c6_0, c6_1, c6_2, c6_3, c6_4, c6_5⟩ := XS.out
          try dsimp only at c6_0 c6_1 c6_2 c6_3 c6_4 c6_5
          go_wp2_with fail
          refine (K3.out _ T.out).mono ?_
          rintro e w7 ⟨rfl, rfl⟩
          clear c6_0 c6_1 c6_2 c6_3 c6_4 c6_5
          obtain ⟨c8_0, c8_1, c8_2, c8_3, c8_4, c8_5⟩ := XS.out
          try dsimp only at c8_0 c8_1 c8_2 c8_3 c8_4 c8_5
          go_wp2_with fail
          refine (K4.out _ T.out).mono ?_
          rintro e w9 ⟨rfl, hb⟩
          clear c8_0 c8_1 c8_2 c8_3 c8_4 c8_5
          have T' := Lib.hid (below_next T.out hb)
          have XS' := Lib.hid (XS.out.keep hb LS.out)
          have LS' := Lib.hid (Nat.lt_of_lt_of_le LS.out hb.size)
          clear T XS LS hb
          have T := T'
          have XS := XS'
          have LS := LS'
          clear T' XS' LS'
          obtain ⟨c10_0, c10_1, c10_2, c10_3, c10_4, c10_5⟩ := XS.out
          try dsimp only at c10_0 c10_1 c10_2 c10_3 c10_4 c10_5
          go_wp2_with fail
          go_ret2
          exact ⟨rfl, T.out⟩
      · rw [readS_top hp hl (.inl he)]
        have hz : (lookN m x == 0) = false := by simpa using he
        generalize lookN m x = en at *
        have T := Lib.hid HB1
        have XS := Lib.hid X1
        have LS := Lib.hid hl1
        clear HB1 X1 hl1
        obtain ⟨c1_0, c1_1, c1_2, c1_3, c1_4, c1_5⟩ := XS.out
        try dsimp only at c1_0 c1_1 c1_2 c1_3 c1_4 c1_5
        go_enter Tryz.func6, Tryz.ntmps6
        go_wp2_with fail
        generalize (w.alloc (.cells #[.slice A n c, .int .i64 m.guest, .slice rA rn rc, .slice sA sn sc, .slice fA fn fc, .slice pA pn pc] 29)) = W2 at *
        refine (K1.out _ T.out).mono ?_
        rintro e w3 ⟨rfl, hb⟩
        clear c1_0 c1_1 c1_2 c1_3 c1_4 c1_5
        have T' := Lib.hid (below_next T.out hb)
        have XS' := Lib.hid (XS.out.keep hb LS.out)
        have LS' := Lib.hid (Nat.lt_of_lt_of_le LS.out hb.size)
        clear T XS LS hb
        have T := T'
        have XS := XS'
        have LS := LS'
        clear T' XS' LS'
        obtain ⟨c4_0, c4_1, c4_2, c4_3, c4_4, c4_5⟩ := XS.out
        try dsimp only at c4_0 c4_1 c4_2 c4_3 c4_4 c4_5
        go_wp2_with fail
        refine (K2.out _ T.out).mono ?_
        rintro e w5 ⟨rfl, hb⟩
        clear c4_0 c4_1 c4_2 c4_3 c4_4 c4_5
        have T' := Lib.hid (below_next T.out hb)
        have XS' := Lib.hid (XS.out.keep hb LS.out)
        have LS' := Lib.hid (Nat.lt_of_lt_of_le LS.out hb.size)
        clear T XS LS hb
        have T := T'
        have XS := XS'
        have LS := LS'
        clear T' XS' LS'
        obtain ⟨c6_0, c6_1, c6_2, c6_3, c6_4, c6_5⟩ := XS.out
        try dsimp only at c6_0 c6_1 c6_2 c6_3 c6_4 c6_5
        go_wp2_with fail
        refine (K4.out _ T.out).mono ?_
        rintro e w7 ⟨rfl, hb⟩
        clear c6_0 c6_1 c6_2 c6_3 c6_4 c6_5
        have T' := Lib.hid (below_next T.out hb)
        have XS' := Lib.hid (XS.out.keep hb LS.out)
        have LS' := Lib.hid (Nat.lt_of_lt_of_le LS.out hb.size)
        clear T XS LS hb
        have T := T'
        have XS := XS'
        have LS := LS'
        clear T' XS' LS'
        obtain ⟨c8_0, c8_1, c8_2, c8_3, c8_4, c8_5⟩ := XS.out
        try dsimp only at c8_0 c8_1 c8_2 c8_3 c8_4 c8_5
        go_wp2_with fail
        go_ret2
        exact ⟨rfl, T.out⟩
    · obtain ⟨e1, e2⟩ := errS_look (s := ⟨l, m⟩) hp hl
      rw [e1, e2]
      have hz : (lookE m x != 0) = true := by simpa using hl
      show Calls Tryz.prog 6 _ w fun e w' => e = .returned (.tuple #[.string noP, .int .i64 (lookE m x)]) ∧ _
      generalize lookE m x = er at *
      unfold noP
      have T := Lib.hid HB1
      have XS := Lib.hid X1
      have LS := Lib.hid hl1
      clear HB1 X1 hl1
      obtain ⟨c1_0, c1_1, c1_2, c1_3, c1_4, c1_5⟩ := XS.out
      try dsimp only at c1_0 c1_1 c1_2 c1_3 c1_4 c1_5
      go_enter Tryz.func6, Tryz.ntmps6
      go_wp2_with fail
      generalize (w.alloc (.cells #[.slice A n c, .int .i64 m.guest, .slice rA rn rc, .slice sA sn sc, .slice fA fn fc, .slice pA pn pc] 29)) = W2 at *
      refine (K1.out _ T.out).mono ?_
      rintro e w3 ⟨rfl, hb⟩
      clear c1_0 c1_1 c1_2 c1_3 c1_4 c1_5
      have T' := Lib.hid (below_next T.out hb)
      have XS' := Lib.hid (XS.out.keep hb LS.out)
      have LS' := Lib.hid (Nat.lt_of_lt_of_le LS.out hb.size)
      clear T XS LS hb
      have T := T'
      have XS := XS'
      have LS := LS'
      clear T' XS' LS'
      obtain ⟨c4_0, c4_1, c4_2, c4_3, c4_4, c4_5⟩ := XS.out
      try dsimp only at c4_0 c4_1 c4_2 c4_3 c4_4 c4_5
      go_wp2_with fail
      refine (K2.out _ T.out).mono ?_
      rintro e w5 ⟨rfl, hb⟩
      clear c4_0 c4_1 c4_2 c4_3 c4_4 c4_5
      have T' := Lib.hid (below_next T.out hb)
      have XS' := Lib.hid (XS.out.keep hb LS.out)
      have LS' := Lib.hid (Nat.lt_of_lt_of_le LS.out hb.size)
      clear T XS LS hb
      have T := T'
      have XS := XS'
      have LS := LS'
      clear T' XS' LS'
      obtain ⟨c6_0, c6_1, c6_2, c6_3, c6_4, c6_5⟩ := XS.out
      try dsimp only at c6_0 c6_1 c6_2 c6_3 c6_4 c6_5
      go_wp2_with fail
      go_ret2
      exact ⟨rfl, T.out⟩
  · obtain ⟨e1, e2⟩ := errS_no (s := ⟨l, m⟩) (n := x) hp
    rw [e1, e2]
    have hz : (checkS ⟨l, m⟩ != 0) = true := by simpa using hp
    generalize checkS ⟨l, m⟩ = er at *
    unfold noP
    have T := Lib.hid HB1
    have XS := Lib.hid X1
    have LS := Lib.hid hl1
    clear HB1 X1 hl1
    obtain ⟨c1_0, c1_1, c1_2, c1_3, c1_4, c1_5⟩ := XS.out
    try dsimp only at c1_0 c1_1 c1_2 c1_3 c1_4 c1_5
    go_enter Tryz.func6, Tryz.ntmps6
    go_wp2_with fail
    generalize (w.alloc (.cells #[.slice A n c, .int .i64 m.guest, .slice rA rn rc, .slice sA sn sc, .slice fA fn fc, .slice pA pn pc] 29)) = W2 at *
    refine (K1.out _ T.out).mono ?_
    rintro e w3 ⟨rfl, hb⟩
    clear c1_0 c1_1 c1_2 c1_3 c1_4 c1_5
    have T' := Lib.hid (below_next T.out hb)
    have XS' := Lib.hid (XS.out.keep hb LS.out)
    have LS' := Lib.hid (Nat.lt_of_lt_of_le LS.out hb.size)
    clear T XS LS hb
    have T := T'
    have XS := XS'
    have LS := LS'
    clear T' XS' LS'
    obtain ⟨c4_0, c4_1, c4_2, c4_3, c4_4, c4_5⟩ := XS.out
    try dsimp only at c4_0 c4_1 c4_2 c4_3 c4_4 c4_5
    go_wp2_with fail
    go_ret2
    exact ⟨rfl, T.out⟩
end Go.Proofs.YtmdjoafbckphfaaGreat
