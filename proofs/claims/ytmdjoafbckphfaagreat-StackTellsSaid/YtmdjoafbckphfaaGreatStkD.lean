/- SameStacks. Conditions: the stacks are read below the heap's size. (Printed by gen_stklaws.py.) -/
import Derived.Test.YtmdjoafbckphfaaGreatStkB
import Derived.Test.YtmdjoafbckphfaaGreatSame
import Derived.Test.YtmdjoafbckphfaaGreatStkC
namespace Go.Proofs.YtmdjoafbckphfaaGreat
open Go.RowKit Sl
theorem sreadG (A : Option Addr) (n c : Nat) (v : IV) (s : Stk) (x : Int) (w : World) (h : StkR w A n c v s) :
    Calls Tryz.prog 6 #[stkV A n c s.top v, .int .i64 x] w fun e w' => e = .returned (.tuple #[.string (readS s x), .int .i64 (errS s x)]) ∧ Below w.heap.size w w' := sread_any A n c s.base v s.top x w h
theorem scommitG (A : Option Addr) (n c : Nat) (v : IV) (s : Stk) (w : World) (h : StkR w A n c v s) :
    Calls Tryz.prog 15 #[stkV A n c s.top v] w (StkOut (commitV s) (commitE s) w) := scommit_any A n c s.base v s.top w h
theorem stcheckG (A : Option Addr) (n c : Nat) (v : IV) (s : Stk) (w : World) (h : StkR w A n c v s) :
    Calls Tryz.prog 12 #[stkV A n c s.top v] w fun e w' => e = .returned (.int .i64 (checkS s)) ∧ Below w.heap.size w w' := stcheck_any A n c s.base v s.top w h
theorem boxesSS (w : World) (A A2 : Option Addr) (n c n2 c2 : Nat) (g : Int) (v v2 : IV) :
    Below w.heap.size w ((w.alloc (.cells #[.slice A n c, .int .i64 g, .slice v.rA v.rn v.rc, .slice v.sA v.sn v.sc, .slice v.fA v.fn v.fc, .slice v.pA v.pn v.pc] 29)).alloc (.cells #[.slice A2 n2 c2, .int .i64 g, .slice v2.rA v2.rn v2.rc, .slice v2.sA v2.sn v2.sc, .slice v2.fA v2.fn v2.fc, .slice v2.pA v2.pn v2.pc] 29)) ∧
    BoxS ((w.alloc (.cells #[.slice A n c, .int .i64 g, .slice v.rA v.rn v.rc, .slice v.sA v.sn v.sc, .slice v.fA v.fn v.fc, .slice v.pA v.pn v.pc] 29)).alloc (.cells #[.slice A2 n2 c2, .int .i64 g, .slice v2.rA v2.rn v2.rc, .slice v2.sA v2.sn v2.sc, .slice v2.fA v2.fn v2.fc, .slice v2.pA v2.pn v2.pc] 29)) w.heap.size A n c g v ∧
    BoxS ((w.alloc (.cells #[.slice A n c, .int .i64 g, .slice v.rA v.rn v.rc, .slice v.sA v.sn v.sc, .slice v.fA v.fn v.fc, .slice v.pA v.pn v.pc] 29)).alloc (.cells #[.slice A2 n2 c2, .int .i64 g, .slice v2.rA v2.rn v2.rc, .slice v2.sA v2.sn v2.sc, .slice v2.fA v2.fn v2.fc, .slice v2.pA v2.pn v2.pc] 29)) (w.heap.size + 1) A2 n2 c2 g v2 ∧
    w.heap.size + 1 < ((w.alloc (.cells #[.slice A n c, .int .i64 g, .slice v.rA v.rn v.rc, .slice v.sA v.sn v.sc, .slice v.fA v.fn v.fc, .slice v.pA v.pn v.pc] 29)).alloc (.cells #[.slice A2 n2 c2, .int .i64 g, .slice v2.rA v2.rn v2.rc, .slice v2.sA v2.sn v2.sc, .slice v2.fA v2.fn v2.fc, .slice v2.pA v2.pn v2.pc] 29)).heap.size := by
  have b1 := below1 w (.cells #[.slice A n c, .int .i64 g, .slice v.rA v.rn v.rc, .slice v.sA v.sn v.sc, .slice v.fA v.fn v.fc, .slice v.pA v.pn v.pc] 29)
  have x1 := BoxS.new w A n c g v 29
  have s1 : (w.alloc (.cells #[.slice A n c, .int .i64 g, .slice v.rA v.rn v.rc, .slice v.sA v.sn v.sc, .slice v.fA v.fn v.fc, .slice v.pA v.pn v.pc] 29)).heap.size = w.heap.size + 1 := World.size_alloc _ _
  generalize w.alloc (.cells #[.slice A n c, .int .i64 g, .slice v.rA v.rn v.rc, .slice v.sA v.sn v.sc, .slice v.fA v.fn v.fc, .slice v.pA v.pn v.pc] 29) = w1 at *
  have b2 := below1 w1 (.cells #[.slice A2 n2 c2, .int .i64 g, .slice v2.rA v2.rn v2.rc, .slice v2.sA v2.sn v2.sc, .slice v2.fA v2.fn v2.fc, .slice v2.pA v2.pn v2.pc] 29)
  have x2 := BoxS.new w1 A2 n2 c2 g v2 29
  have s2 : (w1.alloc (.cells #[.slice A2 n2 c2, .int .i64 g, .slice v2.rA v2.rn v2.rc, .slice v2.sA v2.sn v2.sc, .slice v2.fA v2.fn v2.fc, .slice v2.pA v2.pn v2.pc] 29)).heap.size = w1.heap.size + 1 := World.size_alloc _ _
  exact ⟨below_next b1 b2, x1.keep b2 (by omega), by rw [← s1]; exact x2, by omega⟩
set_option maxRecDepth 100000 in
set_option maxHeartbeats 4000000 in
theorem sameStk_any (A A2 : Option Addr) (n c n2 c2 : Nat) (v v2 : IV) (s : Stk) (w : World) (h : StkR w A n c v s) (h2 : StkR w A2 n2 c2 v2 s) :
    Calls Tryz.prog 14 #[stkV A n c s.top v, stkV A2 n2 c2 s.top v2] w fun e w' => e = .returned (.bool true) ∧ Below w.heap.size w w' := by
  have KP' := fun W (hb : Below w.heap.size w W) => samePages_any A A2 n n2 c c2 s.base s.base W (h.next hb).base.1 (h2.next hb).base.1 h.cap h2.cap
  have KI' := fun W (hb : Below w.heap.size w W) => sameImg_any v v2 s.top W (h.next hb).top (h2.next hb).top
  simp only [decide_true] at KP'
  obtain ⟨f1, f2, f3, f4⟩ := boxesSS w A A2 n c n2 c2 s.top.guest v v2
  obtain ⟨rA, rn, rc, sA, sn, sc, fA, fn, fc, pA, pn, pc⟩ := v
  obtain ⟨rA2, rn2, rc2, sA2, sn2, sc2, fA2, fn2, fc2, pA2, pn2, pc2⟩ := v2
  dsimp only [stkV, imgV] at *
  generalize s.top.guest = g at *
  have KP := Lib.hid KP'
  have KI := Lib.hid KI'
  have T := Lib.hid f1
  have XS1 := Lib.hid f2
  have XS2 := Lib.hid f3
  have L2 := Lib.hid f4
  have L1 := Lib.hid (Nat.lt_of_succ_lt f4)
  clear KP' KI' h h2 f1 f2 f3 f4
  obtain ⟨c1_0, c1_1, c1_2, c1_3, c1_4, c1_5⟩ := XS1.out
  try dsimp only at c1_0 c1_1 c1_2 c1_3 c1_4 c1_5
  obtain ⟨c2_0, c2_1, c2_2, c2_3, c2_4, c2_5⟩ := XS2.out
  try dsimp only at c2_0 c2_1 c2_2 c2_3 c2_4 c2_5
  go_enter Tryz.func14, Tryz.ntmps14
  go_wp2_with fail
  generalize ((w.alloc (.cells #[.slice A n c, .int .i64 g, .slice rA rn rc, .slice sA sn sc, .slice fA fn fc, .slice pA pn pc] 29)).alloc (.cells #[.slice A2 n2 c2, .int .i64 g, .slice rA2 rn2 rc2, .slice sA2 sn2 sc2, .slice fA2 fn2 fc2, .slice pA2 pn2 pc2] 29)) = W3 at *
  refine (KP.out _ T.out).mono ?_
  rintro e w4 ⟨rfl, hb⟩
  clear c1_0 c1_1 c1_2 c1_3 c1_4 c1_5 c2_0 c2_1 c2_2 c2_3 c2_4 c2_5
  have T' := Lib.hid (below_next T.out hb)
  have XS1' := Lib.hid (XS1.out.keep hb L1.out)
  have L1' := Lib.hid (Nat.lt_of_lt_of_le L1.out hb.size)
  have XS2' := Lib.hid (XS2.out.keep hb L2.out)
  have L2' := Lib.hid (Nat.lt_of_lt_of_le L2.out hb.size)
  clear T XS1 L1 XS2 L2 hb
  have T := T'
  have XS1 := XS1'
  have L1 := L1'
  have XS2 := XS2'
  have L2 := L2'
  clear T' XS1' L1' XS2' L2'
  obtain ⟨c5_0, c5_1, c5_2, c5_3, c5_4, c5_5⟩ := XS1.out
  try dsimp only at c5_0 c5_1 c5_2 c5_3 c5_4 c5_5
  obtain ⟨c6_0, c6_1, c6_2, c6_3, c6_4, c6_5⟩ := XS2.out
  try dsimp only at c6_0 c6_1 c6_2 c6_3 c6_4 c6_5
  go_wp2_with fail
  refine (KI.out _ T.out).mono ?_
  rintro e w7 ⟨rfl, hb⟩
  clear c5_0 c5_1 c5_2 c5_3 c5_4 c5_5 c6_0 c6_1 c6_2 c6_3 c6_4 c6_5
  have T' := Lib.hid (below_next T.out hb)
  have XS1' := Lib.hid (XS1.out.keep hb L1.out)
  have L1' := Lib.hid (Nat.lt_of_lt_of_le L1.out hb.size)
  have XS2' := Lib.hid (XS2.out.keep hb L2.out)
  have L2' := Lib.hid (Nat.lt_of_lt_of_le L2.out hb.size)
  clear T XS1 L1 XS2 L2 hb
  have T := T'
  have XS1 := XS1'
  have L1 := L1'
  have XS2 := XS2'
  have L2 := L2'
  clear T' XS1' L1' XS2' L2'
  go_wp2_with fail
  go_ret
  exact ⟨rfl, T.out⟩
end Go.Proofs.YtmdjoafbckphfaaGreat
