/- The laws' stackBegun. No conditions. (Printed by gen_stkbeg.py.) -/
import Derived.Test.YtmdjoafbckphfaaGreatStkC
import Derived.Test.YtmdjoafbckphfaaGreatTreeBegun
namespace Go.Proofs.YtmdjoafbckphfaaGreat
open Go.RowKit Sl
def s0 : Stk := ⟨[{ data := #[120, 120, 120, 120] }, { data := #[121, 121, 121, 121] }, { data := #[122, 122, 122, 122] }], ⟨6, [2, 4], pSlots [3, 0, 0, 0], [0, 2, 1, 1, 1], []⟩⟩
theorem s0_r1 : readS s0 1 = { data := #[121, 121, 121, 121] } ∧ errS s0 1 = 0 := by decide +kernel
theorem s0_r2 : readS s0 2 = { data := #[0, 0, 0, 0] } ∧ errS s0 2 = 0 := by decide +kernel
theorem s0_ck : checkS s0 = 0 := by decide +kernel
theorem s0_c : commitE s0 = 0 ∧ (commitV s0).base.length = 6 ∧ (commitV s0).base[1]? = some { data := #[121, 121, 121, 121] } ∧ (commitV s0).base[4]? = some { data := #[98, 98, 98, 98] } ∧ (commitV s0).top.slots.length = 1 ∧ (commitV s0).top.guest = 6 := by decide +kernel
theorem s0_w : writeSE s0 1 { data := #[119, 119, 119, 119] } = 0 ∧ (writeSV s0 1 { data := #[119, 119, 119, 119] }).base.length = 3 ∧ (writeSV s0 1 { data := #[119, 119, 119, 119] }).base[1]? = some { data := #[121, 121, 121, 121] } ∧ (writeSV s0 1 { data := #[119, 119, 119, 119] }).top.slots.length = 6 := by decide +kernel
theorem beg0 {w w1 : World} (hp : PairAt w1 w.heap.size [2, 4] [0, 2, 2, 1, 1] [3, 0, 0, 0]) (hb : Below w.heap.size w w1) :
    Below w.heap.size w ((((w1.alloc (.cells #[.int .i64 6, .slice (some ⟨w.heap.size + 1, 0, none⟩) 2 2, .slice (some ⟨w.heap.size + 1 + 1 + 1 + 1, 0, none⟩) 5 5, .slice (some ⟨w1.heap.size + 1, 0, none⟩) 5 5, .slice none 0 0] 27)).alloc (.cells #[.int .i64 0, .int .i64 2, .int .i64 1, .int .i64 1, .int .i64 1] 3)).alloc (.cells #[.string { data := #[120, 120, 120, 120] }, .string { data := #[121, 121, 121, 121] }, .string { data := #[122, 122, 122, 122] }] 9)).alloc (.cells #[.slice (some ⟨w1.heap.size + 1 + 1, 0, none⟩) 3 3, .int .i64 6, .slice (some ⟨w.heap.size + 1, 0, none⟩) 2 2, .slice (some ⟨w.heap.size + 1 + 1 + 1 + 1, 0, none⟩) 5 5, .slice (some ⟨w1.heap.size + 1, 0, none⟩) 5 5, .slice none 0 0] 29)) ∧ StkR ((((w1.alloc (.cells #[.int .i64 6, .slice (some ⟨w.heap.size + 1, 0, none⟩) 2 2, .slice (some ⟨w.heap.size + 1 + 1 + 1 + 1, 0, none⟩) 5 5, .slice (some ⟨w1.heap.size + 1, 0, none⟩) 5 5, .slice none 0 0] 27)).alloc (.cells #[.int .i64 0, .int .i64 2, .int .i64 1, .int .i64 1, .int .i64 1] 3)).alloc (.cells #[.string { data := #[120, 120, 120, 120] }, .string { data := #[121, 121, 121, 121] }, .string { data := #[122, 122, 122, 122] }] 9)).alloc (.cells #[.slice (some ⟨w1.heap.size + 1 + 1, 0, none⟩) 3 3, .int .i64 6, .slice (some ⟨w.heap.size + 1, 0, none⟩) 2 2, .slice (some ⟨w.heap.size + 1 + 1 + 1 + 1, 0, none⟩) 5 5, .slice (some ⟨w1.heap.size + 1, 0, none⟩) 5 5, .slice none 0 0] 29)) (some ⟨w1.heap.size + 1 + 1, 0, none⟩) 3 3 ⟨some ⟨w.heap.size + 1, 0, none⟩, 2, 2, some ⟨w.heap.size + 1 + 1 + 1 + 1, 0, none⟩, 5, 5, some ⟨w1.heap.size + 1, 0, none⟩, 5, 5, none, 0, 0⟩ s0 ∧ BoxS ((((w1.alloc (.cells #[.int .i64 6, .slice (some ⟨w.heap.size + 1, 0, none⟩) 2 2, .slice (some ⟨w.heap.size + 1 + 1 + 1 + 1, 0, none⟩) 5 5, .slice (some ⟨w1.heap.size + 1, 0, none⟩) 5 5, .slice none 0 0] 27)).alloc (.cells #[.int .i64 0, .int .i64 2, .int .i64 1, .int .i64 1, .int .i64 1] 3)).alloc (.cells #[.string { data := #[120, 120, 120, 120] }, .string { data := #[121, 121, 121, 121] }, .string { data := #[122, 122, 122, 122] }] 9)).alloc (.cells #[.slice (some ⟨w1.heap.size + 1 + 1, 0, none⟩) 3 3, .int .i64 6, .slice (some ⟨w.heap.size + 1, 0, none⟩) 2 2, .slice (some ⟨w.heap.size + 1 + 1 + 1 + 1, 0, none⟩) 5 5, .slice (some ⟨w1.heap.size + 1, 0, none⟩) 5 5, .slice none 0 0] 29)) (w1.heap.size + 1 + 1 + 1) (some ⟨w1.heap.size + 1 + 1, 0, none⟩) 3 3 6 ⟨some ⟨w.heap.size + 1, 0, none⟩, 2, 2, some ⟨w.heap.size + 1 + 1 + 1 + 1, 0, none⟩, 5, 5, some ⟨w1.heap.size + 1, 0, none⟩, 5, 5, none, 0, 0⟩ ∧ w1.heap.size + 1 + 1 + 1 < ((((w1.alloc (.cells #[.int .i64 6, .slice (some ⟨w.heap.size + 1, 0, none⟩) 2 2, .slice (some ⟨w.heap.size + 1 + 1 + 1 + 1, 0, none⟩) 5 5, .slice (some ⟨w1.heap.size + 1, 0, none⟩) 5 5, .slice none 0 0] 27)).alloc (.cells #[.int .i64 0, .int .i64 2, .int .i64 1, .int .i64 1, .int .i64 1] 3)).alloc (.cells #[.string { data := #[120, 120, 120, 120] }, .string { data := #[121, 121, 121, 121] }, .string { data := #[122, 122, 122, 122] }] 9)).alloc (.cells #[.slice (some ⟨w1.heap.size + 1 + 1, 0, none⟩) 3 3, .int .i64 6, .slice (some ⟨w.heap.size + 1, 0, none⟩) 2 2, .slice (some ⟨w.heap.size + 1 + 1 + 1 + 1, 0, none⟩) 5 5, .slice (some ⟨w1.heap.size + 1, 0, none⟩) 5 5, .slice none 0 0] 29)).heap.size := by
  have hl := hp.lt
  have hi := hp.img 6 rfl rfl rfl
  have b1 := below1 w1 (.cells #[.int .i64 6, .slice (some ⟨w.heap.size + 1, 0, none⟩) 2 2, .slice (some ⟨w.heap.size + 1 + 1 + 1 + 1, 0, none⟩) 5 5, .slice (some ⟨w1.heap.size + 1, 0, none⟩) 5 5, .slice none 0 0] 27)
  have s1 : (w1.alloc (.cells #[.int .i64 6, .slice (some ⟨w.heap.size + 1, 0, none⟩) 2 2, .slice (some ⟨w.heap.size + 1 + 1 + 1 + 1, 0, none⟩) 5 5, .slice (some ⟨w1.heap.size + 1, 0, none⟩) 5 5, .slice none 0 0] 27)).heap.size = w1.heap.size + 1 := World.size_alloc _ _
  generalize w1.alloc (.cells #[.int .i64 6, .slice (some ⟨w.heap.size + 1, 0, none⟩) 2 2, .slice (some ⟨w.heap.size + 1 + 1 + 1 + 1, 0, none⟩) 5 5, .slice (some ⟨w1.heap.size + 1, 0, none⟩) 5 5, .slice none 0 0] 27) = w2 at *
  have b2 := below1 w2 (.cells #[.int .i64 0, .int .i64 2, .int .i64 1, .int .i64 1, .int .i64 1] 3)
  have h2 := heap_alloc_new w2 (.cells #[.int .i64 0, .int .i64 2, .int .i64 1, .int .i64 1, .int .i64 1] 3)
  have s2 : (w2.alloc (.cells #[.int .i64 0, .int .i64 2, .int .i64 1, .int .i64 1, .int .i64 1] 3)).heap.size = w2.heap.size + 1 := World.size_alloc _ _
  generalize w2.alloc (.cells #[.int .i64 0, .int .i64 2, .int .i64 1, .int .i64 1, .int .i64 1] 3) = w3 at *
  have b3 := below1 w3 (.cells #[.string { data := #[120, 120, 120, 120] }, .string { data := #[121, 121, 121, 121] }, .string { data := #[122, 122, 122, 122] }] 9)
  have h3 := heap_alloc_new w3 (.cells #[.string { data := #[120, 120, 120, 120] }, .string { data := #[121, 121, 121, 121] }, .string { data := #[122, 122, 122, 122] }] 9)
  have s3 : (w3.alloc (.cells #[.string { data := #[120, 120, 120, 120] }, .string { data := #[121, 121, 121, 121] }, .string { data := #[122, 122, 122, 122] }] 9)).heap.size = w3.heap.size + 1 := World.size_alloc _ _
  generalize w3.alloc (.cells #[.string { data := #[120, 120, 120, 120] }, .string { data := #[121, 121, 121, 121] }, .string { data := #[122, 122, 122, 122] }] 9) = w4 at *
  have b4 := below1 w4 (.cells #[.slice (some ⟨w1.heap.size + 1 + 1, 0, none⟩) 3 3, .int .i64 6, .slice (some ⟨w.heap.size + 1, 0, none⟩) 2 2, .slice (some ⟨w.heap.size + 1 + 1 + 1 + 1, 0, none⟩) 5 5, .slice (some ⟨w1.heap.size + 1, 0, none⟩) 5 5, .slice none 0 0] 29)
  have s4 : (w4.alloc (.cells #[.slice (some ⟨w1.heap.size + 1 + 1, 0, none⟩) 3 3, .int .i64 6, .slice (some ⟨w.heap.size + 1, 0, none⟩) 2 2, .slice (some ⟨w.heap.size + 1 + 1 + 1 + 1, 0, none⟩) 5 5, .slice (some ⟨w1.heap.size + 1, 0, none⟩) 5 5, .slice none 0 0] 29)).heap.size = w4.heap.size + 1 := World.size_alloc _ _
  have x4 := BoxS.new w4 (some ⟨w1.heap.size + 1 + 1, 0, none⟩) 3 3 6 ⟨some ⟨w.heap.size + 1, 0, none⟩, 2, 2, some ⟨w.heap.size + 1 + 1 + 1 + 1, 0, none⟩, 5, 5, some ⟨w1.heap.size + 1, 0, none⟩, 5, 5, none, 0, 0⟩ 29
  dsimp only at x4
  generalize w4.alloc (.cells #[.slice (some ⟨w1.heap.size + 1 + 1, 0, none⟩) 3 3, .int .i64 6, .slice (some ⟨w.heap.size + 1, 0, none⟩) 2 2, .slice (some ⟨w.heap.size + 1 + 1 + 1 + 1, 0, none⟩) 5 5, .slice (some ⟨w1.heap.size + 1, 0, none⟩) 5 5, .slice none 0 0] 29) = w5 at *
  have e2 : w2.heap.size = w1.heap.size + 1 := s1
  have e3 : w3.heap.size = w1.heap.size + 1 + 1 := by omega
  have e4 : w4.heap.size = w1.heap.size + 1 + 1 + 1 := by omega
  rw [e2] at h2
  rw [e3] at h3
  rw [e4] at x4
  have c5 := below_next (below_next (below_next b1 b2) b3) b4
  have hi5 := hi.next c5
  have h2' : w5.heap[w1.heap.size + 1]? = _ := ((b4.block _ (by omega)).trans (b3.block _ (by omega))).trans h2
  have h3' : w5.heap[w1.heap.size + 1 + 1]? = _ := (b4.block _ (by omega)).trans h3
  refine ⟨below_next hb c5, ⟨⟨?_, ?_⟩, by decide, ?_⟩, x4, by omega⟩
  · exact Rd.of_block (size := 1) (n := 3) h3' (by omega) rfl rfl
  · intro p hp
    simp only [s0, List.mem_cons, List.not_mem_nil, or_false] at hp
    rcases hp with rfl | rfl | rfl <;> decide
  · refine ⟨hi5.root, hi5.rle, hi5.rcap, hi5.slots, hi5.sle, hi5.scap, ?_, Nat.le_refl _, by dsimp only; decide, SnapsR.none_, Nat.le_refl _, by dsimp only; decide⟩
    exact Rd.of_block (size := 1) (n := 5) h2' (by omega) rfl rfl
set_option maxRecDepth 100000 in
set_option maxHeartbeats 4000000 in
theorem stackBegun_any (w : World) : Calls Tryz.prog 11 #[] w fun e w' => e = .returned (.bool true) ∧ Below w.heap.size w w' := by
  go_enter Tryz.func11, Tryz.ntmps11
  dsimp only [List.append]
  go_wp2_with fail
  refine (pair_any _).mono ?_
  rintro e w1 ⟨rfl, hp, hb⟩
  obtain ⟨t0, i0, x0, l0⟩ := beg0 hp hb
  clear hp hb
  have T := Lib.hid t0
  have I0 := Lib.hid i0
  have XS0 := Lib.hid x0
  have L0 := Lib.hid l0
  clear t0 i0 x0 l0
  have K0 := Lib.hid (fun W (hi : StkR W (some ⟨w1.heap.size + 1 + 1, 0, none⟩) 3 3 ⟨some ⟨w.heap.size + 1, 0, none⟩, 2, 2, some ⟨w.heap.size + 1 + 1 + 1 + 1, 0, none⟩, 5, 5, some ⟨w1.heap.size + 1, 0, none⟩, 5, 5, none, 0, 0⟩ s0) => stcheck_any _ _ _ s0.base _ s0.top W hi)
  have K1 := Lib.hid (fun W (hi : StkR W (some ⟨w1.heap.size + 1 + 1, 0, none⟩) 3 3 ⟨some ⟨w.heap.size + 1, 0, none⟩, 2, 2, some ⟨w.heap.size + 1 + 1 + 1 + 1, 0, none⟩, 5, 5, some ⟨w1.heap.size + 1, 0, none⟩, 5, 5, none, 0, 0⟩ s0) => sread_any _ _ _ s0.base _ s0.top 1 W hi)
  have K2 := Lib.hid (fun W (hi : StkR W (some ⟨w1.heap.size + 1 + 1, 0, none⟩) 3 3 ⟨some ⟨w.heap.size + 1, 0, none⟩, 2, 2, some ⟨w.heap.size + 1 + 1 + 1 + 1, 0, none⟩, 5, 5, some ⟨w1.heap.size + 1, 0, none⟩, 5, 5, none, 0, 0⟩ s0) => sread_any _ _ _ s0.base _ s0.top 2 W hi)
  have K3 := Lib.hid (fun W (hi : StkR W (some ⟨w1.heap.size + 1 + 1, 0, none⟩) 3 3 ⟨some ⟨w.heap.size + 1, 0, none⟩, 2, 2, some ⟨w.heap.size + 1 + 1 + 1 + 1, 0, none⟩, 5, 5, some ⟨w1.heap.size + 1, 0, none⟩, 5, 5, none, 0, 0⟩ s0) => scommit_any _ _ _ s0.base _ s0.top W hi)
  have K4 := Lib.hid (fun W (hi : StkR W (some ⟨w1.heap.size + 1 + 1, 0, none⟩) 3 3 ⟨some ⟨w.heap.size + 1, 0, none⟩, 2, 2, some ⟨w.heap.size + 1 + 1 + 1 + 1, 0, none⟩, 5, 5, some ⟨w1.heap.size + 1, 0, none⟩, 5, 5, none, 0, 0⟩ s0) => swrite_any _ _ _ s0.base _ s0.top 1 { data := #[119, 119, 119, 119] } W hi)
  rw [show (⟨s0.base, s0.top⟩ : Stk) = s0 from rfl] at K0 K1 K2 K3 K4
  rw [s0_ck] at K0
  rw [s0_r1.1, s0_r1.2] at K1
  rw [s0_r2.1, s0_r2.2] at K2
  rw [s0_c.1] at K3
  rw [s0_w.1] at K4
  have FC := Lib.hid s0_c.2
  have FW := Lib.hid s0_w.2
  generalize commitV s0 = zc at *
  generalize writeSV s0 1 { data := #[119, 119, 119, 119] } = zw at *
  dsimp only [stkV, s0] at K0 K1 K2 K3 K4
  obtain ⟨c1_0, c1_1, c1_2, c1_3, c1_4, c1_5⟩ := XS0.out
  try dsimp only at c1_0 c1_1 c1_2 c1_3 c1_4 c1_5
  go_wp2_with fail
  generalize ((((w1.alloc (.cells #[.int .i64 6, .slice (some ⟨w.heap.size + 1, 0, none⟩) 2 2, .slice (some ⟨w.heap.size + 1 + 1 + 1 + 1, 0, none⟩) 5 5, .slice (some ⟨w1.heap.size + 1, 0, none⟩) 5 5, .slice none 0 0] 27)).alloc (.cells #[.int .i64 0, .int .i64 2, .int .i64 1, .int .i64 1, .int .i64 1] 3)).alloc (.cells #[.string { data := #[120, 120, 120, 120] }, .string { data := #[121, 121, 121, 121] }, .string { data := #[122, 122, 122, 122] }] 9)).alloc (.cells #[.slice (some ⟨w1.heap.size + 1 + 1, 0, none⟩) 3 3, .int .i64 6, .slice (some ⟨w.heap.size + 1, 0, none⟩) 2 2, .slice (some ⟨w.heap.size + 1 + 1 + 1 + 1, 0, none⟩) 5 5, .slice (some ⟨w1.heap.size + 1, 0, none⟩) 5 5, .slice none 0 0] 29)) = W2 at *
  refine (K1.out _ I0.out).mono ?_
  rintro e w3 ⟨rfl, hb⟩
  clear c1_0 c1_1 c1_2 c1_3 c1_4 c1_5
  have T' := Lib.hid (below_next T.out hb)
  have XS0' := Lib.hid (XS0.out.keep hb L0.out)
  have L0' := Lib.hid (Nat.lt_of_lt_of_le L0.out hb.size)
  have I0' := Lib.hid (I0.out.next hb)
  clear T XS0 L0 I0 hb
  have T := T'
  have XS0 := XS0'
  have L0 := L0'
  have I0 := I0'
  clear T' XS0' L0' I0'
  obtain ⟨c4_0, c4_1, c4_2, c4_3, c4_4, c4_5⟩ := XS0.out
  try dsimp only at c4_0 c4_1 c4_2 c4_3 c4_4 c4_5
  go_wp2_with fail
  refine (K2.out _ I0.out).mono ?_
  rintro e w5 ⟨rfl, hb⟩
  clear c4_0 c4_1 c4_2 c4_3 c4_4 c4_5
  have T' := Lib.hid (below_next T.out hb)
  have XS0' := Lib.hid (XS0.out.keep hb L0.out)
  have L0' := Lib.hid (Nat.lt_of_lt_of_le L0.out hb.size)
  have I0' := Lib.hid (I0.out.next hb)
  clear T XS0 L0 I0 hb
  have T := T'
  have XS0 := XS0'
  have L0 := L0'
  have I0 := I0'
  clear T' XS0' L0' I0'
  obtain ⟨c6_0, c6_1, c6_2, c6_3, c6_4, c6_5⟩ := XS0.out
  try dsimp only at c6_0 c6_1 c6_2 c6_3 c6_4 c6_5
  go_wp2_with fail
  refine (K3.out _ I0.out).mono ?_
  rintro e w7 ⟨cA, cn, cc, v, rfl, hF, hb⟩
  clear c6_0 c6_1 c6_2 c6_3 c6_4 c6_5
  have T' := Lib.hid (below_next T.out hb)
  have XS0' := Lib.hid (XS0.out.keep hb L0.out)
  have L0' := Lib.hid (Nat.lt_of_lt_of_le L0.out hb.size)
  have I0' := Lib.hid (I0.out.next hb)
  clear T XS0 L0 I0 hb
  have T := T'
  have XS0 := XS0'
  have L0 := L0'
  have I0 := I0'
  clear T' XS0' L0' I0'
  have hx := BoxS.new w7 cA cn cc zc.top.guest v 29
  have b1 := below1 w7 (.cells #[.slice cA cn cc, .int .i64 zc.top.guest, .slice v.rA v.rn v.rc, .slice v.sA v.sn v.sc, .slice v.fA v.fn v.fc, .slice v.pA v.pn v.pc] 29)
  have hi2 := StkR.next hF b1
  have hlt : w7.heap.size < (w7.alloc (.cells #[.slice cA cn cc, .int .i64 zc.top.guest, .slice v.rA v.rn v.rc, .slice v.sA v.sn v.sc, .slice v.fA v.fn v.fc, .slice v.pA v.pn v.pc] 29)).heap.size := by simp
  have T' := Lib.hid (below_next T.out b1)
  have XS0' := Lib.hid (XS0.out.keep b1 L0.out)
  have L0' := Lib.hid (Nat.lt_of_lt_of_le L0.out b1.size)
  have I0' := Lib.hid (I0.out.next b1)
  clear T XS0 L0 I0 b1
  have T := T'
  have XS0 := XS0'
  have L0 := L0'
  have I0 := I0'
  clear T' XS0' L0' I0'
  obtain ⟨crA, crn, crc, csA, csn, csc, cfA, cfn, cfc, cpA, cpn, cpc⟩ := v
  have Ic := Lib.hid hi2
  have XSc := Lib.hid hx
  have Lc := Lib.hid hlt
  dsimp only [stkV] at Ic XSc Lc T XS0 L0 I0 ⊢
  clear hF hx hi2 hlt
  obtain ⟨c8_0, c8_1, c8_2, c8_3, c8_4, c8_5⟩ := XS0.out
  try dsimp only at c8_0 c8_1 c8_2 c8_3 c8_4 c8_5
  go_wp2_with fail
  generalize (w7.alloc (.cells #[.slice cA cn cc, .int .i64 zc.top.guest, .slice crA crn crc, .slice csA csn csc, .slice cfA cfn cfc, .slice cpA cpn cpc] 29)) = W9 at *
  refine (K4.out _ I0.out).mono ?_
  rintro e w10 ⟨dA, dn, dc, v, rfl, hF, hb⟩
  clear c8_0 c8_1 c8_2 c8_3 c8_4 c8_5
  have T' := Lib.hid (below_next T.out hb)
  have XS0' := Lib.hid (XS0.out.keep hb L0.out)
  have L0' := Lib.hid (Nat.lt_of_lt_of_le L0.out hb.size)
  have I0' := Lib.hid (I0.out.next hb)
  have XSc' := Lib.hid (XSc.out.keep hb Lc.out)
  have Lc' := Lib.hid (Nat.lt_of_lt_of_le Lc.out hb.size)
  have Ic' := Lib.hid (Ic.out.next hb)
  clear T XS0 L0 I0 XSc Lc Ic hb
  have T := T'
  have XS0 := XS0'
  have L0 := L0'
  have I0 := I0'
  have XSc := XSc'
  have Lc := Lc'
  have Ic := Ic'
  clear T' XS0' L0' I0' XSc' Lc' Ic'
  have hx := BoxS.new w10 dA dn dc zw.top.guest v 29
  have b1 := below1 w10 (.cells #[.slice dA dn dc, .int .i64 zw.top.guest, .slice v.rA v.rn v.rc, .slice v.sA v.sn v.sc, .slice v.fA v.fn v.fc, .slice v.pA v.pn v.pc] 29)
  have hi2 := StkR.next hF b1
  have hlt : w10.heap.size < (w10.alloc (.cells #[.slice dA dn dc, .int .i64 zw.top.guest, .slice v.rA v.rn v.rc, .slice v.sA v.sn v.sc, .slice v.fA v.fn v.fc, .slice v.pA v.pn v.pc] 29)).heap.size := by simp
  have T' := Lib.hid (below_next T.out b1)
  have XS0' := Lib.hid (XS0.out.keep b1 L0.out)
  have L0' := Lib.hid (Nat.lt_of_lt_of_le L0.out b1.size)
  have I0' := Lib.hid (I0.out.next b1)
  have XSc' := Lib.hid (XSc.out.keep b1 Lc.out)
  have Lc' := Lib.hid (Nat.lt_of_lt_of_le Lc.out b1.size)
  have Ic' := Lib.hid (Ic.out.next b1)
  clear T XS0 L0 I0 XSc Lc Ic b1
  have T := T'
  have XS0 := XS0'
  have L0 := L0'
  have I0 := I0'
  have XSc := XSc'
  have Lc := Lc'
  have Ic := Ic'
  clear T' XS0' L0' I0' XSc' Lc' Ic'
  obtain ⟨drA, drn, drc, dsA, dsn, dsc, dfA, dfn, dfc, dpA, dpn, dpc⟩ := v
  have Id := Lib.hid hi2
  have XSd := Lib.hid hx
  have Ld := Lib.hid hlt
  dsimp only [stkV] at Id XSd Ld T XS0 L0 I0 XSc Lc Ic ⊢
  clear hF hx hi2 hlt
  obtain ⟨fc1, fc2, fc3, fc4, fc5⟩ := FC.out
  obtain ⟨fw1, fw2, fw3⟩ := FW.out
  clear FC FW
  have fcn := Ic.out.base.len
  rw [fc1] at fcn
  have fdn := Id.out.base.len
  rw [fw1] at fdn
  subst fcn fdn
  have fcs : csn = 1 := by have := Ic.out.top.slen; dsimp only at this; omega
  have fds : dsn = 6 := by have := Id.out.top.slen; dsimp only at this; omega
  subst fcs fds
  rw [fc5] at XSc
  obtain ⟨c11_0, c11_1, c11_2, c11_3, c11_4, c11_5⟩ := XS0.out
  try dsimp only at c11_0 c11_1 c11_2 c11_3 c11_4 c11_5
  go_wp2_with fail
  generalize (w10.alloc (.cells #[.slice dA 3 dc, .int .i64 zw.top.guest, .slice drA drn drc, .slice dsA 6 dsc, .slice dfA dfn dfc, .slice dpA dpn dpc] 29)) = W12 at *
  refine (K0.out _ I0.out).mono ?_
  rintro e w13 ⟨rfl, hb⟩
  clear c11_0 c11_1 c11_2 c11_3 c11_4 c11_5
  have T' := Lib.hid (below_next T.out hb)
  have XS0' := Lib.hid (XS0.out.keep hb L0.out)
  have L0' := Lib.hid (Nat.lt_of_lt_of_le L0.out hb.size)
  have I0' := Lib.hid (I0.out.next hb)
  have XSc' := Lib.hid (XSc.out.keep hb Lc.out)
  have Lc' := Lib.hid (Nat.lt_of_lt_of_le Lc.out hb.size)
  have Ic' := Lib.hid (Ic.out.next hb)
  have XSd' := Lib.hid (XSd.out.keep hb Ld.out)
  have Ld' := Lib.hid (Nat.lt_of_lt_of_le Ld.out hb.size)
  have Id' := Lib.hid (Id.out.next hb)
  clear T XS0 L0 I0 XSc Lc Ic XSd Ld Id hb
  have T := T'
  have XS0 := XS0'
  have L0 := L0'
  have I0 := I0'
  have XSc := XSc'
  have Lc := Lc'
  have Ic := Ic'
  have XSd := XSd'
  have Ld := Ld'
  have Id := Id'
  clear T' XS0' L0' I0' XSc' Lc' Ic' XSd' Ld' Id'
  obtain ⟨gb, go_, gs, rfl, gbl, gx, gc, _⟩ := Ic.out.base.at_ (k := 1) (by decide)
  obtain ⟨gb', go_', gs', gh', _, gx', gc', _⟩ := Ic.out.base.at_ (k := 4) (by decide)
  injection gh' with gh'
  injection gh' with ge1 ge2
  subst ge1 ge2
  rw [fc2] at gx
  rw [fc3] at gx'
  injection gx with gx
  injection gx' with gx'
  subst gx gx'
  obtain ⟨kb, ko, ks, rfl, kbl, kx, kc, _⟩ := Id.out.base.at_ (k := 1) (by decide)
  rw [fw2] at kx
  injection kx with kx
  subst kx
  obtain ⟨c14_0, c14_1, c14_2, c14_3, c14_4, c14_5⟩ := XSc.out
  try dsimp only at c14_0 c14_1 c14_2 c14_3 c14_4 c14_5
  obtain ⟨c15_0, c15_1, c15_2, c15_3, c15_4, c15_5⟩ := XSd.out
  try dsimp only at c15_0 c15_1 c15_2 c15_3 c15_4 c15_5
  go_wp2_with fail
  go_ret
  exact ⟨rfl, T.out⟩
end Go.Proofs.YtmdjoafbckphfaaGreat
