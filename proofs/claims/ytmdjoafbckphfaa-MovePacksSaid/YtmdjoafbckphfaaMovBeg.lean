/- The laws' moveBegun. No conditions. (Printed by gen_movbeg.py.) -/
import Derived.Test.YtmdjoafbckphfaaPkWalk
import Derived.Test.YtmdjoafbckphfaaMovA
import Derived.Test.YtmdjoafbckphfaaWBegun
import Derived.Test.YtmdjoafbckphfaaSame
namespace Go.Proofs.Ytmdjoafbckphfaa
open Go.RowKit Sl
def mvL : List ByteArray := [{ data := #[97, 97, 97, 97] }, { data := #[0, 0, 0, 0] }, { data := #[0, 0, 0, 0] }, { data := #[0, 0, 0, 0] }, { data := #[0, 0, 0, 0] }, { data := #[98, 98, 98, 98] }]
def mvX : Img := ⟨2, [4], [⟨0, { data := #[] }, []⟩, ⟨0, { data := #[] }, []⟩, ⟨1, { data := #[113, 113, 113, 113] }, []⟩, ⟨0, { data := #[] }, []⟩, ⟨2, { data := #[] }, [0, 2, 0, 0]⟩], [0, 0, 1, 0, 1], []⟩
theorem mv_a : pagesErr mvL = 0 ∧ (upI mvL).slots.length = 5 ∧ (upI mvL).root = [1, 3] ∧ ((upI mvL).slots[3]?).map (·.table) = some [0, 4, 0, 0] := by decide +kernel
theorem mv_p : checkErr mvX = 0 ∧ (packI mvX).slots.length = 3 ∧ (packI mvX).root = [2] ∧ ((packI mvX).slots[2]?).map (·.table) = some [0, 1, 0, 0] ∧ (packI mvX).refs = [0, 1, 1] := by decide +kernel
theorem mv_d : downE (pImg 6 [2, 4] [0, 2, 2, 1, 1] [3, 0, 0, 0]) = 8 ∧ downV (pImg 6 [2, 4] [0, 2, 2, 1, 1] [3, 0, 0, 0]) = [] := by decide +kernel
theorem mv_l (w : World) : StrsR (w.alloc (.cells #[.string { data := #[97, 97, 97, 97] }, .string { data := #[0, 0, 0, 0] }, .string { data := #[0, 0, 0, 0] }, .string { data := #[0, 0, 0, 0] }, .string { data := #[0, 0, 0, 0] }, .string { data := #[98, 98, 98, 98] }] 9)) (w.alloc (.cells #[.string { data := #[97, 97, 97, 97] }, .string { data := #[0, 0, 0, 0] }, .string { data := #[0, 0, 0, 0] }, .string { data := #[0, 0, 0, 0] }, .string { data := #[0, 0, 0, 0] }, .string { data := #[98, 98, 98, 98] }] 9)).heap.size (some ⟨w.heap.size, 0, none⟩) 6 mvL := by
  refine ⟨Rd.of_block (size := 1) (n := 6) (heap_alloc_new w _) (by simp) rfl rfl, fun p hp => ?_⟩
  simp only [mvL, List.mem_cons, List.not_mem_nil, or_false] at hp
  rcases hp with rfl | rfl | rfl | rfl | rfl | rfl <;> decide
theorem mv_x (W : World) : ImgR (((((W.alloc (.cells #[.int .i64 4] 3)).alloc (.cells #[.int .i64 0, .int .i64 2, .int .i64 0, .int .i64 0] 3)).alloc (.cells #[.int .i64 0, .string { data := #[] }, .slice none 0 0, .int .i64 0, .string { data := #[] }, .slice none 0 0, .int .i64 1, .string { data := #[113, 113, 113, 113] }, .slice none 0 0, .int .i64 0, .string { data := #[] }, .slice none 0 0, .int .i64 2, .string { data := #[] }, .slice (some ⟨W.heap.size + 1, 0, none⟩) 4 4] 80)).alloc (.cells #[.int .i64 0, .int .i64 0, .int .i64 1, .int .i64 0, .int .i64 1] 3)).alloc (.cells #[.int .i64 2, .slice (some ⟨W.heap.size, 0, none⟩) 1 1, .slice (some ⟨W.heap.size + 1 + 1, 0, none⟩) 5 5, .slice (some ⟨W.heap.size + 1 + 1 + 1, 0, none⟩) 5 5, .slice none 0 0] 27)) (((((W.alloc (.cells #[.int .i64 4] 3)).alloc (.cells #[.int .i64 0, .int .i64 2, .int .i64 0, .int .i64 0] 3)).alloc (.cells #[.int .i64 0, .string { data := #[] }, .slice none 0 0, .int .i64 0, .string { data := #[] }, .slice none 0 0, .int .i64 1, .string { data := #[113, 113, 113, 113] }, .slice none 0 0, .int .i64 0, .string { data := #[] }, .slice none 0 0, .int .i64 2, .string { data := #[] }, .slice (some ⟨W.heap.size + 1, 0, none⟩) 4 4] 80)).alloc (.cells #[.int .i64 0, .int .i64 0, .int .i64 1, .int .i64 0, .int .i64 1] 3)).alloc (.cells #[.int .i64 2, .slice (some ⟨W.heap.size, 0, none⟩) 1 1, .slice (some ⟨W.heap.size + 1 + 1, 0, none⟩) 5 5, .slice (some ⟨W.heap.size + 1 + 1 + 1, 0, none⟩) 5 5, .slice none 0 0] 27)).heap.size ⟨some ⟨W.heap.size, 0, none⟩, 1, 1, some ⟨W.heap.size + 1 + 1, 0, none⟩, 5, 5, some ⟨W.heap.size + 1 + 1 + 1, 0, none⟩, 5, 5, none, 0, 0⟩ mvX ∧ Box (((((W.alloc (.cells #[.int .i64 4] 3)).alloc (.cells #[.int .i64 0, .int .i64 2, .int .i64 0, .int .i64 0] 3)).alloc (.cells #[.int .i64 0, .string { data := #[] }, .slice none 0 0, .int .i64 0, .string { data := #[] }, .slice none 0 0, .int .i64 1, .string { data := #[113, 113, 113, 113] }, .slice none 0 0, .int .i64 0, .string { data := #[] }, .slice none 0 0, .int .i64 2, .string { data := #[] }, .slice (some ⟨W.heap.size + 1, 0, none⟩) 4 4] 80)).alloc (.cells #[.int .i64 0, .int .i64 0, .int .i64 1, .int .i64 0, .int .i64 1] 3)).alloc (.cells #[.int .i64 2, .slice (some ⟨W.heap.size, 0, none⟩) 1 1, .slice (some ⟨W.heap.size + 1 + 1, 0, none⟩) 5 5, .slice (some ⟨W.heap.size + 1 + 1 + 1, 0, none⟩) 5 5, .slice none 0 0] 27)) (W.heap.size + 1 + 1 + 1 + 1) 2 ⟨some ⟨W.heap.size, 0, none⟩, 1, 1, some ⟨W.heap.size + 1 + 1, 0, none⟩, 5, 5, some ⟨W.heap.size + 1 + 1 + 1, 0, none⟩, 5, 5, none, 0, 0⟩ ∧ Below W.heap.size W (((((W.alloc (.cells #[.int .i64 4] 3)).alloc (.cells #[.int .i64 0, .int .i64 2, .int .i64 0, .int .i64 0] 3)).alloc (.cells #[.int .i64 0, .string { data := #[] }, .slice none 0 0, .int .i64 0, .string { data := #[] }, .slice none 0 0, .int .i64 1, .string { data := #[113, 113, 113, 113] }, .slice none 0 0, .int .i64 0, .string { data := #[] }, .slice none 0 0, .int .i64 2, .string { data := #[] }, .slice (some ⟨W.heap.size + 1, 0, none⟩) 4 4] 80)).alloc (.cells #[.int .i64 0, .int .i64 0, .int .i64 1, .int .i64 0, .int .i64 1] 3)).alloc (.cells #[.int .i64 2, .slice (some ⟨W.heap.size, 0, none⟩) 1 1, .slice (some ⟨W.heap.size + 1 + 1, 0, none⟩) 5 5, .slice (some ⟨W.heap.size + 1 + 1 + 1, 0, none⟩) 5 5, .slice none 0 0] 27)) ∧ W.heap.size + 1 + 1 + 1 + 1 < (((((W.alloc (.cells #[.int .i64 4] 3)).alloc (.cells #[.int .i64 0, .int .i64 2, .int .i64 0, .int .i64 0] 3)).alloc (.cells #[.int .i64 0, .string { data := #[] }, .slice none 0 0, .int .i64 0, .string { data := #[] }, .slice none 0 0, .int .i64 1, .string { data := #[113, 113, 113, 113] }, .slice none 0 0, .int .i64 0, .string { data := #[] }, .slice none 0 0, .int .i64 2, .string { data := #[] }, .slice (some ⟨W.heap.size + 1, 0, none⟩) 4 4] 80)).alloc (.cells #[.int .i64 0, .int .i64 0, .int .i64 1, .int .i64 0, .int .i64 1] 3)).alloc (.cells #[.int .i64 2, .slice (some ⟨W.heap.size, 0, none⟩) 1 1, .slice (some ⟨W.heap.size + 1 + 1, 0, none⟩) 5 5, .slice (some ⟨W.heap.size + 1 + 1 + 1, 0, none⟩) 5 5, .slice none 0 0] 27)).heap.size := by
  have b1 := below1 W (.cells #[.int .i64 4] 3)
  have h1 := heap_alloc_new W (.cells #[.int .i64 4] 3)
  have s1 : (W.alloc (.cells #[.int .i64 4] 3)).heap.size = W.heap.size + 1 := World.size_alloc _ _
  generalize W.alloc (.cells #[.int .i64 4] 3) = W1 at *
  have b2 := below1 W1 (.cells #[.int .i64 0, .int .i64 2, .int .i64 0, .int .i64 0] 3)
  have h2 := heap_alloc_new W1 (.cells #[.int .i64 0, .int .i64 2, .int .i64 0, .int .i64 0] 3)
  have s2 : (W1.alloc (.cells #[.int .i64 0, .int .i64 2, .int .i64 0, .int .i64 0] 3)).heap.size = W1.heap.size + 1 := World.size_alloc _ _
  generalize W1.alloc (.cells #[.int .i64 0, .int .i64 2, .int .i64 0, .int .i64 0] 3) = W2 at *
  have b3 := below1 W2 (.cells #[.int .i64 0, .string { data := #[] }, .slice none 0 0, .int .i64 0, .string { data := #[] }, .slice none 0 0, .int .i64 1, .string { data := #[113, 113, 113, 113] }, .slice none 0 0, .int .i64 0, .string { data := #[] }, .slice none 0 0, .int .i64 2, .string { data := #[] }, .slice (some ⟨W.heap.size + 1, 0, none⟩) 4 4] 80)
  have h3 := heap_alloc_new W2 (.cells #[.int .i64 0, .string { data := #[] }, .slice none 0 0, .int .i64 0, .string { data := #[] }, .slice none 0 0, .int .i64 1, .string { data := #[113, 113, 113, 113] }, .slice none 0 0, .int .i64 0, .string { data := #[] }, .slice none 0 0, .int .i64 2, .string { data := #[] }, .slice (some ⟨W.heap.size + 1, 0, none⟩) 4 4] 80)
  have s3 : (W2.alloc (.cells #[.int .i64 0, .string { data := #[] }, .slice none 0 0, .int .i64 0, .string { data := #[] }, .slice none 0 0, .int .i64 1, .string { data := #[113, 113, 113, 113] }, .slice none 0 0, .int .i64 0, .string { data := #[] }, .slice none 0 0, .int .i64 2, .string { data := #[] }, .slice (some ⟨W.heap.size + 1, 0, none⟩) 4 4] 80)).heap.size = W2.heap.size + 1 := World.size_alloc _ _
  generalize W2.alloc (.cells #[.int .i64 0, .string { data := #[] }, .slice none 0 0, .int .i64 0, .string { data := #[] }, .slice none 0 0, .int .i64 1, .string { data := #[113, 113, 113, 113] }, .slice none 0 0, .int .i64 0, .string { data := #[] }, .slice none 0 0, .int .i64 2, .string { data := #[] }, .slice (some ⟨W.heap.size + 1, 0, none⟩) 4 4] 80) = W3 at *
  have b4 := below1 W3 (.cells #[.int .i64 0, .int .i64 0, .int .i64 1, .int .i64 0, .int .i64 1] 3)
  have h4 := heap_alloc_new W3 (.cells #[.int .i64 0, .int .i64 0, .int .i64 1, .int .i64 0, .int .i64 1] 3)
  have s4 : (W3.alloc (.cells #[.int .i64 0, .int .i64 0, .int .i64 1, .int .i64 0, .int .i64 1] 3)).heap.size = W3.heap.size + 1 := World.size_alloc _ _
  generalize W3.alloc (.cells #[.int .i64 0, .int .i64 0, .int .i64 1, .int .i64 0, .int .i64 1] 3) = W4 at *
  have b5 := below1 W4 (.cells #[.int .i64 2, .slice (some ⟨W.heap.size, 0, none⟩) 1 1, .slice (some ⟨W.heap.size + 1 + 1, 0, none⟩) 5 5, .slice (some ⟨W.heap.size + 1 + 1 + 1, 0, none⟩) 5 5, .slice none 0 0] 27)
  have h5 := heap_alloc_new W4 (.cells #[.int .i64 2, .slice (some ⟨W.heap.size, 0, none⟩) 1 1, .slice (some ⟨W.heap.size + 1 + 1, 0, none⟩) 5 5, .slice (some ⟨W.heap.size + 1 + 1 + 1, 0, none⟩) 5 5, .slice none 0 0] 27)
  have s5 : (W4.alloc (.cells #[.int .i64 2, .slice (some ⟨W.heap.size, 0, none⟩) 1 1, .slice (some ⟨W.heap.size + 1 + 1, 0, none⟩) 5 5, .slice (some ⟨W.heap.size + 1 + 1 + 1, 0, none⟩) 5 5, .slice none 0 0] 27)).heap.size = W4.heap.size + 1 := World.size_alloc _ _
  have x5 := Box.new W4 2 ⟨some ⟨W.heap.size, 0, none⟩, 1, 1, some ⟨W.heap.size + 1 + 1, 0, none⟩, 5, 5, some ⟨W.heap.size + 1 + 1 + 1, 0, none⟩, 5, 5, none, 0, 0⟩ 27
  dsimp only at x5
  generalize W4.alloc (.cells #[.int .i64 2, .slice (some ⟨W.heap.size, 0, none⟩) 1 1, .slice (some ⟨W.heap.size + 1 + 1, 0, none⟩) 5 5, .slice (some ⟨W.heap.size + 1 + 1 + 1, 0, none⟩) 5 5, .slice none 0 0] 27) = W5 at *
  have e4 : W4.heap.size = W.heap.size + 1 + 1 + 1 + 1 := by omega
  have e3 : W3.heap.size = W.heap.size + 1 + 1 + 1 := by omega
  have e2 : W2.heap.size = W.heap.size + 1 + 1 := by omega
  rw [s1] at h2
  rw [e2] at h3
  rw [e3] at h4
  rw [e4] at x5
  have k1 : W5.heap[W.heap.size]? = _ := (b5.block _ (by omega)).trans ((b4.block _ (by omega)).trans ((b3.block _ (by omega)).trans ((b2.block _ (by omega)).trans h1)))
  have k2 : W5.heap[W.heap.size + 1]? = _ := (b5.block _ (by omega)).trans ((b4.block _ (by omega)).trans ((b3.block _ (by omega)).trans h2))
  have k3 : W5.heap[W.heap.size + 1 + 1]? = _ := (b5.block _ (by omega)).trans ((b4.block _ (by omega)).trans h3)
  have k4 : W5.heap[W.heap.size + 1 + 1 + 1]? = _ := (b5.block _ (by omega)).trans h4
  refine ⟨⟨?_, Nat.le_refl _, by dsimp only; decide, ?_, Nat.le_refl _, by dsimp only; decide, ?_, Nat.le_refl _, by dsimp only; decide, SnapsR.none_, Nat.le_refl _, by dsimp only; decide⟩, x5, below_next (below_next (below_next (below_next b1 b2) b3) b4) b5, by omega⟩
  · exact Rd.of_block (size := 1) (n := 1) k1 (by omega) rfl rfl
  · refine SlotsR.of_block [⟨⟨0, { data := #[] }, []⟩, none, 0, 0⟩, ⟨⟨0, { data := #[] }, []⟩, none, 0, 0⟩, ⟨⟨1, { data := #[113, 113, 113, 113] }, []⟩, none, 0, 0⟩, ⟨⟨0, { data := #[] }, []⟩, none, 0, 0⟩, ⟨⟨2, { data := #[] }, [0, 2, 0, 0]⟩, some ⟨W.heap.size + 1, 0, none⟩, 4, 4⟩] _ k3 (by omega) rfl rfl rfl ?_
    intro x hx
    simp only [List.mem_cons, List.not_mem_nil, or_false] at hx
    rcases hx with rfl | rfl | rfl | rfl | rfl
    · exact ⟨by decide, by decide, by decide, Rd.none_⟩
    · exact ⟨by decide, by decide, by decide, Rd.none_⟩
    · exact ⟨by decide, by decide, by decide, Rd.none_⟩
    · exact ⟨by decide, by decide, by decide, Rd.none_⟩
    · exact ⟨by dsimp only; decide, by dsimp only; decide, by dsimp only; decide, Rd.of_block (size := 1) (n := 4) k2 (by omega) rfl rfl⟩
  · exact Rd.of_block (size := 1) (n := 5) k4 (by omega) rfl rfl
set_option maxRecDepth 100000 in
set_option maxHeartbeats 4000000 in
theorem moveBegun_any (w : World) : Calls Try.prog 23 #[] w fun e w' => e = .returned (.bool true) ∧ Below w.heap.size w w' := by
  have Ku' := fun W (hi : StrsR W W.heap.size (some ⟨w.heap.size, 0, none⟩) 6 mvL) => mup_any (some ⟨w.heap.size, 0, none⟩) 6 6 mvL W hi (by decide)
  have Kd' := fun v W (hi : ImgR W W.heap.size v (upI mvL)) => down_any v (upI mvL) W hi
  have Kp' := fun v W (hi : ImgR W W.heap.size v mvX) => mpack_any v mvX W hi
  have Kq' := fun h W (p : PairAt W h [2, 4] [0, 2, 2, 1, 1] [3, 0, 0, 0]) => down_any (pV h) _ W (p.img 6 rfl rfl rfl)
  obtain ⟨a0, a1, a2, a3⟩ := mv_a
  obtain ⟨p0, p1, p2, p3, p4⟩ := mv_p
  obtain ⟨u1, u2, u3⟩ := up_down a0
  rw [a0] at Ku'
  rw [u2, u3] at Kd'
  rw [p0] at Kp'
  rw [mv_d.1, mv_d.2] at Kq'
  clear a0 p0 u1 u2 u3
  have FA := Lib.hid (And.intro a1 (And.intro a2 a3))
  have FP := Lib.hid (And.intro p1 (And.intro p2 (And.intro p3 p4)))
  clear a1 a2 a3 p1 p2 p3 p4
  generalize upI mvL = za at *
  generalize packI mvX = zp at *
  dsimp only [imgV, pV] at Ku' Kd' Kp' Kq'
  have Ku := Lib.hid Ku'
  have Kd := Lib.hid Kd'
  have Kp := Lib.hid Kp'
  have Kq := Lib.hid Kq'
  clear Ku' Kd' Kp' Kq'
  have T := Lib.hid (below1 w (.cells #[.string { data := #[97, 97, 97, 97] }, .string { data := #[0, 0, 0, 0] }, .string { data := #[0, 0, 0, 0] }, .string { data := #[0, 0, 0, 0] }, .string { data := #[0, 0, 0, 0] }, .string { data := #[98, 98, 98, 98] }] 9))
  have RL := Lib.hid (mv_l w)
  go_enter Try.func23, Try.ntmps23
  dsimp only [List.append]
  go_wp2_with fail
  generalize (w.alloc (.cells #[.string { data := #[97, 97, 97, 97] }, .string { data := #[0, 0, 0, 0] }, .string { data := #[0, 0, 0, 0] }, .string { data := #[0, 0, 0, 0] }, .string { data := #[0, 0, 0, 0] }, .string { data := #[98, 98, 98, 98] }] 9)) = W1 at *
  refine (Ku.out _ RL.out).mono ?_
  rintro e w2 ⟨v, rfl, hF, hb⟩
  have T' := Lib.hid (below_next T.out hb)
  have RL' := Lib.hid (RL.out.next hb)
  clear T RL hb
  have T := T'
  have RL := RL'
  clear T' RL'
  have hx := Box.new w2 za.guest v 27
  have b1 := below1 w2 (.cells #[.int .i64 za.guest, .slice v.rA v.rn v.rc, .slice v.sA v.sn v.sc, .slice v.fA v.fn v.fc, .slice v.pA v.pn v.pc] 27)
  have hi2 := hF.imgR.next b1
  have hlt : w2.heap.size < (w2.alloc (.cells #[.int .i64 za.guest, .slice v.rA v.rn v.rc, .slice v.sA v.sn v.sc, .slice v.fA v.fn v.fc, .slice v.pA v.pn v.pc] 27)).heap.size := by simp
  have T' := Lib.hid (below_next T.out b1)
  have RL' := Lib.hid (RL.out.next b1)
  clear T RL b1
  have T := T'
  have RL := RL'
  clear T' RL'
  obtain ⟨arA, arn, arc, asA, asn, asc, afA, afn, afc, apA, apn, apc⟩ := v
  have Ia := Lib.hid hi2
  have Xa := Lib.hid hx
  have La := Lib.hid hlt
  dsimp only [imgV] at Ia Xa La T RL ⊢
  clear hF hx hi2 hlt
  obtain ⟨c3_0, c3_1, c3_2, c3_3, c3_4⟩ := Xa.out
  try dsimp only at c3_0 c3_1 c3_2 c3_3 c3_4
  go_wp2_with fail
  generalize (w2.alloc (.cells #[.int .i64 za.guest, .slice arA arn arc, .slice asA asn asc, .slice afA afn afc, .slice apA apn apc] 27)) = W4 at *
  refine (Kd.out _ _ Ia.out).mono ?_
  rintro e w5 ⟨Ad, nd, cd, rfl, ho, hb, _, _⟩
  clear c3_0 c3_1 c3_2 c3_3 c3_4
  have T' := Lib.hid (below_next T.out hb)
  have RL' := Lib.hid (RL.out.next hb)
  have Xa' := Lib.hid (Xa.out.keep hb La.out)
  have La' := Lib.hid (Nat.lt_of_lt_of_le La.out hb.size)
  have Ia' := Lib.hid (Ia.out.next hb)
  clear T RL Xa La Ia hb
  have T := T'
  have RL := RL'
  have Xa := Xa'
  have La := La'
  have Ia := Ia'
  clear T' RL' Xa' La' Ia'
  have hr := Rd.of_own ho
  have hnd : nd = 6 := by have := ho.1; simp [mvL] at this; omega
  subst hnd
  have RD := Lib.hid hr
  clear ho hr
  obtain ⟨i5, x5, t5, l5⟩ := mv_x w5
  have T' := Lib.hid (below_next T.out t5)
  have RL' := Lib.hid (RL.out.next t5)
  have Xa' := Lib.hid (Xa.out.keep t5 La.out)
  have La' := Lib.hid (Nat.lt_of_lt_of_le La.out t5.size)
  have Ia' := Lib.hid (Ia.out.next t5)
  have RD' := Lib.hid (RD.out.next t5)
  clear T RL Xa La Ia RD t5
  have T := T'
  have RL := RL'
  have Xa := Xa'
  have La := La'
  have Ia := Ia'
  have RD := RD'
  clear T' RL' Xa' La' Ia' RD'
  have IX := Lib.hid i5
  have XX := Lib.hid x5
  have LX := Lib.hid l5
  clear i5 x5 l5
  obtain ⟨c6_0, c6_1, c6_2, c6_3, c6_4⟩ := XX.out
  try dsimp only at c6_0 c6_1 c6_2 c6_3 c6_4
  clear c6_0 c6_1 c6_2 c6_3 c6_4
  obtain ⟨c7_0, c7_1, c7_2, c7_3, c7_4⟩ := XX.out
  try dsimp only at c7_0 c7_1 c7_2 c7_3 c7_4
  go_wp2_with fail
  generalize (((((w5.alloc (.cells #[.int .i64 4] 3)).alloc (.cells #[.int .i64 0, .int .i64 2, .int .i64 0, .int .i64 0] 3)).alloc (.cells #[.int .i64 0, .string { data := #[] }, .slice none 0 0, .int .i64 0, .string { data := #[] }, .slice none 0 0, .int .i64 1, .string { data := #[113, 113, 113, 113] }, .slice none 0 0, .int .i64 0, .string { data := #[] }, .slice none 0 0, .int .i64 2, .string { data := #[] }, .slice (some ⟨w5.heap.size + 1, 0, none⟩) 4 4] 80)).alloc (.cells #[.int .i64 0, .int .i64 0, .int .i64 1, .int .i64 0, .int .i64 1] 3)).alloc (.cells #[.int .i64 2, .slice (some ⟨w5.heap.size, 0, none⟩) 1 1, .slice (some ⟨w5.heap.size + 1 + 1, 0, none⟩) 5 5, .slice (some ⟨w5.heap.size + 1 + 1 + 1, 0, none⟩) 5 5, .slice none 0 0] 27)) = W8 at *
  refine (Kp.out _ _ IX.out).mono ?_
  rintro e w9 ⟨v, rfl, hF, hb⟩
  clear c7_0 c7_1 c7_2 c7_3 c7_4
  have T' := Lib.hid (below_next T.out hb)
  have RL' := Lib.hid (RL.out.next hb)
  have Xa' := Lib.hid (Xa.out.keep hb La.out)
  have La' := Lib.hid (Nat.lt_of_lt_of_le La.out hb.size)
  have Ia' := Lib.hid (Ia.out.next hb)
  have RD' := Lib.hid (RD.out.next hb)
  have XX' := Lib.hid (XX.out.keep hb LX.out)
  have LX' := Lib.hid (Nat.lt_of_lt_of_le LX.out hb.size)
  have IX' := Lib.hid (IX.out.next hb)
  clear T RL Xa La Ia RD XX LX IX hb
  have T := T'
  have RL := RL'
  have Xa := Xa'
  have La := La'
  have Ia := Ia'
  have RD := RD'
  have XX := XX'
  have LX := LX'
  have IX := IX'
  clear T' RL' Xa' La' Ia' RD' XX' LX' IX'
  have hx := Box.new w9 zp.guest v 27
  have b1 := below1 w9 (.cells #[.int .i64 zp.guest, .slice v.rA v.rn v.rc, .slice v.sA v.sn v.sc, .slice v.fA v.fn v.fc, .slice v.pA v.pn v.pc] 27)
  have hi2 := hF.imgR.next b1
  have hlt : w9.heap.size < (w9.alloc (.cells #[.int .i64 zp.guest, .slice v.rA v.rn v.rc, .slice v.sA v.sn v.sc, .slice v.fA v.fn v.fc, .slice v.pA v.pn v.pc] 27)).heap.size := by simp
  have T' := Lib.hid (below_next T.out b1)
  have RL' := Lib.hid (RL.out.next b1)
  have Xa' := Lib.hid (Xa.out.keep b1 La.out)
  have La' := Lib.hid (Nat.lt_of_lt_of_le La.out b1.size)
  have Ia' := Lib.hid (Ia.out.next b1)
  have RD' := Lib.hid (RD.out.next b1)
  have XX' := Lib.hid (XX.out.keep b1 LX.out)
  have LX' := Lib.hid (Nat.lt_of_lt_of_le LX.out b1.size)
  have IX' := Lib.hid (IX.out.next b1)
  clear T RL Xa La Ia RD XX LX IX b1
  have T := T'
  have RL := RL'
  have Xa := Xa'
  have La := La'
  have Ia := Ia'
  have RD := RD'
  have XX := XX'
  have LX := LX'
  have IX := IX'
  clear T' RL' Xa' La' Ia' RD' XX' LX' IX'
  obtain ⟨prA, prn, prc, psA, psn, psc, pfA, pfn, pfc, ppA, ppn, ppc⟩ := v
  have Ip := Lib.hid hi2
  have Xp := Lib.hid hx
  have Lp := Lib.hid hlt
  dsimp only [imgV] at Ip Xp Lp T RL Xa La Ia RD XX LX IX ⊢
  clear hF hx hi2 hlt
  go_wp2_with fail
  generalize (w9.alloc (.cells #[.int .i64 zp.guest, .slice prA prn prc, .slice psA psn psc, .slice pfA pfn pfc, .slice ppA ppn ppc] 27)) = W10 at *
  refine (pair_any _).mono ?_
  rintro e w11 ⟨rfl, hp, hb⟩
  have T' := Lib.hid (below_next T.out hb)
  have RL' := Lib.hid (RL.out.next hb)
  have Xa' := Lib.hid (Xa.out.keep hb La.out)
  have La' := Lib.hid (Nat.lt_of_lt_of_le La.out hb.size)
  have Ia' := Lib.hid (Ia.out.next hb)
  have RD' := Lib.hid (RD.out.next hb)
  have XX' := Lib.hid (XX.out.keep hb LX.out)
  have LX' := Lib.hid (Nat.lt_of_lt_of_le LX.out hb.size)
  have IX' := Lib.hid (IX.out.next hb)
  have Xp' := Lib.hid (Xp.out.keep hb Lp.out)
  have Lp' := Lib.hid (Nat.lt_of_lt_of_le Lp.out hb.size)
  have Ip' := Lib.hid (Ip.out.next hb)
  clear T RL Xa La Ia RD XX LX IX Xp Lp Ip hb
  have T := T'
  have RL := RL'
  have Xa := Xa'
  have La := La'
  have Ia := Ia'
  have RD := RD'
  have XX := XX'
  have LX := LX'
  have IX := IX'
  have Xp := Xp'
  have Lp := Lp'
  have Ip := Ip'
  clear T' RL' Xa' La' Ia' RD' XX' LX' IX' Xp' Lp' Ip'
  go_wp2_with fail
  refine (Kq.out _ _ hp).mono ?_
  rintro e w12 ⟨Aq, nq, cq, rfl, ho, hb, _, _⟩
  clear ho hp
  have T' := Lib.hid (below_next T.out hb)
  have RL' := Lib.hid (RL.out.next hb)
  have Xa' := Lib.hid (Xa.out.keep hb La.out)
  have La' := Lib.hid (Nat.lt_of_lt_of_le La.out hb.size)
  have Ia' := Lib.hid (Ia.out.next hb)
  have RD' := Lib.hid (RD.out.next hb)
  have XX' := Lib.hid (XX.out.keep hb LX.out)
  have LX' := Lib.hid (Nat.lt_of_lt_of_le LX.out hb.size)
  have IX' := Lib.hid (IX.out.next hb)
  have Xp' := Lib.hid (Xp.out.keep hb Lp.out)
  have Lp' := Lib.hid (Nat.lt_of_lt_of_le Lp.out hb.size)
  have Ip' := Lib.hid (Ip.out.next hb)
  clear T RL Xa La Ia RD XX LX IX Xp Lp Ip hb
  have T := T'
  have RL := RL'
  have Xa := Xa'
  have La := La'
  have Ia := Ia'
  have RD := RD'
  have XX := XX'
  have LX := LX'
  have IX := IX'
  have Xp := Xp'
  have Lp := Lp'
  have Ip := Ip'
  clear T' RL' Xa' La' Ia' RD' XX' LX' IX' Xp' Lp' Ip'
  obtain ⟨fa1, fa2, fa3⟩ := FA.out
  obtain ⟨fp1, fp2, fp3, fp4⟩ := FP.out
  have Ia' := Ia.out
  have Ip' := Ip.out
  obtain ⟨ab, ao, sa, atA, atn, atc, hAa, la, hsa, _, _, da2, rda⟩ := slot_at Ia' (k := 3) (by omega)
  rw [hsa, Option.map_some] at fa3
  injection fa3 with fa3
  rw [fa3] at rda
  have ea : atn = 4 := by have := rda.1; simp [ints] at this; omega
  subst ea
  obtain ⟨pb, po, sp, ptA, ptn, ptc, hAp, lp, hsp, _, _, dp2, rdp⟩ := slot_at Ip' (k := 2) (by omega)
  rw [hsp, Option.map_some] at fp3
  injection fp3 with fp3
  rw [fp3] at rdp
  have ep : ptn = 4 := by have := rdp.1; simp [ints] at this; omega
  subst ep
  have ha : asn = 5 := by have := Ia'.slen; dsimp only at this; omega
  have hpz : psn = 3 := by have := Ip'.slen; dsimp only at this; omega
  have har : arn = 2 := by have := Ia'.rlen; rw [fa2] at this; simpa using this.symm
  have hpr : prn = 1 := by have := Ip'.rlen; rw [fp2] at this; simpa using this.symm
  have hpf : pfn = 3 := by have := Ip'.flen; rw [fp4] at this; simpa using this.symm
  have RAR := Lib.hid (show Rd _ _ 1 arA arn (ints [1, 3]) from by rw [← fa2]; exact Ia'.root)
  have RPR := Lib.hid (show Rd _ _ 1 prA prn (ints [2]) from by rw [← fp2]; exact Ip'.root)
  have RPF := Lib.hid (show Rd _ _ 1 pfA pfn (ints [0, 1, 1]) from by rw [← fp4]; exact Ip'.refs)
  have RAT := Lib.hid rda
  have RPT := Lib.hid rdp
  dsimp only at hAa hAp
  subst hAa hAp ha hpz har hpr hpf
  have CA := Lib.hid da2
  have CP := Lib.hid dp2
  have LCA := Lib.hid la
  have LCP := Lib.hid lp
  clear da2 dp2 la lp rda rdp Ia' Ip' hsa hsp fa1 fa2 fa3 fp1 fp2 fp3 fp4
  obtain ⟨c13_0, c13_1, c13_2, c13_3, c13_4⟩ := Xa.out
  try dsimp only at c13_0 c13_1 c13_2 c13_3 c13_4
  obtain ⟨c14_0, c14_1, c14_2, c14_3, c14_4⟩ := Xp.out
  try dsimp only at c14_0 c14_1 c14_2 c14_3 c14_4
  have d15 := CA.out
  have d16 := CP.out
  have S' := sameInts_any arA (some ⟨w12.heap.size, 0, none⟩) 2 2 arc 2 [1, 3] [1, 3] (w12.alloc (.cells #[.int .i64 1, .int .i64 3] 3)) (RAR.out.next (below1 _ _)) (Rd.of_block (heap_alloc_new w12 _) (by simp) rfl rfl) (by omega) (by omega)
  rw [World.size_alloc] at S'
  have SS := Lib.hid S'
  clear S'
  go_wp2_with fail
  refine SS.out.mono ?_
  rintro e w17 ⟨rfl, hb0⟩
  have hb := (below1 w12 (.cells #[.int .i64 1, .int .i64 3] 3)).trans (hb0.mono (by simp))
  clear hb0 SS
  clear c13_0 c13_1 c13_2 c13_3 c13_4 c14_0 c14_1 c14_2 c14_3 c14_4 d15 d16
  have T' := Lib.hid (below_next T.out hb)
  have RL' := Lib.hid (RL.out.next hb)
  have Xa' := Lib.hid (Xa.out.keep hb La.out)
  have La' := Lib.hid (Nat.lt_of_lt_of_le La.out hb.size)
  have Ia' := Lib.hid (Ia.out.next hb)
  have RD' := Lib.hid (RD.out.next hb)
  have XX' := Lib.hid (XX.out.keep hb LX.out)
  have LX' := Lib.hid (Nat.lt_of_lt_of_le LX.out hb.size)
  have IX' := Lib.hid (IX.out.next hb)
  have Xp' := Lib.hid (Xp.out.keep hb Lp.out)
  have Lp' := Lib.hid (Nat.lt_of_lt_of_le Lp.out hb.size)
  have Ip' := Lib.hid (Ip.out.next hb)
  have RAR' := Lib.hid (RAR.out.next hb)
  have RPR' := Lib.hid (RPR.out.next hb)
  have RPF' := Lib.hid (RPF.out.next hb)
  have RAT' := Lib.hid (RAT.out.next hb)
  have RPT' := Lib.hid (RPT.out.next hb)
  have CA' := Lib.hid ((hb.cell LCA.out).trans CA.out)
  have LCA' := Lib.hid (Nat.lt_of_lt_of_le LCA.out hb.size)
  have CP' := Lib.hid ((hb.cell LCP.out).trans CP.out)
  have LCP' := Lib.hid (Nat.lt_of_lt_of_le LCP.out hb.size)
  clear T RL Xa La Ia RD XX LX IX Xp Lp Ip RAR RPR RPF RAT RPT CA LCA CP LCP hb
  have T := T'
  have RL := RL'
  have Xa := Xa'
  have La := La'
  have Ia := Ia'
  have RD := RD'
  have XX := XX'
  have LX := LX'
  have IX := IX'
  have Xp := Xp'
  have Lp := Lp'
  have Ip := Ip'
  have RAR := RAR'
  have RPR := RPR'
  have RPF := RPF'
  have RAT := RAT'
  have RPT := RPT'
  have CA := CA'
  have LCA := LCA'
  have CP := CP'
  have LCP := LCP'
  clear T' RL' Xa' La' Ia' RD' XX' LX' IX' Xp' Lp' Ip' RAR' RPR' RPF' RAT' RPT' CA' LCA' CP' LCP'
  obtain ⟨c18_0, c18_1, c18_2, c18_3, c18_4⟩ := Xa.out
  try dsimp only at c18_0 c18_1 c18_2 c18_3 c18_4
  obtain ⟨c19_0, c19_1, c19_2, c19_3, c19_4⟩ := Xp.out
  try dsimp only at c19_0 c19_1 c19_2 c19_3 c19_4
  have d20 := CA.out
  have d21 := CP.out
  have S' := sameInts_any atA (some ⟨w17.heap.size, 0, none⟩) 4 4 atc 4 [0, 4, 0, 0] [0, 4, 0, 0] (w17.alloc (.cells #[.int .i64 0, .int .i64 4, .int .i64 0, .int .i64 0] 3)) (RAT.out.next (below1 _ _)) (Rd.of_block (heap_alloc_new w17 _) (by simp) rfl rfl) (by omega) (by omega)
  rw [World.size_alloc] at S'
  have SS := Lib.hid S'
  clear S'
  go_wp2_with fail
  refine SS.out.mono ?_
  rintro e w22 ⟨rfl, hb0⟩
  have hb := (below1 w17 (.cells #[.int .i64 0, .int .i64 4, .int .i64 0, .int .i64 0] 3)).trans (hb0.mono (by simp))
  clear hb0 SS
  clear c18_0 c18_1 c18_2 c18_3 c18_4 c19_0 c19_1 c19_2 c19_3 c19_4 d20 d21
  have T' := Lib.hid (below_next T.out hb)
  have RL' := Lib.hid (RL.out.next hb)
  have Xa' := Lib.hid (Xa.out.keep hb La.out)
  have La' := Lib.hid (Nat.lt_of_lt_of_le La.out hb.size)
  have Ia' := Lib.hid (Ia.out.next hb)
  have RD' := Lib.hid (RD.out.next hb)
  have XX' := Lib.hid (XX.out.keep hb LX.out)
  have LX' := Lib.hid (Nat.lt_of_lt_of_le LX.out hb.size)
  have IX' := Lib.hid (IX.out.next hb)
  have Xp' := Lib.hid (Xp.out.keep hb Lp.out)
  have Lp' := Lib.hid (Nat.lt_of_lt_of_le Lp.out hb.size)
  have Ip' := Lib.hid (Ip.out.next hb)
  have RAR' := Lib.hid (RAR.out.next hb)
  have RPR' := Lib.hid (RPR.out.next hb)
  have RPF' := Lib.hid (RPF.out.next hb)
  have RAT' := Lib.hid (RAT.out.next hb)
  have RPT' := Lib.hid (RPT.out.next hb)
  have CA' := Lib.hid ((hb.cell LCA.out).trans CA.out)
  have LCA' := Lib.hid (Nat.lt_of_lt_of_le LCA.out hb.size)
  have CP' := Lib.hid ((hb.cell LCP.out).trans CP.out)
  have LCP' := Lib.hid (Nat.lt_of_lt_of_le LCP.out hb.size)
  clear T RL Xa La Ia RD XX LX IX Xp Lp Ip RAR RPR RPF RAT RPT CA LCA CP LCP hb
  have T := T'
  have RL := RL'
  have Xa := Xa'
  have La := La'
  have Ia := Ia'
  have RD := RD'
  have XX := XX'
  have LX := LX'
  have IX := IX'
  have Xp := Xp'
  have Lp := Lp'
  have Ip := Ip'
  have RAR := RAR'
  have RPR := RPR'
  have RPF := RPF'
  have RAT := RAT'
  have RPT := RPT'
  have CA := CA'
  have LCA := LCA'
  have CP := CP'
  have LCP := LCP'
  clear T' RL' Xa' La' Ia' RD' XX' LX' IX' Xp' Lp' Ip' RAR' RPR' RPF' RAT' RPT' CA' LCA' CP' LCP'
  obtain ⟨c23_0, c23_1, c23_2, c23_3, c23_4⟩ := Xa.out
  try dsimp only at c23_0 c23_1 c23_2 c23_3 c23_4
  obtain ⟨c24_0, c24_1, c24_2, c24_3, c24_4⟩ := Xp.out
  try dsimp only at c24_0 c24_1 c24_2 c24_3 c24_4
  have d25 := CA.out
  have d26 := CP.out
  go_wp2_with fail
  refine (samePages_any Ad (some ⟨w.heap.size, 0, none⟩) 6 6 cd 6 mvL mvL _ RD.out RL.out.1 (by decide) (by decide)).mono ?_
  rintro e w27 ⟨rfl, hb⟩
  simp only [decide_true]
  clear c23_0 c23_1 c23_2 c23_3 c23_4 c24_0 c24_1 c24_2 c24_3 c24_4 d25 d26
  have T' := Lib.hid (below_next T.out hb)
  have RL' := Lib.hid (RL.out.next hb)
  have Xa' := Lib.hid (Xa.out.keep hb La.out)
  have La' := Lib.hid (Nat.lt_of_lt_of_le La.out hb.size)
  have Ia' := Lib.hid (Ia.out.next hb)
  have RD' := Lib.hid (RD.out.next hb)
  have XX' := Lib.hid (XX.out.keep hb LX.out)
  have LX' := Lib.hid (Nat.lt_of_lt_of_le LX.out hb.size)
  have IX' := Lib.hid (IX.out.next hb)
  have Xp' := Lib.hid (Xp.out.keep hb Lp.out)
  have Lp' := Lib.hid (Nat.lt_of_lt_of_le Lp.out hb.size)
  have Ip' := Lib.hid (Ip.out.next hb)
  have RAR' := Lib.hid (RAR.out.next hb)
  have RPR' := Lib.hid (RPR.out.next hb)
  have RPF' := Lib.hid (RPF.out.next hb)
  have RAT' := Lib.hid (RAT.out.next hb)
  have RPT' := Lib.hid (RPT.out.next hb)
  have CA' := Lib.hid ((hb.cell LCA.out).trans CA.out)
  have LCA' := Lib.hid (Nat.lt_of_lt_of_le LCA.out hb.size)
  have CP' := Lib.hid ((hb.cell LCP.out).trans CP.out)
  have LCP' := Lib.hid (Nat.lt_of_lt_of_le LCP.out hb.size)
  clear T RL Xa La Ia RD XX LX IX Xp Lp Ip RAR RPR RPF RAT RPT CA LCA CP LCP hb
  have T := T'
  have RL := RL'
  have Xa := Xa'
  have La := La'
  have Ia := Ia'
  have RD := RD'
  have XX := XX'
  have LX := LX'
  have IX := IX'
  have Xp := Xp'
  have Lp := Lp'
  have Ip := Ip'
  have RAR := RAR'
  have RPR := RPR'
  have RPF := RPF'
  have RAT := RAT'
  have RPT := RPT'
  have CA := CA'
  have LCA := LCA'
  have CP := CP'
  have LCP := LCP'
  clear T' RL' Xa' La' Ia' RD' XX' LX' IX' Xp' Lp' Ip' RAR' RPR' RPF' RAT' RPT' CA' LCA' CP' LCP'
  obtain ⟨c28_0, c28_1, c28_2, c28_3, c28_4⟩ := Xa.out
  try dsimp only at c28_0 c28_1 c28_2 c28_3 c28_4
  obtain ⟨c29_0, c29_1, c29_2, c29_3, c29_4⟩ := Xp.out
  try dsimp only at c29_0 c29_1 c29_2 c29_3 c29_4
  have d30 := CA.out
  have d31 := CP.out
  have S' := sameInts_any prA (some ⟨w27.heap.size, 0, none⟩) 1 1 prc 1 [2] [2] (w27.alloc (.cells #[.int .i64 2] 3)) (RPR.out.next (below1 _ _)) (Rd.of_block (heap_alloc_new w27 _) (by simp) rfl rfl) (by omega) (by omega)
  rw [World.size_alloc] at S'
  have SS := Lib.hid S'
  clear S'
  go_wp2_with fail
  refine SS.out.mono ?_
  rintro e w32 ⟨rfl, hb0⟩
  have hb := (below1 w27 (.cells #[.int .i64 2] 3)).trans (hb0.mono (by simp))
  clear hb0 SS
  clear c28_0 c28_1 c28_2 c28_3 c28_4 c29_0 c29_1 c29_2 c29_3 c29_4 d30 d31
  have T' := Lib.hid (below_next T.out hb)
  have RL' := Lib.hid (RL.out.next hb)
  have Xa' := Lib.hid (Xa.out.keep hb La.out)
  have La' := Lib.hid (Nat.lt_of_lt_of_le La.out hb.size)
  have Ia' := Lib.hid (Ia.out.next hb)
  have RD' := Lib.hid (RD.out.next hb)
  have XX' := Lib.hid (XX.out.keep hb LX.out)
  have LX' := Lib.hid (Nat.lt_of_lt_of_le LX.out hb.size)
  have IX' := Lib.hid (IX.out.next hb)
  have Xp' := Lib.hid (Xp.out.keep hb Lp.out)
  have Lp' := Lib.hid (Nat.lt_of_lt_of_le Lp.out hb.size)
  have Ip' := Lib.hid (Ip.out.next hb)
  have RAR' := Lib.hid (RAR.out.next hb)
  have RPR' := Lib.hid (RPR.out.next hb)
  have RPF' := Lib.hid (RPF.out.next hb)
  have RAT' := Lib.hid (RAT.out.next hb)
  have RPT' := Lib.hid (RPT.out.next hb)
  have CA' := Lib.hid ((hb.cell LCA.out).trans CA.out)
  have LCA' := Lib.hid (Nat.lt_of_lt_of_le LCA.out hb.size)
  have CP' := Lib.hid ((hb.cell LCP.out).trans CP.out)
  have LCP' := Lib.hid (Nat.lt_of_lt_of_le LCP.out hb.size)
  clear T RL Xa La Ia RD XX LX IX Xp Lp Ip RAR RPR RPF RAT RPT CA LCA CP LCP hb
  have T := T'
  have RL := RL'
  have Xa := Xa'
  have La := La'
  have Ia := Ia'
  have RD := RD'
  have XX := XX'
  have LX := LX'
  have IX := IX'
  have Xp := Xp'
  have Lp := Lp'
  have Ip := Ip'
  have RAR := RAR'
  have RPR := RPR'
  have RPF := RPF'
  have RAT := RAT'
  have RPT := RPT'
  have CA := CA'
  have LCA := LCA'
  have CP := CP'
  have LCP := LCP'
  clear T' RL' Xa' La' Ia' RD' XX' LX' IX' Xp' Lp' Ip' RAR' RPR' RPF' RAT' RPT' CA' LCA' CP' LCP'
  obtain ⟨c33_0, c33_1, c33_2, c33_3, c33_4⟩ := Xa.out
  try dsimp only at c33_0 c33_1 c33_2 c33_3 c33_4
  obtain ⟨c34_0, c34_1, c34_2, c34_3, c34_4⟩ := Xp.out
  try dsimp only at c34_0 c34_1 c34_2 c34_3 c34_4
  have d35 := CA.out
  have d36 := CP.out
  have S' := sameInts_any ptA (some ⟨w32.heap.size, 0, none⟩) 4 4 ptc 4 [0, 1, 0, 0] [0, 1, 0, 0] (w32.alloc (.cells #[.int .i64 0, .int .i64 1, .int .i64 0, .int .i64 0] 3)) (RPT.out.next (below1 _ _)) (Rd.of_block (heap_alloc_new w32 _) (by simp) rfl rfl) (by omega) (by omega)
  rw [World.size_alloc] at S'
  have SS := Lib.hid S'
  clear S'
  go_wp2_with fail
  refine SS.out.mono ?_
  rintro e w37 ⟨rfl, hb0⟩
  have hb := (below1 w32 (.cells #[.int .i64 0, .int .i64 1, .int .i64 0, .int .i64 0] 3)).trans (hb0.mono (by simp))
  clear hb0 SS
  clear c33_0 c33_1 c33_2 c33_3 c33_4 c34_0 c34_1 c34_2 c34_3 c34_4 d35 d36
  have T' := Lib.hid (below_next T.out hb)
  have RL' := Lib.hid (RL.out.next hb)
  have Xa' := Lib.hid (Xa.out.keep hb La.out)
  have La' := Lib.hid (Nat.lt_of_lt_of_le La.out hb.size)
  have Ia' := Lib.hid (Ia.out.next hb)
  have RD' := Lib.hid (RD.out.next hb)
  have XX' := Lib.hid (XX.out.keep hb LX.out)
  have LX' := Lib.hid (Nat.lt_of_lt_of_le LX.out hb.size)
  have IX' := Lib.hid (IX.out.next hb)
  have Xp' := Lib.hid (Xp.out.keep hb Lp.out)
  have Lp' := Lib.hid (Nat.lt_of_lt_of_le Lp.out hb.size)
  have Ip' := Lib.hid (Ip.out.next hb)
  have RAR' := Lib.hid (RAR.out.next hb)
  have RPR' := Lib.hid (RPR.out.next hb)
  have RPF' := Lib.hid (RPF.out.next hb)
  have RAT' := Lib.hid (RAT.out.next hb)
  have RPT' := Lib.hid (RPT.out.next hb)
  have CA' := Lib.hid ((hb.cell LCA.out).trans CA.out)
  have LCA' := Lib.hid (Nat.lt_of_lt_of_le LCA.out hb.size)
  have CP' := Lib.hid ((hb.cell LCP.out).trans CP.out)
  have LCP' := Lib.hid (Nat.lt_of_lt_of_le LCP.out hb.size)
  clear T RL Xa La Ia RD XX LX IX Xp Lp Ip RAR RPR RPF RAT RPT CA LCA CP LCP hb
  have T := T'
  have RL := RL'
  have Xa := Xa'
  have La := La'
  have Ia := Ia'
  have RD := RD'
  have XX := XX'
  have LX := LX'
  have IX := IX'
  have Xp := Xp'
  have Lp := Lp'
  have Ip := Ip'
  have RAR := RAR'
  have RPR := RPR'
  have RPF := RPF'
  have RAT := RAT'
  have RPT := RPT'
  have CA := CA'
  have LCA := LCA'
  have CP := CP'
  have LCP := LCP'
  clear T' RL' Xa' La' Ia' RD' XX' LX' IX' Xp' Lp' Ip' RAR' RPR' RPF' RAT' RPT' CA' LCA' CP' LCP'
  obtain ⟨c38_0, c38_1, c38_2, c38_3, c38_4⟩ := Xa.out
  try dsimp only at c38_0 c38_1 c38_2 c38_3 c38_4
  obtain ⟨c39_0, c39_1, c39_2, c39_3, c39_4⟩ := Xp.out
  try dsimp only at c39_0 c39_1 c39_2 c39_3 c39_4
  have d40 := CA.out
  have d41 := CP.out
  have S' := sameInts_any pfA (some ⟨w37.heap.size, 0, none⟩) 3 3 pfc 3 [0, 1, 1] [0, 1, 1] (w37.alloc (.cells #[.int .i64 0, .int .i64 1, .int .i64 1] 3)) (RPF.out.next (below1 _ _)) (Rd.of_block (heap_alloc_new w37 _) (by simp) rfl rfl) (by omega) (by omega)
  rw [World.size_alloc] at S'
  have SS := Lib.hid S'
  clear S'
  go_wp2_with fail
  refine SS.out.mono ?_
  rintro e w42 ⟨rfl, hb0⟩
  have hb := (below1 w37 (.cells #[.int .i64 0, .int .i64 1, .int .i64 1] 3)).trans (hb0.mono (by simp))
  clear hb0 SS
  clear c38_0 c38_1 c38_2 c38_3 c38_4 c39_0 c39_1 c39_2 c39_3 c39_4 d40 d41
  have T' := Lib.hid (below_next T.out hb)
  have RL' := Lib.hid (RL.out.next hb)
  have Xa' := Lib.hid (Xa.out.keep hb La.out)
  have La' := Lib.hid (Nat.lt_of_lt_of_le La.out hb.size)
  have Ia' := Lib.hid (Ia.out.next hb)
  have RD' := Lib.hid (RD.out.next hb)
  have XX' := Lib.hid (XX.out.keep hb LX.out)
  have LX' := Lib.hid (Nat.lt_of_lt_of_le LX.out hb.size)
  have IX' := Lib.hid (IX.out.next hb)
  have Xp' := Lib.hid (Xp.out.keep hb Lp.out)
  have Lp' := Lib.hid (Nat.lt_of_lt_of_le Lp.out hb.size)
  have Ip' := Lib.hid (Ip.out.next hb)
  have RAR' := Lib.hid (RAR.out.next hb)
  have RPR' := Lib.hid (RPR.out.next hb)
  have RPF' := Lib.hid (RPF.out.next hb)
  have RAT' := Lib.hid (RAT.out.next hb)
  have RPT' := Lib.hid (RPT.out.next hb)
  have CA' := Lib.hid ((hb.cell LCA.out).trans CA.out)
  have LCA' := Lib.hid (Nat.lt_of_lt_of_le LCA.out hb.size)
  have CP' := Lib.hid ((hb.cell LCP.out).trans CP.out)
  have LCP' := Lib.hid (Nat.lt_of_lt_of_le LCP.out hb.size)
  clear T RL Xa La Ia RD XX LX IX Xp Lp Ip RAR RPR RPF RAT RPT CA LCA CP LCP hb
  have T := T'
  have RL := RL'
  have Xa := Xa'
  have La := La'
  have Ia := Ia'
  have RD := RD'
  have XX := XX'
  have LX := LX'
  have IX := IX'
  have Xp := Xp'
  have Lp := Lp'
  have Ip := Ip'
  have RAR := RAR'
  have RPR := RPR'
  have RPF := RPF'
  have RAT := RAT'
  have RPT := RPT'
  have CA := CA'
  have LCA := LCA'
  have CP := CP'
  have LCP := LCP'
  clear T' RL' Xa' La' Ia' RD' XX' LX' IX' Xp' Lp' Ip' RAR' RPR' RPF' RAT' RPT' CA' LCA' CP' LCP'
  go_wp2_with fail
  go_ret
  exact ⟨rfl, T.out⟩
end Go.Proofs.Ytmdjoafbckphfaa
