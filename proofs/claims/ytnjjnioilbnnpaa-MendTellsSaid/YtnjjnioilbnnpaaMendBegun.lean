/- The laws' mendBegun. No conditions. -/
import Derived.Test.YtnjjnioilbnnpaaMend1
import Derived.Test.YtnjjnioilbnnpaaSameImg
import Derived.Test.YtnjjnioilbnnpaaTreeBegun
namespace Go.Proofs.Ytnjjnioilbnnpaa
open Go.RowKit Sl

def xImg : Img := ⟨6, [2, 0], pSlots [3, 0, 0, 0], [0, 9, 9, 9, 9], [⟨{ data := #[111, 108, 100] }, 4, [2]⟩]⟩
theorem x_facts : shapeErr xImg = 0 ∧ leaksV xImg = 2 ∧ (settled xImg).refs = [0, 2, 2, 0, 0] ∧ checkErr (settled xImg) = 0 ∧ ((settled xImg).slots.map (·.kind)) = [0, 1, 2, 0, 0] ∧ (settled xImg).guest = 6 ∧ (settled xImg).slots.length = 5 := by decide +kernel
set_option maxRecDepth 100000 in
set_option maxHeartbeats 4000000 in
theorem mendBegun_any (w : World) : Calls Try.prog 27 #[] w fun e w' => e = .returned (.bool true) ∧ Below w.heap.size w w' := by
  go_enter Try.func27, Try.ntmps27
  go_wp2_with fail
  refine (pair_any _).mono ?_
  rintro e w1 ⟨rfl, hp1, hb1⟩
  have T1 := Lib.hid hb1
  have hz1 := hp1.lt
  clear hb1
  have y1 := fun o o' => ((below_next (below1 w1 o) (below1 _ o')).cell (p := ⟨w.heap.size + 1, 1, none⟩) (by dsimp only; omega)).trans (hp1.root.cell (k := 1) (x := 4) rfl)
  have y2 := fun o o' => ((below_next (below1 w1 o) (below1 _ o')).frozen (p := ⟨w.heap.size + 1, 1, none⟩) (by dsimp only; omega)).trans (hp1.root.frozen 1)
  obtain ⟨W3, hW3⟩ : ∃ W3, ((w1.alloc (.cells #[.int .i64 6, .slice (some ⟨w.heap.size + 1, 0, none⟩) 2 2, .slice (some ⟨w.heap.size + 1 + 1 + 1 + 1, 0, none⟩) 5 5, .slice (some ⟨w1.heap.size + 1, 0, none⟩) 5 5, .slice (some ⟨w.heap.size + 1 + 1 + 1 + 1 + 1 + 1 + 1, 0, none⟩) 1 1] 26)).alloc (.cells #[.int .i64 0, .int .i64 9, .int .i64 9, .int .i64 9, .int .i64 9] 3)).setCell ⟨w.heap.size + 1, 1, none⟩ (.int .i64 0) = W3 := ⟨_, rfl⟩
  have hb13 : Below w1.heap.size w1 ((w1.alloc (.cells #[.int .i64 6, .slice (some ⟨w.heap.size + 1, 0, none⟩) 2 2, .slice (some ⟨w.heap.size + 1 + 1 + 1 + 1, 0, none⟩) 5 5, .slice (some ⟨w1.heap.size + 1, 0, none⟩) 5 5, .slice (some ⟨w.heap.size + 1 + 1 + 1 + 1 + 1 + 1 + 1, 0, none⟩) 1 1] 26)).alloc (.cells #[.int .i64 0, .int .i64 9, .int .i64 9, .int .i64 9, .int .i64 9] 3)) := below_next (below1 _ _) (below1 _ _)
  have hz3 : W3.heap.size = w1.heap.size + 2 := by rw [← hW3]; simp [World.setCell]
  have hp3 : PairAt W3 w.heap.size [2, 0] [0, 2, 2, 1, 1] [3, 0, 0, 0] := by rw [← hW3]; exact (hp1.keep hb13 (by omega)).setRoot 1 0
  have hrow : RowB W3 (w1.heap.size + 1) [0, 9, 9, 9, 9] := by
    rw [← hW3]
    have := RowB.new (w1.alloc (.cells #[.int .i64 6, .slice (some ⟨w.heap.size + 1, 0, none⟩) 2 2, .slice (some ⟨w.heap.size + 1 + 1 + 1 + 1, 0, none⟩) 5 5, .slice (some ⟨w1.heap.size + 1, 0, none⟩) 5 5, .slice (some ⟨w.heap.size + 1 + 1 + 1 + 1 + 1 + 1 + 1, 0, none⟩) 1 1] 26)) [0, 9, 9, 9, 9]
    rw [World.size_alloc] at this
    exact this.other ⟨w.heap.size + 1, 1, none⟩ _ (by dsimp only; omega)
  have hbx : Box W3 w1.heap.size 6 ⟨some ⟨w.heap.size + 1, 0, none⟩, 2, 2, some ⟨w.heap.size + 1 + 1 + 1 + 1, 0, none⟩, 5, 5, some ⟨w1.heap.size + 1, 0, none⟩, 5, 5, some ⟨w.heap.size + 1 + 1 + 1 + 1 + 1 + 1 + 1, 0, none⟩, 1, 1⟩ := by
    rw [← hW3]
    exact ((Box.new w1 6 ⟨some ⟨w.heap.size + 1, 0, none⟩, 2, 2, some ⟨w.heap.size + 1 + 1 + 1 + 1, 0, none⟩, 5, 5, some ⟨w1.heap.size + 1, 0, none⟩, 5, 5, some ⟨w.heap.size + 1 + 1 + 1 + 1 + 1 + 1 + 1, 0, none⟩, 1, 1⟩ 26).keep (below1 _ (.cells #[.int .i64 0, .int .i64 9, .int .i64 9, .int .i64 9, .int .i64 9] 3)) (by simp)).set _ _ (by dsimp only; omega)
  have I0 := hp3.img 6 rfl rfl rfl
  have I3 : ImgR W3 W3.heap.size ⟨some ⟨w.heap.size + 1, 0, none⟩, 2, 2, some ⟨w.heap.size + 1 + 1 + 1 + 1, 0, none⟩, 5, 5, some ⟨w1.heap.size + 1, 0, none⟩, 5, 5, some ⟨w.heap.size + 1 + 1 + 1 + 1 + 1 + 1 + 1, 0, none⟩, 1, 1⟩ xImg := ⟨I0.root, I0.rle, I0.rcap, I0.slots, I0.sle, I0.scap, hrow.rd rfl, Nat.le_refl _, by show 5 ≤ 4611686018427387903 ∧ 5 ≤ 9223372036854775807; decide, I0.snaps, I0.ple, I0.pcap⟩
  have T3 := Lib.hid (show Below w.heap.size w W3 from by rw [← hW3]; exact ((T1.out.trans (hb13.mono T1.out.size)).setCell (p := ⟨w.heap.size + 1, 1, none⟩) (by dsimp only; omega) _))
  have K1' := leaks_any _ xImg W3 I3
  rw [x_facts.1, x_facts.2.1] at K1'
  have K1 := Lib.hid K1'
  have K2' := fun W (hb : Below W3.heap.size W3 W) => repair_any ⟨some ⟨w.heap.size + 1, 0, none⟩, 2, 2, some ⟨w.heap.size + 1 + 1 + 1 + 1, 0, none⟩, 5, 5, some ⟨w1.heap.size + 1, 0, none⟩, 5, 5, some ⟨w.heap.size + 1 + 1 + 1 + 1 + 1 + 1 + 1, 0, none⟩, 1, 1⟩ xImg W (I3.next hb)
  rw [show repairV xImg = settled xImg from by unfold repairV; rw [if_pos x_facts.1], x_facts.1] at K2'
  have XF' := x_facts
  generalize settled xImg = z at K2' XF'
  have XF := Lib.hid XF'
  have K2 := Lib.hid K2'
  dsimp only [imgV, xImg] at K1 K2
  clear XF'
  have hlt3 : w1.heap.size < W3.heap.size := by omega
  have HX3 := Lib.hid hbx
  have HP1 := Lib.hid hp1
  clear hb13 hp3 hrow hbx I0 I3 K1' K2' hp1 hz3 T1
  obtain ⟨g0, g1, g2, g3, g4⟩ := HX3.out
  dsimp only at g0 g1 g2 g3 g4
  go_wp2_with fail
  refine K1.out.mono ?_
  rintro e w4 ⟨rfl, hb4⟩
  have T4 := Lib.hid (below_next T3.out hb4)
  obtain ⟨b0, b1, b2, b3, b4⟩ := HX3.out.keep hb4 hlt3
  dsimp only at b0 b1 b2 b3 b4
  have H4 := Lib.hid hb4
  clear hb4 y1 y2 hW3 g0 g1 g2 g3 g4
  go_wp2_with fail
  refine (K2.out _ H4.out).mono ?_
  rintro e w5 ⟨v5, rfl, I5, hb5⟩
  have T5 := Lib.hid (below_next T4.out hb5)
  obtain ⟨f1, f2, f3, f4, f5, f6, f7⟩ := XF.out
  have hfn := I5.flen
  have hsn := I5.slen
  rw [f3] at hfn
  rw [f7] at hsn
  have hfn5 : v5.fn = 5 := hfn.symm
  have hsn5 : v5.sn = 5 := hsn.symm
  clear hfn hsn
  have hg := f6
  obtain ⟨rA, rn, rc, sA, sn, sc, fA, fn, fc, pA, pn, pc⟩ := v5
  dsimp only at hfn5 hsn5
  subst hfn5 hsn5
  have KC' := fun W (hb : Below w5.heap.size w5 W) => tcheck_any _ z W (I5.next hb)
  rw [f4] at KC'
  obtain ⟨p7, o7, s, tA, tn, tc, rfl, hp7, hx7, d0, d1, d2, hsv⟩ := I5.slots.at_ (k := 3) (by show 3 < 5; decide)
  have hk0 : s.kind = 0 := by
    have := congrArg (fun l => l[3]?) f5
    rw [List.getElem?_map, hx7] at this
    simpa using this
  rw [hk0] at d0
  have IR := I5.refs
  rw [f3] at IR
  dsimp only [imgV] at KC' d0 IR hp7 ⊢
  rw [hg] at KC' ⊢
  have KC := Lib.hid KC'
  have D0 := Lib.hid d0
  have HIR := Lib.hid IR
  have BB := Box.new w5 6 ⟨rA, rn, rc, some ⟨p7, o7, none⟩, 5, sc, fA, 5, fc, pA, pn, pc⟩ 26
  have HBB := Lib.hid BB
  have hlt5 : w5.heap.size < (w5.alloc (.cells #[.int .i64 6, .slice rA rn rc, .slice (some ⟨p7, o7, none⟩) 5 sc, .slice fA 5 fc, .slice pA pn pc] 26)).heap.size := by simp
  have hb56 := below1 w5 (.cells #[.int .i64 6, .slice rA rn rc, .slice (some ⟨p7, o7, none⟩) 5 sc, .slice fA 5 fc, .slice pA pn pc] 26)
  clear f1 f2 f3 f4 f5 f6 f7 hg hk0 d0 d1 d2 hsv hx7 IR BB KC' I5 b0 b1 b2 b3 b4 hb5 K1 K2 H4
  go_wp2_with fail
  refine (KC.out _ hb56).mono ?_
  rintro e w6 ⟨rfl, hb6⟩
  have U6 := Lib.hid (below_next hb56 hb6)
  have B6 := Lib.hid (HBB.out.keep hb6 hlt5)
  have hlt6 : w5.heap.size < w6.heap.size := by have := hb6.size; omega
  have S1 := Lib.hid (fun (T : TypeId) => sameInts_any fA (some ⟨w6.heap.size, 0, none⟩) 5 5 fc 5 [0, 2, 2, 0, 0] [0, 2, 2, 0, 0] (w6.alloc (.cells #[.int .i64 0, .int .i64 2, .int .i64 2, .int .i64 0, .int .i64 0] T)) ((HIR.out.next U6.out).next (below1 _ _)) (Rd.of_block (heap_alloc_new w6 _) (by simp) rfl rfl) (by omega) (by omega))
  obtain ⟨b0, b1, b2, b3, b4⟩ := B6.out
  dsimp only at b0 b1 b2 b3 b4
  clear hb6 hb56 KC HBB
  go_wp2_with fail
  refine (S1.out _).mono ?_
  rintro e w7 ⟨rfl, hb7⟩
  have hb67 : Below w6.heap.size w6 w7 := (below1 w6 _).trans (hb7.mono (by simp))
  have U7 := Lib.hid (below_next U6.out hb67)
  clear b0 b1 b2 b3 b4
  obtain ⟨b0, b1, b2, b3, b4⟩ := B6.out.keep hb67 hlt6
  dsimp only at b0 b1 b2 b3 b4
  have e7 := (U7.out.cell (p := ⟨p7, o7 + 3 * 3, none⟩) hp7).trans D0.out
  clear hb7 hb67
  go_wp2_with fail
  go_ret
  exact ⟨rfl, below_next T5.out U7.out⟩
end Go.Proofs.Ytnjjnioilbnnpaa
