/- The laws PagesTells and PagesPatches, walked. No conditions beside the reading of the arguments. -/
import Derived.Test.YtiodlalfmeeemaaFlatLaws
import Derived.Test.YtiodlalfmeeemaaPatch2
namespace Go.Proofs.Ytiodlalfmeeemaa
open Go.RowKit Sl

def pS : ByteArray := { data := #[97, 98, 99, 100, 101, 102] }
def pS2 : ByteArray := { data := #[101, 102, 0, 0] }
def pSJ : ByteArray := { data := #[97, 98, 99, 100, 101, 102, 0, 0] }
def pXY : ByteArray := { data := #[120, 121] }
def pAXY : ByteArray := { data := #[97, 120, 121, 100] }
theorem pb1 (W : World) : Calls Try.prog 28 #[.string { data := #[97, 98, 99, 100, 101, 102] }] W (OwnPair W.heap.size 9 1 ([pA, pS2].map Value.string) 0 W) := by
  have h := split_any pS W (by decide)
  rwa [show splitV pS = [pA, pS2] from by decide +kernel, show splitE pS = 0 from by decide +kernel] at h
theorem pb2 (W : World) (A : Option Addr) (c : Nat) (h : Got W A 2 [pA, pS2]) (hc : 2 ≤ c) : Calls Try.prog 29 #[.slice A 2 c] W fun e w' => e = .returned (.tuple #[.string pSJ, .int .i64 0]) ∧ Below W.heap.size W w' := by
  have h := join_any A 2 c [pA, pS2] W (h.strs (by decide)) hc (by omega)
  rwa [show joinV [pA, pS2] = pSJ from by decide +kernel, show pagesErr [pA, pS2] = 0 from by decide +kernel] at h
theorem pb3 (W : World) : Calls Try.prog 37 #[.string { data := #[97, 98, 99, 100] }, .int .i64 1, .string { data := #[120, 121] }] W fun e w' => e = .returned (.tuple #[.string pAXY, .int .i64 0]) ∧ Below W.heap.size W w' := by
  have h := patch_any pA 1 pXY W (by decide) (by unfold I64; omega)
  rwa [show patchV pA 1 pXY = pAXY from by decide +kernel, show patchE pA 1 pXY = 0 from by decide +kernel] at h
theorem pb4 (W : World) : Calls Try.prog 37 #[.string { data := #[97, 98, 99, 100] }, .int .i64 3, .string { data := #[120, 121] }] W fun e w' => e = .returned (.tuple #[.string noP, .int .i64 3]) ∧ Below W.heap.size W w' := by
  have h := patch_any pA 3 pXY W (by decide) (by unfold I64; omega)
  rwa [show patchV pA 3 pXY = noP from by decide +kernel, show patchE pA 3 pXY = 3 from by decide +kernel] at h
theorem pb5 (W : World) (T : TypeId) (b : Nat) (hb : W.heap.size = b) : Calls Try.prog 34 #[.slice (some ⟨b, 0, none⟩) 1 1] (W.alloc (.cells #[.string { data := #[97, 98, 99] }] T)) fun e w' => e = .returned (.int .i64 1) ∧ W.alloc (.cells #[.string { data := #[97, 98, 99] }] T) = w' := by
  subst hb
  have h := pcheck_any (some ⟨W.heap.size, 0, none⟩) 1 1 [{ data := #[97, 98, 99] }] (W.alloc (.cells #[.string { data := #[97, 98, 99] }] T)) ⟨Rd.of_block (heap_alloc_new W _) (by simp) rfl rfl, by decide⟩ (by omega)
  rwa [show pagesErr [{ data := #[97, 98, 99] }] = 1 from by decide +kernel] at h

set_option maxRecDepth 100000 in
set_option maxHeartbeats 1000000 in
theorem pagesBegun_any (w : World) : Calls Try.prog 33 #[] w fun e w' => e = .returned (.bool true) ∧ Below w.heap.size w w' := by
  have HB0 := Below.refl w.heap.size w
  go_enter Try.func33, Try.ntmps33
  go_wp2_with fail
  refine (pb1 _).mono ?_
  rintro e w1 ⟨A1, n1, c1, rfl, ho1, hb1, hc1, hm1⟩
  have hn1 : n1 = 2 := by have := ho1.1; simp at this; omega
  subst hn1
  have r1 : Got w1 A1 2 [pA, pS2] := Rd.of_own ho1
  have HB1 := below_next HB0 hb1
  clear ho1 hb1
  go_wp2_with fail
  refine (pb2 _ _ _ r1 hc1).mono ?_
  rintro e w2 ⟨rfl, hb2⟩
  have r2 := r1.next hb2
  have HB2 := below_next HB1 hb2
  clear r1 hb2 HB1
  unfold pSJ
  go_wp2_with fail
  refine (pb3 _).mono ?_
  rintro e w3 ⟨rfl, hb3⟩
  have r3 := r2.next hb3
  have HB3 := below_next HB2 hb3
  clear r2 hb3 HB2
  unfold pAXY
  go_wp2_with fail
  refine (pb4 _).mono ?_
  rintro e w4 ⟨rfl, hb4⟩
  have r4 := r3.next hb4
  have HB4 := below_next HB3 hb4
  clear r3 hb4 HB3
  have HS := Lib.hid (fun (cs : Array Value) T (hcs : cs.toList = [pA, pS2].map Value.string) => samePages_any A1 (some ⟨w4.heap.size, 0, none⟩) 2 2 c1 2 [pA, pS2] [pA, pS2] (w4.alloc (.cells cs T)) (r4.next ((Below.refl _ _).alloc (Nat.le_refl _) _)) (Rd.of_block (heap_alloc_new w4 _) (by simp) hcs rfl) (by omega) (by omega))
  go_wp2_with fail
  refine (HS.out _ _ rfl).mono ?_
  rintro e w5 ⟨rfl, hb5⟩
  have HB5 := HB4.trans (((Below.refl _ _).alloc (HB4.size) _).trans (hb5.mono (by have := HB4.size; simp; omega)))
  clear hb5 r4 HS HB4
  go_wp2_with fail
  refine (zero_any _).mono ?_
  rintro e w6 ⟨rfl, hb6⟩
  have HB6 := below_next HB5 hb6
  clear hb6 HB5
  unfold zeroP
  go_wp2_with fail
  refine (pb5 _ _ _ (by simp)).mono ?_
  rintro e w7 ⟨rfl, rfl⟩
  go_wp2_with fail
  go_ret
  exact ⟨rfl, HB6.alloc HB6.size _⟩

set_option maxRecDepth 100000 in
set_option maxHeartbeats 1000000 in
theorem law_pagesPatches (p : ByteArray) (x : Int) (s : ByteArray) (w : World) (hs : s.size ≤ 4611686018427387903) (hx : I64 x) :
    Calls Try.prog 8 #[.string p, .int .i64 x, .string s] w fun e w' => e = .returned (.bool true) ∧ Below w.heap.size w w' := by
  have HB0 := Below.refl w.heap.size w
  have K1 := Lib.hid (fun W => patch_any p x s W hs hx)
  have K2 := Lib.hid (fun W => rpatch_any p x s W hs hx)
  generalize patchV p x s = v at K1 K2
  generalize patchE p x s = er at K1 K2
  go_enter Try.func8, Try.ntmps8
  go_wp2_with fail
  refine (K1.out _).mono ?_
  rintro e w1 ⟨rfl, hb1⟩
  have HB1 := below_next HB0 hb1
  clear hb1 HB0
  go_wp2_with fail
  refine (K2.out _).mono ?_
  rintro e w2 ⟨rfl, hb2⟩
  have HB2 := below_next HB1 hb2
  clear hb2 HB1
  go_wp2_with fail
  refine (pagesBegun_any _).mono ?_
  rintro e w3 ⟨rfl, hb3⟩
  have HB3 := below_next HB2 hb3
  clear hb3 HB2
  go_wp2_with fail
  go_ret
  exact ⟨rfl, HB3⟩

theorem splitV_len (s : ByteArray) : (splitV s).length ≤ 17 := by
  unfold splitV
  split
  · simp
  · rw [List.length_map]
    have : ∀ f l, (splitL f l).length ≤ f := by
      intro f
      induction f with
      | zero => intro l; simp [splitL]
      | succ f ih =>
        intro l
        rw [splitL]
        split
        · simp only [List.length_cons]; have := ih (l.drop 4); omega
        · split
          · simp
          · simp
    exact this 17 _

set_option maxRecDepth 100000 in
set_option maxHeartbeats 1000000 in
theorem law_pagesTells (A : Option Addr) (n c : Nat) (l : List ByteArray) (s : ByteArray) (w : World) (h : StrsR w w.heap.size A n l) (hn : n ≤ c) (hc : n ≤ 4611686018427387903) (hs : s.size ≤ 4611686018427387903) :
    Calls Try.prog 7 #[.slice A n c, .string s] w fun e w' => e = .returned (.bool true) ∧ Below w.heap.size w w' := by
  have HB0 := Below.refl w.heap.size w
  have K1 := Lib.hid (fun W => split_any s W hs)
  have K2 := Lib.hid (fun W (hb : Below w.heap.size w W) => join_any A n c l W (h.next hb) hn hc)
  have K3 := Lib.hid (fun W => rsplit_any s W hs)
  have K4 := Lib.hid (fun W (hb : Below w.heap.size w W) => rpcheck_any A n c l W (h.next hb) hc)
  have K5 := Lib.hid (fun W (hb : Below w.heap.size w W) => pcheck_any A n c l W (h.next hb) hc)
  have K6 := fun W (hb : Below w.heap.size w W) => rjoin_any A n c l W (h.next hb)
  have z1 := splitV_len s
  have hj : pagesErr l ≠ 0 → joinV l = noP := fun h => by unfold joinV; rw [if_neg h]
  generalize splitV s = v1 at K1 K3 z1
  generalize splitE s = e1 at K1 K3
  generalize joinV l = v2 at K2 K6 hj
  by_cases he : pagesErr l = 0
  · have K6' := Lib.hid (fun W hb => K6 W hb he)
    rw [he] at K2 K4 K5
    clear he hj K6 h
    go_enter Try.func7, Try.ntmps7
    go_wp2_with fail
    refine (K1.out _).mono ?_
    rintro e w1 ⟨A1, n1, c1, rfl, ho1, hb1, hc1, hm1⟩
    have r1 : Got w1 A1 n1 v1 := Rd.of_own ho1
    have l1 : n1 ≤ 4611686018427387903 := by have := ho1.1; simp at this; omega
    have HB1 := below_next HB0 hb1
    clear ho1 hb1 HB0
    go_wp2_with fail
    refine (K2.out _ HB1).mono ?_
    rintro e w2 ⟨rfl, hb2⟩
    have HB2 := below_next HB1 hb2
    have r1 := r1.next hb2
    clear hb2 HB1
    go_wp2_with fail
    refine (K3.out _).mono ?_
    rintro e w3 ⟨A3, n3, c3, rfl, ho3, hb3, hc3, hm3⟩
    have r3 : Got w3 A3 n3 v1 := Rd.of_own ho3
    have l3 : n3 ≤ 4611686018427387903 := by have := ho3.1; simp at this; omega
    have HB3 := below_next HB2 hb3
    have r1 := r1.next hb3
    clear ho3 hb3 HB2
    go_wp2_with fail
    refine (K4.out _ HB3).mono ?_
    rintro e w4 ⟨rfl, rfl⟩
    go_wp2_with fail
    refine (K6'.out _ HB3).mono ?_
    rintro e w4 ⟨rfl, rfl⟩
    go_wp2_with fail
    refine (pagesBegun_any _).mono ?_
    rintro e w5 ⟨rfl, hb5⟩
    have HB5 := below_next HB3 hb5
    have r1 := r1.next hb5
    have r3 := r3.next hb5
    clear hb5 HB3
    go_wp2_with fail
    refine (K5.out _ HB5).mono ?_
    rintro e w6 ⟨rfl, rfl⟩
    go_wp2_with fail
    refine (zero_any _).mono ?_
    rintro e w6 ⟨rfl, hb6⟩
    have HB6 := below_next HB5 hb6
    have r1 := r1.next hb6
    have r3 := r3.next hb6
    clear hb6 HB5
    go_wp2_with fail
    refine (rzero_any _).mono ?_
    rintro e w7 ⟨rfl, rfl⟩
    go_wp2_with fail
    refine (samePages_any _ _ _ _ _ _ v1 v1 _ r1 r3 l1 l3).mono ?_
    rintro e w8 ⟨rfl, hb8⟩
    have HB8 := below_next HB6 hb8
    clear hb8 HB6
    go_wp2_with fail
    go_ret
    exact ⟨rfl, HB8⟩
  · have hj' := hj he
    subst hj'
    have he' : (pagesErr l == 0) = false := by simpa using he
    generalize pagesErr l = e2 at K2 K4 K5 he'
    clear he hj K6 h
    go_enter Try.func7, Try.ntmps7
    go_wp2_with fail
    refine (K1.out _).mono ?_
    rintro e w1 ⟨A1, n1, c1, rfl, ho1, hb1, hc1, hm1⟩
    have r1 : Got w1 A1 n1 v1 := Rd.of_own ho1
    have l1 : n1 ≤ 4611686018427387903 := by have := ho1.1; simp at this; omega
    have HB1 := below_next HB0 hb1
    clear ho1 hb1 HB0
    go_wp2_with fail
    refine (K2.out _ HB1).mono ?_
    rintro e w2 ⟨rfl, hb2⟩
    have HB2 := below_next HB1 hb2
    have r1 := r1.next hb2
    clear hb2 HB1
    go_wp2_with fail
    refine (K3.out _).mono ?_
    rintro e w3 ⟨A3, n3, c3, rfl, ho3, hb3, hc3, hm3⟩
    have r3 : Got w3 A3 n3 v1 := Rd.of_own ho3
    have l3 : n3 ≤ 4611686018427387903 := by have := ho3.1; simp at this; omega
    have HB3 := below_next HB2 hb3
    have r1 := r1.next hb3
    clear ho3 hb3 HB2
    go_wp2_with fail
    refine (K4.out _ HB3).mono ?_
    rintro e w4 ⟨rfl, rfl⟩
    unfold noP
    go_wp2_with fail
    refine (pagesBegun_any _).mono ?_
    rintro e w5 ⟨rfl, hb5⟩
    have HB5 := below_next HB3 hb5
    have r1 := r1.next hb5
    have r3 := r3.next hb5
    clear hb5 HB3
    go_wp2_with fail
    refine (K5.out _ HB5).mono ?_
    rintro e w6 ⟨rfl, rfl⟩
    go_wp2_with fail
    refine (zero_any _).mono ?_
    rintro e w6 ⟨rfl, hb6⟩
    have HB6 := below_next HB5 hb6
    have r1 := r1.next hb6
    have r3 := r3.next hb6
    clear hb6 HB5
    go_wp2_with fail
    refine (rzero_any _).mono ?_
    rintro e w7 ⟨rfl, rfl⟩
    go_wp2_with fail
    refine (samePages_any _ _ _ _ _ _ v1 v1 _ r1 r3 l1 l3).mono ?_
    rintro e w8 ⟨rfl, hb8⟩
    have HB8 := below_next HB6 hb8
    clear hb8 HB6
    go_wp2_with fail
    go_ret
    exact ⟨rfl, HB8⟩
end Go.Proofs.Ytiodlalfmeeemaa
