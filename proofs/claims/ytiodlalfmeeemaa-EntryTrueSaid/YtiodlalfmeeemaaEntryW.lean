/- slices.Replace at whatever place, entry.With, the reference's Bare. Conditions: the slice is read below the heap's size. -/
import Derived.Test.YtiodlalfmeeemaaRepl
import Derived.Test.YtiodlalfmeeemaaSame
namespace Go.Proofs.Ytiodlalfmeeemaa
open Go.RowKit Sl

theorem replace_any (g vb vc c base k : Nat) (hk : k < 4) (t : List Int) (y : Int) (w : World) (h : w.ownsRow base 3 1 (.slice (some ⟨g, 0, none⟩) 4 c) 4 (ints t)) (hv : Rd w w.heap.size 1 (some ⟨vb, 0, none⟩) 1 (ints [y])) (hc : 4 ≤ c) (hm : c ≤ maxLen) (hbs : base ≤ w.heap.size) :
    Calls Try.prog 64 #[.slice (some ⟨g, 0, none⟩) 4 c, .int .i64 k, .int .i64 ((k : Int) + 1), .slice (some ⟨vb, 0, none⟩) 1 vc] w (OwnRes base 3 1 4 (ints (t.set k y)) w) :=
  match k, hk with
  | 0, _ => replace_0 g vb vc c base t y w h hv hc hm
  | 1, _ => replace_1 g vb vc c base t y w h hv hc hm
  | 2, _ => replace_2 g vb vc c base t y w h hv hc hm
  | 3, _ => replace_3 g vb vc c base t y w h hv hc hbs
  | n + 4, h => absurd h (by omega)

set_option maxRecDepth 100000 in
set_option maxHeartbeats 1000000 in
theorem ewith_any (A : Option Addr) (n c : Nat) (t : List Int) (x y : Int) (w : World) (h : Rd w w.heap.size 1 A n (ints t)) (hc : n ≤ maxLen) :
    Calls Try.prog 40 #[.slice A n c, .int .i64 x, .int .i64 y] w (IntsPair w.heap.size (withV t x y) (withE t x y) w) := by
  have HK := Lib.hid (echeck_any A n c w.heap.size t w h hc)
  by_cases he : entriesErr t = 0
  · rw [he] at HK
    obtain ⟨l4, _⟩ := entriesErr_is he
    have hln := h.len
    have hn4 : n = 4 := by omega
    subst hn4
    by_cases hx : 0 ≤ x ∧ x < 4
    · obtain ⟨k, rfl⟩ := Int.eq_ofNat_of_zero_le hx.1
      have hk4 : k < 4 := by omega
      cases hf : fine y
      · have R := Lib.hid (with_bad (k := (k : Int)) he hx hf)
        clear h he hx hln l4
        go_enter Try.func40, Try.ntmps40
        go_wp2_with (first | (go_at_call 46; refine HK.out.mono ?_; rintro e w2 ⟨rfl, rfl⟩) | (go_at_call 63; refine (fine_any _ _).mono ?_; rintro e w2 ⟨rfl, rfl⟩))
        go_ret2
        exact IntsPair.mk_nil R.out.2 R.out.1 (Below.refl _ _)
      · have R := Lib.hid (with_ok (k := k) he hk4 hf)
        have HC := Lib.hid (cloneInts A 4 c (ints t) w h (oneCell_ints t) (by omega))
        clear h he hx hln l4
        go_enter Try.func40, Try.ntmps40
        go_wp2_with (first | (go_at_call 46; refine HK.out.mono ?_; rintro e w2 ⟨rfl, rfl⟩) | (go_at_call 63; refine (fine_any _ _).mono ?_; rintro e w2 ⟨rfl, rfl⟩))
        refine HC.out.mono ?_
        rintro e w1 ⟨A1, c1, rfl, ho1, hb1, hc1, hm1⟩
        obtain ⟨g, rfl, hg1, hg2⟩ := own_some_ ho1 (by omega)
        have hz := hb1.size
        have HR := Lib.hid (fun W (hb : Below w1.heap.size w1 W) (hv : Rd W W.heap.size 1 (some ⟨w1.heap.size, 0, none⟩) 1 (ints [y])) => replace_any g w1.heap.size 1 c1 w.heap.size k hk4 t y W (own_below ho1 hb) hv hc1 hm1 (Nat.le_trans hz hb.size))
        have HB := Lib.hid hb1
        clear ho1 hb1
        go_wp2_with fail
        refine (HR.out _ ((Below.refl _ _).alloc (Nat.le_refl _) _) (Rd.of_block (heap_alloc_new w1 _) (by simp) rfl rfl)).mono ?_
        rintro e w2 ⟨A2, c2, rfl, ho2, hb2, hc2, hm2⟩
        have HO := Lib.hid ho2
        have HB2 := Lib.hid (HB.out.trans (((Below.refl w.heap.size w1).alloc hz _).trans hb2))
        clear ho2 hb2
        go_wp2_with fail
        go_ret2
        exact ⟨A2, 4, c2, by rw [R.out.1]; rfl, by rw [R.out.2]; exact HO.out, HB2.out, hc2, hm2⟩
    · have R := Lib.hid (with_out (k := x) (e := y) he hx)
      clear h he hln l4
      have hx' : x < 0 ∨ (0 ≤ x ∧ 4 ≤ x) := by omega
      rcases hx' with hx' | ⟨hx1, hx2⟩
      all_goals
        clear hx
        go_enter Try.func40, Try.ntmps40
        go_wp2_with (go_at_call 46; refine HK.out.mono ?_; rintro e w1 ⟨rfl, rfl⟩)
        go_ret2
        exact IntsPair.mk_nil R.out.2 R.out.1 (Below.refl _ _)
  · have R := Lib.hid (with_no (k := x) (e := y) he)
    have he' : (entriesErr t != 0) = true := by simpa using he
    clear h he
    go_enter Try.func40, Try.ntmps40
    go_wp2_with (go_at_call 46; refine HK.out.mono ?_; rintro e w1 ⟨rfl, rfl⟩)
    go_ret2
    exact IntsPair.mk_nil R.out.2 R.out.1 (Below.refl _ _)

set_option maxHeartbeats 400000 in
theorem rBare_any (A : Option Addr) (n c B : Nat) (xs : List Int) (w : World) (h : Rd w B 1 A n (ints xs)) (hc : n ≤ maxLen) : Calls Try.prog 47 #[.slice A n c] w
    fun e w' => e = .returned (.bool (bare xs)) ∧ w = w' := by
  have HB := Lib.hid (rbare_any A n c B xs w h hc)
  clear h hc
  go_enter Try.func47, Try.ntmps47
  go_wp2_with (go_at_call 57; refine HB.out.mono ?_; rintro e w' ⟨rfl, rfl⟩)
  go_ret
  exact ⟨rfl, rfl⟩

/-- The slice is read as the numbers l, wherever it lies. -/
def GotI (w : World) (A : Option Addr) (n : Nat) (l : List Int) : Prop := Rd w w.heap.size 1 A n (ints l)
theorem GotI.next {w w' : World} {A : Option Addr} {n : Nat} {l : List Int} (h : GotI w A n l) (hb : Below w.heap.size w w') : GotI w' A n l := (Rd.below h hb (Nat.le_refl _)).more hb.size
theorem GotI.fresh (w : World) (cs : Array Value) (T : TypeId) (n : Nat) (l : List Int) (h : cs.toList = ints l) (hn : l.length = n) : GotI (w.alloc (.cells cs T)) (some ⟨w.heap.size, 0, none⟩) n l :=
  Rd.of_block (heap_alloc_new w _) (by simp) h (by simp [ints, hn])
theorem withV_len (t : List Int) (k e : Int) : (withV t k e).length ≤ 4 := by
  unfold withV; split
  · rename_i h
    unfold withE at h
    split at h
    · rename_i h1; rw [List.length_set]; have := (entriesErr_is h1).1; omega
    · omega
  · simp
theorem cutV_len (t : List Int) (n : Int) : (cutV t n).length ≤ 4 := by
  unfold cutV; split
  · rename_i h
    unfold cutE at h
    split at h
    · rename_i h1; split at h
      · have := (entriesErr_is h1).1; unfold cutL; simp; omega
      · omega
    · omega
  · simp

def bare0 : List Int := [0, 0, 0, 0]
set_option maxRecDepth 100000 in
set_option maxHeartbeats 400000 in
theorem entryBegun_any (w : World) : Calls Try.prog 45 #[] w fun e w' => e = .returned (.bool true) ∧ Below w.heap.size w w' := by
  have K1 := Lib.hid (fun (W : World) (b : Nat) (hb : W.heap.size = b) (T : TypeId) => (hb ▸ ebare_any (some ⟨W.heap.size, 0, none⟩) 4 4 (W.heap.size + 1) [0, 0, 0, 0] (W.alloc (.cells #[.int .i64 0, .int .i64 0, .int .i64 0, .int .i64 0] T)) (Rd.of_block (heap_alloc_new W _) (by omega) rfl rfl) (by decide) : Calls Try.prog 39 #[.slice (some ⟨b, 0, none⟩) 4 4] (W.alloc (.cells #[.int .i64 0, .int .i64 0, .int .i64 0, .int .i64 0] T)) fun e w' => e = .returned (.tuple #[.bool true, .int .i64 0]) ∧ (W.alloc (.cells #[.int .i64 0, .int .i64 0, .int .i64 0, .int .i64 0] T)) = w'))
  have K2 := Lib.hid (fun (W : World) (b : Nat) (hb : W.heap.size = b) (T : TypeId) => (hb ▸ ewith_any (some ⟨W.heap.size, 0, none⟩) 4 4 [0, 0, 0, 0] 2 5 (W.alloc (.cells #[.int .i64 0, .int .i64 0, .int .i64 0, .int .i64 0] T)) (GotI.fresh W _ T 4 [0, 0, 0, 0] rfl rfl) (by decide) : Calls Try.prog 40 #[.slice (some ⟨b, 0, none⟩) 4 4, .int .i64 2, .int .i64 5] (W.alloc (.cells #[.int .i64 0, .int .i64 0, .int .i64 0, .int .i64 0] T)) (IntsPair (W.alloc (.cells #[.int .i64 0, .int .i64 0, .int .i64 0, .int .i64 0] T)).heap.size [0, 0, 5, 0] 0 (W.alloc (.cells #[.int .i64 0, .int .i64 0, .int .i64 0, .int .i64 0] T)))))
  have K3 := Lib.hid (fun (W : World) (b : Nat) (hb : W.heap.size = b) (T : TypeId) => (hb ▸ ecut_any (some ⟨W.heap.size, 0, none⟩) 4 4 [1, 2, 3, 4] 2 (W.alloc (.cells #[.int .i64 1, .int .i64 2, .int .i64 3, .int .i64 4] T)) (GotI.fresh W _ T 4 [1, 2, 3, 4] rfl rfl) (by decide) (by decide) : Calls Try.prog 41 #[.slice (some ⟨b, 0, none⟩) 4 4, .int .i64 2] (W.alloc (.cells #[.int .i64 1, .int .i64 2, .int .i64 3, .int .i64 4] T)) (IntsPair (W.alloc (.cells #[.int .i64 1, .int .i64 2, .int .i64 3, .int .i64 4] T)).heap.size [1, 2, 0, 0] 0 (W.alloc (.cells #[.int .i64 1, .int .i64 2, .int .i64 3, .int .i64 4] T)))))
  have K4 := Lib.hid (fun (W : World) (b : Nat) (hb : W.heap.size = b) (T : TypeId) => (hb ▸ ewith_any (some ⟨W.heap.size, 0, none⟩) 4 4 [0, 0, 0, 0] 2 40 (W.alloc (.cells #[.int .i64 0, .int .i64 0, .int .i64 0, .int .i64 0] T)) (GotI.fresh W _ T 4 [0, 0, 0, 0] rfl rfl) (by decide) : Calls Try.prog 40 #[.slice (some ⟨b, 0, none⟩) 4 4, .int .i64 2, .int .i64 40] (W.alloc (.cells #[.int .i64 0, .int .i64 0, .int .i64 0, .int .i64 0] T)) (IntsPair (W.alloc (.cells #[.int .i64 0, .int .i64 0, .int .i64 0, .int .i64 0] T)).heap.size [] 1 (W.alloc (.cells #[.int .i64 0, .int .i64 0, .int .i64 0, .int .i64 0] T)))))
  have K5 := Lib.hid (fun (W : World) (b : Nat) (hb : W.heap.size = b) (T : TypeId) => (hb ▸ echeck_any (some ⟨W.heap.size, 0, none⟩) 1 1 (W.heap.size + 1) [0] (W.alloc (.cells #[.int .i64 0] T)) (Rd.of_block (heap_alloc_new W _) (by omega) rfl rfl) (by decide) : Calls Try.prog 46 #[.slice (some ⟨b, 0, none⟩) 1 1] (W.alloc (.cells #[.int .i64 0] T)) fun e w' => e = .returned (.int .i64 1) ∧ (W.alloc (.cells #[.int .i64 0] T)) = w'))
  go_enter Try.func45, Try.ntmps45
  go_wp2_with fail
  refine (K1.out _ _ rfl _).mono ?_
  rintro e w1 ⟨rfl, rfl⟩
  go_wp2_with fail
  refine (K2.out _ _ (by simp) _).mono ?_
  rintro e w2 ⟨A2, n2, c2, rfl, ho2, hb2, hc2, hm2⟩
  obtain rfl : n2 = 4 := by have := ho2.1; simp [ints] at this; omega
  have r2 : GotI w2 A2 4 [0, 0, 5, 0] := Rd.of_own ho2
  have HB2 := Lib.hid ((((Below.refl w.heap.size w).alloc (Nat.le_refl _) _).alloc (by simp) _).trans (hb2.mono (by simp; omega)))
  clear ho2 hb2
  go_wp2_with fail
  refine (K3.out _ _ rfl _).mono ?_
  rintro e w3 ⟨A3, n3, c3, rfl, ho3, hb3, hc3, hm3⟩
  obtain rfl : n3 = 4 := by have := ho3.1; simp [ints] at this; omega
  have r3 : GotI w3 A3 4 [1, 2, 0, 0] := Rd.of_own ho3
  have B3 : Below w2.heap.size w2 w3 := ((Below.refl _ _).alloc (Nat.le_refl _) _).trans (hb3.mono (by simp))
  have r2' := r2.next B3
  have HB3 := Lib.hid (below_next HB2.out B3)
  clear ho3 hb3 r2 B3
  go_wp2_with fail
  refine (K4.out _ _ rfl _).mono ?_
  rintro e w4 ⟨A4, n4, c4, rfl, ho4, hb4, hc4, hm4⟩
  have B4 : Below w3.heap.size w3 w4 := ((Below.refl _ _).alloc (Nat.le_refl _) _).trans (hb4.mono (by simp))
  have r24 := r2'.next B4
  have r34 := r3.next B4
  have HB4 := Lib.hid (below_next HB3.out B4)
  clear ho4 hb4 r2' r3 B4
  have S1 := Lib.hid (fun (T : TypeId) => sameInts_any A2 (some ⟨w4.heap.size, 0, none⟩) 4 4 c2 4 [0, 0, 5, 0] [0, 0, 5, 0] (w4.alloc (.cells #[.int .i64 0, .int .i64 0, .int .i64 5, .int .i64 0] T)) (r24.next ((Below.refl _ _).alloc (Nat.le_refl _) _)) (GotI.fresh w4 _ T 4 [0, 0, 5, 0] rfl rfl) (by omega) (by omega))
  clear r24
  go_wp2_with fail
  refine (S1.out _).mono ?_
  rintro e w5 ⟨rfl, hb5⟩
  have B5 : Below w4.heap.size w4 w5 := ((Below.refl _ _).alloc (Nat.le_refl _) _).trans (hb5.mono (by simp))
  have r35 := r34.next B5
  have HB5 := Lib.hid (below_next HB4.out B5)
  clear r34 B5 hb5
  have S2 := Lib.hid (fun (T : TypeId) => sameInts_any A3 (some ⟨w5.heap.size, 0, none⟩) 4 4 c3 4 [1, 2, 0, 0] [1, 2, 0, 0] (w5.alloc (.cells #[.int .i64 1, .int .i64 2, .int .i64 0, .int .i64 0] T)) (r35.next ((Below.refl _ _).alloc (Nat.le_refl _) _)) (GotI.fresh w5 _ T 4 [1, 2, 0, 0] rfl rfl) (by omega) (by omega))
  clear r35
  go_wp2_with fail
  refine (S2.out _).mono ?_
  rintro e w6 ⟨rfl, hb6⟩
  have B6 : Below w5.heap.size w5 w6 := ((Below.refl _ _).alloc (Nat.le_refl _) _).trans (hb6.mono (by simp))
  have HB6 := Lib.hid (below_next HB5.out B6)
  clear B6 hb6
  go_wp2_with fail
  refine (K5.out _ _ rfl _).mono ?_
  rintro e w7 ⟨rfl, rfl⟩
  go_wp2_with fail
  go_ret
  exact ⟨rfl, HB6.out.alloc HB6.out.size _⟩
end Go.Proofs.Ytiodlalfmeeemaa
