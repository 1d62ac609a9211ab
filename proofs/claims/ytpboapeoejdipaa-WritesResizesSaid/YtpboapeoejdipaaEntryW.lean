/- slices.Replace at whatever place, entry.With, the reference's Bare. Conditions: the slice is read below the heap's size. -/
import Derived.Test.YtpboapeoejdipaaRepl
import Derived.Test.YtpboapeoejdipaaSame
namespace Go.Proofs.Ytpboapeoejdipaa
open Go.RowKit Sl

theorem replace_any (g vb vc c base k : Nat) (hk : k < 4) (t : List Int) (y : Int) (w : World) (h : w.ownsRow base 3 1 (.slice (some ⟨g, 0, none⟩) 4 c) 4 (ints t)) (hv : Rd w w.heap.size 1 (some ⟨vb, 0, none⟩) 1 (ints [y])) (hc : 4 ≤ c) (hm : c ≤ maxLen) (hbs : base ≤ w.heap.size) :
    Calls Try.prog 98 #[.slice (some ⟨g, 0, none⟩) 4 c, .int .i64 k, .int .i64 ((k : Int) + 1), .slice (some ⟨vb, 0, none⟩) 1 vc] w (OwnRes base 3 1 4 (ints (t.set k y)) w) :=
  match k, hk with
  | 0, _ => replace_0 g vb vc c base t y w h hv hc hm
  | 1, _ => replace_1 g vb vc c base t y w h hv hc hm
  | 2, _ => replace_2 g vb vc c base t y w h hv hc hm
  | 3, _ => replace_3 g vb vc c base t y w h hv hc hbs
  | n + 4, h => absurd h (by omega)

set_option maxRecDepth 100000 in
set_option maxHeartbeats 1000000 in
theorem ewith_any (A : Option Addr) (n c : Nat) (t : List Int) (x y : Int) (w : World) (h : Rd w w.heap.size 1 A n (ints t)) (hc : n ≤ maxLen) :
    Calls Try.prog 74 #[.slice A n c, .int .i64 x, .int .i64 y] w (IntsPair w.heap.size (withV t x y) (withE t x y) w) := by
  have HK := Lib.hid (echeck_any A n c w.heap.size t w h hc)
  by_cases he : entriesErr t = 0
  · rw [he] at HK
    obtain ⟨l4, _⟩ := entriesErr_is he
    have hln := h.len
    have hn4 : n = 4 := by omega
    subst hn4
    by_cases hx : 0 ≤ x ∧ x < 4
    · obtain ⟨k, rfl⟩ := Int.eq_ofNat_of_zero_le hx.1
      have hk4 : k < 4 := by omega
      cases hf : fine y
      · have R := Lib.hid (with_bad (k := (k : Int)) he hx hf)
        clear h he hx hln l4
        go_enter Try.func74, Try.ntmps74
        go_wp2_with (first | (go_at_call 75; refine HK.out.mono ?_; rintro e w2 ⟨rfl, rfl⟩) | (go_at_call 97; refine (fine_any _ _).mono ?_; rintro e w2 ⟨rfl, rfl⟩))
        go_ret2
        exact IntsPair.mk_nil R.out.2 R.out.1 (Below.refl _ _)
      · have R := Lib.hid (with_ok (k := k) he hk4 hf)
        have HC := Lib.hid (cloneInts A 4 c (ints t) w h (oneCell_ints t) (by omega))
        clear h he hx hln l4
        go_enter Try.func74, Try.ntmps74
        go_wp2_with (first | (go_at_call 75; refine HK.out.mono ?_; rintro e w2 ⟨rfl, rfl⟩) | (go_at_call 97; refine (fine_any _ _).mono ?_; rintro e w2 ⟨rfl, rfl⟩))
        refine HC.out.mono ?_
        rintro e w1 ⟨A1, c1, rfl, ho1, hb1, hc1, hm1⟩
        obtain ⟨g, rfl, hg1, hg2⟩ := own_some_ ho1 (by omega)
        have hz := hb1.size
        have HR := Lib.hid (fun W (hb : Below w1.heap.size w1 W) (hv : Rd W W.heap.size 1 (some ⟨w1.heap.size, 0, none⟩) 1 (ints [y])) => replace_any g w1.heap.size 1 c1 w.heap.size k hk4 t y W (own_below ho1 hb) hv hc1 hm1 (Nat.le_trans hz hb.size))
        have HB := Lib.hid hb1
        clear ho1 hb1
        go_wp2_with fail
        refine (HR.out _ ((Below.refl _ _).alloc (Nat.le_refl _) _) (Rd.of_block (heap_alloc_new w1 _) (by simp) rfl rfl)).mono ?_
        rintro e w2 ⟨A2, c2, rfl, ho2, hb2, hc2, hm2⟩
        have HO := Lib.hid ho2
        have HB2 := Lib.hid (HB.out.trans (((Below.refl w.heap.size w1).alloc hz _).trans hb2))
        clear ho2 hb2
        go_wp2_with fail
        go_ret2
        exact ⟨A2, 4, c2, by rw [R.out.1]; rfl, by rw [R.out.2]; exact HO.out, HB2.out, hc2, hm2⟩
    · have R := Lib.hid (with_out (k := x) (e := y) he hx)
      clear h he hln l4
      have hx' : x < 0 ∨ (0 ≤ x ∧ 4 ≤ x) := by omega
      rcases hx' with hx' | ⟨hx1, hx2⟩
      all_goals
        clear hx
        go_enter Try.func74, Try.ntmps74
        go_wp2_with (go_at_call 75; refine HK.out.mono ?_; rintro e w1 ⟨rfl, rfl⟩)
        go_ret2
        exact IntsPair.mk_nil R.out.2 R.out.1 (Below.refl _ _)
  · have R := Lib.hid (with_no (k := x) (e := y) he)
    have he' : (entriesErr t != 0) = true := by simpa using he
    clear h he
    go_enter Try.func74, Try.ntmps74
    go_wp2_with (go_at_call 75; refine HK.out.mono ?_; rintro e w1 ⟨rfl, rfl⟩)
    go_ret2
    exact IntsPair.mk_nil R.out.2 R.out.1 (Below.refl _ _)

/-- The slice is read as the numbers l, wherever it lies. -/
def GotI (w : World) (A : Option Addr) (n : Nat) (l : List Int) : Prop := Rd w w.heap.size 1 A n (ints l)
theorem GotI.next {w w' : World} {A : Option Addr} {n : Nat} {l : List Int} (h : GotI w A n l) (hb : Below w.heap.size w w') : GotI w' A n l := (Rd.below h hb (Nat.le_refl _)).more hb.size
theorem GotI.fresh (w : World) (cs : Array Value) (T : TypeId) (n : Nat) (l : List Int) (h : cs.toList = ints l) (hn : l.length = n) : GotI (w.alloc (.cells cs T)) (some ⟨w.heap.size, 0, none⟩) n l :=
  Rd.of_block (heap_alloc_new w _) (by simp) h (by simp [ints, hn])
theorem withV_len (t : List Int) (k e : Int) : (withV t k e).length ≤ 4 := by
  unfold withV; split
  · rename_i h
    unfold withE at h
    split at h
    · rename_i h1; rw [List.length_set]; have := (entriesErr_is h1).1; omega
    · omega
  · simp
theorem cutV_len (t : List Int) (n : Int) : (cutV t n).length ≤ 4 := by
  unfold cutV; split
  · rename_i h
    unfold cutE at h
    split at h
    · rename_i h1; split at h
      · have := (entriesErr_is h1).1; unfold cutL; simp; omega
      · omega
    · omega
  · simp

def bare0 : List Int := [0, 0, 0, 0]
end Go.Proofs.Ytpboapeoejdipaa
