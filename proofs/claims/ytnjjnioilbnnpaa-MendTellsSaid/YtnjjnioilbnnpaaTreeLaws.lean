/- The laws TreeShapes, TreeCounts, TreeLooks, walked. Conditions: the image is read below the heap's size. -/
import Derived.Test.YtnjjnioilbnnpaaTreeBegun
namespace Go.Proofs.Ytnjjnioilbnnpaa
open Go.RowKit Sl

theorem img_keep {w W W' : World} {a b c d f : Value} (hb : Below W.heap.size W W')
    (h : W.cell? ⟨w.heap.size, 0, none⟩ = some a ∧ W.cell? ⟨w.heap.size, 1, none⟩ = some b ∧ W.cell? ⟨w.heap.size, 2, none⟩ = some c ∧ W.cell? ⟨w.heap.size, 3, none⟩ = some d ∧ W.cell? ⟨w.heap.size, 4, none⟩ = some f ∧ w.heap.size + 1 ≤ W.heap.size ∧ Below w.heap.size w W) :
    W'.cell? ⟨w.heap.size, 0, none⟩ = some a ∧ W'.cell? ⟨w.heap.size, 1, none⟩ = some b ∧ W'.cell? ⟨w.heap.size, 2, none⟩ = some c ∧ W'.cell? ⟨w.heap.size, 3, none⟩ = some d ∧ W'.cell? ⟨w.heap.size, 4, none⟩ = some f ∧ w.heap.size + 1 ≤ W'.heap.size ∧ Below w.heap.size w W' := by
  obtain ⟨h0, h1, h2, h3, h4, h5, h6⟩ := h
  have hz := hb.size
  exact ⟨(hb.cell (by simp; omega)).trans h0, (hb.cell (by simp; omega)).trans h1, (hb.cell (by simp; omega)).trans h2, (hb.cell (by simp; omega)).trans h3, (hb.cell (by simp; omega)).trans h4, by omega, below_next h6 hb⟩

set_option maxRecDepth 100000 in
set_option maxHeartbeats 1000000 in
theorem law_treeShapes (v : IV) (m : Img) (w : World) (h : ImgR w w.heap.size v m) :
    Calls Try.prog 3 #[.agg #[.int .i64 m.guest, .slice v.rA v.rn v.rc, .slice v.sA v.sn v.sc, .slice v.fA v.fn v.fc, .slice v.pA v.pn v.pc]] w fun e w' => e = .returned (.bool true) ∧ Below w.heap.size w w' := by
  obtain ⟨rA, rn, rc, sA, sn, sc, fA, fn, fc, pA, pn, pc⟩ := v
  dsimp only
  have HB1 := below1 w (.cells #[.int .i64 m.guest, .slice rA rn rc, .slice sA sn sc, .slice fA fn fc, .slice pA pn pc] 26)
  obtain ⟨b0, b1, b2, b3, b4⟩ := Box.new w m.guest ⟨rA, rn, rc, sA, sn, sc, fA, fn, fc, pA, pn, pc⟩ 26
  have K1' := fun W (hb : Below w.heap.size w W) => shape_any ⟨rA, rn, rc, sA, sn, sc, fA, fn, fc, pA, pn, pc⟩ m W (h.next hb)
  have K2' := fun W (hb : Below w.heap.size w W) => rshape_any ⟨rA, rn, rc, sA, sn, sc, fA, fn, fc, pA, pn, pc⟩ m W (h.next hb)
  generalize shapeErr m = er at K1' K2'
  have K1 := Lib.hid K1'
  have K2 := Lib.hid K2'
  clear K1' K2' h
  go_enter Try.func3, Try.ntmps3
  go_wp2_with fail
  have hz : (w.alloc (.cells #[.int .i64 m.guest, .slice rA rn rc, .slice sA sn sc, .slice fA fn fc, .slice pA pn pc] 26)).heap.size = w.heap.size + 1 := by simp
  go_region_held3 (fun w' => w'.cell? ⟨w.heap.size, 0, none⟩ = some (.int .i64 m.guest) ∧ w'.cell? ⟨w.heap.size, 1, none⟩ = some (.slice rA rn rc) ∧ w'.cell? ⟨w.heap.size, 2, none⟩ = some (.slice sA sn sc) ∧ w'.cell? ⟨w.heap.size, 3, none⟩ = some (.slice fA fn fc) ∧ w'.cell? ⟨w.heap.size, 4, none⟩ = some (.slice pA pn pc) ∧ w.heap.size + 1 ≤ w'.heap.size ∧ Below w.heap.size w w')
    (((repeat (refine img_keep (by assumption) ?_)); refine ⟨?_, ?_, ?_, ?_, ?_, ?_, ?_⟩ <;> first | assumption | exact HB1.drew | (simp; done) | omega))
    (first | (go_at_call 11; refine (treeBegun_any _).mono ?_; rintro e w5 ⟨rfl, hb5⟩) | (go_at_call 12; refine (K1.out _ ?_).mono ?_; (first | exact HB1.drew | (refine below_next HB1.drew ?_; assumption) | (refine below_next (below_next HB1.drew (by assumption)) ?_; assumption)); rintro e w6 ⟨rfl, hb6⟩) | (go_at_call 13; refine (K2.out _ ?_).mono ?_; (first | (refine below_next (below_next HB1.drew (by assumption)) ?_; assumption) | (refine below_next HB1.drew ?_; assumption)); rintro e w7 ⟨rfl, hb7⟩))
  all_goals
    go_wp2_with fail
    go_ret
    refine ⟨by simp, ?_⟩
    first | exact below_next (below_next (below_next HB1.drew hb5) hb6) hb7 | exact below_next (below_next (below_next HB1.drew hb5) hb7) hb6

/-- Nothing that lay in a has turned. -/
structure Since (a w : World) : Prop where
  below : Below a.heap.size a w
theorem Since.start (a : World) : Since a a.drew := ⟨(Below.refl _ _).drew⟩
theorem Since.refl (a : World) : Since a a := ⟨Below.refl _ _⟩
theorem Since.next {a w w' : World} (h : Since a w) (hb : Below w.heap.size w w') : Since a w' := ⟨below_next h.below hb⟩
theorem img_keep2 {wa W W' : World} {k : Nat} {a b c d f : Value} (hlt : k < wa.heap.size) (hb : Below W.heap.size W W')
    (h : W.cell? ⟨k, 0, none⟩ = some a ∧ W.cell? ⟨k, 1, none⟩ = some b ∧ W.cell? ⟨k, 2, none⟩ = some c ∧ W.cell? ⟨k, 3, none⟩ = some d ∧ W.cell? ⟨k, 4, none⟩ = some f ∧ Since wa W) :
    W'.cell? ⟨k, 0, none⟩ = some a ∧ W'.cell? ⟨k, 1, none⟩ = some b ∧ W'.cell? ⟨k, 2, none⟩ = some c ∧ W'.cell? ⟨k, 3, none⟩ = some d ∧ W'.cell? ⟨k, 4, none⟩ = some f ∧ Since wa W' := by
  obtain ⟨h0, h1, h2, h3, h4, h6⟩ := h
  have hz := h6.below.size
  exact ⟨(hb.cell (by simp; omega)).trans h0, (hb.cell (by simp; omega)).trans h1, (hb.cell (by simp; omega)).trans h2, (hb.cell (by simp; omega)).trans h3, (hb.cell (by simp; omega)).trans h4, h6.next hb⟩

set_option maxRecDepth 100000 in
set_option maxHeartbeats 4000000 in
theorem law_treeCounts (v : IV) (m : Img) (w : World) (h : ImgR w w.heap.size v m) :
    Calls Try.prog 4 #[.agg #[.int .i64 m.guest, .slice v.rA v.rn v.rc, .slice v.sA v.sn v.sc, .slice v.fA v.fn v.fc, .slice v.pA v.pn v.pc]] w fun e w' => e = .returned (.bool true) ∧ Below w.heap.size w w' := by
  obtain ⟨rA, rn, rc, sA, sn, sc, fA, fn, fc, pA, pn, pc⟩ := v
  dsimp only
  have HB1 := below1 w (.cells #[.int .i64 m.guest, .slice rA rn rc, .slice sA sn sc, .slice fA fn fc, .slice pA pn pc] 26)
  have HX := Lib.hid (Box.new w m.guest ⟨rA, rn, rc, sA, sn, sc, fA, fn, fc, pA, pn, pc⟩ 26)
  have hzx : w.heap.size < (w.alloc (.cells #[.int .i64 m.guest, .slice rA rn rc, .slice sA sn sc, .slice fA fn fc, .slice pA pn pc] 26)).heap.size := by simp
  have HZX := Lib.hid hzx
  clear hzx
  have K1' := fun W (hb : Below w.heap.size w W) => tcounts_any ⟨rA, rn, rc, sA, sn, sc, fA, fn, fc, pA, pn, pc⟩ m W (h.next hb)
  have K2' := fun W (hb : Below w.heap.size w W) => rshape_any ⟨rA, rn, rc, sA, sn, sc, fA, fn, fc, pA, pn, pc⟩ m W (h.next hb)
  have K4' := fun W (hb : Below w.heap.size w W) => tcheck_any ⟨rA, rn, rc, sA, sn, sc, fA, fn, fc, pA, pn, pc⟩ m W (h.next hb)
  have K5' := fun W (hb : Below w.heap.size w W) => rcheckimg_any ⟨rA, rn, rc, sA, sn, sc, fA, fn, fc, pA, pn, pc⟩ m W (h.next hb)
  generalize checkErr m = ck at K4' K5'
  have K4 := Lib.hid K4'
  have K5 := Lib.hid K5'
  clear K4' K5'
  by_cases he : shapeErr m = 0
  · have K3' := fun W (hb : Below w.heap.size w W) => rcounts_any ⟨rA, rn, rc, sA, sn, sc, fA, fn, fc, pA, pn, pc⟩ m W (h.next hb) (shape_cbd he)
    have hcv : cntV m = countsOf m := by unfold cntV; rw [if_pos he]
    have hcl := countsOf_len m
    have hsl := (shape_cbd he).slots
    rw [he, hcv] at K1'
    rw [he] at K2'
    rw [← hcl] at K3' hsl
    generalize countsOf m = cs at K1' K3' hcl hsl
    have K1 := Lib.hid K1'
    have K2 := Lib.hid K2'
    have K3 := Lib.hid K3'
    clear K1' K2' K3' h hcv hcl he
    go_enter Try.func4, Try.ntmps4
    go_wp2_with fail
    refine (K1.out _ HB1).mono ?_
    rintro e w1 ⟨A1, n1, c1, rfl, ho1, hb1, hc1, hm1⟩
    have l1 : n1 ≤ 40 := by have := ho1.1; simp [ints] at this; omega
    have R1 := Lib.hid (Rd.of_own ho1)
    have HBa := below_next HB1 hb1
    have HXa := Lib.hid (HX.out.keep hb1 HZX.out)
    have hz1 : w.heap.size < w1.heap.size := by have := HZX.out; have := hb1.size; omega
    obtain ⟨b0, b1, b2, b3, b4⟩ := HXa.out
    dsimp only at b0 b1 b2 b3 b4
    clear ho1 hb1 HX
    go_wp2_with fail
    refine (K2.out _ HBa).mono ?_
    rintro e w2 ⟨rfl, hb2⟩
    have R2 := Lib.hid (R1.out.next hb2)
    have HBb := below_next HBa hb2
    have HXb := Lib.hid (HXa.out.keep hb2 hz1)
    have hz2 : w.heap.size < w2.heap.size := by have := hb2.size; omega
    clear b0 b1 b2 b3 b4 hb2 HXa R1
    obtain ⟨b0, b1, b2, b3, b4⟩ := HXb.out
    dsimp only at b0 b1 b2 b3 b4
    go_wp2_with fail
    refine (K3.out _ HBb).mono ?_
    rintro e w3 ⟨A3, c3, rfl, ho3, hb3, hc3, hm3⟩
    have R3 := Lib.hid (Rd.of_own ho3)
    have R23 := Lib.hid (R2.out.next hb3)
    have HBc := below_next HBb hb3
    have HXc := HXb.out.keep hb3 hz2
    have hz3 : w.heap.size < w3.heap.size := by have := hb3.size; omega
    clear b0 b1 b2 b3 b4 hb3 HXb ho3 R2
    obtain ⟨b0, b1, b2, b3, b4⟩ := HXc
    dsimp only at b0 b1 b2 b3 b4
    have S1 := Lib.hid (fun W (hb : Since w3 W) => sameInts_any A1 A3 n1 cs.length c1 c3 cs cs W (R23.out.next hb.below) (R3.out.next hb.below) (by omega) (by omega))
    have C1 := Lib.hid (fun W (hb : Since w3 W) => K4.out W (below_next HBc hb.below))
    have C2 := Lib.hid (fun W (hb : Since w3 W) => K5.out W (below_next HBc hb.below))
    have HBC := Lib.hid HBc
    clear K1 K2 K3 K4 K5 HB1 HBa HBb HBc HZX
    go_wp2_with fail
    go_region_held3 (fun w' => w'.cell? ⟨w.heap.size, 0, none⟩ = some (.int .i64 m.guest) ∧ w'.cell? ⟨w.heap.size, 1, none⟩ = some (.slice rA rn rc) ∧ w'.cell? ⟨w.heap.size, 2, none⟩ = some (.slice sA sn sc) ∧ w'.cell? ⟨w.heap.size, 3, none⟩ = some (.slice fA fn fc) ∧ w'.cell? ⟨w.heap.size, 4, none⟩ = some (.slice pA pn pc) ∧ Since w3 w')
      (((repeat (refine img_keep2 hz3 (by assumption) ?_)); refine ⟨?_, ?_, ?_, ?_, ?_, ?_⟩ <;> first | assumption | exact Since.start _ | exact Since.refl _))
      (first | (go_at_call 11; refine (treeBegun_any _).mono ?_; rintro e w5 ⟨rfl, hb5⟩; have T5 := (Since.start w3).next hb5) | (go_at_call 16; refine (S1.out _ ?_).mono ?_; (assumption); rintro e w6 ⟨rfl, hb6⟩; have T6 := T5.next hb6) | (go_at_call 17; refine (C1.out _ ?_).mono ?_; (assumption); rintro e w7 ⟨rfl, hb7⟩; have T7 := T6.next hb7) | (go_at_call 18; refine (C2.out _ ?_).mono ?_; (assumption); rintro e w8 ⟨rfl, hb8⟩; have T8 := T7.next hb8))
    all_goals
      go_wp2_with fail
      go_ret
      exact ⟨by simp, below_next HBC.out T8.below⟩
  · have hcv : cntV m = [] := by unfold cntV; rw [if_neg he]
    have he' : (shapeErr m == 0) = false := by simpa using he
    rw [hcv] at K1'
    generalize shapeErr m = er at K1' K2' he'
    have K1 := Lib.hid K1'
    have K2 := Lib.hid K2'
    clear K1' K2' h hcv he
    go_enter Try.func4, Try.ntmps4
    go_wp2_with fail
    refine (K1.out _ HB1).mono ?_
    rintro e w1 ⟨A1, n1, c1, rfl, ho1, hb1, hc1, hm1⟩
    have l1 : n1 = 0 := by have := ho1.1; simp [ints] at this; omega
    have R1 := Lib.hid (Rd.of_own ho1)
    have HBa := below_next HB1 hb1
    have HXa := Lib.hid (HX.out.keep hb1 HZX.out)
    have hz1 : w.heap.size < w1.heap.size := by have := HZX.out; have := hb1.size; omega
    obtain ⟨b0, b1, b2, b3, b4⟩ := HXa.out
    dsimp only at b0 b1 b2 b3 b4
    subst l1
    clear ho1 hb1 HX
    go_wp2_with fail
    refine (K2.out _ HBa).mono ?_
    rintro e w3 ⟨rfl, hb2⟩
    have R23 := Lib.hid (R1.out.next hb2)
    have HBc := below_next HBa hb2
    have HXb := Lib.hid (HXa.out.keep hb2 hz1)
    have hz3 : w.heap.size < w3.heap.size := by have := hb2.size; omega
    clear b0 b1 b2 b3 b4 hb2 HXa R1
    obtain ⟨b0, b1, b2, b3, b4⟩ := HXb.out
    dsimp only at b0 b1 b2 b3 b4
    have S1 := Lib.hid (fun W (hb : Since w3 W) => sameInts_any A1 none 0 0 c1 0 [] [] W (R23.out.next hb.below) Rd.none_ (by omega) (by omega))
    have C1 := Lib.hid (fun W (hb : Since w3 W) => K4.out W (below_next HBc hb.below))
    have C2 := Lib.hid (fun W (hb : Since w3 W) => K5.out W (below_next HBc hb.below))
    have HBC := Lib.hid HBc
    clear K1 K2 K4 K5 HB1 HBa HBc HZX HXb
    go_wp2_with fail
    go_region_held3 (fun w' => w'.cell? ⟨w.heap.size, 0, none⟩ = some (.int .i64 m.guest) ∧ w'.cell? ⟨w.heap.size, 1, none⟩ = some (.slice rA rn rc) ∧ w'.cell? ⟨w.heap.size, 2, none⟩ = some (.slice sA sn sc) ∧ w'.cell? ⟨w.heap.size, 3, none⟩ = some (.slice fA fn fc) ∧ w'.cell? ⟨w.heap.size, 4, none⟩ = some (.slice pA pn pc) ∧ Since w3 w')
      (((repeat (refine img_keep2 hz3 (by assumption) ?_)); refine ⟨?_, ?_, ?_, ?_, ?_, ?_⟩ <;> first | assumption | exact Since.start _ | exact Since.refl _))
      (first | (go_at_call 11; refine (treeBegun_any _).mono ?_; rintro e w5 ⟨rfl, hb5⟩; have T5 := (Since.start w3).next hb5) | (go_at_call 16; refine (S1.out _ ?_).mono ?_; (assumption); rintro e w6 ⟨rfl, hb6⟩; have T6 := T5.next hb6) | (go_at_call 17; refine (C1.out _ ?_).mono ?_; (assumption); rintro e w7 ⟨rfl, hb7⟩; have T7 := T6.next hb7) | (go_at_call 18; refine (C2.out _ ?_).mono ?_; (assumption); rintro e w8 ⟨rfl, hb8⟩; have T8 := T7.next hb8))
    all_goals
      go_wp2_with fail
      go_ret
      exact ⟨by simp, below_next HBC.out T8.below⟩

set_option maxRecDepth 100000 in
set_option maxHeartbeats 4000000 in
theorem law_treeLooks (v : IV) (m : Img) (x : Int) (w : World) (h : ImgR w w.heap.size v m) :
    Calls Try.prog 5 #[.agg #[.int .i64 m.guest, .slice v.rA v.rn v.rc, .slice v.sA v.sn v.sc, .slice v.fA v.fn v.fc, .slice v.pA v.pn v.pc], .int .i64 x] w fun e w' => e = .returned (.bool true) ∧ Below w.heap.size w w' := by
  obtain ⟨rA, rn, rc, sA, sn, sc, fA, fn, fc, pA, pn, pc⟩ := v
  dsimp only
  have HB1 := below1 w (.cells #[.int .i64 m.guest, .slice rA rn rc, .slice sA sn sc, .slice fA fn fc, .slice pA pn pc] 26)
  have HX := Lib.hid (Box.new w m.guest ⟨rA, rn, rc, sA, sn, sc, fA, fn, fc, pA, pn, pc⟩ 26)
  have hzx : w.heap.size < (w.alloc (.cells #[.int .i64 m.guest, .slice rA rn rc, .slice sA sn sc, .slice fA fn fc, .slice pA pn pc] 26)).heap.size := by simp
  have HZX := Lib.hid hzx
  clear hzx
  have K1' := fun W (hb : Below w.heap.size w W) => tlook_any ⟨rA, rn, rc, sA, sn, sc, fA, fn, fc, pA, pn, pc⟩ m x W (h.next hb)
  have K2' := fun W (hb : Below w.heap.size w W) => rlookE_any ⟨rA, rn, rc, sA, sn, sc, fA, fn, fc, pA, pn, pc⟩ m x W (h.next hb)
  by_cases he : lookE m x = 0
  · obtain ⟨hck, hx0, hx1⟩ := look_is he
    obtain ⟨n, rfl⟩ := Int.eq_ofNat_of_zero_le hx0
    have K3' := fun W (hb : Below w.heap.size w W) => rlookOf_any ⟨rA, rn, rc, sA, sn, sc, fA, fn, fc, pA, pn, pc⟩ m n W (h.next hb) (entOk_own hck hx1)
    rw [(look_ok hck hx1).2, he] at K1'
    rw [he] at K2'
    generalize entryOf m.slots m.root n = en at K1' K3'
    have K1 := Lib.hid K1'
    have K2 := Lib.hid K2'
    have K3 := Lib.hid K3'
    clear K1' K2' K3' h he hck hx0 hx1
    go_enter Try.func5, Try.ntmps5
    go_wp2_with fail
    refine (K1.out _ HB1).mono ?_
    rintro e w1 ⟨rfl, hb1⟩
    have HBa := below_next HB1 hb1
    have HXa := Lib.hid (HX.out.keep hb1 HZX.out)
    have hz1 : w.heap.size < w1.heap.size := by have := HZX.out; have := hb1.size; omega
    obtain ⟨b0, b1, b2, b3, b4⟩ := HXa.out
    dsimp only at b0 b1 b2 b3 b4
    go_wp2_with fail
    refine (K2.out _ HBa).mono ?_
    rintro e w2 ⟨rfl, hb2⟩
    have HBb := below_next HBa hb2
    clear b0 b1 b2 b3 b4
    obtain ⟨b0, b1, b2, b3, b4⟩ := HXa.out.keep hb2 hz1
    dsimp only at b0 b1 b2 b3 b4
    go_wp2_with fail
    refine (K3.out _ HBb).mono ?_
    rintro e w3 ⟨rfl, hb3⟩
    have HBc := below_next HBb hb3
    go_wp2_with fail
    refine (treeBegun_any _).mono ?_
    rintro e w4 ⟨rfl, hb4⟩
    go_wp2_with fail
    go_ret
    exact ⟨by simp, below_next HBc hb4⟩
  · have hn : lookN m x = 0 := by unfold lookN; rw [if_neg he]
    have he' : (lookE m x == 0) = false := by simpa using he
    rw [hn] at K1'
    generalize lookE m x = er at K1' K2' he'
    have K1 := Lib.hid K1'
    have K2 := Lib.hid K2'
    clear K1' K2' h he hn
    go_enter Try.func5, Try.ntmps5
    go_wp2_with fail
    refine (K1.out _ HB1).mono ?_
    rintro e w1 ⟨rfl, hb1⟩
    have HBa := below_next HB1 hb1
    obtain ⟨b0, b1, b2, b3, b4⟩ := HX.out.keep hb1 HZX.out
    dsimp only at b0 b1 b2 b3 b4
    go_wp2_with fail
    refine (K2.out _ HBa).mono ?_
    rintro e w2 ⟨rfl, hb2⟩
    have HBb := below_next HBa hb2
    go_wp2_with fail
    refine (treeBegun_any _).mono ?_
    rintro e w4 ⟨rfl, hb4⟩
    go_wp2_with fail
    go_ret
    exact ⟨by simp, below_next HBb hb4⟩
end Go.Proofs.Ytnjjnioilbnnpaa
