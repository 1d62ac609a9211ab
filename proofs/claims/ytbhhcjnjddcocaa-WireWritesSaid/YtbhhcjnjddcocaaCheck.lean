/- The texts Check, Check2 in one. Conditions: as each says. -/
import Derived.Test.YtbhhcjnjddcocaaShape
import Derived.Test.YtbhhcjnjddcocaaRShape
import Derived.Test.YtbhhcjnjddcocaaCounts
import Derived.Test.YtbhhcjnjddcocaaRCounts
import Derived.Test.YtbhhcjnjddcocaaPureA
-- Check: tree.Counts, tree.Check, tree.Look; the reference's CheckImage, LookError, LookOf. Conditions: the image is read below the heap's size.
namespace Go.Proofs.Ytbhhcjnjddcocaa
open Go.RowKit Sl

/-- A fresh row of numbers and an error. -/
def IntsRes (base : Nat) (xs : List Int) (er : Int) (w : World) (e : Ending) (w' : World) : Prop :=
  ∃ A n c, e = .returned (.tuple #[.slice A n c, .int .i64 er]) ∧ w'.ownsRow base 3 1 (.slice A n c) n (ints xs) ∧ Below base w w' ∧ n ≤ c ∧ c ≤ maxLen
theorem IntsRes.mk_nil {base : Nat} {xs : List Int} {er er' : Int} {w w' : World} (hx : xs = []) (he : er = er') (hb : Below base w w') : IntsRes base xs er w (.returned (.tuple #[.slice none 0 0, .int .i64 er'])) w' := by
  subst hx; subst he
  exact ⟨none, 0, 0, rfl, World.ownsRow_nil _ _ _ _, hb, Nat.le_refl _, by simp⟩

theorem own_low {w : World} {base base' size n : Nat} {e : TypeId} {v : Value} {xs : List Value} (h : w.ownsRow base e size v n xs) (hb : base' ≤ base) : w.ownsRow base' e size v n xs := by
  refine ⟨h.1, ?_⟩
  rcases h.2 with h2 | ⟨g, cap, cur, h1, h2, r⟩
  · exact .inl h2
  · exact .inr ⟨g, cap, cur, h1, Nat.le_trans hb h2, r⟩

set_option maxRecDepth 100000 in
set_option maxHeartbeats 400000 in
theorem tcounts_any (v : IV) (m : Img) (w : World) (h : ImgR w w.heap.size v m) :
    Calls Try.prog 23 #[.agg #[.int .i64 m.guest, .slice v.rA v.rn v.rc, .slice v.sA v.sn v.sc, .slice v.fA v.fn v.fc, .slice v.pA v.pn v.pc]] w (IntsRes w.heap.size (cntV m) (shapeErr m) w) := by
  obtain ⟨rA, rn, rc, sA, sn, sc, fA, fn, fc, pA, pn, pc⟩ := v
  dsimp only
  have HB1 := below1 w (.cells #[.int .i64 m.guest, .slice rA rn rc, .slice sA sn sc, .slice fA fn fc, .slice pA pn pc] 26)
  have K1' := fun W (hb : Below w.heap.size w W) => shape_any ⟨rA, rn, rc, sA, sn, sc, fA, fn, fc, pA, pn, pc⟩ m W (h.next hb)
  have HX := Box.new w m.guest ⟨rA, rn, rc, sA, sn, sc, fA, fn, fc, pA, pn, pc⟩ 26
  have hz : w.heap.size < (w.alloc (.cells #[.int .i64 m.guest, .slice rA rn rc, .slice sA sn sc, .slice fA fn fc, .slice pA pn pc] 26)).heap.size := by simp
  have HX' := Lib.hid HX
  have HZ := Lib.hid hz
  clear HX hz
  by_cases he : shapeErr m = 0
  · have K2 := Lib.hid (fun W (hb : Below w.heap.size w W) => counts_any ⟨rA, rn, rc, sA, sn, sc, fA, fn, fc, pA, pn, pc⟩ m W (h.next hb) (shape_cbd he) (shape_wired he))
    rw [he] at K1'
    have K1 := Lib.hid K1'
    have R := Lib.hid (show cntV m = countsOf m from by unfold cntV; rw [if_pos he])
    have HE := Lib.hid he
    clear K1' h he
    go_enter Try.func23, Try.ntmps23
    go_wp2_with fail
    refine (K1.out _ HB1).mono ?_
    rintro e w1 ⟨rfl, hb1⟩
    have HB := below_next HB1 hb1
    obtain ⟨b0, b1, b2, b3, b4⟩ := HX'.out.keep hb1 HZ.out
    dsimp only at b0 b1 b2 b3 b4
    go_wp2_with fail
    refine (K2.out _ HB).mono ?_
    rintro e w2 ⟨A, c, rfl, ho, hb2, hc1, hc2⟩
    go_wp2_with fail
    go_ret2
    exact ⟨A, m.slots.length, c, by rw [HE.out]; rfl, by rw [R.out]; exact own_low ho HB.size, HB.trans (hb2.mono HB.size), hc1, hc2⟩
  · have R := Lib.hid (show cntV m = [] from by unfold cntV; rw [if_neg he])
    have he' : (shapeErr m != 0) = true := by simpa using he
    generalize shapeErr m = er at *
    have K1 := Lib.hid K1'
    clear K1' h he
    go_enter Try.func23, Try.ntmps23
    go_wp2_with fail
    refine (K1.out _ HB1).mono ?_
    rintro e w1 ⟨rfl, hb1⟩
    go_wp2_with fail
    go_ret2
    exact IntsRes.mk_nil R.out rfl (below_next HB1 hb1)

set_option maxRecDepth 100000 in
set_option maxHeartbeats 1000000 in
theorem tcheck_any (v : IV) (m : Img) (w : World) (h : ImgR w w.heap.size v m) :
    Calls Try.prog 12 #[.agg #[.int .i64 m.guest, .slice v.rA v.rn v.rc, .slice v.sA v.sn v.sc, .slice v.fA v.fn v.fc, .slice v.pA v.pn v.pc]] w fun e w' => e = .returned (.int .i64 (checkErr m)) ∧ Below w.heap.size w w' := by
  obtain ⟨rA, rn, rc, sA, sn, sc, fA, fn, fc, pA, pn, pc⟩ := v
  dsimp only
  have HB1 := below1 w (.cells #[.int .i64 m.guest, .slice rA rn rc, .slice sA sn sc, .slice fA fn fc, .slice pA pn pc] 26)
  have K1' := fun W (hb : Below w.heap.size w W) => shape_any ⟨rA, rn, rc, sA, sn, sc, fA, fn, fc, pA, pn, pc⟩ m W (h.next hb)
  have HX := Box.new w m.guest ⟨rA, rn, rc, sA, sn, sc, fA, fn, fc, pA, pn, pc⟩ 26
  have hz : w.heap.size < (w.alloc (.cells #[.int .i64 m.guest, .slice rA rn rc, .slice sA sn sc, .slice fA fn fc, .slice pA pn pc] 26)).heap.size := by simp
  have HX' := Lib.hid HX
  have HZ := Lib.hid hz
  clear HX hz
  by_cases he : shapeErr m = 0
  · have K2 := Lib.hid (fun W (hb : Below w.heap.size w W) => counts_any ⟨rA, rn, rc, sA, sn, sc, fA, fn, fc, pA, pn, pc⟩ m W (h.next hb) (shape_cbd he) (shape_wired he))
    rw [he] at K1'
    have K1 := Lib.hid K1'
    have HE := Lib.hid he
    have HI := Lib.hid h
    have hsl : m.slots.length = sn := h.slen
    have hfl : m.refs.length = fn := h.flen
    have hss : sn ≤ 40 := by have := (shape_cbd he).slots; omega
    have hfs : fn = sn := by have := (sh_is he).1.refs; omega
    have HSL := Lib.hid hsl
    subst hfs
    clear K1' h he hsl hfl
    go_enter Try.func12, Try.ntmps12
    go_wp2_with fail
    refine (K1.out _ HB1).mono ?_
    rintro e w1 ⟨rfl, hb1⟩
    have HB := below_next HB1 hb1
    have HX1 := HX'.out.keep hb1 HZ.out
    have hz1 : w.heap.size < w1.heap.size := by have := HZ.out; have := hb1.size; omega
    obtain ⟨b0, b1, b2, b3, b4⟩ := HX1
    dsimp only at b0 b1 b2 b3 b4
    go_wp2_with fail
    rw [HSL.out] at K2
    refine (K2.out _ HB).mono ?_
    rintro e w2 ⟨A, c, rfl, ho, hb2, hc1, hc2⟩
    have HRO := Lib.hid (Rd.of_own ho)
    obtain ⟨b0', b1', b2', b3', b4'⟩ := (show Box w1 w.heap.size m.guest ⟨rA, rn, rc, sA, fn, sc, fA, fn, fc, pA, pn, pc⟩ from ⟨b0, b1, b2, b3, b4⟩).keep hb2 hz1
    dsimp only at b0' b1' b2' b3' b4'
    have HB2 := Lib.hid (HB.trans (hb2.mono HB.size))
    clear ho hb2 b0 b1 b2 b3 b4 hb1 HB hz1
    go_wp2_with fail
    go_loop [14] (fun i => ∃ k : Nat, k ≤ fn ∧ i = .int .i64 k ∧ upto (refAt m) k = true) (fun i => fn - (intOf i).toNat)
    case atStart => exact ⟨0, Nat.zero_le _, rfl, rfl⟩
    case round =>
      obtain ⟨k, hk, rfl, ha⟩ := hrel
      have HA := Lib.hid ha
      clear ha
      by_cases hlt : k < fn
      · obtain ⟨b5, o5, x, rfl, hb5, hx5, c5⟩ := HRO.out.at1 hlt
        obtain ⟨b6, o6, r, rfl, hb6, hx6, c6⟩ := HI.out.refs.at1 hlt
        obtain ⟨b7, o7, s, tA, tn, tc, rfl, hb7, hx7, d0, d1, d2, hsv⟩ := HI.out.slots.at_ (k := k) hlt
        have c6' := (HB2.out.cell (p := ⟨b6, o6 + k, none⟩) hb6).trans c6
        have d0' := (HB2.out.cell (p := ⟨b7, o7 + k * 3, none⟩) hb7).trans d0
        have HR := Lib.hid (refAt_at hx6 hx5 hx7)
        clear hx5 hx6 hx7 c6 d0 d1 d2 hsv
        cases h1 : (r != x)
        · have h1' : (r == x) = true := by simpa using h1
          cases h2 : (x == 0) <;> cases h3 : (s.kind == 0)
          · have HRR := Lib.hid (show refAt m k = true from by rw [HR.out, h1', h2, h3]; rfl)
            go_wp2_with fail
            go_round
            case rel => exact ⟨k + 1, by omega, by go_num, by rw [upto_succ, HA.out, HRR.out]; rfl⟩
            case measure => simp [intOf]; omega
          · have HRR := Lib.hid (show refAt m k = false from by rw [HR.out, h1', h2, h3]; rfl)
            go_wp2_with fail
            go_ret
            exact ⟨ret_int (check_bad HE.out (by rw [HSL.out]; exact upto_false hlt HRR.out)), HB2.out⟩
          · have HRR := Lib.hid (show refAt m k = false from by rw [HR.out, h1', h2, h3]; rfl)
            go_wp2_with fail
            go_ret
            exact ⟨ret_int (check_bad HE.out (by rw [HSL.out]; exact upto_false hlt HRR.out)), HB2.out⟩
          · have HRR := Lib.hid (show refAt m k = true from by rw [HR.out, h1', h2, h3]; rfl)
            go_wp2_with fail
            go_round
            case rel => exact ⟨k + 1, by omega, by go_num, by rw [upto_succ, HA.out, HRR.out]; rfl⟩
            case measure => simp [intOf]; omega
        · have HRR := Lib.hid (show refAt m k = false from by rw [HR.out, show (r == x) = false from by simpa using h1]; rfl)
          go_wp2_with fail
          go_ret
          exact ⟨ret_int (check_bad HE.out (by rw [HSL.out]; exact upto_false hlt HRR.out)), HB2.out⟩
      · have HD := Lib.hid (show checkErr m = 0 from check_ok HE.out (by rw [HSL.out, show fn = k from by omega]; exact HA.out))
        go_wp2_with fail
        go_ret
        exact ⟨ret_int HD.out, HB2.out⟩
  · have R := Lib.hid (check_no he)
    have he' : (shapeErr m != 0) = true := by simpa using he
    generalize shapeErr m = er at *
    have K1 := Lib.hid K1'
    clear K1' h he
    go_enter Try.func12, Try.ntmps12
    go_wp2_with fail
    refine (K1.out _ HB1).mono ?_
    rintro e w1 ⟨rfl, hb1⟩
    go_wp2_with fail
    go_ret
    exact ⟨ret_int R.out, below_next HB1 hb1⟩
end Go.Proofs.Ytbhhcjnjddcocaa
-- Check2: The reference's CheckImage; tree.Look, LookError, LookOf. Conditions: the image is read below the heap's size.
namespace Go.Proofs.Ytbhhcjnjddcocaa
open Go.RowKit Sl

set_option maxRecDepth 100000 in
set_option maxHeartbeats 1000000 in
theorem rcheckimg_any (v : IV) (m : Img) (w : World) (h : ImgR w w.heap.size v m) :
    Calls Try.prog 6 #[.agg #[.int .i64 m.guest, .slice v.rA v.rn v.rc, .slice v.sA v.sn v.sc, .slice v.fA v.fn v.fc, .slice v.pA v.pn v.pc]] w fun e w' => e = .returned (.int .i64 (checkErr m)) ∧ Below w.heap.size w w' := by
  obtain ⟨rA, rn, rc, sA, sn, sc, fA, fn, fc, pA, pn, pc⟩ := v
  dsimp only
  have HB1 := below1 w (.cells #[.int .i64 m.guest, .slice rA rn rc, .slice sA sn sc, .slice fA fn fc, .slice pA pn pc] 26)
  have K1' := fun W (hb : Below w.heap.size w W) => rshape_any ⟨rA, rn, rc, sA, sn, sc, fA, fn, fc, pA, pn, pc⟩ m W (h.next hb)
  have HX := Box.new w m.guest ⟨rA, rn, rc, sA, sn, sc, fA, fn, fc, pA, pn, pc⟩ 26
  have hz : w.heap.size < (w.alloc (.cells #[.int .i64 m.guest, .slice rA rn rc, .slice sA sn sc, .slice fA fn fc, .slice pA pn pc] 26)).heap.size := by simp
  have HX' := Lib.hid HX
  have HZ := Lib.hid hz
  clear HX hz
  by_cases he : shapeErr m = 0
  · have K2 := Lib.hid (fun W (hb : Below w.heap.size w W) => rcounts_any ⟨rA, rn, rc, sA, sn, sc, fA, fn, fc, pA, pn, pc⟩ m W (h.next hb) (shape_cbd he))
    rw [he] at K1'
    have K1 := Lib.hid K1'
    have HE := Lib.hid he
    have HI := Lib.hid h
    have hsl : m.slots.length = sn := h.slen
    have hfl : m.refs.length = fn := h.flen
    have hss : sn ≤ 40 := by have := (shape_cbd he).slots; omega
    have hfs : fn = sn := by have := (sh_is he).1.refs; omega
    have HSL := Lib.hid hsl
    subst hfs
    clear K1' h he hsl hfl
    go_enter Try.func6, Try.ntmps6
    go_wp2_with fail
    refine (K1.out _ HB1).mono ?_
    rintro e w1 ⟨rfl, hb1⟩
    have HB := below_next HB1 hb1
    have HX1 := HX'.out.keep hb1 HZ.out
    have hz1 : w.heap.size < w1.heap.size := by have := HZ.out; have := hb1.size; omega
    obtain ⟨b0, b1, b2, b3, b4⟩ := HX1
    dsimp only at b0 b1 b2 b3 b4
    go_wp2_with fail
    rw [HSL.out] at K2
    refine (K2.out _ HB).mono ?_
    rintro e w2 ⟨A, c, rfl, ho, hb2, hc1, hc2⟩
    have HRO := Lib.hid (Rd.of_own ho)
    have HX2 := Lib.hid ((show Box w1 w.heap.size m.guest ⟨rA, rn, rc, sA, fn, sc, fA, fn, fc, pA, pn, pc⟩ from ⟨b0, b1, b2, b3, b4⟩).keep hb2 hz1)
    have hz2 : w.heap.size < w2.heap.size := by have := hb2.size; omega
    have HB2 := Lib.hid (HB.trans (hb2.mono HB.size))
    clear ho hb2 b0 b1 b2 b3 b4 hb1 HB hz1
    go_wp2_with fail
    go_loopw [5] (fun i wr => ∃ k : Nat, k ≤ fn ∧ i = .int .i64 k ∧ upto (refAt m) k = true ∧ Below w2.heap.size w2 wr) (fun i _ => fn - (intOf i).toNat)
    case atStart => exact ⟨0, Nat.zero_le _, rfl, rfl, Below.refl _ _⟩
    case round =>
      obtain ⟨k, hk, rfl, ha, hbw⟩ := hrel
      have HA := Lib.hid ha
      have HBr := Lib.hid (below_next HB2.out hbw)
      obtain ⟨b0, b1, b2, b3, b4⟩ := HX2.out.keep hbw hz2
      dsimp only at b0 b1 b2 b3 b4
      clear ha
      by_cases hlt : k < fn
      · obtain ⟨b5, o5, x, rfl, hb5, hx5, c5⟩ := HRO.out.at1 hlt
        obtain ⟨b6, o6, r, rfl, hb6, hx6, c6⟩ := HI.out.refs.at1 hlt
        obtain ⟨b7, o7, s, tA, tn, tc, rfl, hb7, hx7, d0, d1, d2, hsv⟩ := HI.out.slots.at_ (k := k) hlt
        have c5' := (hbw.cell (p := ⟨b5, o5 + k, none⟩) hb5).trans c5
        have c6' := (HBr.out.cell (p := ⟨b6, o6 + k, none⟩) hb6).trans c6
        have d0' := (HBr.out.cell (p := ⟨b7, o7 + k * 3, none⟩) hb7).trans d0
        have HR := Lib.hid (refAt_at hx6 hx5 hx7)
        have k0 : (0 : Int) ≤ (k : Int) := by omega
        have k1 : (k : Int) < (fn : Int) := by omega
        clear hx5 hx6 hx7 c6 d0 d1 d2 hsv c5
        cases h1 : (r != x)
        · have h1' : (r == x) = true := by simpa using h1
          cases h2 : (x == 0) <;> cases h3 : (s.kind == 0)
          · have HRR := Lib.hid (show refAt m k = true from by rw [HR.out, h1', h2, h3]; rfl)
            clear h1'
            go_wp2_with fail
            go_quiet (fail)
            go_wp2_with fail
            go_roundw
            case rel => exact ⟨k + 1, by omega, by go_num, by rw [upto_succ, HA.out, HRR.out]; rfl, below_drewN hbw _⟩
            case measure => simp [intOf]; omega
          · have HRR := Lib.hid (show refAt m k = false from by rw [HR.out, h1', h2, h3]; rfl)
            clear h1'
            go_wp2_with fail
            go_quiet (fail)
            go_wp2_with fail
            go_ret
            exact ⟨ret_int (check_bad HE.out (by rw [HSL.out]; exact upto_false hlt HRR.out)), below_drewN HBr.out _⟩
          · have HRR := Lib.hid (show refAt m k = false from by rw [HR.out, h1', h2, h3]; rfl)
            clear h1'
            go_wp2_with fail
            go_quiet (fail)
            go_wp2_with fail
            go_ret
            exact ⟨ret_int (check_bad HE.out (by rw [HSL.out]; exact upto_false hlt HRR.out)), below_drewN HBr.out _⟩
          · have HRR := Lib.hid (show refAt m k = true from by rw [HR.out, h1', h2, h3]; rfl)
            clear h1'
            go_wp2_with fail
            go_quiet (fail)
            go_wp2_with fail
            go_roundw
            case rel => exact ⟨k + 1, by omega, by go_num, by rw [upto_succ, HA.out, HRR.out]; rfl, below_drewN hbw _⟩
            case measure => simp [intOf]; omega
        · have HRR := Lib.hid (show refAt m k = false from by rw [HR.out, show (r == x) = false from by simpa using h1]; rfl)
          go_wp2_with fail
          go_quiet (fail)
          go_wp2_with fail
          go_ret
          exact ⟨ret_int (check_bad HE.out (by rw [HSL.out]; exact upto_false hlt HRR.out)), below_drewN HBr.out _⟩
      · have HD := Lib.hid (show checkErr m = 0 from check_ok HE.out (by rw [HSL.out, show fn = k from by omega]; exact HA.out))
        go_wp2_with fail
        go_ret
        exact ⟨ret_int HD.out, HBr.out⟩
  · have R := Lib.hid (check_no he)
    have he' : (shapeErr m != 0) = true := by simpa using he
    generalize shapeErr m = er at *
    have K1 := Lib.hid K1'
    clear K1' h he
    go_enter Try.func6, Try.ntmps6
    go_wp2_with fail
    refine (K1.out _ HB1).mono ?_
    rintro e w1 ⟨rfl, hb1⟩
    go_wp2_with fail
    go_ret
    exact ⟨ret_int R.out, below_next HB1 hb1⟩

/-- A page's entry is there. -/
theorem entOk_of {m : Img} (h : checkErr m = 0) {g : Int} {r : List Int} (hr : rootFine m.slots g r = true) {n : Nat} (hn : (n : Int) < g) : EntOk m.slots r n := by
  obtain ⟨h1, h2⟩ := rootFine_both hr
  have hlt : n / 4 < r.length := by unfold wants at h1; omega
  refine ⟨hlt, ?_⟩
  rcases rootAt_or (h2 _ hlt) with h3 | h3
  · exact .inl h3
  · obtain ⟨k, s, e, k1, ks, kk⟩ := kindOf_in (x := int r (n / 4)) (l := m.slots) (by simp [h3])
    have hl := (List.getElem?_eq_some_iff.1 ks).1
    rw [e]
    refine .inr ⟨by omega, by omega, ?_⟩
    rw [tableAt_at ks, slot_table (sh_is (check_is h).1).1.slots ks kk]; omega
theorem entOk_own {m : Img} (h : checkErr m = 0) {n : Nat} (hn : (n : Int) < m.guest) : EntOk m.slots m.root n := by
  obtain ⟨h1, h2, h3, h4, h5⟩ := sh_is (check_is h).1
  unfold rootsOk at h5
  rw [Bool.and_eq_true] at h5
  exact entOk_of h h5.1 hn

end Go.Proofs.Ytbhhcjnjddcocaa
