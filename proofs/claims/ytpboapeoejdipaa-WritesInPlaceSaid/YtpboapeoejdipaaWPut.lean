/- The desk's put. Conditions: the desk holds an image that is right; the entries are fine. -/
import Derived.Test.YtpboapeoejdipaaWTurn
namespace Go.Proofs.Ytpboapeoejdipaa
open Go.RowKit Sl
theorem ints_getD {xs : List Int} {w : World} {b o : Nat} (h : ∀ j u, (ints xs)[j]? = some u → w.cell? ⟨b, o + j, none⟩ = some u) (j : Nat) (hj : j < xs.length) : w.cell? ⟨b, o + j, none⟩ = some (.int .i64 (xs.getD j 0)) :=
  h j _ (by simp [ints, List.getD_eq_getElem?_getD, List.getElem?_eq_getElem hj])
theorem equalInts (A A2 : Option Addr) (n c n2 c2 B B2 : Nat) (xs ys : List Int) (w : World) (h : Rd w B 1 A n (ints xs)) (h2 : Rd w B2 1 A2 n2 (ints ys)) (hn : 0 < n) (hn2 : 0 < n2) (hc : n ≤ maxLen) (hc2 : n2 ≤ maxLen) :
    Calls Try.prog 76 #[.slice A n c, .slice A2 n2 c2] w fun e w' => e = .returned (.bool (xs == ys)) ∧ Below w.heap.size w w' := by
  have l1 := h.len
  have l2 := h2.len
  obtain ⟨b, o, rfl, _, k1⟩ := h.2 hn
  obtain ⟨b2, o2, rfl, _, k2⟩ := h2.2 hn2
  refine (Try.slices_Equal_int b o n c b2 o2 n2 c2 xs ys w (by omega) (by omega) (by unfold maxLen at hc; omega) (by unfold maxLen at hc2; omega) (ints_getD k1) (ints_getD k2)).mono ?_
  rintro e w' ⟨rfl, q, rfl⟩
  refine ⟨?_, below_drewN (Below.refl _ _) q⟩
  rw [List.take_of_length_le (by omega), List.take_of_length_le (by omega)]
theorem putM_same {m : Img} {k : Nat} {t : List Int} (h : (t == entriesAt m k) = true) : putM m k t = some m := by unfold putM; rw [if_pos (by simpa using h)]
theorem putM_bare {m : Img} {k : Nat} {t : List Int} (h : (t == entriesAt m k) = false) (hb : bare t = true) : putM m k t = some { m with root := m.root.set k 0 } := by unfold putM; rw [if_neg (by simpa using h), if_pos hb]
theorem putM_table {m : Img} {k : Nat} {t : List Int} (h : (t == entriesAt m k) = false) (hb : bare t = false) : putM m k t = tableM m k t := by unfold putM tableM; rw [if_neg (by simpa using h), if_neg (by rw [hb]; decide)]
theorem entriesAt_len {m : Img} (h : checkErr m = 0) {k : Nat} (hk : k < m.root.length) : (entriesAt m k).length = 4 := by
  rcases root_facts h hk with h0 | ⟨j, s, hj, h1, hs, _, h4⟩
  · rw [entries_no (by omega)]; rfl
  · rw [entries_yes hj h1 hs, h4]
set_option maxRecDepth 100000 in
set_option maxHeartbeats 1000000 in
theorem put_any (base : Nat) (tg : Nat → Nat) (b : Nat) (v : IV) (q : List SV) (p : List PV) (m : Img) (k : Nat) (l : List Int) (A : Option Addr) (n c : Nat) (w : World) (h : DeskAt w base tg b v q p m) (hm : checkErr m = 0) (hk : k < v.rn) (ht : TabO w base tg 3 A n c l) (hl : entriesErr l = 0) :
    Calls Try.prog 47 #[.pointer (some ⟨b, 0, none⟩), .int .i64 (k : Nat), .slice A n c] w (TurnRes base b (putM m k l) w) := by
  have hI := h.own.imgR
  have hkr : k < m.root.length := by have := hI.rlen; omega
  have hl4 := entriesErr_is hl
  have hn := ht.rd.len
  have hle := entriesAt_len hm hkr
  have K1 := Lib.hid (entries_any b v m k w hI h.box hk (rootOk_of hm hkr))
  have KE := Lib.hid (fun A2 c2 n2 (hn2 : n2 = 4) W (hb : Below w.heap.size w W) (h2 : Rd W W.heap.size 1 A2 4 (ints (entriesAt m k))) => equalInts A A2 n c 4 c2 _ _ l (entriesAt m k) W (ht.next hb).rd h2 (by omega) (by omega) (by unfold maxLen; omega) (by unfold maxLen; omega))
  have hbw : base ≤ w.heap.size := by have := h.ty.ty.lt; have := h.lo; omega
  cases he : (l == entriesAt m k)
  · rw [he] at KE
    have KB' := fun W (hb : Below w.heap.size w W) => ebare_any A n c _ l W (ht.next hb).rd (by unfold maxLen; omega)
    rw [hl] at KB'
    cases hb0 : bare l
    · have KT' := fun W (hb : Below w.heap.size w W) => table_any base tg b v q p m k l A n c W (h.next hb) hm hk (ht.next hb)
      have hR := putM_table (m := m) he hb0
      rw [show bareAns l = false from by unfold bareAns; rw [hl, hb0]; rfl] at KB'
      have KB := Lib.hid KB'
      generalize tableM m k l = o at *
      clear h hI ht hm hl he hb0 KB' hl4 hkr hle
      cases o
      · have KT := Lib.hid KT'
        have R := Lib.hid hR
        clear KT' hR
        go_enter Try.func47, Try.ntmps47
        go_wp2_with fail
        refine K1.out.mono ?_
        rintro e w1 ⟨A1, c1, rfl, ho, hb1, _, _⟩
        go_wp2_with fail
        refine (KE.out _ _ _ rfl _ hb1 (Rd.of_own ho)).mono ?_
        rintro e w2 ⟨rfl, hb2⟩
        have T2 := below_next hb1 hb2
        go_wp2_with fail
        refine (KB.out _ T2).mono ?_
        rintro e w3 ⟨rfl, rfl⟩
        go_wp2_with fail
        refine (KT.out _ T2).mono ?_
        rintro e w4 ⟨rfl, hb4⟩
        exact ⟨rfl, TurnRes.no R.out ((T2.mono hbw).trans hb4)⟩
      · have KT := Lib.hid KT'
        have R := Lib.hid hR
        clear KT' hR
        go_enter Try.func47, Try.ntmps47
        go_wp2_with fail
        refine K1.out.mono ?_
        rintro e w1 ⟨A1, c1, rfl, ho, hb1, _, _⟩
        go_wp2_with fail
        refine (KE.out _ _ _ rfl _ hb1 (Rd.of_own ho)).mono ?_
        rintro e w2 ⟨rfl, hb2⟩
        have T2 := below_next hb1 hb2
        go_wp2_with fail
        refine (KB.out _ T2).mono ?_
        rintro e w3 ⟨rfl, rfl⟩
        go_wp2_with fail
        refine (KT.out _ T2).mono ?_
        rintro e w4 ⟨rfl, ⟨tg4, v4, q4, p4, hd4⟩, hb4⟩
        have HD4 := Lib.hid hd4
        clear hd4
        go_wp2_with fail
        go_end0
        exact TurnRes.yes R.out HD4.out ((T2.mono hbw).trans hb4)
    · have R := Lib.hid (putM_bare he hb0)
      rw [show bareAns l = true from by unfold bareAns; rw [hl, hb0]; rfl] at KB'
      have KB := Lib.hid KB'
      have HD := Lib.hid h
      have e0 : (0 : Int) ≤ (k : Int) := by omega
      have e1 : (k : Int) < (v.rn : Int) := by omega
      clear h hI ht hm hl he hb0 KB' hl4 hkr hle
      go_enter Try.func47, Try.ntmps47
      go_wp2_with fail
      refine K1.out.mono ?_
      rintro e w1 ⟨A1, c1, rfl, ho, hb1, _, _⟩
      go_wp2_with fail
      refine (KE.out _ _ _ rfl _ hb1 (Rd.of_own ho)).mono ?_
      rintro e w2 ⟨rfl, hb2⟩
      have T2 := below_next hb1 hb2
      go_wp2_with fail
      refine (KB.out _ T2).mono ?_
      rintro e w3 ⟨rfl, rfl⟩
      have hd := HD.out.next T2
      obtain ⟨g, hA, hbg, hfz, ⟨y, hy⟩, hd2⟩ := hd.setRoot hk 0
      have x1 := hd.box.2.1
      rw [hA] at x1
      have HD2 := Lib.hid hd2
      have HT2 := Lib.hid T2
      clear hd hd2 T2 hb1 hb2 ho
      go_wp2_with fail
      go_end0
      exact TurnRes.yes R.out HD2.out ((HT2.out.mono hbw).setCell (p := ⟨g, k, none⟩) hbg _)
  · rw [he] at KE
    have R := Lib.hid (putM_same he)
    have HD := Lib.hid h
    clear h hI ht hm hl he hl4 hkr hle
    go_enter Try.func47, Try.ntmps47
    go_wp2_with fail
    refine K1.out.mono ?_
    rintro e w1 ⟨A1, c1, rfl, ho, hb1, _, _⟩
    go_wp2_with fail
    refine (KE.out _ _ _ rfl _ hb1 (Rd.of_own ho)).mono ?_
    rintro e w2 ⟨rfl, hb2⟩
    have T2 := below_next hb1 hb2
    go_wp2_with fail
    go_end0
    exact TurnRes.yes R.out (HD.out.next T2) (T2.mono hbw)
end Go.Proofs.Ytpboapeoejdipaa
