/- What set and Resize hand to turned. Conditions: the desk holds an image that is right. -/
import Derived.Test.YtpboapeoejdipaaWPut
import Derived.Deep.RegionHeld3
namespace Go.Proofs.Ytpboapeoejdipaa
open Go.RowKit Sl
theorem entriesAt_fine {m : Img} (h : checkErr m = 0) {k : Nat} (hk : k < m.root.length) : entriesErr (entriesAt m k) = 0 := by
  rcases root_facts h hk with h0 | ⟨j, s, hj, h1, hs, h2, h4⟩
  · rw [entries_no (by omega)]; rfl
  · rw [entries_yes hj h1 hs]
    have := List.all_eq_true.1 (slots_all (sound_of (check_is h).1).slots) s (List.mem_of_getElem? hs)
    unfold slotFine at this
    rw [if_neg (by omega), if_neg (by omega), if_pos h2] at this
    simp only [Bool.and_eq_true, beq_iff_eq] at this
    exact this.1.2
theorem set_fine {t : List Int} (h : entriesErr t = 0) (i : Nat) {e : Int} (he : fine e = true) : entriesErr (t.set i e) = 0 := by
  obtain ⟨h1, h2⟩ := entriesErr_is h
  refine entriesErr_ok (by rw [List.length_set, h1]) ?_
  rw [List.all_eq_true] at h2 ⊢
  intro x hx
  rcases List.mem_or_eq_of_mem_set hx with h3 | rfl
  · exact h2 x h3
  · exact he
theorem withV_set {t : List Int} (h : entriesErr t = 0) {i : Nat} (hi : i < 4) {e : Int} (he : fine e = true) : withV t i e = t.set i e ∧ withE t i e = 0 := by
  have h2 : withE t i e = 0 := by unfold withE; rw [if_pos h, if_pos (by omega), if_pos he]
  exact ⟨by unfold withV; rw [if_pos h2, Int.toNat_natCast], h2⟩
/-- A row of numbers that is new: its tag is nobody's. -/
theorem DeskAt.fresh {w W W' : World} {base b n c : Nat} {tg : Nat → Nat} {v : IV} {q : List SV} {p : List PV} {m : Img} {A : Option Addr} {l : List Int} (h : DeskAt w base tg b v q p m) (T : Below w.heap.size w W) (hb : Below W.heap.size W W') (ho : W'.ownsRow W.heap.size 3 1 (.slice A n c) n (ints l))
    (hn : n ≤ 1000000) (hc : n ≤ c) (hm : c ≤ maxLen) : ∃ tg', DeskAt W' base tg' b v q p m ∧ TabO W' base tg' 3 A n c l := by
  have hbw : base ≤ W.heap.size := by have := h.ty.ty.lt; have := h.lo; have := T.size; omega
  exact ⟨fun g => if W.heap.size ≤ g then 3 else tg g, ((h.next T).retag (fun b' hb' => if_neg (by omega))).next hb, TabO.made (.inr ho) hbw hn hc hm⟩
theorem keep2 {w W W' : World} {nb eb : Nat} {x y : Value} (hn : nb < w.heap.size) (he : eb < w.heap.size) (hb : Below W.heap.size W W') (h : W.cell? ⟨nb, 0, none⟩ = some x ∧ W.cell? ⟨eb, 0, none⟩ = some y ∧ Below w.heap.size w W) :
    W'.cell? ⟨nb, 0, none⟩ = some x ∧ W'.cell? ⟨eb, 0, none⟩ = some y ∧ Below w.heap.size w W' := by
  have hz := h.2.2.size
  exact ⟨(hb.cell (p := ⟨nb, 0, none⟩) (show nb < _ by omega)).trans h.1, (hb.cell (p := ⟨eb, 0, none⟩) (show eb < _ by omega)).trans h.2.1, below_next h.2.2 hb⟩
set_option maxRecDepth 100000 in
set_option maxHeartbeats 1000000 in
theorem setfn_any (base : Nat) (tg : Nat → Nat) (b : Nat) (v : IV) (q : List SV) (p : List PV) (m : Img) (nb eb : Nat) (x : Nat) (y : Int) (w : World) (h : DeskAt w base tg b v q p m) (hm : checkErr m = 0) (hx : x / 4 < m.root.length) (hy : fine y = true)
    (hnb : nb < base) (heb : eb < base) (hcn : w.cell? ⟨nb, 0, none⟩ = some (.int .i64 x)) (hce : w.cell? ⟨eb, 0, none⟩ = some (.int .i64 y)) :
    Calls Try.prog 73 #[.pointer (some ⟨b, 0, none⟩), .pointer (some ⟨nb, 0, none⟩), .pointer (some ⟨eb, 0, none⟩)] w (TurnRes base b (setM m x y) w) := by
  have hI := h.own.imgR
  have hkr : x / 4 < v.rn := by have := hI.rlen; omega
  have hbw : base ≤ w.heap.size := by have := h.ty.ty.lt; have := h.lo; omega
  have hef := entriesAt_fine hm hx
  have hrl := h.own.root.2.1.1
  have hxb : x ≤ 4611686018427387903 := by have := (sound_of (check_is hm).1).cbd.root; omega
  obtain ⟨hwv, hwe⟩ := withV_set hef (i := x % 4) (by omega) hy
  have hsf := set_fine hef (x % 4) hy
  have hmod : ((x % 4 : Nat) : Int) = (x : Int) % 4 := by omega
  have hdiv : ((x / 4 : Nat) : Int) = (x : Int) / 4 := by omega
  have htm : (x : Int).tmod 4 = (x : Int) % 4 := Int.tmod_eq_emod_of_nonneg (by omega)
  have K1' := fun W (hb : Below w.heap.size w W) => entries_any b v m (x / 4) W (hI.next hb) (h.box.keep hb h.ty.ty.lt) hkr (rootOk_of hm hx)
  have K2' := fun B A c W (ho : W.ownsRow B 3 1 (.slice A 4 c) 4 (ints (entriesAt m (x / 4)))) => ewith_any A 4 c (entriesAt m (x / 4)) ((x % 4 : Nat) : Int) y W (Rd.of_own ho) (by decide)
  have K3' := fun tg' A n c W (hd : DeskAt W base tg' b v q p m) (ht : TabO W base tg' 3 A n c ((entriesAt m (x / 4)).set (x % 4) y)) => put_any base tg' b v q p m (x / 4) _ A n c W hd hm hkr ht hsf
  rw [hwv, hwe] at K2'
  rw [hmod] at K2'
  simp only [hdiv] at K1' K3'
  have K1 := Lib.hid K1'
  have K2 := Lib.hid K2'
  have HD := Lib.hid h
  have HS : Hid (setM m x y = putM m (x / 4) ((entriesAt m (x / 4)).set (x % 4) y)) := Lib.hid rfl
  have HD2 := Lib.hid hef
  generalize putM m (x / 4) ((entriesAt m (x / 4)).set (x % 4) y) = o at *
  have K3 := Lib.hid K3'
  have hbd := Lib.hid (Below.refl w.heap.size w).drew
  have HLEN := Lib.hid (show ((entriesAt m (x / 4)).set (x % 4) y).length = 4 from (entriesErr_is hsf).1)
  clear h hI hm hef hrl hwv hwe hsf K1' K2' K3' hmod hdiv hx hkr
  go_enter Try.func73, Try.ntmps73
  go_wp2_with fail
  have HNL : nb < w.heap.size := by omega
  have HEL : eb < w.heap.size := by omega
  go_region_held3 (fun w' => w'.cell? ⟨nb, 0, none⟩ = some (.int .i64 x) ∧ w'.cell? ⟨eb, 0, none⟩ = some (.int .i64 y) ∧ Below w.heap.size w w')
    (first | exact ⟨hcn, hce, hbd.out⟩ | (with_reducible apply keep2 HNL HEL hb6; with_reducible assumption) | (with_reducible apply keep2 HNL HEL hb5; with_reducible assumption))
    (first | (go_at_call 33; refine (K1.out _ hbd.out).mono ?_; rintro e w5 ⟨A5, c5, rfl, ho5, hb5, hc5, hm5⟩) | (go_at_call 74; refine (K2.out _ _ _ _ ho5).mono ?_; rintro e w6 ⟨A6, n6, c6, rfl, ho6, hb6, hc6, hm6⟩))
  have T5 : Below w.heap.size w w5 := below_next hbd.out hb5
  have T6 := below_next T5 hb6
  have hn6 : n6 = 4 := by have := (Rd.of_own ho6).len; rw [HLEN.out] at this; omega
  subst hn6
  obtain ⟨tg', hd6, ht6⟩ := HD.out.fresh T5 hb6 ho6 (by omega) hc6 hm6
  have K4' := K3.out _ _ _ _ _ hd6 ht6
  have HT6 := Lib.hid (T6.mono hbw)
  have HS' := HS.out
  clear K1 K2 K3 HD HD2 hd6 ht6 ho5 hb5 ho6 hb6 T5 T6 HS
  cases o
  · have K4 := Lib.hid K4'
    have R := Lib.hid HS'
    clear K4' HS'
    go_wp2_with fail
    refine K4.out.mono ?_
    rintro e w7 ⟨rfl, hb7⟩
    exact ⟨rfl, TurnRes.no R.out (HT6.out.trans hb7)⟩
  · have K4 := Lib.hid K4'
    have R := Lib.hid HS'
    clear K4' HS'
    go_wp2_with fail
    refine K4.out.mono ?_
    rintro e w7 ⟨rfl, ⟨tg7, v7, q7, p7, hd7⟩, hb7⟩
    have HD7 := Lib.hid hd7
    clear hd7
    go_wp2_with fail
    go_end0
    exact TurnRes.yes R.out HD7.out (HT6.out.trans hb7)
end Go.Proofs.Ytpboapeoejdipaa
