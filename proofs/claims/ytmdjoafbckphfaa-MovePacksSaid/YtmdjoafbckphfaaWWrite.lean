/- The texts WWrite, WWriteC in one. Conditions: as each says. -/
import Derived.Test.YtmdjoafbckphfaaWRes
-- WWrite: What Write hands to turned. Conditions: the desk holds an image that is right; the page is one of it. (Printed by gen_wwrite.py.)
namespace Go.Proofs.Ytmdjoafbckphfaa
open Go.RowKit Sl
theorem own_yes {m : Img} {k j : Nat} (hj : int m.root k = (j : Nat)) (h1 : 1 ≤ j) (hr : int m.refs j = 1) : ownT m k = true := by unfold ownT; rw [hj, Int.toNat_natCast, hr, decide_eq_true (by omega)]; rfl
theorem write_in {m : Img} {n d : Nat} {pg : ByteArray} {s : Slot} (ho : ownT m (n / 4) = true) (hd : entryOf m.slots m.root n = (d : Nat)) (h1 : 0 < d) (hr : int m.refs d = 1) (hs : m.slots[d]? = some s) : writeM m n pg = some { m with slots := m.slots.set d { s with data := pg } } := by
  unfold writeM; dsimp only; rw [ho, hd, if_pos ⟨rfl, by omega, by rw [Int.toNat_natCast]; exact hr⟩, Int.toNat_natCast, List.getD_eq_getElem?_getD, hs]; rfl
def notIn (m : Img) (n : Nat) : Prop := ¬ (0 < entryOf m.slots m.root n ∧ int m.refs (entryOf m.slots m.root n).toNat = 1)
theorem write_own {m : Img} {n : Nat} {pg : ByteArray} (ho : ownT m (n / 4) = true) (hn : notIn m n) : writeM m n pg = if grab m.slots = 0 then none else some { m with slots := (laid m.slots (grab m.slots) (dslot pg)).set (int m.root (n / 4)).toNat { ((laid m.slots (grab m.slots) (dslot pg)).getD (int m.root (n / 4)).toNat freeSlot) with table := (entriesAt m (n / 4)).set (n % 4) (grab m.slots : Nat) } } := by
  unfold writeM; dsimp only; rw [ho, if_neg (fun h => hn h.2), if_pos rfl]
theorem write_new {m : Img} {n : Nat} {pg : ByteArray} (ho : ownT m (n / 4) = false) : writeM m n pg = if grab m.slots = 0 then none
     else if grab (laid m.slots (grab m.slots) (tslot [-1, 0, 0, 0])) = 0 then none
     else some { m with root := m.root.set (n / 4) (grab m.slots : Nat),
                        slots := (laid (laid m.slots (grab m.slots) (tslot [-1, 0, 0, 0])) (grab (laid m.slots (grab m.slots) (tslot [-1, 0, 0, 0]))) (dslot pg)).set (grab m.slots)
                          (tslot ((entriesAt m (n / 4)).set (n % 4) (grab (laid m.slots (grab m.slots) (tslot [-1, 0, 0, 0])) : Nat))) } := by
  unfold writeM; dsimp only; rw [ho, if_neg (fun h => absurd h.1 (by decide)), if_neg (by decide)]
/-- What the desk is when Write's closure begins. -/
structure WAt (w : World) (base : Nat) (tg : Nat → Nat) (b : Nat) (v : IV) (q : List SV) (p : List PV) (m : Img) (nb wb pb n : Nat) (pg : ByteArray) : Prop where
  desk : DeskAt w base tg b v q p m
  right : checkErr m = 0
  page : n / 4 < m.root.length
  size : pg.size = 4
  n1 : nb < base
  n2 : wb < base
  n3 : pb < base
  c1 : w.cell? ⟨nb, 0, none⟩ = some (.int .i64 n)
  c2 : w.cell? ⟨wb, 0, none⟩ = some (.int .i64 (entryOf m.slots m.root n))
  c3 : w.cell? ⟨pb, 0, none⟩ = some (.string pg)

set_option maxRecDepth 100000 in
set_option maxHeartbeats 1000000 in
theorem writeA (base : Nat) (tg : Nat → Nat) (b : Nat) (v : IV) (q : List SV) (p : List PV) (m : Img) (nb wb pb n : Nat) (pg : ByteArray) (w : World) (h : WAt w base tg b v q p m nb wb pb n pg) (j d : Nat) (s : Slot) (hj : int m.root (n / 4) = (j : Nat)) (hj1 : 1 ≤ j) (hjl : j < m.slots.length) (hr1 : int m.refs j = 1)
    (he : entryOf m.slots m.root n = (d : Nat)) (hd1 : 1 ≤ d) (hds : m.slots[d]? = some s) (hr2 : int m.refs d = 1) :
    Calls Try.prog 50 #[.pointer (some ⟨b, 0, none⟩), .pointer (some ⟨nb, 0, none⟩), .pointer (some ⟨wb, 0, none⟩), .pointer (some ⟨pb, 0, none⟩)] w (TurnRes base b (writeM m n pg) w) := by
  have hd := h.desk
  have hm := h.right
  have hI := hd.own.imgR
  have hrl := hI.rlen
  have hsl := hI.slen
  have hfl := hI.flen
  have hrf := refs_len hm
  have hbw : base ≤ w.heap.size := by have := hd.ty.ty.lt; have := hd.lo; omega
  have hr4 := (sound_of (check_is hm).1).cbd.root
  have hse := (sound_of (check_is hm).1).slots
  have h40 := (slotsErr_len hse).2
  have hpg := h.size
  have hpz : pg.size ≤ 4611686018427387903 := by omega
  have hcn := h.c1
  have hcw := h.c2
  have hcp := h.c3
  have hnb := h.n1
  have hwb := h.n2
  have hpb := h.n3
  have hx := h.page
  have hkr : n / 4 < v.rn := by omega
  have hxb : n ≤ 4611686018427387903 := by omega
  have hmod : ((n % 4 : Nat) : Int) = (n : Int) % 4 := by omega
  have hdiv : ((n / 4 : Nat) : Int) = (n : Int) / 4 := by omega
  have htm : (n : Int).tmod 4 = (n : Int) % 4 := Int.tmod_eq_emod_of_nonneg (by omega)
  have htd : (n : Int).tdiv 4 = (n : Int) / 4 := Int.tdiv_eq_ediv_of_nonneg (by omega)
  have hk0 : (0 : Int) ≤ (n : Int) / 4 := by omega
  have hk1 : (n : Int) / 4 < (v.rn : Int) := by omega
  obtain ⟨b1, hA, _, hb1, _, _, ⟨t, hti, c1⟩, _⟩ := hd.own.root.stored hkr 0
  have hit := int_at hti
  have c1 : w.cell? ⟨b1, n / 4, none⟩ = some (.int .i64 t) := c1
  obtain ⟨x0, x1, x2, x3, x4⟩ := hd.box
  rw [hA] at x1
  have R := Lib.hid (write_in (pg := pg) (own_yes hj hj1 hr1) he (by omega) hr2 hds)
  have hdl := (List.getElem?_eq_some_iff.1 hds).1
  obtain ⟨b2, o2, r, hFA, hb2, f3, f4⟩ := hI.refs.at1 (k := j) (by omega)
  obtain ⟨b3, o3, r', hFA', hb3, g3, g4⟩ := hI.refs.at1 (k := d) (by omega)
  have e5 := int_at f3
  have e6 := int_at g3
  rw [hr1] at e5
  rw [hr2] at e6
  subst e5 e6
  rw [hFA] at hFA'
  injection hFA' with e7
  injection e7 with e7 e8
  subst e7 e8
  rw [hFA] at x3
  rw [hj] at hit
  subst hit
  rw [he] at hcw
  have e0 : (0 : Int) ≤ (j : Int) := by omega
  have e1 : (0 : Int) < (j : Int) := by omega
  have e2 : (j : Int) < (v.fn : Int) := by omega
  have e3 : (0 : Int) ≤ (d : Int) := by omega
  have e4 : (0 : Int) < (d : Int) := by omega
  have e7 : 0 < d := by omega
  have e8 : decide (0 < d) = true := decide_eq_true e7
  have e5 : (d : Int) < (v.fn : Int) := by omega
  have e6 : (d : Int) < (v.sn : Int) := by omega
  have HD := Lib.hid hd
  have HDS := Lib.hid hds
  clear h hd hm hI hrl hsl hfl hrf hr4 hse h40 hpg hx hkr hmod hdiv hj hr1 he hds hr2 hdl f3 g3 hti
  go_enter Try.func50, Try.ntmps50
  go_wp2_with fail
  go_quiet (fail)
  go_wp2_with fail
  go_quiet (fail)
  go_wp2_with fail
  generalize hwq : World.drewN (World.drewN w _) _ = wq
  have hbq : Below w.heap.size w wq := by rw [← hwq]; exact below_drewN (below_drewN (Below.refl _ _) _) _
  clear hwq
  have hcw' := (hbq.cell (p := ⟨wb, 0, none⟩) (show wb < w.heap.size by omega)).trans hcw
  have hcp' := (hbq.cell (p := ⟨pb, 0, none⟩) (show pb < w.heap.size by omega)).trans hcp
  have hdq := HD.out.next hbq
  have HBQ := Lib.hid (hbq.mono hbw)
  have hcw := hcw'
  have hcp := hcp'
  clear x0 x1 x2 x3 x4 c1 hcn hcw' hcp' hbq
  obtain ⟨x0, x1, x2, x3, x4⟩ := hdq.box
  rw [hA] at x1
  obtain ⟨sb, q', hsA, hsl2, hsb, hcs, hfs, hD⟩ := hdq.setData HDS.out hpz
  rw [hsA] at x2
  have HDD := Lib.hid hD
  have HLB := Lib.hid (HBQ.out.setCell (p := ⟨sb, d * 3 + 1, none⟩) hsb (.string pg))
  clear hdq hD
  go_still_tail 9, (by kernel_rfl)
  go_wp2_with fail
  go_end0
  exact TurnRes.yes R.out (HDD.out.next (Below.refl _ _).drew) HLB.out.drew

set_option maxRecDepth 100000 in
set_option maxHeartbeats 1000000 in
theorem writeB_low_full (base : Nat) (tg : Nat → Nat) (b : Nat) (v : IV) (q : List SV) (p : List PV) (m : Img) (nb wb pb n : Nat) (pg : ByteArray) (w : World) (h : WAt w base tg b v q p m nb wb pb n pg) (j : Nat) (hj : int m.root (n / 4) = (j : Nat)) (hj1 : 1 ≤ j) (hjl : j < m.slots.length) (hr1 : int m.refs j = 1)
    (he : entryOf m.slots m.root n ≤ 0) (hg : grab m.slots = 0) :
    Calls Try.prog 50 #[.pointer (some ⟨b, 0, none⟩), .pointer (some ⟨nb, 0, none⟩), .pointer (some ⟨wb, 0, none⟩), .pointer (some ⟨pb, 0, none⟩)] w (TurnRes base b (writeM m n pg) w) := by
  have hd := h.desk
  have hm := h.right
  have hI := hd.own.imgR
  have hrl := hI.rlen
  have hsl := hI.slen
  have hfl := hI.flen
  have hrf := refs_len hm
  have hbw : base ≤ w.heap.size := by have := hd.ty.ty.lt; have := hd.lo; omega
  have hr4 := (sound_of (check_is hm).1).cbd.root
  have hse := (sound_of (check_is hm).1).slots
  have h40 := (slotsErr_len hse).2
  have hpg := h.size
  have hpz : pg.size ≤ 4611686018427387903 := by omega
  have hcn := h.c1
  have hcw := h.c2
  have hcp := h.c3
  have hnb := h.n1
  have hwb := h.n2
  have hpb := h.n3
  have hx := h.page
  have hkr : n / 4 < v.rn := by omega
  have hxb : n ≤ 4611686018427387903 := by omega
  have hmod : ((n % 4 : Nat) : Int) = (n : Int) % 4 := by omega
  have hdiv : ((n / 4 : Nat) : Int) = (n : Int) / 4 := by omega
  have htm : (n : Int).tmod 4 = (n : Int) % 4 := Int.tmod_eq_emod_of_nonneg (by omega)
  have htd : (n : Int).tdiv 4 = (n : Int) / 4 := Int.tdiv_eq_ediv_of_nonneg (by omega)
  have hk0 : (0 : Int) ≤ (n : Int) / 4 := by omega
  have hk1 : (n : Int) / 4 < (v.rn : Int) := by omega
  obtain ⟨b1, hA, _, hb1, _, _, ⟨t, hti, c1⟩, _⟩ := hd.own.root.stored hkr 0
  have hit := int_at hti
  have c1 : w.cell? ⟨b1, n / 4, none⟩ = some (.int .i64 t) := c1
  obtain ⟨x0, x1, x2, x3, x4⟩ := hd.box
  rw [hA] at x1
  have R' := write_own (pg := pg) (own_yes hj hj1 hr1) (by unfold notIn; omega)
  rw [if_pos hg] at R'
  have R := Lib.hid R'
  clear R'
  obtain ⟨b2, o2, r, hFA, hb2, f3, f4⟩ := hI.refs.at1 (k := j) (by omega)
  have e5 := int_at f3
  rw [hr1] at e5
  subst e5
  rw [hFA] at x3
  rw [hj] at hit
  subst hit
  have e0 : (0 : Int) ≤ (j : Int) := by omega
  have e1 : (0 : Int) < (j : Int) := by omega
  have e2 : (j : Int) < (v.fn : Int) := by omega
  have e7 : decide ((0 : Int) < entryOf m.slots m.root n) = false := by simpa using he
  have e8 : entryOf m.slots m.root n ≤ 0 := he
  have HD := Lib.hid hd
  have HKR := Lib.hid hkr
  have HRK := Lib.hid (rootOk_of hm hx)
  have HSE := Lib.hid hse
  have HG := Lib.hid hg
  have hi0 : (0 : Int) ≤ (n : Int) % 4 := by omega
  have hi1 : (n : Int) % 4 < 4 := by omega
  have hi2 : n % 4 < 4 := by omega
  clear hg hse hj hr1 f3 he
  clear h hd hm hI hrl hsl hfl hrf hr4 h40 hpg hx hkr hmod hti
  go_enter Try.func50, Try.ntmps50
  go_wp2_with fail
  go_quiet (fail)
  go_wp2_with fail
  go_quiet (fail)
  generalize hwq : World.drewN (World.drewN w _) _ = wq
  have hbq : Below w.heap.size w wq := by rw [← hwq]; exact below_drewN (below_drewN (Below.refl _ _) _) _
  clear hwq
  have hcw' := (hbq.cell (p := ⟨wb, 0, none⟩) (show wb < w.heap.size by omega)).trans hcw
  have hcp' := (hbq.cell (p := ⟨pb, 0, none⟩) (show pb < w.heap.size by omega)).trans hcp
  have hdq := HD.out.next hbq
  have HBQ := Lib.hid (hbq.mono hbw)
  have hcw := hcw'
  have hcp := hcp'
  clear x0 x1 x2 x3 x4 c1 hcn hcw' hcp' hbq
  obtain ⟨x0, x1, x2, x3, x4⟩ := hdq.box
  rw [hA] at x1
  have K1 := Lib.hid (entries_any b v m (n / 4) wq hdq.own.imgR hdq.box HKR.out HRK.out)
  rw [hdiv] at K1
  go_wp2_with fail
  refine K1.out.mono ?_
  rintro e w5 ⟨A5, c5, rfl, ho5, hb5, hc5, hm5⟩
  obtain ⟨tg5, hd5, ht5⟩ := hdq.fresh (Below.refl _ _) hb5 ho5 (by omega) hc5 hm5
  have HB5 := Lib.hid (HBQ.out.trans (hb5.mono (show base ≤ wq.heap.size by have := HBQ.out.size; omega)))
  have hcp5 := (hb5.cell (p := ⟨pb, 0, none⟩) (show pb < wq.heap.size by have := HBQ.out.size; omega)).trans hcp
  clear x0 x1 x2 x3 x4 K1 ho5 hb5 hcp hcw hdq
  have KG := Lib.hid (grab_full base tg5 b v q p m (dslot pg) none 0 0 w5 hd5 HSE.out HG.out)
  clear hd5 ht5
  go_wp2_with fail
  refine KG.out.mono ?_
  rintro e w6 ⟨rfl, hb6⟩
  exact ⟨rfl, TurnRes.no R.out (HB5.out.trans (hb6.mono (by have := HB5.out.size; omega)))⟩

set_option maxRecDepth 100000 in
set_option maxHeartbeats 1000000 in
theorem writeB_low_ok (base : Nat) (tg : Nat → Nat) (b : Nat) (v : IV) (q : List SV) (p : List PV) (m : Img) (nb wb pb n : Nat) (pg : ByteArray) (w : World) (h : WAt w base tg b v q p m nb wb pb n pg) (j : Nat) (hj : int m.root (n / 4) = (j : Nat)) (hj1 : 1 ≤ j) (hjl : j < m.slots.length) (hr1 : int m.refs j = 1)
    (he : entryOf m.slots m.root n ≤ 0) (hg : grab m.slots ≠ 0) :
    Calls Try.prog 50 #[.pointer (some ⟨b, 0, none⟩), .pointer (some ⟨nb, 0, none⟩), .pointer (some ⟨wb, 0, none⟩), .pointer (some ⟨pb, 0, none⟩)] w (TurnRes base b (writeM m n pg) w) := by
  have hd := h.desk
  have hm := h.right
  have hI := hd.own.imgR
  have hrl := hI.rlen
  have hsl := hI.slen
  have hfl := hI.flen
  have hrf := refs_len hm
  have hbw : base ≤ w.heap.size := by have := hd.ty.ty.lt; have := hd.lo; omega
  have hr4 := (sound_of (check_is hm).1).cbd.root
  have hse := (sound_of (check_is hm).1).slots
  have h40 := (slotsErr_len hse).2
  have hpg := h.size
  have hpz : pg.size ≤ 4611686018427387903 := by omega
  have hcn := h.c1
  have hcw := h.c2
  have hcp := h.c3
  have hnb := h.n1
  have hwb := h.n2
  have hpb := h.n3
  have hx := h.page
  have hkr : n / 4 < v.rn := by omega
  have hxb : n ≤ 4611686018427387903 := by omega
  have hmod : ((n % 4 : Nat) : Int) = (n : Int) % 4 := by omega
  have hdiv : ((n / 4 : Nat) : Int) = (n : Int) / 4 := by omega
  have htm : (n : Int).tmod 4 = (n : Int) % 4 := Int.tmod_eq_emod_of_nonneg (by omega)
  have htd : (n : Int).tdiv 4 = (n : Int) / 4 := Int.tdiv_eq_ediv_of_nonneg (by omega)
  have hk0 : (0 : Int) ≤ (n : Int) / 4 := by omega
  have hk1 : (n : Int) / 4 < (v.rn : Int) := by omega
  obtain ⟨b1, hA, _, hb1, _, _, ⟨t, hti, c1⟩, _⟩ := hd.own.root.stored hkr 0
  have hit := int_at hti
  have c1 : w.cell? ⟨b1, n / 4, none⟩ = some (.int .i64 t) := c1
  obtain ⟨x0, x1, x2, x3, x4⟩ := hd.box
  rw [hA] at x1
  have R' := write_own (pg := pg) (own_yes hj hj1 hr1) (by unfold notIn; omega)
  rw [if_neg hg, hj, Int.toNat_natCast] at R'
  obtain ⟨g1, g2, _, _⟩ := grab_is hse hg
  have hjl2 : j < (laid m.slots (grab m.slots) (dslot pg)).length := by rw [laid_len']; split <;> omega
  have hjs := List.getElem?_eq_getElem hjl2
  generalize (laid m.slots (grab m.slots) (dslot pg))[j] = sj at hjs
  rw [List.getD_eq_getElem?_getD, hjs, Option.getD_some] at R'
  have HJS := Lib.hid hjs
  have R := Lib.hid R'
  clear R'
  obtain ⟨b2, o2, r, hFA, hb2, f3, f4⟩ := hI.refs.at1 (k := j) (by omega)
  have e5 := int_at f3
  rw [hr1] at e5
  subst e5
  rw [hFA] at x3
  rw [hj] at hit
  subst hit
  have e0 : (0 : Int) ≤ (j : Int) := by omega
  have e1 : (0 : Int) < (j : Int) := by omega
  have e2 : (j : Int) < (v.fn : Int) := by omega
  have e7 : decide ((0 : Int) < entryOf m.slots m.root n) = false := by simpa using he
  have e8 : entryOf m.slots m.root n ≤ 0 := he
  have HD := Lib.hid hd
  have HKR := Lib.hid hkr
  have HRK := Lib.hid (rootOk_of hm hx)
  have HSE := Lib.hid hse
  have HG := Lib.hid hg
  have hi0 : (0 : Int) ≤ (n : Int) % 4 := by omega
  have hi1 : (n : Int) % 4 < 4 := by omega
  have hi2 : n % 4 < 4 := by omega
  clear hg hse hj hr1 f3 he
  clear h hd hm hI hrl hsl hfl hrf hr4 h40 hpg hx hkr hmod hti
  go_enter Try.func50, Try.ntmps50
  go_wp2_with fail
  go_quiet (fail)
  go_wp2_with fail
  go_quiet (fail)
  generalize hwq : World.drewN (World.drewN w _) _ = wq
  have hbq : Below w.heap.size w wq := by rw [← hwq]; exact below_drewN (below_drewN (Below.refl _ _) _) _
  clear hwq
  have hcw' := (hbq.cell (p := ⟨wb, 0, none⟩) (show wb < w.heap.size by omega)).trans hcw
  have hcp' := (hbq.cell (p := ⟨pb, 0, none⟩) (show pb < w.heap.size by omega)).trans hcp
  have hdq := HD.out.next hbq
  have HBQ := Lib.hid (hbq.mono hbw)
  have hcw := hcw'
  have hcp := hcp'
  clear x0 x1 x2 x3 x4 c1 hcn hcw' hcp' hbq
  obtain ⟨x0, x1, x2, x3, x4⟩ := hdq.box
  rw [hA] at x1
  have K1 := Lib.hid (entries_any b v m (n / 4) wq hdq.own.imgR hdq.box HKR.out HRK.out)
  rw [hdiv] at K1
  go_wp2_with fail
  refine K1.out.mono ?_
  rintro e w5 ⟨A5, c5, rfl, ho5, hb5, hc5, hm5⟩
  obtain ⟨tg5, hd5, ht5⟩ := hdq.fresh (Below.refl _ _) hb5 ho5 (by omega) hc5 hm5
  have HB5 := Lib.hid (HBQ.out.trans (hb5.mono (show base ≤ wq.heap.size by have := HBQ.out.size; omega)))
  have hcp5 := (hb5.cell (p := ⟨pb, 0, none⟩) (show pb < wq.heap.size by have := HBQ.out.size; omega)).trans hcp
  clear x0 x1 x2 x3 x4 K1 ho5 hb5 hcp hcw hdq
  have KG := Lib.hid (grab_ok base tg5 b v q p m (dslot pg) none 0 0 w5 hd5 HSE.out HG.out hpz TabO.nil)
  generalize hgn : grab m.slots = g at *
  have HT5 := Lib.hid ht5
  clear hd5 ht5
  go_wp2_with fail
  refine KG.out.mono ?_
  rintro e w6 ⟨rfl, v6, q6, hd6, hv1, hv2, hv3, hTT, hb6⟩
  have ht6 := hTT _ _ _ _ _ HT5.out
  obtain ⟨lb, rfl, hlb, hlf, ⟨ly, hlc⟩, hd7, ht7⟩ := hd6.setFree ht6 hi2 (g : Nat)
  have HB6 := Lib.hid (HB5.out.trans hb6)
  have HB7 := Lib.hid (HB6.out.setCell (p := ⟨lb, n % 4, none⟩) hlb (.int .i64 (g : Nat)))
  obtain ⟨sb, q8, u8, hsA, hsn, hsb, hsc, hsf, hd8⟩ := (hd7.marked (2 * j + 4)).setTable HJS.out ht7.given
  have HD8 := Lib.hid hd8
  have HB8 := Lib.hid (HB7.out.setCell (p := ⟨sb, j * 3 + 2, none⟩) hsb (.slice (some ⟨lb, 0, none⟩) 4 c5))
  obtain ⟨y0, y1, y2, y3, y4⟩ := hd7.box
  rw [hsA] at y2
  have e9 : (j : Int) < (v6.sn : Int) := by omega
  clear hd6 hd7 hd8 ht6 ht7 hTT hb6 hv1 hv2 hv3
  go_wp2_with fail
  go_end0
  exact TurnRes.yes R.out HD8.out HB8.out

set_option maxRecDepth 100000 in
set_option maxHeartbeats 1000000 in
theorem writeB_shared_full (base : Nat) (tg : Nat → Nat) (b : Nat) (v : IV) (q : List SV) (p : List PV) (m : Img) (nb wb pb n : Nat) (pg : ByteArray) (w : World) (h : WAt w base tg b v q p m nb wb pb n pg) (j : Nat) (hj : int m.root (n / 4) = (j : Nat)) (hj1 : 1 ≤ j) (hjl : j < m.slots.length) (hr1 : int m.refs j = 1)
    (d : Nat) (s : Slot) (he : entryOf m.slots m.root n = (d : Nat)) (hd1 : 1 ≤ d) (hds : m.slots[d]? = some s) (hr2 : int m.refs d ≠ 1) (hg : grab m.slots = 0) :
    Calls Try.prog 50 #[.pointer (some ⟨b, 0, none⟩), .pointer (some ⟨nb, 0, none⟩), .pointer (some ⟨wb, 0, none⟩), .pointer (some ⟨pb, 0, none⟩)] w (TurnRes base b (writeM m n pg) w) := by
  have hd := h.desk
  have hm := h.right
  have hI := hd.own.imgR
  have hrl := hI.rlen
  have hsl := hI.slen
  have hfl := hI.flen
  have hrf := refs_len hm
  have hbw : base ≤ w.heap.size := by have := hd.ty.ty.lt; have := hd.lo; omega
  have hr4 := (sound_of (check_is hm).1).cbd.root
  have hse := (sound_of (check_is hm).1).slots
  have h40 := (slotsErr_len hse).2
  have hpg := h.size
  have hpz : pg.size ≤ 4611686018427387903 := by omega
  have hcn := h.c1
  have hcw := h.c2
  have hcp := h.c3
  have hnb := h.n1
  have hwb := h.n2
  have hpb := h.n3
  have hx := h.page
  have hkr : n / 4 < v.rn := by omega
  have hxb : n ≤ 4611686018427387903 := by omega
  have hmod : ((n % 4 : Nat) : Int) = (n : Int) % 4 := by omega
  have hdiv : ((n / 4 : Nat) : Int) = (n : Int) / 4 := by omega
  have htm : (n : Int).tmod 4 = (n : Int) % 4 := Int.tmod_eq_emod_of_nonneg (by omega)
  have htd : (n : Int).tdiv 4 = (n : Int) / 4 := Int.tdiv_eq_ediv_of_nonneg (by omega)
  have hk0 : (0 : Int) ≤ (n : Int) / 4 := by omega
  have hk1 : (n : Int) / 4 < (v.rn : Int) := by omega
  obtain ⟨b1, hA, _, hb1, _, _, ⟨t, hti, c1⟩, _⟩ := hd.own.root.stored hkr 0
  have hit := int_at hti
  have c1 : w.cell? ⟨b1, n / 4, none⟩ = some (.int .i64 t) := c1
  obtain ⟨x0, x1, x2, x3, x4⟩ := hd.box
  rw [hA] at x1
  have R' := write_own (pg := pg) (own_yes hj hj1 hr1) (by unfold notIn; rw [he, Int.toNat_natCast]; exact fun h => hr2 h.2)
  rw [if_pos hg] at R'
  have R := Lib.hid R'
  clear R'
  obtain ⟨b2, o2, r, hFA, hb2, f3, f4⟩ := hI.refs.at1 (k := j) (by omega)
  have e5 := int_at f3
  rw [hr1] at e5
  subst e5
  rw [hFA] at x3
  rw [hj] at hit
  subst hit
  have e0 : (0 : Int) ≤ (j : Int) := by omega
  have e1 : (0 : Int) < (j : Int) := by omega
  have e2 : (j : Int) < (v.fn : Int) := by omega
  have hdl := (List.getElem?_eq_some_iff.1 hds).1
  obtain ⟨b3, o3, r', hFA', hb3, g3, g4⟩ := hI.refs.at1 (k := d) (by omega)
  have e6 := int_at g3
  rw [hFA] at hFA'
  injection hFA' with e7
  injection e7 with e7 e8
  subst e7 e8
  have hrr : (r' == 1) = false := by simpa [← e6] using hr2
  have e3 : (0 : Int) ≤ (d : Int) := by omega
  have e4 : (0 : Int) < (d : Int) := by omega
  have e7 : 0 < d := by omega
  have e8 : decide (0 < d) = true := decide_eq_true e7
  have e5 : (d : Int) < (v.fn : Int) := by omega
  rw [he] at hcw
  clear e6 g3 hds hdl
  have HD := Lib.hid hd
  have HKR := Lib.hid hkr
  have HRK := Lib.hid (rootOk_of hm hx)
  have HSE := Lib.hid hse
  have HG := Lib.hid hg
  have hi0 : (0 : Int) ≤ (n : Int) % 4 := by omega
  have hi1 : (n : Int) % 4 < 4 := by omega
  have hi2 : n % 4 < 4 := by omega
  clear hg hse hj hr1 f3 he hr2
  clear h hd hm hI hrl hsl hfl hrf hr4 h40 hpg hx hkr hmod hti
  go_enter Try.func50, Try.ntmps50
  go_wp2_with fail
  go_quiet (fail)
  go_wp2_with fail
  go_quiet (fail)
  generalize hwq : World.drewN (World.drewN w _) _ = wq
  have hbq : Below w.heap.size w wq := by rw [← hwq]; exact below_drewN (below_drewN (Below.refl _ _) _) _
  clear hwq
  have hcw' := (hbq.cell (p := ⟨wb, 0, none⟩) (show wb < w.heap.size by omega)).trans hcw
  have hcp' := (hbq.cell (p := ⟨pb, 0, none⟩) (show pb < w.heap.size by omega)).trans hcp
  have hdq := HD.out.next hbq
  have HBQ := Lib.hid (hbq.mono hbw)
  have hcw := hcw'
  have hcp := hcp'
  clear x0 x1 x2 x3 x4 c1 hcn hcw' hcp' hbq
  obtain ⟨x0, x1, x2, x3, x4⟩ := hdq.box
  rw [hA] at x1
  have K1 := Lib.hid (entries_any b v m (n / 4) wq hdq.own.imgR hdq.box HKR.out HRK.out)
  rw [hdiv] at K1
  go_wp2_with fail
  refine K1.out.mono ?_
  rintro e w5 ⟨A5, c5, rfl, ho5, hb5, hc5, hm5⟩
  obtain ⟨tg5, hd5, ht5⟩ := hdq.fresh (Below.refl _ _) hb5 ho5 (by omega) hc5 hm5
  have HB5 := Lib.hid (HBQ.out.trans (hb5.mono (show base ≤ wq.heap.size by have := HBQ.out.size; omega)))
  have hcp5 := (hb5.cell (p := ⟨pb, 0, none⟩) (show pb < wq.heap.size by have := HBQ.out.size; omega)).trans hcp
  clear x0 x1 x2 x3 x4 K1 ho5 hb5 hcp hcw hdq
  have KG := Lib.hid (grab_full base tg5 b v q p m (dslot pg) none 0 0 w5 hd5 HSE.out HG.out)
  clear hd5 ht5
  go_wp2_with fail
  refine KG.out.mono ?_
  rintro e w6 ⟨rfl, hb6⟩
  exact ⟨rfl, TurnRes.no R.out (HB5.out.trans (hb6.mono (by have := HB5.out.size; omega)))⟩

set_option maxRecDepth 100000 in
set_option maxHeartbeats 1000000 in
theorem writeB_shared_ok (base : Nat) (tg : Nat → Nat) (b : Nat) (v : IV) (q : List SV) (p : List PV) (m : Img) (nb wb pb n : Nat) (pg : ByteArray) (w : World) (h : WAt w base tg b v q p m nb wb pb n pg) (j : Nat) (hj : int m.root (n / 4) = (j : Nat)) (hj1 : 1 ≤ j) (hjl : j < m.slots.length) (hr1 : int m.refs j = 1)
    (d : Nat) (s : Slot) (he : entryOf m.slots m.root n = (d : Nat)) (hd1 : 1 ≤ d) (hds : m.slots[d]? = some s) (hr2 : int m.refs d ≠ 1) (hg : grab m.slots ≠ 0) :
    Calls Try.prog 50 #[.pointer (some ⟨b, 0, none⟩), .pointer (some ⟨nb, 0, none⟩), .pointer (some ⟨wb, 0, none⟩), .pointer (some ⟨pb, 0, none⟩)] w (TurnRes base b (writeM m n pg) w) := by
  have hd := h.desk
  have hm := h.right
  have hI := hd.own.imgR
  have hrl := hI.rlen
  have hsl := hI.slen
  have hfl := hI.flen
  have hrf := refs_len hm
  have hbw : base ≤ w.heap.size := by have := hd.ty.ty.lt; have := hd.lo; omega
  have hr4 := (sound_of (check_is hm).1).cbd.root
  have hse := (sound_of (check_is hm).1).slots
  have h40 := (slotsErr_len hse).2
  have hpg := h.size
  have hpz : pg.size ≤ 4611686018427387903 := by omega
  have hcn := h.c1
  have hcw := h.c2
  have hcp := h.c3
  have hnb := h.n1
  have hwb := h.n2
  have hpb := h.n3
  have hx := h.page
  have hkr : n / 4 < v.rn := by omega
  have hxb : n ≤ 4611686018427387903 := by omega
  have hmod : ((n % 4 : Nat) : Int) = (n : Int) % 4 := by omega
  have hdiv : ((n / 4 : Nat) : Int) = (n : Int) / 4 := by omega
  have htm : (n : Int).tmod 4 = (n : Int) % 4 := Int.tmod_eq_emod_of_nonneg (by omega)
  have htd : (n : Int).tdiv 4 = (n : Int) / 4 := Int.tdiv_eq_ediv_of_nonneg (by omega)
  have hk0 : (0 : Int) ≤ (n : Int) / 4 := by omega
  have hk1 : (n : Int) / 4 < (v.rn : Int) := by omega
  obtain ⟨b1, hA, _, hb1, _, _, ⟨t, hti, c1⟩, _⟩ := hd.own.root.stored hkr 0
  have hit := int_at hti
  have c1 : w.cell? ⟨b1, n / 4, none⟩ = some (.int .i64 t) := c1
  obtain ⟨x0, x1, x2, x3, x4⟩ := hd.box
  rw [hA] at x1
  have R' := write_own (pg := pg) (own_yes hj hj1 hr1) (by unfold notIn; rw [he, Int.toNat_natCast]; exact fun h => hr2 h.2)
  rw [if_neg hg, hj, Int.toNat_natCast] at R'
  obtain ⟨g1, g2, _, _⟩ := grab_is hse hg
  have hjl2 : j < (laid m.slots (grab m.slots) (dslot pg)).length := by rw [laid_len']; split <;> omega
  have hjs := List.getElem?_eq_getElem hjl2
  generalize (laid m.slots (grab m.slots) (dslot pg))[j] = sj at hjs
  rw [List.getD_eq_getElem?_getD, hjs, Option.getD_some] at R'
  have HJS := Lib.hid hjs
  have R := Lib.hid R'
  clear R'
  obtain ⟨b2, o2, r, hFA, hb2, f3, f4⟩ := hI.refs.at1 (k := j) (by omega)
  have e5 := int_at f3
  rw [hr1] at e5
  subst e5
  rw [hFA] at x3
  rw [hj] at hit
  subst hit
  have e0 : (0 : Int) ≤ (j : Int) := by omega
  have e1 : (0 : Int) < (j : Int) := by omega
  have e2 : (j : Int) < (v.fn : Int) := by omega
  have hdl := (List.getElem?_eq_some_iff.1 hds).1
  obtain ⟨b3, o3, r', hFA', hb3, g3, g4⟩ := hI.refs.at1 (k := d) (by omega)
  have e6 := int_at g3
  rw [hFA] at hFA'
  injection hFA' with e7
  injection e7 with e7 e8
  subst e7 e8
  have hrr : (r' == 1) = false := by simpa [← e6] using hr2
  have e3 : (0 : Int) ≤ (d : Int) := by omega
  have e4 : (0 : Int) < (d : Int) := by omega
  have e7 : 0 < d := by omega
  have e8 : decide (0 < d) = true := decide_eq_true e7
  have e5 : (d : Int) < (v.fn : Int) := by omega
  rw [he] at hcw
  clear e6 g3 hds hdl
  have HD := Lib.hid hd
  have HKR := Lib.hid hkr
  have HRK := Lib.hid (rootOk_of hm hx)
  have HSE := Lib.hid hse
  have HG := Lib.hid hg
  have hi0 : (0 : Int) ≤ (n : Int) % 4 := by omega
  have hi1 : (n : Int) % 4 < 4 := by omega
  have hi2 : n % 4 < 4 := by omega
  clear hg hse hj hr1 f3 he hr2
  clear h hd hm hI hrl hsl hfl hrf hr4 h40 hpg hx hkr hmod hti
  go_enter Try.func50, Try.ntmps50
  go_wp2_with fail
  go_quiet (fail)
  go_wp2_with fail
  go_quiet (fail)
  generalize hwq : World.drewN (World.drewN w _) _ = wq
  have hbq : Below w.heap.size w wq := by rw [← hwq]; exact below_drewN (below_drewN (Below.refl _ _) _) _
  clear hwq
  have hcw' := (hbq.cell (p := ⟨wb, 0, none⟩) (show wb < w.heap.size by omega)).trans hcw
  have hcp' := (hbq.cell (p := ⟨pb, 0, none⟩) (show pb < w.heap.size by omega)).trans hcp
  have hdq := HD.out.next hbq
  have HBQ := Lib.hid (hbq.mono hbw)
  have hcw := hcw'
  have hcp := hcp'
  clear x0 x1 x2 x3 x4 c1 hcn hcw' hcp' hbq
  obtain ⟨x0, x1, x2, x3, x4⟩ := hdq.box
  rw [hA] at x1
  have K1 := Lib.hid (entries_any b v m (n / 4) wq hdq.own.imgR hdq.box HKR.out HRK.out)
  rw [hdiv] at K1
  go_wp2_with fail
  refine K1.out.mono ?_
  rintro e w5 ⟨A5, c5, rfl, ho5, hb5, hc5, hm5⟩
  obtain ⟨tg5, hd5, ht5⟩ := hdq.fresh (Below.refl _ _) hb5 ho5 (by omega) hc5 hm5
  have HB5 := Lib.hid (HBQ.out.trans (hb5.mono (show base ≤ wq.heap.size by have := HBQ.out.size; omega)))
  have hcp5 := (hb5.cell (p := ⟨pb, 0, none⟩) (show pb < wq.heap.size by have := HBQ.out.size; omega)).trans hcp
  clear x0 x1 x2 x3 x4 K1 ho5 hb5 hcp hcw hdq
  have KG := Lib.hid (grab_ok base tg5 b v q p m (dslot pg) none 0 0 w5 hd5 HSE.out HG.out hpz TabO.nil)
  generalize hgn : grab m.slots = g at *
  have HT5 := Lib.hid ht5
  clear hd5 ht5
  go_wp2_with fail
  refine KG.out.mono ?_
  rintro e w6 ⟨rfl, v6, q6, hd6, hv1, hv2, hv3, hTT, hb6⟩
  have ht6 := hTT _ _ _ _ _ HT5.out
  obtain ⟨lb, rfl, hlb, hlf, ⟨ly, hlc⟩, hd7, ht7⟩ := hd6.setFree ht6 hi2 (g : Nat)
  have HB6 := Lib.hid (HB5.out.trans hb6)
  have HB7 := Lib.hid (HB6.out.setCell (p := ⟨lb, n % 4, none⟩) hlb (.int .i64 (g : Nat)))
  obtain ⟨sb, q8, u8, hsA, hsn, hsb, hsc, hsf, hd8⟩ := (hd7.marked (2 * j + 4)).setTable HJS.out ht7.given
  have HD8 := Lib.hid hd8
  have HB8 := Lib.hid (HB7.out.setCell (p := ⟨sb, j * 3 + 2, none⟩) hsb (.slice (some ⟨lb, 0, none⟩) 4 c5))
  obtain ⟨y0, y1, y2, y3, y4⟩ := hd7.box
  rw [hsA] at y2
  have e9 : (j : Int) < (v6.sn : Int) := by omega
  clear hd6 hd7 hd8 ht6 ht7 hTT hb6 hv1 hv2 hv3
  go_wp2_with fail
  go_end0
  exact TurnRes.yes R.out HD8.out HB8.out

end Go.Proofs.Ytmdjoafbckphfaa
-- WWriteC: What Write hands to turned: a new table. Conditions: the desk holds an image that is right; the page is one of it. (Printed by gen_wwrite.py C.)
namespace Go.Proofs.Ytmdjoafbckphfaa
open Go.RowKit Sl
set_option maxRecDepth 100000 in
set_option maxHeartbeats 1000000 in
theorem writeC_zero_full (base : Nat) (tg : Nat → Nat) (b : Nat) (v : IV) (q : List SV) (p : List PV) (m : Img) (nb wb pb n : Nat) (pg : ByteArray) (w : World) (h : WAt w base tg b v q p m nb wb pb n pg) (hj : int m.root (n / 4) = 0)
    (hg : grab m.slots = 0) :
    Calls Try.prog 50 #[.pointer (some ⟨b, 0, none⟩), .pointer (some ⟨nb, 0, none⟩), .pointer (some ⟨wb, 0, none⟩), .pointer (some ⟨pb, 0, none⟩)] w (TurnRes base b (writeM m n pg) w) := by
  have hd := h.desk
  have hm := h.right
  have hI := hd.own.imgR
  have hrl := hI.rlen
  have hsl := hI.slen
  have hfl := hI.flen
  have hrf := refs_len hm
  have hbw : base ≤ w.heap.size := by have := hd.ty.ty.lt; have := hd.lo; omega
  have hr4 := (sound_of (check_is hm).1).cbd.root
  have hse := (sound_of (check_is hm).1).slots
  have h40 := (slotsErr_len hse).2
  have hpg := h.size
  have hpz : pg.size ≤ 4611686018427387903 := by omega
  have hcn := h.c1
  have hcw := h.c2
  have hcp := h.c3
  have hnb := h.n1
  have hwb := h.n2
  have hpb := h.n3
  have hx := h.page
  have hkr : n / 4 < v.rn := by omega
  have hxb : n ≤ 4611686018427387903 := by omega
  have hmod : ((n % 4 : Nat) : Int) = (n : Int) % 4 := by omega
  have hdiv : ((n / 4 : Nat) : Int) = (n : Int) / 4 := by omega
  have htm : (n : Int).tmod 4 = (n : Int) % 4 := Int.tmod_eq_emod_of_nonneg (by omega)
  have htd : (n : Int).tdiv 4 = (n : Int) / 4 := Int.tdiv_eq_ediv_of_nonneg (by omega)
  have hk0 : (0 : Int) ≤ (n : Int) / 4 := by omega
  have hk1 : (n : Int) / 4 < (v.rn : Int) := by omega
  obtain ⟨b1, hA, _, hb1, _, _, ⟨t, hti, c1⟩, _⟩ := hd.own.root.stored hkr 0
  have hit := int_at hti
  have c1 : w.cell? ⟨b1, n / 4, none⟩ = some (.int .i64 t) := c1
  obtain ⟨x0, x1, x2, x3, x4⟩ := hd.box
  rw [hA] at x1
  have R' := write_new (pg := pg) (own_no0 hj)
  rw [if_pos hg] at R'
  have R := Lib.hid R'
  clear R'
  rw [hj] at hit
  subst hit
  have HD := Lib.hid hd
  have HKR := Lib.hid hkr
  have HRK := Lib.hid (rootOk_of hm hx)
  have HSE := Lib.hid hse
  have HG := Lib.hid hg
  have hi0 : (0 : Int) ≤ (n : Int) % 4 := by omega
  have hi1 : (n : Int) % 4 < 4 := by omega
  have hi2 : n % 4 < 4 := by omega
  clear hg hse hj
  clear h hd hm hI hrl hsl hfl hrf hr4 h40 hpg hx hkr hmod hti
  go_enter Try.func50, Try.ntmps50
  go_wp2_with fail
  go_quiet (fail)
  go_wp2_with fail
  go_quiet (fail)
  generalize hwq : World.drewN (World.drewN w _) _ = wq
  have hbq : Below w.heap.size w wq := by rw [← hwq]; exact below_drewN (below_drewN (Below.refl _ _) _) _
  clear hwq
  have hcw' := (hbq.cell (p := ⟨wb, 0, none⟩) (show wb < w.heap.size by omega)).trans hcw
  have hcp' := (hbq.cell (p := ⟨pb, 0, none⟩) (show pb < w.heap.size by omega)).trans hcp
  have hdq := HD.out.next hbq
  have HBQ := Lib.hid (hbq.mono hbw)
  have hcw := hcw'
  have hcp := hcp'
  clear x0 x1 x2 x3 x4 c1 hcn hcw' hcp' hbq
  obtain ⟨x0, x1, x2, x3, x4⟩ := hdq.box
  rw [hA] at x1
  have K1 := Lib.hid (entries_any b v m (n / 4) wq hdq.own.imgR hdq.box HKR.out HRK.out)
  rw [hdiv] at K1
  go_wp2_with fail
  refine K1.out.mono ?_
  rintro e w5 ⟨A5, c5, rfl, ho5, hb5, hc5, hm5⟩
  obtain ⟨tg5, hd5, ht5⟩ := hdq.fresh (Below.refl _ _) hb5 ho5 (by omega) hc5 hm5
  have HB5 := Lib.hid (HBQ.out.trans (hb5.mono (show base ≤ wq.heap.size by have := HBQ.out.size; omega)))
  have hcp5 := (hb5.cell (p := ⟨pb, 0, none⟩) (show pb < wq.heap.size by have := HBQ.out.size; omega)).trans hcp
  clear x0 x1 x2 x3 x4 K1 ho5 hb5 hcp hcw hdq
  obtain ⟨tg6, hd6, ht6, hk6⟩ := hd5.newRow [-1, 0, 0, 0] (2 * grab m.slots + 4) (by decide)
  have HB6 := Lib.hid (HB5.out.trans ((below1 w5 (.cells (ints [-1, 0, 0, 0]).toArray 3)).mono (show base ≤ w5.heap.size by have := HB5.out.size; omega)))
  have KG := Lib.hid (grab_full base tg6 b v q p m (tslot [-1, 0, 0, 0]) (some ⟨w5.heap.size, 0, none⟩) 4 4 _ hd6 HSE.out HG.out)
  clear hd5 ht5 hd6 ht6 hk6
  go_wp2_with fail
  refine KG.out.mono ?_
  rintro e w7 ⟨rfl, hb7⟩
  exact ⟨rfl, TurnRes.no R.out (HB6.out.trans (hb7.mono (by have := HB6.out.size; omega)))⟩
set_option maxRecDepth 100000 in
set_option maxHeartbeats 1000000 in
theorem writeC_zero_full2 (base : Nat) (tg : Nat → Nat) (b : Nat) (v : IV) (q : List SV) (p : List PV) (m : Img) (nb wb pb n : Nat) (pg : ByteArray) (w : World) (h : WAt w base tg b v q p m nb wb pb n pg) (hj : int m.root (n / 4) = 0)
    (hg : grab m.slots ≠ 0) (hg2 : grab (laid m.slots (grab m.slots) (tslot [-1, 0, 0, 0])) = 0) :
    Calls Try.prog 50 #[.pointer (some ⟨b, 0, none⟩), .pointer (some ⟨nb, 0, none⟩), .pointer (some ⟨wb, 0, none⟩), .pointer (some ⟨pb, 0, none⟩)] w (TurnRes base b (writeM m n pg) w) := by
  have hd := h.desk
  have hm := h.right
  have hI := hd.own.imgR
  have hrl := hI.rlen
  have hsl := hI.slen
  have hfl := hI.flen
  have hrf := refs_len hm
  have hbw : base ≤ w.heap.size := by have := hd.ty.ty.lt; have := hd.lo; omega
  have hr4 := (sound_of (check_is hm).1).cbd.root
  have hse := (sound_of (check_is hm).1).slots
  have h40 := (slotsErr_len hse).2
  have hpg := h.size
  have hpz : pg.size ≤ 4611686018427387903 := by omega
  have hcn := h.c1
  have hcw := h.c2
  have hcp := h.c3
  have hnb := h.n1
  have hwb := h.n2
  have hpb := h.n3
  have hx := h.page
  have hkr : n / 4 < v.rn := by omega
  have hxb : n ≤ 4611686018427387903 := by omega
  have hmod : ((n % 4 : Nat) : Int) = (n : Int) % 4 := by omega
  have hdiv : ((n / 4 : Nat) : Int) = (n : Int) / 4 := by omega
  have htm : (n : Int).tmod 4 = (n : Int) % 4 := Int.tmod_eq_emod_of_nonneg (by omega)
  have htd : (n : Int).tdiv 4 = (n : Int) / 4 := Int.tdiv_eq_ediv_of_nonneg (by omega)
  have hk0 : (0 : Int) ≤ (n : Int) / 4 := by omega
  have hk1 : (n : Int) / 4 < (v.rn : Int) := by omega
  obtain ⟨b1, hA, _, hb1, _, _, ⟨t, hti, c1⟩, _⟩ := hd.own.root.stored hkr 0
  have hit := int_at hti
  have c1 : w.cell? ⟨b1, n / 4, none⟩ = some (.int .i64 t) := c1
  obtain ⟨x0, x1, x2, x3, x4⟩ := hd.box
  rw [hA] at x1
  have R' := write_new (pg := pg) (own_no0 hj)
  rw [if_neg hg, if_pos hg2] at R'
  have R := Lib.hid R'
  clear R'
  obtain ⟨q1, q2, _, _⟩ := grab_is hse hg
  have hse2 := laid_fine hse hg (tslot_fine (t := [-1, 0, 0, 0]) rfl rfl)
  have HSE2 := Lib.hid hse2
  have HG2 := Lib.hid hg2
  clear hse2 hg2 q1 q2
  rw [hj] at hit
  subst hit
  have HD := Lib.hid hd
  have HKR := Lib.hid hkr
  have HRK := Lib.hid (rootOk_of hm hx)
  have HSE := Lib.hid hse
  have HG := Lib.hid hg
  have hi0 : (0 : Int) ≤ (n : Int) % 4 := by omega
  have hi1 : (n : Int) % 4 < 4 := by omega
  have hi2 : n % 4 < 4 := by omega
  clear hg hse hj
  clear h hd hm hI hrl hsl hfl hrf hr4 h40 hpg hx hkr hmod hti
  go_enter Try.func50, Try.ntmps50
  go_wp2_with fail
  go_quiet (fail)
  go_wp2_with fail
  go_quiet (fail)
  generalize hwq : World.drewN (World.drewN w _) _ = wq
  have hbq : Below w.heap.size w wq := by rw [← hwq]; exact below_drewN (below_drewN (Below.refl _ _) _) _
  clear hwq
  have hcw' := (hbq.cell (p := ⟨wb, 0, none⟩) (show wb < w.heap.size by omega)).trans hcw
  have hcp' := (hbq.cell (p := ⟨pb, 0, none⟩) (show pb < w.heap.size by omega)).trans hcp
  have hdq := HD.out.next hbq
  have HBQ := Lib.hid (hbq.mono hbw)
  have hcw := hcw'
  have hcp := hcp'
  clear x0 x1 x2 x3 x4 c1 hcn hcw' hcp' hbq
  obtain ⟨x0, x1, x2, x3, x4⟩ := hdq.box
  rw [hA] at x1
  have K1 := Lib.hid (entries_any b v m (n / 4) wq hdq.own.imgR hdq.box HKR.out HRK.out)
  rw [hdiv] at K1
  go_wp2_with fail
  refine K1.out.mono ?_
  rintro e w5 ⟨A5, c5, rfl, ho5, hb5, hc5, hm5⟩
  obtain ⟨tg5, hd5, ht5⟩ := hdq.fresh (Below.refl _ _) hb5 ho5 (by omega) hc5 hm5
  have HB5 := Lib.hid (HBQ.out.trans (hb5.mono (show base ≤ wq.heap.size by have := HBQ.out.size; omega)))
  have hcp5 := (hb5.cell (p := ⟨pb, 0, none⟩) (show pb < wq.heap.size by have := HBQ.out.size; omega)).trans hcp
  clear x0 x1 x2 x3 x4 K1 ho5 hb5 hcp hcw hdq
  obtain ⟨tg6, hd6, ht6, hk6⟩ := hd5.newRow [-1, 0, 0, 0] (2 * grab m.slots + 4) (by decide)
  have HB6 := Lib.hid (HB5.out.trans ((below1 w5 (.cells (ints [-1, 0, 0, 0]).toArray 3)).mono (show base ≤ w5.heap.size by have := HB5.out.size; omega)))
  have KG := Lib.hid (grab_ok base tg6 b v q p m (tslot [-1, 0, 0, 0]) (some ⟨w5.heap.size, 0, none⟩) 4 4 _ hd6 HSE.out HG.out (show (0 : Nat) ≤ _ by omega) ht6)
  have HT6 := Lib.hid (hk6 _ _ _ _ _ ht5)
  have hcp6 := ((below1 w5 (.cells (ints [-1, 0, 0, 0]).toArray 3)).cell (p := ⟨pb, 0, none⟩) (show pb < w5.heap.size by have := HB5.out.size; omega)).trans hcp5
  generalize hgn : grab m.slots = g at *
  clear hd5 ht5 hd6 ht6 hk6
  go_wp2_with fail
  refine KG.out.mono ?_
  rintro e w7 ⟨rfl, v7, q7, hd7, hv1, hv2, hv3, hTT, hb7⟩
  have ht7 := hTT _ _ _ _ _ HT6.out
  have hcp7 := (hb7.cell (p := ⟨pb, 0, none⟩) hpb).trans hcp6
  obtain ⟨gb, hgA, hgb, hgf, ⟨gy, hgc⟩, hd8, hk8⟩ := hd7.setRoot2 (k := n / 4) (by rw [hv2]; exact HKR.out) (g : Nat)
  obtain rfl : gb = b1 := by rw [hv1, hA] at hgA; injection hgA with e; injection e with e; exact e.symm
  have ht8 := hk8 _ _ _ _ _ (by decide) ht7
  have HB7 := Lib.hid (HB6.out.trans hb7)
  have HB8 := Lib.hid (HB7.out.setCell (p := ⟨gb, n / 4, none⟩) hgb (.int .i64 (g : Nat)))
  have hcp8 := ((Below.refl base w7).setCell (p := ⟨gb, n / 4, none⟩) hgb (.int .i64 (g : Nat))).cell (p := ⟨pb, 0, none⟩) hpb |>.trans hcp7
  obtain ⟨z0, z1, z2, z3, z4⟩ := hd7.box
  rw [hv1, hA, hv2, hv3] at z1
  have e3 : (0 : Int) ≤ (g : Int) := by omega
  clear hcp5 hcp6 hcp7
  have KG2 := Lib.hid (grab_full base tg6 b v7 q7 p _ (dslot pg) none 0 0 _ hd8 HSE2.out HG2.out)
  clear hd7 hd8 ht7 ht8 hTT hk8 hb7 hv1 hv2 hv3 hgA
  go_wp2_with fail
  refine KG2.out.mono ?_
  rintro e w9 ⟨rfl, hb9⟩
  exact ⟨rfl, TurnRes.no R.out (HB8.out.trans (hb9.mono (by have := HB8.out.size; omega)))⟩
set_option maxRecDepth 100000 in
set_option maxHeartbeats 1000000 in
theorem writeC_zero_ok (base : Nat) (tg : Nat → Nat) (b : Nat) (v : IV) (q : List SV) (p : List PV) (m : Img) (nb wb pb n : Nat) (pg : ByteArray) (w : World) (h : WAt w base tg b v q p m nb wb pb n pg) (hj : int m.root (n / 4) = 0)
    (hg : grab m.slots ≠ 0) (hg2 : grab (laid m.slots (grab m.slots) (tslot [-1, 0, 0, 0])) ≠ 0) :
    Calls Try.prog 50 #[.pointer (some ⟨b, 0, none⟩), .pointer (some ⟨nb, 0, none⟩), .pointer (some ⟨wb, 0, none⟩), .pointer (some ⟨pb, 0, none⟩)] w (TurnRes base b (writeM m n pg) w) := by
  have hd := h.desk
  have hm := h.right
  have hI := hd.own.imgR
  have hrl := hI.rlen
  have hsl := hI.slen
  have hfl := hI.flen
  have hrf := refs_len hm
  have hbw : base ≤ w.heap.size := by have := hd.ty.ty.lt; have := hd.lo; omega
  have hr4 := (sound_of (check_is hm).1).cbd.root
  have hse := (sound_of (check_is hm).1).slots
  have h40 := (slotsErr_len hse).2
  have hpg := h.size
  have hpz : pg.size ≤ 4611686018427387903 := by omega
  have hcn := h.c1
  have hcw := h.c2
  have hcp := h.c3
  have hnb := h.n1
  have hwb := h.n2
  have hpb := h.n3
  have hx := h.page
  have hkr : n / 4 < v.rn := by omega
  have hxb : n ≤ 4611686018427387903 := by omega
  have hmod : ((n % 4 : Nat) : Int) = (n : Int) % 4 := by omega
  have hdiv : ((n / 4 : Nat) : Int) = (n : Int) / 4 := by omega
  have htm : (n : Int).tmod 4 = (n : Int) % 4 := Int.tmod_eq_emod_of_nonneg (by omega)
  have htd : (n : Int).tdiv 4 = (n : Int) / 4 := Int.tdiv_eq_ediv_of_nonneg (by omega)
  have hk0 : (0 : Int) ≤ (n : Int) / 4 := by omega
  have hk1 : (n : Int) / 4 < (v.rn : Int) := by omega
  obtain ⟨b1, hA, _, hb1, _, _, ⟨t, hti, c1⟩, _⟩ := hd.own.root.stored hkr 0
  have hit := int_at hti
  have c1 : w.cell? ⟨b1, n / 4, none⟩ = some (.int .i64 t) := c1
  obtain ⟨x0, x1, x2, x3, x4⟩ := hd.box
  rw [hA] at x1
  have R' := write_new (pg := pg) (own_no0 hj)
  rw [if_neg hg, if_neg hg2] at R'
  have R := Lib.hid R'
  clear R'
  obtain ⟨q1, q2, _, _⟩ := grab_is hse hg
  have hse2 := laid_fine hse hg (tslot_fine (t := [-1, 0, 0, 0]) rfl rfl)
  have HSE2 := Lib.hid hse2
  have hn1 := laid_new (s := (tslot [-1, 0, 0, 0])) q2
  have hgg : grab m.slots ≠ grab (laid m.slots (grab m.slots) (tslot [-1, 0, 0, 0])) := by
    intro e
    have := (grab_is hse2 hg2).2.2.1 (tslot [-1, 0, 0, 0]) (by rw [← e]; exact hn1)
    exact absurd this (by decide)
  have hjs := (laid_old (s := dslot pg) (List.getElem?_eq_some_iff.1 hn1).1 hgg).trans hn1
  have HJS := Lib.hid hjs
  clear hn1 hgg hjs
  have HG2 := Lib.hid hg2
  clear hse2 hg2 q1 q2
  rw [hj] at hit
  subst hit
  have HD := Lib.hid hd
  have HKR := Lib.hid hkr
  have HRK := Lib.hid (rootOk_of hm hx)
  have HSE := Lib.hid hse
  have HG := Lib.hid hg
  have hi0 : (0 : Int) ≤ (n : Int) % 4 := by omega
  have hi1 : (n : Int) % 4 < 4 := by omega
  have hi2 : n % 4 < 4 := by omega
  clear hg hse hj
  clear h hd hm hI hrl hsl hfl hrf hr4 h40 hpg hx hkr hmod hti
  go_enter Try.func50, Try.ntmps50
  go_wp2_with fail
  go_quiet (fail)
  go_wp2_with fail
  go_quiet (fail)
  generalize hwq : World.drewN (World.drewN w _) _ = wq
  have hbq : Below w.heap.size w wq := by rw [← hwq]; exact below_drewN (below_drewN (Below.refl _ _) _) _
  clear hwq
  have hcw' := (hbq.cell (p := ⟨wb, 0, none⟩) (show wb < w.heap.size by omega)).trans hcw
  have hcp' := (hbq.cell (p := ⟨pb, 0, none⟩) (show pb < w.heap.size by omega)).trans hcp
  have hdq := HD.out.next hbq
  have HBQ := Lib.hid (hbq.mono hbw)
  have hcw := hcw'
  have hcp := hcp'
  clear x0 x1 x2 x3 x4 c1 hcn hcw' hcp' hbq
  obtain ⟨x0, x1, x2, x3, x4⟩ := hdq.box
  rw [hA] at x1
  have K1 := Lib.hid (entries_any b v m (n / 4) wq hdq.own.imgR hdq.box HKR.out HRK.out)
  rw [hdiv] at K1
  go_wp2_with fail
  refine K1.out.mono ?_
  rintro e w5 ⟨A5, c5, rfl, ho5, hb5, hc5, hm5⟩
  obtain ⟨tg5, hd5, ht5⟩ := hdq.fresh (Below.refl _ _) hb5 ho5 (by omega) hc5 hm5
  have HB5 := Lib.hid (HBQ.out.trans (hb5.mono (show base ≤ wq.heap.size by have := HBQ.out.size; omega)))
  have hcp5 := (hb5.cell (p := ⟨pb, 0, none⟩) (show pb < wq.heap.size by have := HBQ.out.size; omega)).trans hcp
  clear x0 x1 x2 x3 x4 K1 ho5 hb5 hcp hcw hdq
  obtain ⟨tg6, hd6, ht6, hk6⟩ := hd5.newRow [-1, 0, 0, 0] (2 * grab m.slots + 4) (by decide)
  have HB6 := Lib.hid (HB5.out.trans ((below1 w5 (.cells (ints [-1, 0, 0, 0]).toArray 3)).mono (show base ≤ w5.heap.size by have := HB5.out.size; omega)))
  have KG := Lib.hid (grab_ok base tg6 b v q p m (tslot [-1, 0, 0, 0]) (some ⟨w5.heap.size, 0, none⟩) 4 4 _ hd6 HSE.out HG.out (show (0 : Nat) ≤ _ by omega) ht6)
  have HT6 := Lib.hid (hk6 _ _ _ _ _ ht5)
  have hcp6 := ((below1 w5 (.cells (ints [-1, 0, 0, 0]).toArray 3)).cell (p := ⟨pb, 0, none⟩) (show pb < w5.heap.size by have := HB5.out.size; omega)).trans hcp5
  generalize hgn : grab m.slots = g at *
  clear hd5 ht5 hd6 ht6 hk6
  go_wp2_with fail
  refine KG.out.mono ?_
  rintro e w7 ⟨rfl, v7, q7, hd7, hv1, hv2, hv3, hTT, hb7⟩
  have ht7 := hTT _ _ _ _ _ HT6.out
  have hcp7 := (hb7.cell (p := ⟨pb, 0, none⟩) hpb).trans hcp6
  obtain ⟨gb, hgA, hgb, hgf, ⟨gy, hgc⟩, hd8, hk8⟩ := hd7.setRoot2 (k := n / 4) (by rw [hv2]; exact HKR.out) (g : Nat)
  obtain rfl : gb = b1 := by rw [hv1, hA] at hgA; injection hgA with e; injection e with e; exact e.symm
  have ht8 := hk8 _ _ _ _ _ (by decide) ht7
  have HB7 := Lib.hid (HB6.out.trans hb7)
  have HB8 := Lib.hid (HB7.out.setCell (p := ⟨gb, n / 4, none⟩) hgb (.int .i64 (g : Nat)))
  have hcp8 := ((Below.refl base w7).setCell (p := ⟨gb, n / 4, none⟩) hgb (.int .i64 (g : Nat))).cell (p := ⟨pb, 0, none⟩) hpb |>.trans hcp7
  obtain ⟨z0, z1, z2, z3, z4⟩ := hd7.box
  rw [hv1, hA, hv2, hv3] at z1
  have e3 : (0 : Int) ≤ (g : Int) := by omega
  clear hcp5 hcp6 hcp7
  have KG2 := Lib.hid (grab_ok base tg6 b v7 q7 p _ (dslot pg) none 0 0 _ hd8 HSE2.out HG2.out hpz TabO.nil)
  have HT8 := Lib.hid ht8
  dsimp only at KG2
  generalize hgn2 : grab (laid m.slots g (tslot [-1, 0, 0, 0])) = g2 at *
  clear hd7 hd8 ht7 ht8 hTT hk8 hb7 hv1 hv2 hv3 hgA
  go_wp2_with fail
  refine KG2.out.mono ?_
  rintro e w9 ⟨rfl, v9, q9, hd9, hv4, hv5, hv6, hTT, hb9⟩
  have ht9 := hTT _ _ _ _ _ HT8.out
  obtain ⟨lb, rfl, hlb, hlf, ⟨ly, hlc⟩, hd10, ht10⟩ := hd9.setFree ht9 hi2 (g2 : Nat)
  have HB9 := Lib.hid (HB8.out.trans hb9)
  have HB10 := Lib.hid (HB9.out.setCell (p := ⟨lb, n % 4, none⟩) hlb (.int .i64 (g2 : Nat)))
  obtain ⟨sb, q11, u11, hsA, hsn, hsb, hsc, hsf, hd11⟩ := (hd10.marked (2 * g + 4)).setTable HJS.out ht10.given
  have HD11 := Lib.hid hd11
  have HB11 := Lib.hid (HB10.out.setCell (p := ⟨sb, g * 3 + 2, none⟩) hsb (.slice (some ⟨lb, 0, none⟩) 4 c5))
  obtain ⟨y0, y1, y2, y3, y4⟩ := hd10.box
  rw [hsA] at y2
  have e9 : (g : Int) < (v9.sn : Int) := by omega
  clear hd9 hd10 hd11 ht9 ht10 hTT hb9 hv4 hv5 hv6 z0 z1 z2 z3 z4
  go_wp2_with fail
  go_end0
  exact TurnRes.yes R.out HD11.out HB11.out
set_option maxRecDepth 100000 in
set_option maxHeartbeats 1000000 in
theorem writeC_shared_full (base : Nat) (tg : Nat → Nat) (b : Nat) (v : IV) (q : List SV) (p : List PV) (m : Img) (nb wb pb n : Nat) (pg : ByteArray) (w : World) (h : WAt w base tg b v q p m nb wb pb n pg) (j : Nat) (hj : int m.root (n / 4) = (j : Nat)) (hj1 : 1 ≤ j) (hjl : j < m.slots.length) (hr1 : int m.refs j ≠ 1)
    (hg : grab m.slots = 0) :
    Calls Try.prog 50 #[.pointer (some ⟨b, 0, none⟩), .pointer (some ⟨nb, 0, none⟩), .pointer (some ⟨wb, 0, none⟩), .pointer (some ⟨pb, 0, none⟩)] w (TurnRes base b (writeM m n pg) w) := by
  have hd := h.desk
  have hm := h.right
  have hI := hd.own.imgR
  have hrl := hI.rlen
  have hsl := hI.slen
  have hfl := hI.flen
  have hrf := refs_len hm
  have hbw : base ≤ w.heap.size := by have := hd.ty.ty.lt; have := hd.lo; omega
  have hr4 := (sound_of (check_is hm).1).cbd.root
  have hse := (sound_of (check_is hm).1).slots
  have h40 := (slotsErr_len hse).2
  have hpg := h.size
  have hpz : pg.size ≤ 4611686018427387903 := by omega
  have hcn := h.c1
  have hcw := h.c2
  have hcp := h.c3
  have hnb := h.n1
  have hwb := h.n2
  have hpb := h.n3
  have hx := h.page
  have hkr : n / 4 < v.rn := by omega
  have hxb : n ≤ 4611686018427387903 := by omega
  have hmod : ((n % 4 : Nat) : Int) = (n : Int) % 4 := by omega
  have hdiv : ((n / 4 : Nat) : Int) = (n : Int) / 4 := by omega
  have htm : (n : Int).tmod 4 = (n : Int) % 4 := Int.tmod_eq_emod_of_nonneg (by omega)
  have htd : (n : Int).tdiv 4 = (n : Int) / 4 := Int.tdiv_eq_ediv_of_nonneg (by omega)
  have hk0 : (0 : Int) ≤ (n : Int) / 4 := by omega
  have hk1 : (n : Int) / 4 < (v.rn : Int) := by omega
  obtain ⟨b1, hA, _, hb1, _, _, ⟨t, hti, c1⟩, _⟩ := hd.own.root.stored hkr 0
  have hit := int_at hti
  have c1 : w.cell? ⟨b1, n / 4, none⟩ = some (.int .i64 t) := c1
  obtain ⟨x0, x1, x2, x3, x4⟩ := hd.box
  rw [hA] at x1
  have R' := write_new (pg := pg) (own_noj hj hr1)
  rw [if_pos hg] at R'
  have R := Lib.hid R'
  clear R'
  obtain ⟨b2, o2, r, hFA, hb2, f3, f4⟩ := hI.refs.at1 (k := j) (by omega)
  have e5 := int_at f3
  have hrr : (r == 1) = false := by simpa [← e5] using hr1
  rw [hFA] at x3
  rw [hj] at hit
  subst hit
  have e0 : (0 : Int) ≤ (j : Int) := by omega
  have e1 : (0 : Int) < (j : Int) := by omega
  have e2 : (j : Int) < (v.fn : Int) := by omega
  clear e5 f3 hr1
  have HD := Lib.hid hd
  have HKR := Lib.hid hkr
  have HRK := Lib.hid (rootOk_of hm hx)
  have HSE := Lib.hid hse
  have HG := Lib.hid hg
  have hi0 : (0 : Int) ≤ (n : Int) % 4 := by omega
  have hi1 : (n : Int) % 4 < 4 := by omega
  have hi2 : n % 4 < 4 := by omega
  clear hg hse hj
  clear h hd hm hI hrl hsl hfl hrf hr4 h40 hpg hx hkr hmod hti
  go_enter Try.func50, Try.ntmps50
  go_wp2_with fail
  go_quiet (fail)
  go_wp2_with fail
  go_quiet (fail)
  generalize hwq : World.drewN (World.drewN w _) _ = wq
  have hbq : Below w.heap.size w wq := by rw [← hwq]; exact below_drewN (below_drewN (Below.refl _ _) _) _
  clear hwq
  have hcw' := (hbq.cell (p := ⟨wb, 0, none⟩) (show wb < w.heap.size by omega)).trans hcw
  have hcp' := (hbq.cell (p := ⟨pb, 0, none⟩) (show pb < w.heap.size by omega)).trans hcp
  have hdq := HD.out.next hbq
  have HBQ := Lib.hid (hbq.mono hbw)
  have hcw := hcw'
  have hcp := hcp'
  clear x0 x1 x2 x3 x4 c1 hcn hcw' hcp' hbq
  obtain ⟨x0, x1, x2, x3, x4⟩ := hdq.box
  rw [hA] at x1
  have K1 := Lib.hid (entries_any b v m (n / 4) wq hdq.own.imgR hdq.box HKR.out HRK.out)
  rw [hdiv] at K1
  go_wp2_with fail
  refine K1.out.mono ?_
  rintro e w5 ⟨A5, c5, rfl, ho5, hb5, hc5, hm5⟩
  obtain ⟨tg5, hd5, ht5⟩ := hdq.fresh (Below.refl _ _) hb5 ho5 (by omega) hc5 hm5
  have HB5 := Lib.hid (HBQ.out.trans (hb5.mono (show base ≤ wq.heap.size by have := HBQ.out.size; omega)))
  have hcp5 := (hb5.cell (p := ⟨pb, 0, none⟩) (show pb < wq.heap.size by have := HBQ.out.size; omega)).trans hcp
  clear x0 x1 x2 x3 x4 K1 ho5 hb5 hcp hcw hdq
  obtain ⟨tg6, hd6, ht6, hk6⟩ := hd5.newRow [-1, 0, 0, 0] (2 * grab m.slots + 4) (by decide)
  have HB6 := Lib.hid (HB5.out.trans ((below1 w5 (.cells (ints [-1, 0, 0, 0]).toArray 3)).mono (show base ≤ w5.heap.size by have := HB5.out.size; omega)))
  have KG := Lib.hid (grab_full base tg6 b v q p m (tslot [-1, 0, 0, 0]) (some ⟨w5.heap.size, 0, none⟩) 4 4 _ hd6 HSE.out HG.out)
  clear hd5 ht5 hd6 ht6 hk6
  go_wp2_with fail
  refine KG.out.mono ?_
  rintro e w7 ⟨rfl, hb7⟩
  exact ⟨rfl, TurnRes.no R.out (HB6.out.trans (hb7.mono (by have := HB6.out.size; omega)))⟩
set_option maxRecDepth 100000 in
set_option maxHeartbeats 1000000 in
theorem writeC_shared_full2 (base : Nat) (tg : Nat → Nat) (b : Nat) (v : IV) (q : List SV) (p : List PV) (m : Img) (nb wb pb n : Nat) (pg : ByteArray) (w : World) (h : WAt w base tg b v q p m nb wb pb n pg) (j : Nat) (hj : int m.root (n / 4) = (j : Nat)) (hj1 : 1 ≤ j) (hjl : j < m.slots.length) (hr1 : int m.refs j ≠ 1)
    (hg : grab m.slots ≠ 0) (hg2 : grab (laid m.slots (grab m.slots) (tslot [-1, 0, 0, 0])) = 0) :
    Calls Try.prog 50 #[.pointer (some ⟨b, 0, none⟩), .pointer (some ⟨nb, 0, none⟩), .pointer (some ⟨wb, 0, none⟩), .pointer (some ⟨pb, 0, none⟩)] w (TurnRes base b (writeM m n pg) w) := by
  have hd := h.desk
  have hm := h.right
  have hI := hd.own.imgR
  have hrl := hI.rlen
  have hsl := hI.slen
  have hfl := hI.flen
  have hrf := refs_len hm
  have hbw : base ≤ w.heap.size := by have := hd.ty.ty.lt; have := hd.lo; omega
  have hr4 := (sound_of (check_is hm).1).cbd.root
  have hse := (sound_of (check_is hm).1).slots
  have h40 := (slotsErr_len hse).2
  have hpg := h.size
  have hpz : pg.size ≤ 4611686018427387903 := by omega
  have hcn := h.c1
  have hcw := h.c2
  have hcp := h.c3
  have hnb := h.n1
  have hwb := h.n2
  have hpb := h.n3
  have hx := h.page
  have hkr : n / 4 < v.rn := by omega
  have hxb : n ≤ 4611686018427387903 := by omega
  have hmod : ((n % 4 : Nat) : Int) = (n : Int) % 4 := by omega
  have hdiv : ((n / 4 : Nat) : Int) = (n : Int) / 4 := by omega
  have htm : (n : Int).tmod 4 = (n : Int) % 4 := Int.tmod_eq_emod_of_nonneg (by omega)
  have htd : (n : Int).tdiv 4 = (n : Int) / 4 := Int.tdiv_eq_ediv_of_nonneg (by omega)
  have hk0 : (0 : Int) ≤ (n : Int) / 4 := by omega
  have hk1 : (n : Int) / 4 < (v.rn : Int) := by omega
  obtain ⟨b1, hA, _, hb1, _, _, ⟨t, hti, c1⟩, _⟩ := hd.own.root.stored hkr 0
  have hit := int_at hti
  have c1 : w.cell? ⟨b1, n / 4, none⟩ = some (.int .i64 t) := c1
  obtain ⟨x0, x1, x2, x3, x4⟩ := hd.box
  rw [hA] at x1
  have R' := write_new (pg := pg) (own_noj hj hr1)
  rw [if_neg hg, if_pos hg2] at R'
  have R := Lib.hid R'
  clear R'
  obtain ⟨q1, q2, _, _⟩ := grab_is hse hg
  have hse2 := laid_fine hse hg (tslot_fine (t := [-1, 0, 0, 0]) rfl rfl)
  have HSE2 := Lib.hid hse2
  have HG2 := Lib.hid hg2
  clear hse2 hg2 q1 q2
  obtain ⟨b2, o2, r, hFA, hb2, f3, f4⟩ := hI.refs.at1 (k := j) (by omega)
  have e5 := int_at f3
  have hrr : (r == 1) = false := by simpa [← e5] using hr1
  rw [hFA] at x3
  rw [hj] at hit
  subst hit
  have e0 : (0 : Int) ≤ (j : Int) := by omega
  have e1 : (0 : Int) < (j : Int) := by omega
  have e2 : (j : Int) < (v.fn : Int) := by omega
  clear e5 f3 hr1
  have HD := Lib.hid hd
  have HKR := Lib.hid hkr
  have HRK := Lib.hid (rootOk_of hm hx)
  have HSE := Lib.hid hse
  have HG := Lib.hid hg
  have hi0 : (0 : Int) ≤ (n : Int) % 4 := by omega
  have hi1 : (n : Int) % 4 < 4 := by omega
  have hi2 : n % 4 < 4 := by omega
  clear hg hse hj
  clear h hd hm hI hrl hsl hfl hrf hr4 h40 hpg hx hkr hmod hti
  go_enter Try.func50, Try.ntmps50
  go_wp2_with fail
  go_quiet (fail)
  go_wp2_with fail
  go_quiet (fail)
  generalize hwq : World.drewN (World.drewN w _) _ = wq
  have hbq : Below w.heap.size w wq := by rw [← hwq]; exact below_drewN (below_drewN (Below.refl _ _) _) _
  clear hwq
  have hcw' := (hbq.cell (p := ⟨wb, 0, none⟩) (show wb < w.heap.size by omega)).trans hcw
  have hcp' := (hbq.cell (p := ⟨pb, 0, none⟩) (show pb < w.heap.size by omega)).trans hcp
  have hdq := HD.out.next hbq
  have HBQ := Lib.hid (hbq.mono hbw)
  have hcw := hcw'
  have hcp := hcp'
  clear x0 x1 x2 x3 x4 c1 hcn hcw' hcp' hbq
  obtain ⟨x0, x1, x2, x3, x4⟩ := hdq.box
  rw [hA] at x1
  have K1 := Lib.hid (entries_any b v m (n / 4) wq hdq.own.imgR hdq.box HKR.out HRK.out)
  rw [hdiv] at K1
  go_wp2_with fail
  refine K1.out.mono ?_
  rintro e w5 ⟨A5, c5, rfl, ho5, hb5, hc5, hm5⟩
  obtain ⟨tg5, hd5, ht5⟩ := hdq.fresh (Below.refl _ _) hb5 ho5 (by omega) hc5 hm5
  have HB5 := Lib.hid (HBQ.out.trans (hb5.mono (show base ≤ wq.heap.size by have := HBQ.out.size; omega)))
  have hcp5 := (hb5.cell (p := ⟨pb, 0, none⟩) (show pb < wq.heap.size by have := HBQ.out.size; omega)).trans hcp
  clear x0 x1 x2 x3 x4 K1 ho5 hb5 hcp hcw hdq
  obtain ⟨tg6, hd6, ht6, hk6⟩ := hd5.newRow [-1, 0, 0, 0] (2 * grab m.slots + 4) (by decide)
  have HB6 := Lib.hid (HB5.out.trans ((below1 w5 (.cells (ints [-1, 0, 0, 0]).toArray 3)).mono (show base ≤ w5.heap.size by have := HB5.out.size; omega)))
  have KG := Lib.hid (grab_ok base tg6 b v q p m (tslot [-1, 0, 0, 0]) (some ⟨w5.heap.size, 0, none⟩) 4 4 _ hd6 HSE.out HG.out (show (0 : Nat) ≤ _ by omega) ht6)
  have HT6 := Lib.hid (hk6 _ _ _ _ _ ht5)
  have hcp6 := ((below1 w5 (.cells (ints [-1, 0, 0, 0]).toArray 3)).cell (p := ⟨pb, 0, none⟩) (show pb < w5.heap.size by have := HB5.out.size; omega)).trans hcp5
  generalize hgn : grab m.slots = g at *
  clear hd5 ht5 hd6 ht6 hk6
  go_wp2_with fail
  refine KG.out.mono ?_
  rintro e w7 ⟨rfl, v7, q7, hd7, hv1, hv2, hv3, hTT, hb7⟩
  have ht7 := hTT _ _ _ _ _ HT6.out
  have hcp7 := (hb7.cell (p := ⟨pb, 0, none⟩) hpb).trans hcp6
  obtain ⟨gb, hgA, hgb, hgf, ⟨gy, hgc⟩, hd8, hk8⟩ := hd7.setRoot2 (k := n / 4) (by rw [hv2]; exact HKR.out) (g : Nat)
  obtain rfl : gb = b1 := by rw [hv1, hA] at hgA; injection hgA with e; injection e with e; exact e.symm
  have ht8 := hk8 _ _ _ _ _ (by decide) ht7
  have HB7 := Lib.hid (HB6.out.trans hb7)
  have HB8 := Lib.hid (HB7.out.setCell (p := ⟨gb, n / 4, none⟩) hgb (.int .i64 (g : Nat)))
  have hcp8 := ((Below.refl base w7).setCell (p := ⟨gb, n / 4, none⟩) hgb (.int .i64 (g : Nat))).cell (p := ⟨pb, 0, none⟩) hpb |>.trans hcp7
  obtain ⟨z0, z1, z2, z3, z4⟩ := hd7.box
  rw [hv1, hA, hv2, hv3] at z1
  have e3 : (0 : Int) ≤ (g : Int) := by omega
  clear hcp5 hcp6 hcp7
  have KG2 := Lib.hid (grab_full base tg6 b v7 q7 p _ (dslot pg) none 0 0 _ hd8 HSE2.out HG2.out)
  clear hd7 hd8 ht7 ht8 hTT hk8 hb7 hv1 hv2 hv3 hgA
  go_wp2_with fail
  refine KG2.out.mono ?_
  rintro e w9 ⟨rfl, hb9⟩
  exact ⟨rfl, TurnRes.no R.out (HB8.out.trans (hb9.mono (by have := HB8.out.size; omega)))⟩
set_option maxRecDepth 100000 in
set_option maxHeartbeats 1000000 in
theorem writeC_shared_ok (base : Nat) (tg : Nat → Nat) (b : Nat) (v : IV) (q : List SV) (p : List PV) (m : Img) (nb wb pb n : Nat) (pg : ByteArray) (w : World) (h : WAt w base tg b v q p m nb wb pb n pg) (j : Nat) (hj : int m.root (n / 4) = (j : Nat)) (hj1 : 1 ≤ j) (hjl : j < m.slots.length) (hr1 : int m.refs j ≠ 1)
    (hg : grab m.slots ≠ 0) (hg2 : grab (laid m.slots (grab m.slots) (tslot [-1, 0, 0, 0])) ≠ 0) :
    Calls Try.prog 50 #[.pointer (some ⟨b, 0, none⟩), .pointer (some ⟨nb, 0, none⟩), .pointer (some ⟨wb, 0, none⟩), .pointer (some ⟨pb, 0, none⟩)] w (TurnRes base b (writeM m n pg) w) := by
  have hd := h.desk
  have hm := h.right
  have hI := hd.own.imgR
  have hrl := hI.rlen
  have hsl := hI.slen
  have hfl := hI.flen
  have hrf := refs_len hm
  have hbw : base ≤ w.heap.size := by have := hd.ty.ty.lt; have := hd.lo; omega
  have hr4 := (sound_of (check_is hm).1).cbd.root
  have hse := (sound_of (check_is hm).1).slots
  have h40 := (slotsErr_len hse).2
  have hpg := h.size
  have hpz : pg.size ≤ 4611686018427387903 := by omega
  have hcn := h.c1
  have hcw := h.c2
  have hcp := h.c3
  have hnb := h.n1
  have hwb := h.n2
  have hpb := h.n3
  have hx := h.page
  have hkr : n / 4 < v.rn := by omega
  have hxb : n ≤ 4611686018427387903 := by omega
  have hmod : ((n % 4 : Nat) : Int) = (n : Int) % 4 := by omega
  have hdiv : ((n / 4 : Nat) : Int) = (n : Int) / 4 := by omega
  have htm : (n : Int).tmod 4 = (n : Int) % 4 := Int.tmod_eq_emod_of_nonneg (by omega)
  have htd : (n : Int).tdiv 4 = (n : Int) / 4 := Int.tdiv_eq_ediv_of_nonneg (by omega)
  have hk0 : (0 : Int) ≤ (n : Int) / 4 := by omega
  have hk1 : (n : Int) / 4 < (v.rn : Int) := by omega
  obtain ⟨b1, hA, _, hb1, _, _, ⟨t, hti, c1⟩, _⟩ := hd.own.root.stored hkr 0
  have hit := int_at hti
  have c1 : w.cell? ⟨b1, n / 4, none⟩ = some (.int .i64 t) := c1
  obtain ⟨x0, x1, x2, x3, x4⟩ := hd.box
  rw [hA] at x1
  have R' := write_new (pg := pg) (own_noj hj hr1)
  rw [if_neg hg, if_neg hg2] at R'
  have R := Lib.hid R'
  clear R'
  obtain ⟨q1, q2, _, _⟩ := grab_is hse hg
  have hse2 := laid_fine hse hg (tslot_fine (t := [-1, 0, 0, 0]) rfl rfl)
  have HSE2 := Lib.hid hse2
  have hn1 := laid_new (s := (tslot [-1, 0, 0, 0])) q2
  have hgg : grab m.slots ≠ grab (laid m.slots (grab m.slots) (tslot [-1, 0, 0, 0])) := by
    intro e
    have := (grab_is hse2 hg2).2.2.1 (tslot [-1, 0, 0, 0]) (by rw [← e]; exact hn1)
    exact absurd this (by decide)
  have hjs := (laid_old (s := dslot pg) (List.getElem?_eq_some_iff.1 hn1).1 hgg).trans hn1
  have HJS := Lib.hid hjs
  clear hn1 hgg hjs
  have HG2 := Lib.hid hg2
  clear hse2 hg2 q1 q2
  obtain ⟨b2, o2, r, hFA, hb2, f3, f4⟩ := hI.refs.at1 (k := j) (by omega)
  have e5 := int_at f3
  have hrr : (r == 1) = false := by simpa [← e5] using hr1
  rw [hFA] at x3
  rw [hj] at hit
  subst hit
  have e0 : (0 : Int) ≤ (j : Int) := by omega
  have e1 : (0 : Int) < (j : Int) := by omega
  have e2 : (j : Int) < (v.fn : Int) := by omega
  clear e5 f3 hr1
  have HD := Lib.hid hd
  have HKR := Lib.hid hkr
  have HRK := Lib.hid (rootOk_of hm hx)
  have HSE := Lib.hid hse
  have HG := Lib.hid hg
  have hi0 : (0 : Int) ≤ (n : Int) % 4 := by omega
  have hi1 : (n : Int) % 4 < 4 := by omega
  have hi2 : n % 4 < 4 := by omega
  clear hg hse hj
  clear h hd hm hI hrl hsl hfl hrf hr4 h40 hpg hx hkr hmod hti
  go_enter Try.func50, Try.ntmps50
  go_wp2_with fail
  go_quiet (fail)
  go_wp2_with fail
  go_quiet (fail)
  generalize hwq : World.drewN (World.drewN w _) _ = wq
  have hbq : Below w.heap.size w wq := by rw [← hwq]; exact below_drewN (below_drewN (Below.refl _ _) _) _
  clear hwq
  have hcw' := (hbq.cell (p := ⟨wb, 0, none⟩) (show wb < w.heap.size by omega)).trans hcw
  have hcp' := (hbq.cell (p := ⟨pb, 0, none⟩) (show pb < w.heap.size by omega)).trans hcp
  have hdq := HD.out.next hbq
  have HBQ := Lib.hid (hbq.mono hbw)
  have hcw := hcw'
  have hcp := hcp'
  clear x0 x1 x2 x3 x4 c1 hcn hcw' hcp' hbq
  obtain ⟨x0, x1, x2, x3, x4⟩ := hdq.box
  rw [hA] at x1
  have K1 := Lib.hid (entries_any b v m (n / 4) wq hdq.own.imgR hdq.box HKR.out HRK.out)
  rw [hdiv] at K1
  go_wp2_with fail
  refine K1.out.mono ?_
  rintro e w5 ⟨A5, c5, rfl, ho5, hb5, hc5, hm5⟩
  obtain ⟨tg5, hd5, ht5⟩ := hdq.fresh (Below.refl _ _) hb5 ho5 (by omega) hc5 hm5
  have HB5 := Lib.hid (HBQ.out.trans (hb5.mono (show base ≤ wq.heap.size by have := HBQ.out.size; omega)))
  have hcp5 := (hb5.cell (p := ⟨pb, 0, none⟩) (show pb < wq.heap.size by have := HBQ.out.size; omega)).trans hcp
  clear x0 x1 x2 x3 x4 K1 ho5 hb5 hcp hcw hdq
  obtain ⟨tg6, hd6, ht6, hk6⟩ := hd5.newRow [-1, 0, 0, 0] (2 * grab m.slots + 4) (by decide)
  have HB6 := Lib.hid (HB5.out.trans ((below1 w5 (.cells (ints [-1, 0, 0, 0]).toArray 3)).mono (show base ≤ w5.heap.size by have := HB5.out.size; omega)))
  have KG := Lib.hid (grab_ok base tg6 b v q p m (tslot [-1, 0, 0, 0]) (some ⟨w5.heap.size, 0, none⟩) 4 4 _ hd6 HSE.out HG.out (show (0 : Nat) ≤ _ by omega) ht6)
  have HT6 := Lib.hid (hk6 _ _ _ _ _ ht5)
  have hcp6 := ((below1 w5 (.cells (ints [-1, 0, 0, 0]).toArray 3)).cell (p := ⟨pb, 0, none⟩) (show pb < w5.heap.size by have := HB5.out.size; omega)).trans hcp5
  generalize hgn : grab m.slots = g at *
  clear hd5 ht5 hd6 ht6 hk6
  go_wp2_with fail
  refine KG.out.mono ?_
  rintro e w7 ⟨rfl, v7, q7, hd7, hv1, hv2, hv3, hTT, hb7⟩
  have ht7 := hTT _ _ _ _ _ HT6.out
  have hcp7 := (hb7.cell (p := ⟨pb, 0, none⟩) hpb).trans hcp6
  obtain ⟨gb, hgA, hgb, hgf, ⟨gy, hgc⟩, hd8, hk8⟩ := hd7.setRoot2 (k := n / 4) (by rw [hv2]; exact HKR.out) (g : Nat)
  obtain rfl : gb = b1 := by rw [hv1, hA] at hgA; injection hgA with e; injection e with e; exact e.symm
  have ht8 := hk8 _ _ _ _ _ (by decide) ht7
  have HB7 := Lib.hid (HB6.out.trans hb7)
  have HB8 := Lib.hid (HB7.out.setCell (p := ⟨gb, n / 4, none⟩) hgb (.int .i64 (g : Nat)))
  have hcp8 := ((Below.refl base w7).setCell (p := ⟨gb, n / 4, none⟩) hgb (.int .i64 (g : Nat))).cell (p := ⟨pb, 0, none⟩) hpb |>.trans hcp7
  obtain ⟨z0, z1, z2, z3, z4⟩ := hd7.box
  rw [hv1, hA, hv2, hv3] at z1
  have e3 : (0 : Int) ≤ (g : Int) := by omega
  clear hcp5 hcp6 hcp7
  have KG2 := Lib.hid (grab_ok base tg6 b v7 q7 p _ (dslot pg) none 0 0 _ hd8 HSE2.out HG2.out hpz TabO.nil)
  have HT8 := Lib.hid ht8
  dsimp only at KG2
  generalize hgn2 : grab (laid m.slots g (tslot [-1, 0, 0, 0])) = g2 at *
  clear hd7 hd8 ht7 ht8 hTT hk8 hb7 hv1 hv2 hv3 hgA
  go_wp2_with fail
  refine KG2.out.mono ?_
  rintro e w9 ⟨rfl, v9, q9, hd9, hv4, hv5, hv6, hTT, hb9⟩
  have ht9 := hTT _ _ _ _ _ HT8.out
  obtain ⟨lb, rfl, hlb, hlf, ⟨ly, hlc⟩, hd10, ht10⟩ := hd9.setFree ht9 hi2 (g2 : Nat)
  have HB9 := Lib.hid (HB8.out.trans hb9)
  have HB10 := Lib.hid (HB9.out.setCell (p := ⟨lb, n % 4, none⟩) hlb (.int .i64 (g2 : Nat)))
  obtain ⟨sb, q11, u11, hsA, hsn, hsb, hsc, hsf, hd11⟩ := (hd10.marked (2 * g + 4)).setTable HJS.out ht10.given
  have HD11 := Lib.hid hd11
  have HB11 := Lib.hid (HB10.out.setCell (p := ⟨sb, g * 3 + 2, none⟩) hsb (.slice (some ⟨lb, 0, none⟩) 4 c5))
  obtain ⟨y0, y1, y2, y3, y4⟩ := hd10.box
  rw [hsA] at y2
  have e9 : (g : Int) < (v9.sn : Int) := by omega
  clear hd9 hd10 hd11 ht9 ht10 hTT hb9 hv4 hv5 hv6 z0 z1 z2 z3 z4
  go_wp2_with fail
  go_end0
  exact TurnRes.yes R.out HD11.out HB11.out
end Go.Proofs.Ytmdjoafbckphfaa
