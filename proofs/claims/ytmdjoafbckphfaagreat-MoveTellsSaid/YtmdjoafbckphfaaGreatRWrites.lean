/- The reference's WriteOf. Conditions: the image is read below the heap's size. (Printed by gen_rwrites.py.) -/
import Derived.Test.YtmdjoafbckphfaaGreatRPut
namespace Go.Proofs.YtmdjoafbckphfaaGreat
open Go.RowKit Sl
theorem OwnI.slotSetO {w : World} {base : Nat} {tg : Nat → Nat} {v : IV} {q : List SV} {p : List PV} {m : Img} (h : OwnI w base tg v q p m) {sb k i : Nat} {x' : SV} {u : Value} (hA : v.sA = some ⟨sb, 0, none⟩) (hf : (q.flatMap SV.cells).set i u = (q.set k x').flatMap SV.cells)
    (hd : x'.s.data.size ≤ 4611686018427387903) (ht : TabO w base tg (2 * k + 4) x'.A x'.n x'.c x'.s.table) :
    OwnI (w.setCell ⟨sb, i, none⟩ u) base tg v (q.set k x') p { m with slots := m.slots.set k x'.s } ∧ base ≤ sb ∧ TypeB w sb 66 := by
  have h0 := h.slots
  rw [hA] at h0
  obtain ⟨o1, g1⟩ := h0.stored i u
  rw [hf] at o1
  exact ⟨h.turned hA g1 (by rw [hA]; exact o1) hd ht, (h0.lt sb rfl).1, own_block h0 rfl⟩
theorem OwnI.setDataO {w : World} {base : Nat} {tg : Nat → Nat} {v : IV} {q : List SV} {p : List PV} {m : Img} (h : OwnI w base tg v q p m) {k : Nat} {s : Slot} (hs : m.slots[k]? = some s) {d : ByteArray} (hd : d.size ≤ 4611686018427387903) :
    ∃ sb q', v.sA = some ⟨sb, 0, none⟩ ∧ k < v.sn ∧ base ≤ sb ∧ TypeB w sb 66 ∧ w.cell? ⟨sb, k * 3 + 1, none⟩ = some (.string s.data) ∧ w.frozen? ⟨sb, k * 3 + 1, none⟩ = false ∧
    OwnI (w.setCell ⟨sb, k * 3 + 1, none⟩ (.string d)) base tg v q' p { m with slots := m.slots.set k { s with data := d } } := by
  have hl : k < v.sn := by have := h.imgR.slen; have := (List.getElem?_eq_some_iff.1 hs).1; omega
  obtain ⟨sb, hA, hb, _⟩ := own_some h.slots (by omega)
  have hq : k < q.length := by have := h.qlen; omega
  have hx := List.getElem?_eq_getElem hq
  have hxs : q[k].s = s := by
    have := h.hq
    rw [← this, List.getElem?_map, hx] at hs
    injection hs
  have h0 := h.slots
  rw [hA] at h0
  have c1 := h0.cellAt (k * 3 + 1) (by omega)
  rw [flat3_at SV.cells SV.cells_len q k _ hx 1 (by omega)] at c1
  have hf := h0.frozenAt (k * 3 + 1)
  obtain ⟨d1, d2, d3⟩ := h.slotSetO hA (flat_data hx d) hd (h.tabs k _ hx).2
  refine ⟨sb, _, hA, hl, d2, d3, ?_, hf, by rw [← hxs]; exact d1⟩
  rw [← hxs]; exact c1
/-- A number of a slot's own table is stored to. -/
theorem OwnI.setTabO {w : World} {base : Nat} {tg : Nat → Nat} {v : IV} {q : List SV} {p : List PV} {m : Img} (h : OwnI w base tg v q p m) {k : Nat} {s : Slot} (hs : m.slots[k]? = some s) {i : Nat} (hi : i < s.table.length) (y : Int) :
    ∃ sb g n c q', v.sA = some ⟨sb, 0, none⟩ ∧ k < v.sn ∧ n = s.table.length ∧ w.cell? ⟨sb, k * 3 + 2, none⟩ = some (.slice (some ⟨g, 0, none⟩) n c) ∧ base ≤ g ∧ TypeB w g 3 ∧ w.frozen? ⟨g, i, none⟩ = false ∧ (∃ u, w.cell? ⟨g, i, none⟩ = some (.int .i64 u)) ∧
    OwnI (w.setCell ⟨g, i, none⟩ (.int .i64 y)) base tg v q' p { m with slots := m.slots.set k { s with table := s.table.set i y } } := by
  have hl : k < v.sn := by have := h.imgR.slen; have := (List.getElem?_eq_some_iff.1 hs).1; omega
  obtain ⟨sb, hA, hb, _⟩ := own_some h.slots (by omega)
  have hq : k < q.length := by have := h.qlen; omega
  have hx := List.getElem?_eq_getElem hq
  have hxs : q[k].s = s := by
    have := h.hq
    rw [← this, List.getElem?_map, hx] at hs
    injection hs
  generalize q[k] = x at hx hxs
  obtain ⟨xs, xA, xn, xc⟩ := x
  dsimp only at hxs
  subst hxs
  have hT := (h.tabs k _ hx)
  dsimp only at hT
  have hxn : xn = xs.table.length := hT.2.rd.len.symm
  obtain ⟨g, hAg, h1, h2, h3, h4, ⟨u, _, hu⟩, h6, h7⟩ := hT.2.stored (k := i) (by omega) y
  have hg := grown_set w g i (.int .i64 y)
  have ht : ∀ {t n c : Nat} {A : Option Addr} {xs : List Int}, TabO w base tg t A n c xs → t ≠ 2 * k + 4 → TabO (w.setCell ⟨g, i, none⟩ (.int .i64 y)) base tg t A n c xs := fun hh hn => hh.kept hg fun b' e _ => by injection e with e; subst e; exact .inr (by omega)
  have hfl : q.flatMap SV.cells = (q.set k ⟨{ xs with table := xs.table.set i y }, xA, xn, xc⟩).flatMap SV.cells := by
    rw [← flat_table hx (xs.table.set i y) xA xn xc]
    exact (set_same' (by rw [flat3_at SV.cells SV.cells_len q k _ hx 2 (by omega)]; rfl)).symm
  have h0 := h.slots
  rw [hA] at h0
  have c1 := h0.cellAt (k * 3 + 2) (by omega)
  rw [flat3_at SV.cells SV.cells_len q k _ hx 2 (by omega)] at c1
  have c1 : w.cell? ⟨sb, k * 3 + 2, none⟩ = some (.slice xA xn xc) := c1
  rw [hAg] at c1
  have hsl := h.slots.kept hg (own_far h.slots h4 (by decide))
  rw [hfl] at hsl
  refine ⟨sb, g, xn, xc, _, hA, hl, hxn, c1, h1, h4, h6, ⟨u, hu⟩, ⟨ht h.root (by omega), ht h.refs (by omega), hsl, h.sle, h.scap, h.snaps.kept hg (own_far h.snaps h4 (by decide)), h.ple, h.pcap, ?_, h.hp, fun j z hz => ?_, fun j z hz => ⟨(h.roots j z hz).1, ht (h.roots j z hz).2 (by omega)⟩⟩⟩
  · rw [List.map_set, h.hq]
  · rw [List.getElem?_set] at hz
    by_cases hjk : k = j
    · subst hjk
      rw [if_pos rfl, if_pos hq] at hz
      injection hz with hz
      subst hz
      exact ⟨hT.1, h7⟩
    · rw [if_neg hjk] at hz
      exact ⟨(h.tabs j z hz).1, ht (h.tabs j z hz).2 (by omega)⟩
/-- What is written at its place is settled. -/
theorem inplace_settled {m : Img} (hm : checkErr m = 0) {d : Nat} {s : Slot} {pg : ByteArray} (hs : m.slots[d]? = some s) (hS : Sound { m with slots := m.slots.set d { s with data := pg } }) : settled { m with slots := m.slots.set d { s with data := pg } } = { m with slots := m.slots.set d { s with data := pg } } := by
  have hkN : ∀ i, kindN (m.slots.set d { s with data := pg }) i = kindN m.slots i := fun i => kindN_set (s := { s with data := pg }) hs rfl i
  have htN : ∀ i, tableN (m.slots.set d { s with data := pg }) i = tableN m.slots i := fun i => tableN_set (s := { s with data := pg }) hs rfl i
  have hcs : countsOf { m with slots := m.slots.set d { s with data := pg } } = countsOf m := by
    rw [countsOf_row, countsOf_row]
    have hl : (m.slots.set d { s with data := pg }).length = m.slots.length := by simp
    dsimp only
    rw [hl]
    exact row_congr fun j _ => by
      have := cnt_congr (x := m) (y := { m with slots := m.slots.set d { s with data := pg } }) (by simp) hkN htN rfl j
      unfold cnt at this
      rw [this]
  refine settled_id (check_ok (hS.shape (by have := refs_len hm; simpa using this)) (upto_iff.2 fun k hk => ?_))
  have := (check_is hm).2 k (by simpa using hk)
  unfold refAt at this ⊢
  rw [hcs]
  dsimp only
  rw [hkN]
  exact this
theorem own_yesO {m : Img} {k j : Nat} (hj : int m.root k = (j : Nat)) (h1 : 1 ≤ j) (hr : int m.refs j = 1) : ownT m k = true := by unfold ownT; rw [hj, Int.toNat_natCast, hr, decide_eq_true (by omega)]; rfl
set_option maxRecDepth 100000 in
set_option maxHeartbeats 1000000 in
theorem writeOf_A (v : IV) (m : Img) (n : Nat) (pg : ByteArray) (w : World) (h : ImgR w w.heap.size v m) (he : lookE m n = 0) (hp : pg.size = 4) (X : Img) (er : Int) (hX0 : outV (writeM m n pg) = X) (hE0 : outE (writeM m n pg) = er) (j d : Nat) (s : Slot) (hj : int m.root (n / 4) = (j : Nat)) (hj1 : 1 ≤ j) (hjl : j < m.slots.length) (hr1 : int m.refs j = 1)
    (hen : entryOf m.slots m.root n = (d : Nat)) (hd1 : 1 ≤ d) (hds : m.slots[d]? = some s) (hr2 : int m.refs d = 1) :
    Calls Tryz.prog 32 #[imgV m v, .int .i64 n, .string pg] w (ImgOwn w.heap.size X er w) := by
  obtain ⟨hm, _, hn⟩ := look_is he
  have hk := page_in hm hn
  have S := sound_of (check_is hm).1
  have hg16 := (own_facts hm).2.1
  have hmod : ((n % 4 : Nat) : Int) = (n : Int) % 4 := by omega
  have hdiv : ((n / 4 : Nat) : Int) = (n : Int) / 4 := by omega
  have htm : (n : Int).tmod 4 = (n : Int) % 4 := Int.tmod_eq_emod_of_nonneg (by omega)
  have htd : (n : Int).tdiv 4 = (n : Int) / 4 := Int.tdiv_eq_ediv_of_nonneg (by omega)
  have hrl := refs_len hm
  have g4 : ((pg.size : Int) != 4) = false := by simp [hp]
  have hpz : pg.size ≤ 4611686018427387903 := by omega
  have K1' := fun W (hb : Below w.heap.size w W) => rlookE_any v m n W (h.next hb)
  rw [he] at K1'
  have KL' := fun W (hb : Below w.heap.size w W) => rlookOf_any v m n W (h.next hb) (entOk_own hm hn)
  have KO' := fun W (hb : Below w.heap.size w W) => ownImg_any v m W (h.next hb) S.cbd (by rw [hrl]; exact S.cbd.slots)
  have KE' := fun W (hb : Below w.heap.size w W) => tableOf_any v m (n / 4) W (h.next hb) hm hk
  obtain ⟨f1, f2, _, f4, f5⟩ := boxesT w m.guest v
  obtain ⟨rb, ro, t, hA, hrb, hti, hct⟩ := h.root.at1 (k := n / 4) (by have := h.rlen; omega)
  have hit := int_at hti
  rw [hit] at KE'
  have hrn := h.rlen
  have hrc := h.rcap.1
  have hfn := h.flen
  have hfc := h.fcap.1
  have h1s := (slotsErr_len S.slots).1
  obtain ⟨fb, fo, _, hFA, hfb, _, _⟩ := h.refs.at1 (k := 0) (by omega)
  have REF : ∀ k, k < v.fn → w.cell? ⟨fb, fo + k, none⟩ = some (.int .i64 (int m.refs k)) := fun k hk => by
    obtain ⟨b', o', r, g1, _, g3, g5⟩ := h.refs.at1 (k := k) hk
    rw [hFA] at g1
    injection g1 with g1
    injection g1 with g1 g6
    subst g1 g6
    rw [int_at g3]; exact g5
  obtain ⟨rA, rn, rc, sA, sn, sc, fA, fn, fc, pA, pn, pc⟩ := v
  dsimp only [imgV] at *
  subst hA hFA
  have K1 := Lib.hid (K1' _ f1)
  have KL := Lib.hid KL'
  have KO := Lib.hid KO'
  have KE := Lib.hid KE'
  have HREF := Lib.hid REF
  have F1 := Lib.hid f1
  have FZ := Lib.hid f4
  have HX0 := Lib.hid hX0
  have HE0 := Lib.hid hE0
  have hct2 := (f1.cell (p := ⟨rb, ro + n / 4, none⟩) hrb).trans hct
  have HS := Lib.hid S
  have hk0 : (0 : Int) ≤ (n : Int) / 4 := by omega
  have hk1 : (n : Int) / 4 < (rn : Int) := by omega
  have hi0 : (0 : Int) ≤ (n : Int) % 4 := by omega
  have hi1 : (n : Int) % 4 < 4 := by omega
  have hi2 : n % 4 < 4 := by omega
  have hxb : n ≤ 4611686018427387903 := by omega
  obtain ⟨x0, x1, x2, x3, x4⟩ := f2
  dsimp only at x0 x1 x2 x3 x4
  clear h K1' KL' KO' KE' hti hct REF hX0 hE0 S he
  go_enter Tryz.func32, Tryz.ntmps32
  go_wp2_with fail
  generalize ((w.alloc (.cells #[.int .i64 m.guest, .slice (some ⟨rb, ro, none⟩) rn rc, .slice sA sn sc, .slice (some ⟨fb, fo, none⟩) fn fc, .slice pA pn pc] 27)).alloc (.cells #[.int .i64 0, .slice none 0 0, .slice none 0 0, .slice none 0 0, .slice none 0 0] 27)) = W2 at *
  refine K1.out.mono ?_
  rintro e' w5 ⟨rfl, hb5⟩
  have B5 := below_next F1.out hb5
  have hs5 := hb5.size
  have hl0 : w.heap.size < W2.heap.size := by omega
  have z0 := (hb5.cell (p := ⟨w.heap.size, 0, none⟩) hl0).trans x0
  have z1 := (hb5.cell (p := ⟨w.heap.size, 1, none⟩) hl0).trans x1
  have z2 := (hb5.cell (p := ⟨w.heap.size, 2, none⟩) hl0).trans x2
  have z3 := (hb5.cell (p := ⟨w.heap.size, 3, none⟩) hl0).trans x3
  have z4 := (hb5.cell (p := ⟨w.heap.size, 4, none⟩) hl0).trans x4
  have c5 := (hb5.cell (p := ⟨rb, ro + n / 4, none⟩) (show rb < W2.heap.size by omega)).trans hct2
  have hto : ((n : Int) / 4).toNat = n / 4 := by omega
  have c6 : w5.cell? ⟨rb, ro + ((n : Int) / 4).toNat, none⟩ = some (.int .i64 t) := by rw [hto]; exact c5
  have hl2 : w.heap.size < w5.heap.size := by omega
  have hl3 : rb < w5.heap.size := by omega
  have mvS := Lib.hid (fun (W' : World) (hb : Below w5.heap.size w5 W') => (show (W'.cell? ⟨w.heap.size, 0, none⟩ = some (.int .i64 m.guest) ∧ W'.cell? ⟨w.heap.size, 1, none⟩ = some (.slice (some ⟨rb, ro, none⟩) rn rc) ∧ W'.cell? ⟨w.heap.size, 2, none⟩ = some (.slice sA sn sc) ∧ W'.cell? ⟨w.heap.size, 3, none⟩ = some (.slice (some ⟨fb, fo, none⟩) fn fc) ∧ W'.cell? ⟨w.heap.size, 4, none⟩ = some (.slice pA pn pc) ∧ W'.cell? ⟨rb, ro + ((n : Int) / 4).toNat, none⟩ = some (.int .i64 t) ∧ W'.cell? ⟨rb, ro + n / 4, none⟩ = some (.int .i64 t)) from
    ⟨(hb.cell (p := ⟨w.heap.size, 0, none⟩) hl2).trans z0, (hb.cell (p := ⟨w.heap.size, 1, none⟩) hl2).trans z1, (hb.cell (p := ⟨w.heap.size, 2, none⟩) hl2).trans z2, (hb.cell (p := ⟨w.heap.size, 3, none⟩) hl2).trans z3, (hb.cell (p := ⟨w.heap.size, 4, none⟩) hl2).trans z4, (hb.cell (p := ⟨rb, ro + ((n : Int) / 4).toNat, none⟩) hl3).trans c6, (hb.cell (p := ⟨rb, ro + n / 4, none⟩) hl3).trans c5⟩))
  have HB5 := Lib.hid hb5
  have hbd : Hid (Below w.heap.size w w5.drew) := Lib.hid B5.drew
  clear x0 x1 x2 x3 x4 hct2 hb5 B5 K1
  go_wp2_with fail
  go_region_held3 (fun W' => (W'.cell? ⟨w.heap.size, 0, none⟩ = some (.int .i64 m.guest) ∧ W'.cell? ⟨w.heap.size, 1, none⟩ = some (.slice (some ⟨rb, ro, none⟩) rn rc) ∧ W'.cell? ⟨w.heap.size, 2, none⟩ = some (.slice sA sn sc) ∧ W'.cell? ⟨w.heap.size, 3, none⟩ = some (.slice (some ⟨fb, fo, none⟩) fn fc) ∧ W'.cell? ⟨w.heap.size, 4, none⟩ = some (.slice pA pn pc) ∧ W'.cell? ⟨rb, ro + ((n : Int) / 4).toNat, none⟩ = some (.int .i64 t) ∧ W'.cell? ⟨rb, ro + n / 4, none⟩ = some (.int .i64 t)))
    (first | exact ⟨z0, z1, z2, z3, z4, c6, c5⟩ | exact mvS.out _ (below_next (Below.refl w5.heap.size w5).drew hb6))
    (first | (go_at_call 30; refine (KL.out _ hbd.out).mono ?_; rintro e' w6 ⟨rfl, hb6⟩))
  have hb56 := below_next (Below.refl w5.heap.size w5).drew hb6
  obtain ⟨x0, x1, x2, x3, x4, x5, x6⟩ := mvS.out _ hb56
  have T6 := below_next (below_next F1.out HB5.out) hb56
  have HB6 := Lib.hid (below_next HB5.out hb56)
  have KO6 := Lib.hid (KO.out _ T6)
  have HT6 := Lib.hid T6
  have hs6 := hb56.size
  clear z0 z1 z2 z3 z4 c5 c6 hbd hb6 KO KL
  go_wp2_with fail
  refine KO6.out.mono ?_
  rintro e' w7 ⟨⟨rA7, rn7, rc7, sA7, sn7, sc7, fA7, fn7, fc7, pA7, pn7, pc7⟩, tg, q, p, rfl, hO7, hb7⟩
  have hb8 := below1 w7 (.cells #[.int .i64 m.guest, .slice rA7 rn7 rc7, .slice sA7 sn7 sc7, .slice fA7 fn7 fc7, .slice pA7 pn7 pc7] 27)
  have T8 := below_next hb7 hb8
  have X8 := Box.new w7 m.guest ⟨rA7, rn7, rc7, sA7, sn7, sc7, fA7, fn7, fc7, pA7, pn7, pc7⟩ 27
  have B8 := BoxB.new w7 #[.int .i64 m.guest, .slice rA7 rn7 rc7, .slice sA7 sn7 sc7, .slice fA7 fn7 fc7, .slice pA7 pn7 pc7]
  have O8 := hO7.next hb8
  have hs7 := hb7.size
  have U8 := below_next HT6.out T8
  have Z8 := FZ.out.nextB (below_next HB6.out T8) (by omega)
  have RF8 : ∀ k, k < fn → _ := fun k hk => (U8.cell (p := ⟨fb, fo + k, none⟩) hfb).trans (HREF.out k hk)
  have y0 := (T8.cell (p := ⟨w.heap.size, 0, none⟩) (show w.heap.size < w6.heap.size by omega)).trans x0
  have y1 := (T8.cell (p := ⟨w.heap.size, 1, none⟩) (show w.heap.size < w6.heap.size by omega)).trans x1
  have y2 := (T8.cell (p := ⟨w.heap.size, 2, none⟩) (show w.heap.size < w6.heap.size by omega)).trans x2
  have y3 := (T8.cell (p := ⟨w.heap.size, 3, none⟩) (show w.heap.size < w6.heap.size by omega)).trans x3
  have y4 := (T8.cell (p := ⟨w.heap.size, 4, none⟩) (show w.heap.size < w6.heap.size by omega)).trans x4
  have y5 := (T8.cell (p := ⟨rb, ro + n / 4, none⟩) (show rb < w6.heap.size by omega)).trans x6
  have hl8 : w7.heap.size < (w7.alloc (.cells #[.int .i64 m.guest, .slice rA7 rn7 rc7, .slice sA7 sn7 sc7, .slice fA7 fn7 fc7, .slice pA7 pn7 pc7] 27)).heap.size := by simp
  dsimp only [imgV]
  clear x0 x1 x2 x3 x4 x5 x6 hO7 hb7 hb8 KO6 mvS hb56 T6
  have R := write_in (pg := pg) (own_yesO hj hj1 hr1) hen (by omega) hr2 hds
  have hds' := Lib.hid hds
  have HSX := write_eff hm hk hn hp R
  have hset := inplace_settled hm hds HSX.1.1.sound
  have RX0 := HX0.out.symm
  have RE0 := HE0.out.symm
  rw [R] at RX0 RE0
  have RX1 := Lib.hid (RX0.trans hset)
  have RE1 := Lib.hid RE0
  clear RX0 RE0
  have hdl := (List.getElem?_eq_some_iff.1 hds).1
  have cj := RF8 j (by omega)
  have cd := RF8 d (by omega)
  rw [hr1] at cj
  rw [hr2] at cd
  obtain ⟨sb, q', hsA, hsl2, hsb, hsT, hcs, hfs, hD⟩ := O8.setDataO hds hpz
  dsimp only at hsA hsl2
  subst hsA
  have hg := grown_set (w7.alloc (.cells #[.int .i64 m.guest, .slice rA7 rn7 rc7, .slice (some ⟨sb, 0, none⟩) sn7 sc7, .slice fA7 fn7 fc7, .slice pA7 pn7 pc7] 27)) sb (d * 3 + 1) (.string pg)
  have hn9 : w7.heap.size ≠ sb := B8.ty.ne hsT (by decide)
  have hnZ : w.heap.size + 1 ≠ sb := Z8.box.1.ty.ne hsT (by decide)
  have X9 := X8.kept hg (fun e => hn9 (by injection e))
  have Z9 : ZB _ (w.heap.size + 1) := ⟨(hg.block _ Z8.box.1.ty.lt (fun e => hnZ (by injection e))).trans Z8.heap⟩
  obtain ⟨⟨k0, k1, k2, k3, k4⟩, hO2, hg2⟩ := lastI Z9 hD
  have LB := (U8.setCell (p := ⟨sb, d * 3 + 1, none⟩) (show w.heap.size ≤ sb by omega) (.string pg)).grown hg2 (by have := (U8.setCell (p := ⟨sb, d * 3 + 1, none⟩) (show w.heap.size ≤ sb by omega) (.string pg)).size; omega) (fun j e => by injection e with e; omega)
  obtain ⟨u0, u1, u2, u3, u4⟩ := Z9.cells
  obtain ⟨q0, q1, q2, q3, q4⟩ := Z9.froz
  obtain ⟨v0, v1, v2, v3, v4⟩ := X8
  obtain ⟨x0, x1, x2, x3, x4⟩ := X9
  dsimp only at x0 x1 x2 x3 x4 v0 v1 v2 v3 v4 k0 k1 k2 k3 k4
  have HK := Lib.hid (And.intro k0 (And.intro k1 (And.intro k2 (And.intro k3 k4))))
  have HO := Lib.hid hO2
  have HLB := Lib.hid LB
  have e0 : (0 : Int) ≤ (j : Int) := by omega
  have e1 : (j : Int) < (fn : Int) := by omega
  have e2 : (0 : Int) ≤ (d : Int) := by omega
  have e3 : (d : Int) < (fn : Int) := by omega
  have e4 : (d : Int) < (sn7 : Int) := by omega
  have e5 : decide (0 < d) = true := decide_eq_true (by omega)
  have e6 : (0 : Int) < (d : Int) := by omega
  rw [hj] at hit
  subst hit
  clear B8 O8 U8 T8 Z8 RF8 hg hsT hD hO2 hg2 LB k0 k1 k2 k3 k4 Z9 hset HSX R hm hds HREF KE HS
  go_wp2_with fail
  obtain ⟨k0, k1, k2, k3, k4⟩ := HK.out
  refine bodyPost_ret (v := .tuple #[imgV { m with slots := m.slots.set d { s with data := pg } } ⟨rA7, rn7, rc7, some ⟨sb, 0, none⟩, sn7, sc7, fA7, fn7, fc7, pA7, pn7, pc7⟩, .int .i64 0]) ?_ rfl ⟨_, by rw [RX1.out, RE1.out]; rfl, by rw [RX1.out]; exact .inr ⟨w6.heap.size, _, _, _, by omega, HO.out⟩, HLB.out⟩
  simp [results, Tryz.results32, go_sem, k0, k1, k2, k3, k4, imgV]
set_option maxRecDepth 100000 in
set_option maxHeartbeats 1000000 in
theorem writeOf_B_low_full (v : IV) (m : Img) (n : Nat) (pg : ByteArray) (w : World) (h : ImgR w w.heap.size v m) (he : lookE m n = 0) (hp : pg.size = 4) (X : Img) (er : Int) (hX0 : outV (writeM m n pg) = X) (hE0 : outE (writeM m n pg) = er) (j : Nat) (hj : int m.root (n / 4) = (j : Nat)) (hj1 : 1 ≤ j) (hjl : j < m.slots.length) (hr1 : int m.refs j = 1)
    (he0 : entryOf m.slots m.root n ≤ 0) (hg : grab m.slots = 0) :
    Calls Tryz.prog 32 #[imgV m v, .int .i64 n, .string pg] w (ImgOwn w.heap.size X er w) := by
  obtain ⟨hm, _, hn⟩ := look_is he
  have hk := page_in hm hn
  have S := sound_of (check_is hm).1
  have hg16 := (own_facts hm).2.1
  have hmod : ((n % 4 : Nat) : Int) = (n : Int) % 4 := by omega
  have hdiv : ((n / 4 : Nat) : Int) = (n : Int) / 4 := by omega
  have htm : (n : Int).tmod 4 = (n : Int) % 4 := Int.tmod_eq_emod_of_nonneg (by omega)
  have htd : (n : Int).tdiv 4 = (n : Int) / 4 := Int.tdiv_eq_ediv_of_nonneg (by omega)
  have hrl := refs_len hm
  have g4 : ((pg.size : Int) != 4) = false := by simp [hp]
  have hpz : pg.size ≤ 4611686018427387903 := by omega
  have K1' := fun W (hb : Below w.heap.size w W) => rlookE_any v m n W (h.next hb)
  rw [he] at K1'
  have KL' := fun W (hb : Below w.heap.size w W) => rlookOf_any v m n W (h.next hb) (entOk_own hm hn)
  have KO' := fun W (hb : Below w.heap.size w W) => ownImg_any v m W (h.next hb) S.cbd (by rw [hrl]; exact S.cbd.slots)
  have KE' := fun W (hb : Below w.heap.size w W) => tableOf_any v m (n / 4) W (h.next hb) hm hk
  obtain ⟨f1, f2, _, f4, f5⟩ := boxesT w m.guest v
  obtain ⟨rb, ro, t, hA, hrb, hti, hct⟩ := h.root.at1 (k := n / 4) (by have := h.rlen; omega)
  have hit := int_at hti
  rw [hit] at KE'
  have hrn := h.rlen
  have hrc := h.rcap.1
  have hfn := h.flen
  have hfc := h.fcap.1
  have h1s := (slotsErr_len S.slots).1
  obtain ⟨fb, fo, _, hFA, hfb, _, _⟩ := h.refs.at1 (k := 0) (by omega)
  have REF : ∀ k, k < v.fn → w.cell? ⟨fb, fo + k, none⟩ = some (.int .i64 (int m.refs k)) := fun k hk => by
    obtain ⟨b', o', r, g1, _, g3, g5⟩ := h.refs.at1 (k := k) hk
    rw [hFA] at g1
    injection g1 with g1
    injection g1 with g1 g6
    subst g1 g6
    rw [int_at g3]; exact g5
  obtain ⟨rA, rn, rc, sA, sn, sc, fA, fn, fc, pA, pn, pc⟩ := v
  dsimp only [imgV] at *
  subst hA hFA
  have K1 := Lib.hid (K1' _ f1)
  have KL := Lib.hid KL'
  have KO := Lib.hid KO'
  have KE := Lib.hid KE'
  have HREF := Lib.hid REF
  have F1 := Lib.hid f1
  have FZ := Lib.hid f4
  have HX0 := Lib.hid hX0
  have HE0 := Lib.hid hE0
  have hct2 := (f1.cell (p := ⟨rb, ro + n / 4, none⟩) hrb).trans hct
  have HS := Lib.hid S
  have hk0 : (0 : Int) ≤ (n : Int) / 4 := by omega
  have hk1 : (n : Int) / 4 < (rn : Int) := by omega
  have hi0 : (0 : Int) ≤ (n : Int) % 4 := by omega
  have hi1 : (n : Int) % 4 < 4 := by omega
  have hi2 : n % 4 < 4 := by omega
  have hxb : n ≤ 4611686018427387903 := by omega
  obtain ⟨x0, x1, x2, x3, x4⟩ := f2
  dsimp only at x0 x1 x2 x3 x4
  clear h K1' KL' KO' KE' hti hct REF hX0 hE0 S he
  go_enter Tryz.func32, Tryz.ntmps32
  go_wp2_with fail
  generalize ((w.alloc (.cells #[.int .i64 m.guest, .slice (some ⟨rb, ro, none⟩) rn rc, .slice sA sn sc, .slice (some ⟨fb, fo, none⟩) fn fc, .slice pA pn pc] 27)).alloc (.cells #[.int .i64 0, .slice none 0 0, .slice none 0 0, .slice none 0 0, .slice none 0 0] 27)) = W2 at *
  refine K1.out.mono ?_
  rintro e' w5 ⟨rfl, hb5⟩
  have B5 := below_next F1.out hb5
  have hs5 := hb5.size
  have hl0 : w.heap.size < W2.heap.size := by omega
  have z0 := (hb5.cell (p := ⟨w.heap.size, 0, none⟩) hl0).trans x0
  have z1 := (hb5.cell (p := ⟨w.heap.size, 1, none⟩) hl0).trans x1
  have z2 := (hb5.cell (p := ⟨w.heap.size, 2, none⟩) hl0).trans x2
  have z3 := (hb5.cell (p := ⟨w.heap.size, 3, none⟩) hl0).trans x3
  have z4 := (hb5.cell (p := ⟨w.heap.size, 4, none⟩) hl0).trans x4
  have c5 := (hb5.cell (p := ⟨rb, ro + n / 4, none⟩) (show rb < W2.heap.size by omega)).trans hct2
  have hto : ((n : Int) / 4).toNat = n / 4 := by omega
  have c6 : w5.cell? ⟨rb, ro + ((n : Int) / 4).toNat, none⟩ = some (.int .i64 t) := by rw [hto]; exact c5
  have hl2 : w.heap.size < w5.heap.size := by omega
  have hl3 : rb < w5.heap.size := by omega
  have mvS := Lib.hid (fun (W' : World) (hb : Below w5.heap.size w5 W') => (show (W'.cell? ⟨w.heap.size, 0, none⟩ = some (.int .i64 m.guest) ∧ W'.cell? ⟨w.heap.size, 1, none⟩ = some (.slice (some ⟨rb, ro, none⟩) rn rc) ∧ W'.cell? ⟨w.heap.size, 2, none⟩ = some (.slice sA sn sc) ∧ W'.cell? ⟨w.heap.size, 3, none⟩ = some (.slice (some ⟨fb, fo, none⟩) fn fc) ∧ W'.cell? ⟨w.heap.size, 4, none⟩ = some (.slice pA pn pc) ∧ W'.cell? ⟨rb, ro + ((n : Int) / 4).toNat, none⟩ = some (.int .i64 t) ∧ W'.cell? ⟨rb, ro + n / 4, none⟩ = some (.int .i64 t)) from
    ⟨(hb.cell (p := ⟨w.heap.size, 0, none⟩) hl2).trans z0, (hb.cell (p := ⟨w.heap.size, 1, none⟩) hl2).trans z1, (hb.cell (p := ⟨w.heap.size, 2, none⟩) hl2).trans z2, (hb.cell (p := ⟨w.heap.size, 3, none⟩) hl2).trans z3, (hb.cell (p := ⟨w.heap.size, 4, none⟩) hl2).trans z4, (hb.cell (p := ⟨rb, ro + ((n : Int) / 4).toNat, none⟩) hl3).trans c6, (hb.cell (p := ⟨rb, ro + n / 4, none⟩) hl3).trans c5⟩))
  have HB5 := Lib.hid hb5
  have hbd : Hid (Below w.heap.size w w5.drew) := Lib.hid B5.drew
  clear x0 x1 x2 x3 x4 hct2 hb5 B5 K1
  go_wp2_with fail
  go_region_held3 (fun W' => (W'.cell? ⟨w.heap.size, 0, none⟩ = some (.int .i64 m.guest) ∧ W'.cell? ⟨w.heap.size, 1, none⟩ = some (.slice (some ⟨rb, ro, none⟩) rn rc) ∧ W'.cell? ⟨w.heap.size, 2, none⟩ = some (.slice sA sn sc) ∧ W'.cell? ⟨w.heap.size, 3, none⟩ = some (.slice (some ⟨fb, fo, none⟩) fn fc) ∧ W'.cell? ⟨w.heap.size, 4, none⟩ = some (.slice pA pn pc) ∧ W'.cell? ⟨rb, ro + ((n : Int) / 4).toNat, none⟩ = some (.int .i64 t) ∧ W'.cell? ⟨rb, ro + n / 4, none⟩ = some (.int .i64 t)))
    (first | exact ⟨z0, z1, z2, z3, z4, c6, c5⟩ | exact mvS.out _ (below_next (Below.refl w5.heap.size w5).drew hb6))
    (first | (go_at_call 30; refine (KL.out _ hbd.out).mono ?_; rintro e' w6 ⟨rfl, hb6⟩))
  have hb56 := below_next (Below.refl w5.heap.size w5).drew hb6
  obtain ⟨x0, x1, x2, x3, x4, x5, x6⟩ := mvS.out _ hb56
  have T6 := below_next (below_next F1.out HB5.out) hb56
  have HB6 := Lib.hid (below_next HB5.out hb56)
  have KO6 := Lib.hid (KO.out _ T6)
  have HT6 := Lib.hid T6
  have hs6 := hb56.size
  clear z0 z1 z2 z3 z4 c5 c6 hbd hb6 KO KL
  go_wp2_with fail
  refine KO6.out.mono ?_
  rintro e' w7 ⟨⟨rA7, rn7, rc7, sA7, sn7, sc7, fA7, fn7, fc7, pA7, pn7, pc7⟩, tg, q, p, rfl, hO7, hb7⟩
  have hb8 := below1 w7 (.cells #[.int .i64 m.guest, .slice rA7 rn7 rc7, .slice sA7 sn7 sc7, .slice fA7 fn7 fc7, .slice pA7 pn7 pc7] 27)
  have T8 := below_next hb7 hb8
  have X8 := Box.new w7 m.guest ⟨rA7, rn7, rc7, sA7, sn7, sc7, fA7, fn7, fc7, pA7, pn7, pc7⟩ 27
  have B8 := BoxB.new w7 #[.int .i64 m.guest, .slice rA7 rn7 rc7, .slice sA7 sn7 sc7, .slice fA7 fn7 fc7, .slice pA7 pn7 pc7]
  have O8 := hO7.next hb8
  have hs7 := hb7.size
  have U8 := below_next HT6.out T8
  have Z8 := FZ.out.nextB (below_next HB6.out T8) (by omega)
  have RF8 : ∀ k, k < fn → _ := fun k hk => (U8.cell (p := ⟨fb, fo + k, none⟩) hfb).trans (HREF.out k hk)
  have y0 := (T8.cell (p := ⟨w.heap.size, 0, none⟩) (show w.heap.size < w6.heap.size by omega)).trans x0
  have y1 := (T8.cell (p := ⟨w.heap.size, 1, none⟩) (show w.heap.size < w6.heap.size by omega)).trans x1
  have y2 := (T8.cell (p := ⟨w.heap.size, 2, none⟩) (show w.heap.size < w6.heap.size by omega)).trans x2
  have y3 := (T8.cell (p := ⟨w.heap.size, 3, none⟩) (show w.heap.size < w6.heap.size by omega)).trans x3
  have y4 := (T8.cell (p := ⟨w.heap.size, 4, none⟩) (show w.heap.size < w6.heap.size by omega)).trans x4
  have y5 := (T8.cell (p := ⟨rb, ro + n / 4, none⟩) (show rb < w6.heap.size by omega)).trans x6
  have hl8 : w7.heap.size < (w7.alloc (.cells #[.int .i64 m.guest, .slice rA7 rn7 rc7, .slice sA7 sn7 sc7, .slice fA7 fn7 fc7, .slice pA7 pn7 pc7] 27)).heap.size := by simp
  dsimp only [imgV]
  clear x0 x1 x2 x3 x4 x5 x6 hO7 hb7 hb8 KO6 mvS hb56 T6
  have hnin : notIn m n := by unfold notIn; omega
  have e7 : decide ((0 : Int) < entryOf m.slots m.root n) = false := by simpa using he0
  have R := write_own (pg := pg) (own_yesO hj hj1 hr1) hnin
  rw [if_pos hg] at R
  have RX0 := HX0.out.symm
  have RE0 := HE0.out.symm
  rw [R] at RX0 RE0
  have RX1 := Lib.hid RX0
  have RE1 := Lib.hid RE0
  clear RX0 RE0
  have cj := RF8 j (by omega)
  rw [hr1] at cj
  have KG' := rgrab_any sA7 sn7 sc7 m.slots _ O8.imgR.slots (by have := O8.imgR.slen; dsimp only at this; omega) O8.imgR.scap.1
  rw [hg] at KG'
  have KG := Lib.hid KG'
  have O := outI' Z8 (X := noImg) (v := noV) (B := w.heap.size) (.inl ⟨rfl, rfl⟩) U8 (Nat.le_refl _) (by omega)
  dsimp only [noImg, noV] at O
  obtain ⟨⟨k0, k1, k2, k3, k4⟩, hF, hB⟩ := O
  obtain ⟨u0, u1, u2, u3, u4⟩ := Z8.cells
  obtain ⟨q0, q1, q2, q3, q4⟩ := Z8.froz
  obtain ⟨v0, v1, v2, v3, v4⟩ := X8
  dsimp only at v0 v1 v2 v3 v4
  have HK := Lib.hid (And.intro k0 (And.intro k1 (And.intro k2 (And.intro k3 k4))))
  have HF := Lib.hid hF
  have HLB := Lib.hid hB
  have e0 : (0 : Int) ≤ (j : Int) := by omega
  have e1 : (j : Int) < (fn : Int) := by omega
  have e8 : ((j : Int) == 0) = false := by simp; omega
  rw [hj] at hit
  subst hit
  clear B8 O8 U8 T8 Z8 RF8 KG' hF hB k0 k1 k2 k3 k4 R hm HREF KE HS
  go_wp2_with fail
  generalize (w7.alloc (.cells #[.int .i64 m.guest, .slice rA7 rn7 rc7, .slice sA7 sn7 sc7, .slice fA7 fn7 fc7, .slice pA7 pn7 pc7] 27)) = w8 at *
  refine KG.out.mono ?_
  rintro e' w9 ⟨rfl, rfl⟩
  go_wp2_with fail
  obtain ⟨k0, k1, k2, k3, k4⟩ := HK.out
  refine bodyPost_ret (v := .tuple #[imgV noImg noV, .int .i64 7]) ?_ rfl ⟨noV, by rw [RX1.out, RE1.out]; rfl, by rw [RX1.out]; exact HF.out, HLB.out⟩
  simp [results, Tryz.results32, go_sem, imgV, noImg, noV, k0, k1, k2, k3, k4]
set_option maxRecDepth 100000 in
set_option maxHeartbeats 1000000 in
theorem writeOf_B_shared_full (v : IV) (m : Img) (n : Nat) (pg : ByteArray) (w : World) (h : ImgR w w.heap.size v m) (he : lookE m n = 0) (hp : pg.size = 4) (X : Img) (er : Int) (hX0 : outV (writeM m n pg) = X) (hE0 : outE (writeM m n pg) = er) (j : Nat) (hj : int m.root (n / 4) = (j : Nat)) (hj1 : 1 ≤ j) (hjl : j < m.slots.length) (hr1 : int m.refs j = 1)
    (d : Nat) (s : Slot) (hen : entryOf m.slots m.root n = (d : Nat)) (hd1 : 1 ≤ d) (hds : m.slots[d]? = some s) (hr2 : int m.refs d ≠ 1) (hg : grab m.slots = 0) :
    Calls Tryz.prog 32 #[imgV m v, .int .i64 n, .string pg] w (ImgOwn w.heap.size X er w) := by
  obtain ⟨hm, _, hn⟩ := look_is he
  have hk := page_in hm hn
  have S := sound_of (check_is hm).1
  have hg16 := (own_facts hm).2.1
  have hmod : ((n % 4 : Nat) : Int) = (n : Int) % 4 := by omega
  have hdiv : ((n / 4 : Nat) : Int) = (n : Int) / 4 := by omega
  have htm : (n : Int).tmod 4 = (n : Int) % 4 := Int.tmod_eq_emod_of_nonneg (by omega)
  have htd : (n : Int).tdiv 4 = (n : Int) / 4 := Int.tdiv_eq_ediv_of_nonneg (by omega)
  have hrl := refs_len hm
  have g4 : ((pg.size : Int) != 4) = false := by simp [hp]
  have hpz : pg.size ≤ 4611686018427387903 := by omega
  have K1' := fun W (hb : Below w.heap.size w W) => rlookE_any v m n W (h.next hb)
  rw [he] at K1'
  have KL' := fun W (hb : Below w.heap.size w W) => rlookOf_any v m n W (h.next hb) (entOk_own hm hn)
  have KO' := fun W (hb : Below w.heap.size w W) => ownImg_any v m W (h.next hb) S.cbd (by rw [hrl]; exact S.cbd.slots)
  have KE' := fun W (hb : Below w.heap.size w W) => tableOf_any v m (n / 4) W (h.next hb) hm hk
  obtain ⟨f1, f2, _, f4, f5⟩ := boxesT w m.guest v
  obtain ⟨rb, ro, t, hA, hrb, hti, hct⟩ := h.root.at1 (k := n / 4) (by have := h.rlen; omega)
  have hit := int_at hti
  rw [hit] at KE'
  have hrn := h.rlen
  have hrc := h.rcap.1
  have hfn := h.flen
  have hfc := h.fcap.1
  have h1s := (slotsErr_len S.slots).1
  obtain ⟨fb, fo, _, hFA, hfb, _, _⟩ := h.refs.at1 (k := 0) (by omega)
  have REF : ∀ k, k < v.fn → w.cell? ⟨fb, fo + k, none⟩ = some (.int .i64 (int m.refs k)) := fun k hk => by
    obtain ⟨b', o', r, g1, _, g3, g5⟩ := h.refs.at1 (k := k) hk
    rw [hFA] at g1
    injection g1 with g1
    injection g1 with g1 g6
    subst g1 g6
    rw [int_at g3]; exact g5
  obtain ⟨rA, rn, rc, sA, sn, sc, fA, fn, fc, pA, pn, pc⟩ := v
  dsimp only [imgV] at *
  subst hA hFA
  have K1 := Lib.hid (K1' _ f1)
  have KL := Lib.hid KL'
  have KO := Lib.hid KO'
  have KE := Lib.hid KE'
  have HREF := Lib.hid REF
  have F1 := Lib.hid f1
  have FZ := Lib.hid f4
  have HX0 := Lib.hid hX0
  have HE0 := Lib.hid hE0
  have hct2 := (f1.cell (p := ⟨rb, ro + n / 4, none⟩) hrb).trans hct
  have HS := Lib.hid S
  have hk0 : (0 : Int) ≤ (n : Int) / 4 := by omega
  have hk1 : (n : Int) / 4 < (rn : Int) := by omega
  have hi0 : (0 : Int) ≤ (n : Int) % 4 := by omega
  have hi1 : (n : Int) % 4 < 4 := by omega
  have hi2 : n % 4 < 4 := by omega
  have hxb : n ≤ 4611686018427387903 := by omega
  obtain ⟨x0, x1, x2, x3, x4⟩ := f2
  dsimp only at x0 x1 x2 x3 x4
  clear h K1' KL' KO' KE' hti hct REF hX0 hE0 S he
  go_enter Tryz.func32, Tryz.ntmps32
  go_wp2_with fail
  generalize ((w.alloc (.cells #[.int .i64 m.guest, .slice (some ⟨rb, ro, none⟩) rn rc, .slice sA sn sc, .slice (some ⟨fb, fo, none⟩) fn fc, .slice pA pn pc] 27)).alloc (.cells #[.int .i64 0, .slice none 0 0, .slice none 0 0, .slice none 0 0, .slice none 0 0] 27)) = W2 at *
  refine K1.out.mono ?_
  rintro e' w5 ⟨rfl, hb5⟩
  have B5 := below_next F1.out hb5
  have hs5 := hb5.size
  have hl0 : w.heap.size < W2.heap.size := by omega
  have z0 := (hb5.cell (p := ⟨w.heap.size, 0, none⟩) hl0).trans x0
  have z1 := (hb5.cell (p := ⟨w.heap.size, 1, none⟩) hl0).trans x1
  have z2 := (hb5.cell (p := ⟨w.heap.size, 2, none⟩) hl0).trans x2
  have z3 := (hb5.cell (p := ⟨w.heap.size, 3, none⟩) hl0).trans x3
  have z4 := (hb5.cell (p := ⟨w.heap.size, 4, none⟩) hl0).trans x4
  have c5 := (hb5.cell (p := ⟨rb, ro + n / 4, none⟩) (show rb < W2.heap.size by omega)).trans hct2
  have hto : ((n : Int) / 4).toNat = n / 4 := by omega
  have c6 : w5.cell? ⟨rb, ro + ((n : Int) / 4).toNat, none⟩ = some (.int .i64 t) := by rw [hto]; exact c5
  have hl2 : w.heap.size < w5.heap.size := by omega
  have hl3 : rb < w5.heap.size := by omega
  have mvS := Lib.hid (fun (W' : World) (hb : Below w5.heap.size w5 W') => (show (W'.cell? ⟨w.heap.size, 0, none⟩ = some (.int .i64 m.guest) ∧ W'.cell? ⟨w.heap.size, 1, none⟩ = some (.slice (some ⟨rb, ro, none⟩) rn rc) ∧ W'.cell? ⟨w.heap.size, 2, none⟩ = some (.slice sA sn sc) ∧ W'.cell? ⟨w.heap.size, 3, none⟩ = some (.slice (some ⟨fb, fo, none⟩) fn fc) ∧ W'.cell? ⟨w.heap.size, 4, none⟩ = some (.slice pA pn pc) ∧ W'.cell? ⟨rb, ro + ((n : Int) / 4).toNat, none⟩ = some (.int .i64 t) ∧ W'.cell? ⟨rb, ro + n / 4, none⟩ = some (.int .i64 t)) from
    ⟨(hb.cell (p := ⟨w.heap.size, 0, none⟩) hl2).trans z0, (hb.cell (p := ⟨w.heap.size, 1, none⟩) hl2).trans z1, (hb.cell (p := ⟨w.heap.size, 2, none⟩) hl2).trans z2, (hb.cell (p := ⟨w.heap.size, 3, none⟩) hl2).trans z3, (hb.cell (p := ⟨w.heap.size, 4, none⟩) hl2).trans z4, (hb.cell (p := ⟨rb, ro + ((n : Int) / 4).toNat, none⟩) hl3).trans c6, (hb.cell (p := ⟨rb, ro + n / 4, none⟩) hl3).trans c5⟩))
  have HB5 := Lib.hid hb5
  have hbd : Hid (Below w.heap.size w w5.drew) := Lib.hid B5.drew
  clear x0 x1 x2 x3 x4 hct2 hb5 B5 K1
  go_wp2_with fail
  go_region_held3 (fun W' => (W'.cell? ⟨w.heap.size, 0, none⟩ = some (.int .i64 m.guest) ∧ W'.cell? ⟨w.heap.size, 1, none⟩ = some (.slice (some ⟨rb, ro, none⟩) rn rc) ∧ W'.cell? ⟨w.heap.size, 2, none⟩ = some (.slice sA sn sc) ∧ W'.cell? ⟨w.heap.size, 3, none⟩ = some (.slice (some ⟨fb, fo, none⟩) fn fc) ∧ W'.cell? ⟨w.heap.size, 4, none⟩ = some (.slice pA pn pc) ∧ W'.cell? ⟨rb, ro + ((n : Int) / 4).toNat, none⟩ = some (.int .i64 t) ∧ W'.cell? ⟨rb, ro + n / 4, none⟩ = some (.int .i64 t)))
    (first | exact ⟨z0, z1, z2, z3, z4, c6, c5⟩ | exact mvS.out _ (below_next (Below.refl w5.heap.size w5).drew hb6))
    (first | (go_at_call 30; refine (KL.out _ hbd.out).mono ?_; rintro e' w6 ⟨rfl, hb6⟩))
  have hb56 := below_next (Below.refl w5.heap.size w5).drew hb6
  obtain ⟨x0, x1, x2, x3, x4, x5, x6⟩ := mvS.out _ hb56
  have T6 := below_next (below_next F1.out HB5.out) hb56
  have HB6 := Lib.hid (below_next HB5.out hb56)
  have KO6 := Lib.hid (KO.out _ T6)
  have HT6 := Lib.hid T6
  have hs6 := hb56.size
  clear z0 z1 z2 z3 z4 c5 c6 hbd hb6 KO KL
  go_wp2_with fail
  refine KO6.out.mono ?_
  rintro e' w7 ⟨⟨rA7, rn7, rc7, sA7, sn7, sc7, fA7, fn7, fc7, pA7, pn7, pc7⟩, tg, q, p, rfl, hO7, hb7⟩
  have hb8 := below1 w7 (.cells #[.int .i64 m.guest, .slice rA7 rn7 rc7, .slice sA7 sn7 sc7, .slice fA7 fn7 fc7, .slice pA7 pn7 pc7] 27)
  have T8 := below_next hb7 hb8
  have X8 := Box.new w7 m.guest ⟨rA7, rn7, rc7, sA7, sn7, sc7, fA7, fn7, fc7, pA7, pn7, pc7⟩ 27
  have B8 := BoxB.new w7 #[.int .i64 m.guest, .slice rA7 rn7 rc7, .slice sA7 sn7 sc7, .slice fA7 fn7 fc7, .slice pA7 pn7 pc7]
  have O8 := hO7.next hb8
  have hs7 := hb7.size
  have U8 := below_next HT6.out T8
  have Z8 := FZ.out.nextB (below_next HB6.out T8) (by omega)
  have RF8 : ∀ k, k < fn → _ := fun k hk => (U8.cell (p := ⟨fb, fo + k, none⟩) hfb).trans (HREF.out k hk)
  have y0 := (T8.cell (p := ⟨w.heap.size, 0, none⟩) (show w.heap.size < w6.heap.size by omega)).trans x0
  have y1 := (T8.cell (p := ⟨w.heap.size, 1, none⟩) (show w.heap.size < w6.heap.size by omega)).trans x1
  have y2 := (T8.cell (p := ⟨w.heap.size, 2, none⟩) (show w.heap.size < w6.heap.size by omega)).trans x2
  have y3 := (T8.cell (p := ⟨w.heap.size, 3, none⟩) (show w.heap.size < w6.heap.size by omega)).trans x3
  have y4 := (T8.cell (p := ⟨w.heap.size, 4, none⟩) (show w.heap.size < w6.heap.size by omega)).trans x4
  have y5 := (T8.cell (p := ⟨rb, ro + n / 4, none⟩) (show rb < w6.heap.size by omega)).trans x6
  have hl8 : w7.heap.size < (w7.alloc (.cells #[.int .i64 m.guest, .slice rA7 rn7 rc7, .slice sA7 sn7 sc7, .slice fA7 fn7 fc7, .slice pA7 pn7 pc7] 27)).heap.size := by simp
  dsimp only [imgV]
  clear x0 x1 x2 x3 x4 x5 x6 hO7 hb7 hb8 KO6 mvS hb56 T6
  have hnin : notIn m n := by unfold notIn; rw [hen, Int.toNat_natCast]; exact fun h => hr2 h.2
  have hdl := (List.getElem?_eq_some_iff.1 hds).1
  have cd := RF8 d (by omega)
  have hrr : (int m.refs d == 1) = false := by simpa using hr2
  generalize int m.refs d = rd at cd hrr
  have e2 : (0 : Int) ≤ (d : Int) := by omega
  have e3 : (d : Int) < (fn : Int) := by omega
  have e5 : decide (0 < d) = true := decide_eq_true (by omega)
  have e6 : (0 : Int) < (d : Int) := by omega
  have R := write_own (pg := pg) (own_yesO hj hj1 hr1) hnin
  rw [if_pos hg] at R
  have RX0 := HX0.out.symm
  have RE0 := HE0.out.symm
  rw [R] at RX0 RE0
  have RX1 := Lib.hid RX0
  have RE1 := Lib.hid RE0
  clear RX0 RE0
  have cj := RF8 j (by omega)
  rw [hr1] at cj
  have KG' := rgrab_any sA7 sn7 sc7 m.slots _ O8.imgR.slots (by have := O8.imgR.slen; dsimp only at this; omega) O8.imgR.scap.1
  rw [hg] at KG'
  have KG := Lib.hid KG'
  have O := outI' Z8 (X := noImg) (v := noV) (B := w.heap.size) (.inl ⟨rfl, rfl⟩) U8 (Nat.le_refl _) (by omega)
  dsimp only [noImg, noV] at O
  obtain ⟨⟨k0, k1, k2, k3, k4⟩, hF, hB⟩ := O
  obtain ⟨u0, u1, u2, u3, u4⟩ := Z8.cells
  obtain ⟨q0, q1, q2, q3, q4⟩ := Z8.froz
  obtain ⟨v0, v1, v2, v3, v4⟩ := X8
  dsimp only at v0 v1 v2 v3 v4
  have HK := Lib.hid (And.intro k0 (And.intro k1 (And.intro k2 (And.intro k3 k4))))
  have HF := Lib.hid hF
  have HLB := Lib.hid hB
  have e0 : (0 : Int) ≤ (j : Int) := by omega
  have e1 : (j : Int) < (fn : Int) := by omega
  have e8 : ((j : Int) == 0) = false := by simp; omega
  rw [hj] at hit
  subst hit
  clear B8 O8 U8 T8 Z8 RF8 KG' hF hB k0 k1 k2 k3 k4 R hm HREF KE HS
  go_wp2_with fail
  generalize (w7.alloc (.cells #[.int .i64 m.guest, .slice rA7 rn7 rc7, .slice sA7 sn7 sc7, .slice fA7 fn7 fc7, .slice pA7 pn7 pc7] 27)) = w8 at *
  refine KG.out.mono ?_
  rintro e' w9 ⟨rfl, rfl⟩
  go_wp2_with fail
  obtain ⟨k0, k1, k2, k3, k4⟩ := HK.out
  refine bodyPost_ret (v := .tuple #[imgV noImg noV, .int .i64 7]) ?_ rfl ⟨noV, by rw [RX1.out, RE1.out]; rfl, by rw [RX1.out]; exact HF.out, HLB.out⟩
  simp [results, Tryz.results32, go_sem, imgV, noImg, noV, k0, k1, k2, k3, k4]
set_option maxRecDepth 100000 in
set_option maxHeartbeats 1000000 in
theorem writeOf_B_low_ok (v : IV) (m : Img) (n : Nat) (pg : ByteArray) (w : World) (h : ImgR w w.heap.size v m) (he : lookE m n = 0) (hp : pg.size = 4) (X : Img) (er : Int) (hX0 : outV (writeM m n pg) = X) (hE0 : outE (writeM m n pg) = er) (j : Nat) (hj : int m.root (n / 4) = (j : Nat)) (hj1 : 1 ≤ j) (hjl : j < m.slots.length) (hr1 : int m.refs j = 1)
    (he0 : entryOf m.slots m.root n ≤ 0) (hg : grab m.slots ≠ 0) (s0 : Slot) (hs0 : m.slots[j]? = some s0) (hk2 : s0.kind = 2) :
    Calls Tryz.prog 32 #[imgV m v, .int .i64 n, .string pg] w (ImgOwn w.heap.size X er w) := by
  obtain ⟨hm, _, hn⟩ := look_is he
  have hk := page_in hm hn
  have S := sound_of (check_is hm).1
  have hg16 := (own_facts hm).2.1
  have hmod : ((n % 4 : Nat) : Int) = (n : Int) % 4 := by omega
  have hdiv : ((n / 4 : Nat) : Int) = (n : Int) / 4 := by omega
  have htm : (n : Int).tmod 4 = (n : Int) % 4 := Int.tmod_eq_emod_of_nonneg (by omega)
  have htd : (n : Int).tdiv 4 = (n : Int) / 4 := Int.tdiv_eq_ediv_of_nonneg (by omega)
  have hrl := refs_len hm
  have g4 : ((pg.size : Int) != 4) = false := by simp [hp]
  have hpz : pg.size ≤ 4611686018427387903 := by omega
  have K1' := fun W (hb : Below w.heap.size w W) => rlookE_any v m n W (h.next hb)
  rw [he] at K1'
  have KL' := fun W (hb : Below w.heap.size w W) => rlookOf_any v m n W (h.next hb) (entOk_own hm hn)
  have KO' := fun W (hb : Below w.heap.size w W) => ownImg_any v m W (h.next hb) S.cbd (by rw [hrl]; exact S.cbd.slots)
  have KE' := fun W (hb : Below w.heap.size w W) => tableOf_any v m (n / 4) W (h.next hb) hm hk
  obtain ⟨f1, f2, _, f4, f5⟩ := boxesT w m.guest v
  obtain ⟨rb, ro, t, hA, hrb, hti, hct⟩ := h.root.at1 (k := n / 4) (by have := h.rlen; omega)
  have hit := int_at hti
  rw [hit] at KE'
  have hrn := h.rlen
  have hrc := h.rcap.1
  have hfn := h.flen
  have hfc := h.fcap.1
  have h1s := (slotsErr_len S.slots).1
  obtain ⟨fb, fo, _, hFA, hfb, _, _⟩ := h.refs.at1 (k := 0) (by omega)
  have REF : ∀ k, k < v.fn → w.cell? ⟨fb, fo + k, none⟩ = some (.int .i64 (int m.refs k)) := fun k hk => by
    obtain ⟨b', o', r, g1, _, g3, g5⟩ := h.refs.at1 (k := k) hk
    rw [hFA] at g1
    injection g1 with g1
    injection g1 with g1 g6
    subst g1 g6
    rw [int_at g3]; exact g5
  obtain ⟨rA, rn, rc, sA, sn, sc, fA, fn, fc, pA, pn, pc⟩ := v
  dsimp only [imgV] at *
  subst hA hFA
  have K1 := Lib.hid (K1' _ f1)
  have KL := Lib.hid KL'
  have KO := Lib.hid KO'
  have KE := Lib.hid KE'
  have HREF := Lib.hid REF
  have F1 := Lib.hid f1
  have FZ := Lib.hid f4
  have HX0 := Lib.hid hX0
  have HE0 := Lib.hid hE0
  have hct2 := (f1.cell (p := ⟨rb, ro + n / 4, none⟩) hrb).trans hct
  have HS := Lib.hid S
  have hk0 : (0 : Int) ≤ (n : Int) / 4 := by omega
  have hk1 : (n : Int) / 4 < (rn : Int) := by omega
  have hi0 : (0 : Int) ≤ (n : Int) % 4 := by omega
  have hi1 : (n : Int) % 4 < 4 := by omega
  have hi2 : n % 4 < 4 := by omega
  have hxb : n ≤ 4611686018427387903 := by omega
  obtain ⟨x0, x1, x2, x3, x4⟩ := f2
  dsimp only at x0 x1 x2 x3 x4
  clear h K1' KL' KO' KE' hti hct REF hX0 hE0 S he
  go_enter Tryz.func32, Tryz.ntmps32
  go_wp2_with fail
  generalize ((w.alloc (.cells #[.int .i64 m.guest, .slice (some ⟨rb, ro, none⟩) rn rc, .slice sA sn sc, .slice (some ⟨fb, fo, none⟩) fn fc, .slice pA pn pc] 27)).alloc (.cells #[.int .i64 0, .slice none 0 0, .slice none 0 0, .slice none 0 0, .slice none 0 0] 27)) = W2 at *
  refine K1.out.mono ?_
  rintro e' w5 ⟨rfl, hb5⟩
  have B5 := below_next F1.out hb5
  have hs5 := hb5.size
  have hl0 : w.heap.size < W2.heap.size := by omega
  have z0 := (hb5.cell (p := ⟨w.heap.size, 0, none⟩) hl0).trans x0
  have z1 := (hb5.cell (p := ⟨w.heap.size, 1, none⟩) hl0).trans x1
  have z2 := (hb5.cell (p := ⟨w.heap.size, 2, none⟩) hl0).trans x2
  have z3 := (hb5.cell (p := ⟨w.heap.size, 3, none⟩) hl0).trans x3
  have z4 := (hb5.cell (p := ⟨w.heap.size, 4, none⟩) hl0).trans x4
  have c5 := (hb5.cell (p := ⟨rb, ro + n / 4, none⟩) (show rb < W2.heap.size by omega)).trans hct2
  have hto : ((n : Int) / 4).toNat = n / 4 := by omega
  have c6 : w5.cell? ⟨rb, ro + ((n : Int) / 4).toNat, none⟩ = some (.int .i64 t) := by rw [hto]; exact c5
  have hl2 : w.heap.size < w5.heap.size := by omega
  have hl3 : rb < w5.heap.size := by omega
  have mvS := Lib.hid (fun (W' : World) (hb : Below w5.heap.size w5 W') => (show (W'.cell? ⟨w.heap.size, 0, none⟩ = some (.int .i64 m.guest) ∧ W'.cell? ⟨w.heap.size, 1, none⟩ = some (.slice (some ⟨rb, ro, none⟩) rn rc) ∧ W'.cell? ⟨w.heap.size, 2, none⟩ = some (.slice sA sn sc) ∧ W'.cell? ⟨w.heap.size, 3, none⟩ = some (.slice (some ⟨fb, fo, none⟩) fn fc) ∧ W'.cell? ⟨w.heap.size, 4, none⟩ = some (.slice pA pn pc) ∧ W'.cell? ⟨rb, ro + ((n : Int) / 4).toNat, none⟩ = some (.int .i64 t) ∧ W'.cell? ⟨rb, ro + n / 4, none⟩ = some (.int .i64 t)) from
    ⟨(hb.cell (p := ⟨w.heap.size, 0, none⟩) hl2).trans z0, (hb.cell (p := ⟨w.heap.size, 1, none⟩) hl2).trans z1, (hb.cell (p := ⟨w.heap.size, 2, none⟩) hl2).trans z2, (hb.cell (p := ⟨w.heap.size, 3, none⟩) hl2).trans z3, (hb.cell (p := ⟨w.heap.size, 4, none⟩) hl2).trans z4, (hb.cell (p := ⟨rb, ro + ((n : Int) / 4).toNat, none⟩) hl3).trans c6, (hb.cell (p := ⟨rb, ro + n / 4, none⟩) hl3).trans c5⟩))
  have HB5 := Lib.hid hb5
  have hbd : Hid (Below w.heap.size w w5.drew) := Lib.hid B5.drew
  clear x0 x1 x2 x3 x4 hct2 hb5 B5 K1
  go_wp2_with fail
  go_region_held3 (fun W' => (W'.cell? ⟨w.heap.size, 0, none⟩ = some (.int .i64 m.guest) ∧ W'.cell? ⟨w.heap.size, 1, none⟩ = some (.slice (some ⟨rb, ro, none⟩) rn rc) ∧ W'.cell? ⟨w.heap.size, 2, none⟩ = some (.slice sA sn sc) ∧ W'.cell? ⟨w.heap.size, 3, none⟩ = some (.slice (some ⟨fb, fo, none⟩) fn fc) ∧ W'.cell? ⟨w.heap.size, 4, none⟩ = some (.slice pA pn pc) ∧ W'.cell? ⟨rb, ro + ((n : Int) / 4).toNat, none⟩ = some (.int .i64 t) ∧ W'.cell? ⟨rb, ro + n / 4, none⟩ = some (.int .i64 t)))
    (first | exact ⟨z0, z1, z2, z3, z4, c6, c5⟩ | exact mvS.out _ (below_next (Below.refl w5.heap.size w5).drew hb6))
    (first | (go_at_call 30; refine (KL.out _ hbd.out).mono ?_; rintro e' w6 ⟨rfl, hb6⟩))
  have hb56 := below_next (Below.refl w5.heap.size w5).drew hb6
  obtain ⟨x0, x1, x2, x3, x4, x5, x6⟩ := mvS.out _ hb56
  have T6 := below_next (below_next F1.out HB5.out) hb56
  have HB6 := Lib.hid (below_next HB5.out hb56)
  have KO6 := Lib.hid (KO.out _ T6)
  have HT6 := Lib.hid T6
  have hs6 := hb56.size
  clear z0 z1 z2 z3 z4 c5 c6 hbd hb6 KO KL
  go_wp2_with fail
  refine KO6.out.mono ?_
  rintro e' w7 ⟨⟨rA7, rn7, rc7, sA7, sn7, sc7, fA7, fn7, fc7, pA7, pn7, pc7⟩, tg, q, p, rfl, hO7, hb7⟩
  have hb8 := below1 w7 (.cells #[.int .i64 m.guest, .slice rA7 rn7 rc7, .slice sA7 sn7 sc7, .slice fA7 fn7 fc7, .slice pA7 pn7 pc7] 27)
  have T8 := below_next hb7 hb8
  have X8 := Box.new w7 m.guest ⟨rA7, rn7, rc7, sA7, sn7, sc7, fA7, fn7, fc7, pA7, pn7, pc7⟩ 27
  have B8 := BoxB.new w7 #[.int .i64 m.guest, .slice rA7 rn7 rc7, .slice sA7 sn7 sc7, .slice fA7 fn7 fc7, .slice pA7 pn7 pc7]
  have O8 := hO7.next hb8
  have hs7 := hb7.size
  have U8 := below_next HT6.out T8
  have Z8 := FZ.out.nextB (below_next HB6.out T8) (by omega)
  have RF8 : ∀ k, k < fn → _ := fun k hk => (U8.cell (p := ⟨fb, fo + k, none⟩) hfb).trans (HREF.out k hk)
  have y0 := (T8.cell (p := ⟨w.heap.size, 0, none⟩) (show w.heap.size < w6.heap.size by omega)).trans x0
  have y1 := (T8.cell (p := ⟨w.heap.size, 1, none⟩) (show w.heap.size < w6.heap.size by omega)).trans x1
  have y2 := (T8.cell (p := ⟨w.heap.size, 2, none⟩) (show w.heap.size < w6.heap.size by omega)).trans x2
  have y3 := (T8.cell (p := ⟨w.heap.size, 3, none⟩) (show w.heap.size < w6.heap.size by omega)).trans x3
  have y4 := (T8.cell (p := ⟨w.heap.size, 4, none⟩) (show w.heap.size < w6.heap.size by omega)).trans x4
  have y5 := (T8.cell (p := ⟨rb, ro + n / 4, none⟩) (show rb < w6.heap.size by omega)).trans x6
  have hl8 : w7.heap.size < (w7.alloc (.cells #[.int .i64 m.guest, .slice rA7 rn7 rc7, .slice sA7 sn7 sc7, .slice fA7 fn7 fc7, .slice pA7 pn7 pc7] 27)).heap.size := by simp
  dsimp only [imgV]
  clear x0 x1 x2 x3 x4 x5 x6 hO7 hb7 hb8 KO6 mvS hb56 T6
  have hnin : notIn m n := by unfold notIn; omega
  have e7 : decide ((0 : Int) < entryOf m.slots m.root n) = false := by simpa using he0
  have R := write_own (pg := pg) (own_yesO hj hj1 hr1) hnin
  obtain ⟨g1, g2, hf, _⟩ := grab_is HS.out.slots hg
  have h40 := (slotsErr_len HS.out.slots).2
  rw [if_neg hg, hj, Int.toNat_natCast, entries_yes hj hj1 hs0] at R
  generalize hgn : grab m.slots = g at *
  have hjg : j ≠ g := by rintro rfl; have := hf _ hs0; omega
  have hs1 : (laid m.slots g (dslot pg))[j]? = some s0 := (laid_old hjl hjg).trans hs0
  rw [List.getD_eq_getElem?_getD, hs1, Option.getD_some] at R
  have HRX := Lib.hid (write_eff hm hk hn hp R).1.1.sound
  have RX0 := HX0.out.symm
  have RE0 := HE0.out.symm
  rw [R] at RX0 RE0
  have RX1 := Lib.hid RX0
  have RE1 := Lib.hid RE0
  clear RX0 RE0
  have HT := Lib.hid hs1
  have H4 := Lib.hid (slot_table HS.out.slots hs0 hk2)
  have cj := RF8 j (by omega)
  rw [hr1] at cj
  have KG' := rgrab_any sA7 sn7 sc7 m.slots _ O8.imgR.slots (by have := O8.imgR.slen; dsimp only at this; omega) O8.imgR.scap.1
  rw [hgn] at KG'
  have KG := Lib.hid KG'
  have HLAY' : Calls Tryz.prog 57 #[imgV m ⟨rA7, rn7, rc7, sA7, sn7, sc7, fA7, fn7, fc7, pA7, pn7, pc7⟩, .int .i64 (g : Nat), .agg #[.int .i64 1, .string pg, .slice none 0 0]] _ (LayOut w6.heap.size tg ⟨rA7, rn7, rc7, sA7, sn7, sc7, fA7, fn7, fc7, pA7, pn7, pc7⟩ p { m with slots := laid m.slots g (dslot pg) } _) := lay_any w6.heap.size tg _ q p m g (dslot pg) none 0 0 _ O8 (by omega) g2 h40 g1 hpz TabO.nil
  dsimp only [imgV] at HLAY'
  have HLAY := Lib.hid HLAY'
  have HX8 := Lib.hid X8
  have HB8 := Lib.hid B8
  have HZ8 := Lib.hid Z8
  have HU8 := Lib.hid U8
  obtain ⟨v0, v1, v2, v3, v4⟩ := X8
  dsimp only at v0 v1 v2 v3 v4
  have e0 : (0 : Int) ≤ (j : Int) := by omega
  have e1 : (j : Int) < (fn : Int) := by omega
  have e8 : ((j : Int) == 0) = false := by simp; omega
  have e9 : ((g : Int) == 0) = false := by simp; omega
  rw [hj] at hit
  subst hit
  clear B8 O8 U8 T8 Z8 RF8 KG' HLAY' R hm HREF KE HS hs1 hf hgn hg hk2 hs0
  go_wp2_with fail
  generalize (w7.alloc (.cells #[.int .i64 m.guest, .slice rA7 rn7 rc7, .slice sA7 sn7 sc7, .slice fA7 fn7 fc7, .slice pA7 pn7 pc7] 27)) = w8 at *
  refine KG.out.mono ?_
  rintro e' w9 ⟨rfl, rfl⟩
  go_wp2_with fail
  refine HLAY.out.mono ?_
  rintro e' w9 ⟨⟨trA, trn, trc, tsA, tsn, tsc, tfA, tfn, tfc, tpA, tpn, tpc⟩, q9, rfl, hO9, _, _, _, _, hb9, hKI⟩
  obtain ⟨X9, B9⟩ := hKI.box HB8.out HX8.out
  have Z9 := hKI.zb HZ8.out
  have h5 := five B9 ⟨_, _, X9⟩ m.guest ⟨trA, trn, trc, tsA, tsn, tsc, tfA, tfn, tfc, tpA, tpn, tpc⟩
  dsimp only at h5
  have O10 := hO9.kept h5.2.2 B9.ty (by decide) (by decide) (by decide)
  obtain ⟨sb, g5, n5, c5, q11, hsA, hTl, hn5, hhd, hg5, hgT, hgf, ⟨u5, hcy⟩, O11⟩ := O10.setTabO HT.out (i := n % 4) (by rw [H4.out]; omega) (g : Nat)
  rw [H4.out] at hn5
  dsimp only at hsA hTl O11
  subst hsA hn5
  have s9 := hb9.size
  have s10 := h5.2.2.size
  have hg := grown_set (((((w9.setCell ⟨w7.heap.size, 0, none⟩ (.int .i64 m.guest)).setCell ⟨w7.heap.size, 1, none⟩ (.slice trA trn trc)).setCell ⟨w7.heap.size, 2, none⟩ (.slice (some ⟨sb, 0, none⟩) tsn tsc)).setCell ⟨w7.heap.size, 3, none⟩ (.slice tfA tfn tfc)).setCell ⟨w7.heap.size, 4, none⟩ (.slice tpA tpn tpc)) g5 (n % 4) (.int .i64 (g : Nat))
  have hn9 : w7.heap.size ≠ g5 := h5.2.1.ty.ne hgT (by decide)
  have Z10 : ZB _ (w.heap.size + 1) := ⟨(h5.2.2.block _ Z9.box.1.ty.lt (fun e => by injection e with e; omega)).trans Z9.heap⟩
  have hnZ : w.heap.size + 1 ≠ g5 := Z10.box.1.ty.ne hgT (by decide)
  have X11 := h5.1.kept hg (fun e => hn9 (by injection e))
  have Z11 : ZB _ (w.heap.size + 1) := ⟨(hg.block _ Z10.box.1.ty.lt (fun e => hnZ (by injection e))).trans Z10.heap⟩
  have HSND := HRX.out
  have KC := Lib.hid (counted_any w6.heap.size tg _ q11 p _ _ O11 (by have := hg.size; omega) HSND.cbd)
  have LB := ((HU8.out.trans (hb9.mono (by omega))).grown h5.2.2 (by omega) (fun j e => by injection e with e; omega)).setCell (p := ⟨g5, n % 4, none⟩) (show w.heap.size ≤ g5 by omega) (.int .i64 (g : Nat))
  obtain ⟨v0, v1, v2, v3, v4⟩ := X9
  obtain ⟨a0, a1, a2, a3, a4⟩ := h5.1
  obtain ⟨x0, x1, x2, x3, x4⟩ := X11
  have y10 := B9.fz 0
  have y11 := B9.fz 1
  have y12 := B9.fz 2
  have y13 := B9.fz 3
  have y14 := B9.fz 4
  have HZ11 := Lib.hid Z11
  have HLB := Lib.hid LB
  have et0 : (0 : Int) ≤ (j : Int) := by omega
  have et1 : (j : Int) < (tsn : Int) := by omega
  dsimp only [imgV] at v0 v1 v2 v3 v4 a0 a1 a2 a3 a4 x0 x1 x2 x3 x4 KC ⊢
  clear Z9 Z10 Z11 h5 hb9 hKI B9 LB O10 O11 hO9 hg hgT HLAY HX8 HB8 HZ8 HU8 HSND
  repeat (first | go_skip | go_guarded | go_step | go_upon)
  generalize ((((((w9.setCell ⟨w7.heap.size, 0, none⟩ (.int .i64 m.guest)).setCell ⟨w7.heap.size, 1, none⟩ (.slice trA trn trc)).setCell ⟨w7.heap.size, 2, none⟩ (.slice (some ⟨sb, 0, none⟩) tsn tsc)).setCell ⟨w7.heap.size, 3, none⟩ (.slice tfA tfn tfc)).setCell ⟨w7.heap.size, 4, none⟩ (.slice tpA tpn tpc)).setCell ⟨g5, n % 4, none⟩ (.int .i64 (g : Nat))) = w11 at *
  refine KC.out.mono ?_
  rintro e' w12 ⟨⟨zrA, zrn, zrc, zsA, zsn, zsc, zfA, zfn, zfc, zpA, zpn, zpc⟩, tg12, q12, p12, rfl, hO12, hb12⟩
  have Z12 := HZ11.out.nextB hb12 (by omega)
  have hsX : settled { m with slots := (laid m.slots g (dslot pg)).set j { s0 with table := s0.table.set (n % 4) (g : Nat) } } = X := RX1.out.symm
  rw [hsX] at hO12 ⊢
  obtain ⟨⟨k0, k1, k2, k3, k4⟩, hO2, hg2⟩ := lastI Z12 hO12
  have s12 := hb12.size
  have s13 := HLB.out.size
  have LB2 := (HLB.out.trans (hb12.mono (by omega))).grown hg2 (by omega) (fun j e => by injection e with e; omega)
  obtain ⟨u0, u1, u2, u3, u4⟩ := Z12.cells
  dsimp only at k1 k2 k3 k4
  obtain ⟨q0, q1, q2, q3, q4⟩ := Z12.froz
  have HK := Lib.hid (And.intro k0 (And.intro k1 (And.intro k2 (And.intro k3 k4))))
  have HO := Lib.hid hO2
  have HLB2 := Lib.hid LB2
  dsimp only [imgV]
  clear Z12 hO12 hb12 hO2 hg2 LB2 k0 k1 k2 k3 k4 HZ11 KC x0 x1 x2 x3 x4 a0 a1 a2 a3 a4 v0 v1 v2 v3 v4
  go_wp2_with fail
  obtain ⟨k0, k1, k2, k3, k4⟩ := HK.out
  refine bodyPost_ret (v := .tuple #[imgV X ⟨zrA, zrn, zrc, zsA, zsn, zsc, zfA, zfn, zfc, zpA, zpn, zpc⟩, .int .i64 0]) ?_ rfl ⟨_, by rw [RE1.out]; rfl, .inr ⟨w6.heap.size, _, _, _, by omega, HO.out⟩, HLB2.out⟩
  simp [results, Tryz.results32, go_sem, k0, k1, k2, k3, k4, imgV]
set_option maxRecDepth 100000 in
set_option maxHeartbeats 1000000 in
theorem writeOf_B_shared_ok (v : IV) (m : Img) (n : Nat) (pg : ByteArray) (w : World) (h : ImgR w w.heap.size v m) (he : lookE m n = 0) (hp : pg.size = 4) (X : Img) (er : Int) (hX0 : outV (writeM m n pg) = X) (hE0 : outE (writeM m n pg) = er) (j : Nat) (hj : int m.root (n / 4) = (j : Nat)) (hj1 : 1 ≤ j) (hjl : j < m.slots.length) (hr1 : int m.refs j = 1)
    (d : Nat) (s : Slot) (hen : entryOf m.slots m.root n = (d : Nat)) (hd1 : 1 ≤ d) (hds : m.slots[d]? = some s) (hr2 : int m.refs d ≠ 1) (hg : grab m.slots ≠ 0) (s0 : Slot) (hs0 : m.slots[j]? = some s0) (hk2 : s0.kind = 2) :
    Calls Tryz.prog 32 #[imgV m v, .int .i64 n, .string pg] w (ImgOwn w.heap.size X er w) := by
  obtain ⟨hm, _, hn⟩ := look_is he
  have hk := page_in hm hn
  have S := sound_of (check_is hm).1
  have hg16 := (own_facts hm).2.1
  have hmod : ((n % 4 : Nat) : Int) = (n : Int) % 4 := by omega
  have hdiv : ((n / 4 : Nat) : Int) = (n : Int) / 4 := by omega
  have htm : (n : Int).tmod 4 = (n : Int) % 4 := Int.tmod_eq_emod_of_nonneg (by omega)
  have htd : (n : Int).tdiv 4 = (n : Int) / 4 := Int.tdiv_eq_ediv_of_nonneg (by omega)
  have hrl := refs_len hm
  have g4 : ((pg.size : Int) != 4) = false := by simp [hp]
  have hpz : pg.size ≤ 4611686018427387903 := by omega
  have K1' := fun W (hb : Below w.heap.size w W) => rlookE_any v m n W (h.next hb)
  rw [he] at K1'
  have KL' := fun W (hb : Below w.heap.size w W) => rlookOf_any v m n W (h.next hb) (entOk_own hm hn)
  have KO' := fun W (hb : Below w.heap.size w W) => ownImg_any v m W (h.next hb) S.cbd (by rw [hrl]; exact S.cbd.slots)
  have KE' := fun W (hb : Below w.heap.size w W) => tableOf_any v m (n / 4) W (h.next hb) hm hk
  obtain ⟨f1, f2, _, f4, f5⟩ := boxesT w m.guest v
  obtain ⟨rb, ro, t, hA, hrb, hti, hct⟩ := h.root.at1 (k := n / 4) (by have := h.rlen; omega)
  have hit := int_at hti
  rw [hit] at KE'
  have hrn := h.rlen
  have hrc := h.rcap.1
  have hfn := h.flen
  have hfc := h.fcap.1
  have h1s := (slotsErr_len S.slots).1
  obtain ⟨fb, fo, _, hFA, hfb, _, _⟩ := h.refs.at1 (k := 0) (by omega)
  have REF : ∀ k, k < v.fn → w.cell? ⟨fb, fo + k, none⟩ = some (.int .i64 (int m.refs k)) := fun k hk => by
    obtain ⟨b', o', r, g1, _, g3, g5⟩ := h.refs.at1 (k := k) hk
    rw [hFA] at g1
    injection g1 with g1
    injection g1 with g1 g6
    subst g1 g6
    rw [int_at g3]; exact g5
  obtain ⟨rA, rn, rc, sA, sn, sc, fA, fn, fc, pA, pn, pc⟩ := v
  dsimp only [imgV] at *
  subst hA hFA
  have K1 := Lib.hid (K1' _ f1)
  have KL := Lib.hid KL'
  have KO := Lib.hid KO'
  have KE := Lib.hid KE'
  have HREF := Lib.hid REF
  have F1 := Lib.hid f1
  have FZ := Lib.hid f4
  have HX0 := Lib.hid hX0
  have HE0 := Lib.hid hE0
  have hct2 := (f1.cell (p := ⟨rb, ro + n / 4, none⟩) hrb).trans hct
  have HS := Lib.hid S
  have hk0 : (0 : Int) ≤ (n : Int) / 4 := by omega
  have hk1 : (n : Int) / 4 < (rn : Int) := by omega
  have hi0 : (0 : Int) ≤ (n : Int) % 4 := by omega
  have hi1 : (n : Int) % 4 < 4 := by omega
  have hi2 : n % 4 < 4 := by omega
  have hxb : n ≤ 4611686018427387903 := by omega
  obtain ⟨x0, x1, x2, x3, x4⟩ := f2
  dsimp only at x0 x1 x2 x3 x4
  clear h K1' KL' KO' KE' hti hct REF hX0 hE0 S he
  go_enter Tryz.func32, Tryz.ntmps32
  go_wp2_with fail
  generalize ((w.alloc (.cells #[.int .i64 m.guest, .slice (some ⟨rb, ro, none⟩) rn rc, .slice sA sn sc, .slice (some ⟨fb, fo, none⟩) fn fc, .slice pA pn pc] 27)).alloc (.cells #[.int .i64 0, .slice none 0 0, .slice none 0 0, .slice none 0 0, .slice none 0 0] 27)) = W2 at *
  refine K1.out.mono ?_
  rintro e' w5 ⟨rfl, hb5⟩
  have B5 := below_next F1.out hb5
  have hs5 := hb5.size
  have hl0 : w.heap.size < W2.heap.size := by omega
  have z0 := (hb5.cell (p := ⟨w.heap.size, 0, none⟩) hl0).trans x0
  have z1 := (hb5.cell (p := ⟨w.heap.size, 1, none⟩) hl0).trans x1
  have z2 := (hb5.cell (p := ⟨w.heap.size, 2, none⟩) hl0).trans x2
  have z3 := (hb5.cell (p := ⟨w.heap.size, 3, none⟩) hl0).trans x3
  have z4 := (hb5.cell (p := ⟨w.heap.size, 4, none⟩) hl0).trans x4
  have c5 := (hb5.cell (p := ⟨rb, ro + n / 4, none⟩) (show rb < W2.heap.size by omega)).trans hct2
  have hto : ((n : Int) / 4).toNat = n / 4 := by omega
  have c6 : w5.cell? ⟨rb, ro + ((n : Int) / 4).toNat, none⟩ = some (.int .i64 t) := by rw [hto]; exact c5
  have hl2 : w.heap.size < w5.heap.size := by omega
  have hl3 : rb < w5.heap.size := by omega
  have mvS := Lib.hid (fun (W' : World) (hb : Below w5.heap.size w5 W') => (show (W'.cell? ⟨w.heap.size, 0, none⟩ = some (.int .i64 m.guest) ∧ W'.cell? ⟨w.heap.size, 1, none⟩ = some (.slice (some ⟨rb, ro, none⟩) rn rc) ∧ W'.cell? ⟨w.heap.size, 2, none⟩ = some (.slice sA sn sc) ∧ W'.cell? ⟨w.heap.size, 3, none⟩ = some (.slice (some ⟨fb, fo, none⟩) fn fc) ∧ W'.cell? ⟨w.heap.size, 4, none⟩ = some (.slice pA pn pc) ∧ W'.cell? ⟨rb, ro + ((n : Int) / 4).toNat, none⟩ = some (.int .i64 t) ∧ W'.cell? ⟨rb, ro + n / 4, none⟩ = some (.int .i64 t)) from
    ⟨(hb.cell (p := ⟨w.heap.size, 0, none⟩) hl2).trans z0, (hb.cell (p := ⟨w.heap.size, 1, none⟩) hl2).trans z1, (hb.cell (p := ⟨w.heap.size, 2, none⟩) hl2).trans z2, (hb.cell (p := ⟨w.heap.size, 3, none⟩) hl2).trans z3, (hb.cell (p := ⟨w.heap.size, 4, none⟩) hl2).trans z4, (hb.cell (p := ⟨rb, ro + ((n : Int) / 4).toNat, none⟩) hl3).trans c6, (hb.cell (p := ⟨rb, ro + n / 4, none⟩) hl3).trans c5⟩))
  have HB5 := Lib.hid hb5
  have hbd : Hid (Below w.heap.size w w5.drew) := Lib.hid B5.drew
  clear x0 x1 x2 x3 x4 hct2 hb5 B5 K1
  go_wp2_with fail
  go_region_held3 (fun W' => (W'.cell? ⟨w.heap.size, 0, none⟩ = some (.int .i64 m.guest) ∧ W'.cell? ⟨w.heap.size, 1, none⟩ = some (.slice (some ⟨rb, ro, none⟩) rn rc) ∧ W'.cell? ⟨w.heap.size, 2, none⟩ = some (.slice sA sn sc) ∧ W'.cell? ⟨w.heap.size, 3, none⟩ = some (.slice (some ⟨fb, fo, none⟩) fn fc) ∧ W'.cell? ⟨w.heap.size, 4, none⟩ = some (.slice pA pn pc) ∧ W'.cell? ⟨rb, ro + ((n : Int) / 4).toNat, none⟩ = some (.int .i64 t) ∧ W'.cell? ⟨rb, ro + n / 4, none⟩ = some (.int .i64 t)))
    (first | exact ⟨z0, z1, z2, z3, z4, c6, c5⟩ | exact mvS.out _ (below_next (Below.refl w5.heap.size w5).drew hb6))
    (first | (go_at_call 30; refine (KL.out _ hbd.out).mono ?_; rintro e' w6 ⟨rfl, hb6⟩))
  have hb56 := below_next (Below.refl w5.heap.size w5).drew hb6
  obtain ⟨x0, x1, x2, x3, x4, x5, x6⟩ := mvS.out _ hb56
  have T6 := below_next (below_next F1.out HB5.out) hb56
  have HB6 := Lib.hid (below_next HB5.out hb56)
  have KO6 := Lib.hid (KO.out _ T6)
  have HT6 := Lib.hid T6
  have hs6 := hb56.size
  clear z0 z1 z2 z3 z4 c5 c6 hbd hb6 KO KL
  go_wp2_with fail
  refine KO6.out.mono ?_
  rintro e' w7 ⟨⟨rA7, rn7, rc7, sA7, sn7, sc7, fA7, fn7, fc7, pA7, pn7, pc7⟩, tg, q, p, rfl, hO7, hb7⟩
  have hb8 := below1 w7 (.cells #[.int .i64 m.guest, .slice rA7 rn7 rc7, .slice sA7 sn7 sc7, .slice fA7 fn7 fc7, .slice pA7 pn7 pc7] 27)
  have T8 := below_next hb7 hb8
  have X8 := Box.new w7 m.guest ⟨rA7, rn7, rc7, sA7, sn7, sc7, fA7, fn7, fc7, pA7, pn7, pc7⟩ 27
  have B8 := BoxB.new w7 #[.int .i64 m.guest, .slice rA7 rn7 rc7, .slice sA7 sn7 sc7, .slice fA7 fn7 fc7, .slice pA7 pn7 pc7]
  have O8 := hO7.next hb8
  have hs7 := hb7.size
  have U8 := below_next HT6.out T8
  have Z8 := FZ.out.nextB (below_next HB6.out T8) (by omega)
  have RF8 : ∀ k, k < fn → _ := fun k hk => (U8.cell (p := ⟨fb, fo + k, none⟩) hfb).trans (HREF.out k hk)
  have y0 := (T8.cell (p := ⟨w.heap.size, 0, none⟩) (show w.heap.size < w6.heap.size by omega)).trans x0
  have y1 := (T8.cell (p := ⟨w.heap.size, 1, none⟩) (show w.heap.size < w6.heap.size by omega)).trans x1
  have y2 := (T8.cell (p := ⟨w.heap.size, 2, none⟩) (show w.heap.size < w6.heap.size by omega)).trans x2
  have y3 := (T8.cell (p := ⟨w.heap.size, 3, none⟩) (show w.heap.size < w6.heap.size by omega)).trans x3
  have y4 := (T8.cell (p := ⟨w.heap.size, 4, none⟩) (show w.heap.size < w6.heap.size by omega)).trans x4
  have y5 := (T8.cell (p := ⟨rb, ro + n / 4, none⟩) (show rb < w6.heap.size by omega)).trans x6
  have hl8 : w7.heap.size < (w7.alloc (.cells #[.int .i64 m.guest, .slice rA7 rn7 rc7, .slice sA7 sn7 sc7, .slice fA7 fn7 fc7, .slice pA7 pn7 pc7] 27)).heap.size := by simp
  dsimp only [imgV]
  clear x0 x1 x2 x3 x4 x5 x6 hO7 hb7 hb8 KO6 mvS hb56 T6
  have hnin : notIn m n := by unfold notIn; rw [hen, Int.toNat_natCast]; exact fun h => hr2 h.2
  have hdl := (List.getElem?_eq_some_iff.1 hds).1
  have cd := RF8 d (by omega)
  have hrr : (int m.refs d == 1) = false := by simpa using hr2
  generalize int m.refs d = rd at cd hrr
  have e2 : (0 : Int) ≤ (d : Int) := by omega
  have e3 : (d : Int) < (fn : Int) := by omega
  have e5 : decide (0 < d) = true := decide_eq_true (by omega)
  have e6 : (0 : Int) < (d : Int) := by omega
  have R := write_own (pg := pg) (own_yesO hj hj1 hr1) hnin
  obtain ⟨g1, g2, hf, _⟩ := grab_is HS.out.slots hg
  have h40 := (slotsErr_len HS.out.slots).2
  rw [if_neg hg, hj, Int.toNat_natCast, entries_yes hj hj1 hs0] at R
  generalize hgn : grab m.slots = g at *
  have hjg : j ≠ g := by rintro rfl; have := hf _ hs0; omega
  have hs1 : (laid m.slots g (dslot pg))[j]? = some s0 := (laid_old hjl hjg).trans hs0
  rw [List.getD_eq_getElem?_getD, hs1, Option.getD_some] at R
  have HRX := Lib.hid (write_eff hm hk hn hp R).1.1.sound
  have RX0 := HX0.out.symm
  have RE0 := HE0.out.symm
  rw [R] at RX0 RE0
  have RX1 := Lib.hid RX0
  have RE1 := Lib.hid RE0
  clear RX0 RE0
  have HT := Lib.hid hs1
  have H4 := Lib.hid (slot_table HS.out.slots hs0 hk2)
  have cj := RF8 j (by omega)
  rw [hr1] at cj
  have KG' := rgrab_any sA7 sn7 sc7 m.slots _ O8.imgR.slots (by have := O8.imgR.slen; dsimp only at this; omega) O8.imgR.scap.1
  rw [hgn] at KG'
  have KG := Lib.hid KG'
  have HLAY' : Calls Tryz.prog 57 #[imgV m ⟨rA7, rn7, rc7, sA7, sn7, sc7, fA7, fn7, fc7, pA7, pn7, pc7⟩, .int .i64 (g : Nat), .agg #[.int .i64 1, .string pg, .slice none 0 0]] _ (LayOut w6.heap.size tg ⟨rA7, rn7, rc7, sA7, sn7, sc7, fA7, fn7, fc7, pA7, pn7, pc7⟩ p { m with slots := laid m.slots g (dslot pg) } _) := lay_any w6.heap.size tg _ q p m g (dslot pg) none 0 0 _ O8 (by omega) g2 h40 g1 hpz TabO.nil
  dsimp only [imgV] at HLAY'
  have HLAY := Lib.hid HLAY'
  have HX8 := Lib.hid X8
  have HB8 := Lib.hid B8
  have HZ8 := Lib.hid Z8
  have HU8 := Lib.hid U8
  obtain ⟨v0, v1, v2, v3, v4⟩ := X8
  dsimp only at v0 v1 v2 v3 v4
  have e0 : (0 : Int) ≤ (j : Int) := by omega
  have e1 : (j : Int) < (fn : Int) := by omega
  have e8 : ((j : Int) == 0) = false := by simp; omega
  have e9 : ((g : Int) == 0) = false := by simp; omega
  rw [hj] at hit
  subst hit
  clear B8 O8 U8 T8 Z8 RF8 KG' HLAY' R hm HREF KE HS hs1 hf hgn hg hk2 hs0
  go_wp2_with fail
  generalize (w7.alloc (.cells #[.int .i64 m.guest, .slice rA7 rn7 rc7, .slice sA7 sn7 sc7, .slice fA7 fn7 fc7, .slice pA7 pn7 pc7] 27)) = w8 at *
  refine KG.out.mono ?_
  rintro e' w9 ⟨rfl, rfl⟩
  go_wp2_with fail
  refine HLAY.out.mono ?_
  rintro e' w9 ⟨⟨trA, trn, trc, tsA, tsn, tsc, tfA, tfn, tfc, tpA, tpn, tpc⟩, q9, rfl, hO9, _, _, _, _, hb9, hKI⟩
  obtain ⟨X9, B9⟩ := hKI.box HB8.out HX8.out
  have Z9 := hKI.zb HZ8.out
  have h5 := five B9 ⟨_, _, X9⟩ m.guest ⟨trA, trn, trc, tsA, tsn, tsc, tfA, tfn, tfc, tpA, tpn, tpc⟩
  dsimp only at h5
  have O10 := hO9.kept h5.2.2 B9.ty (by decide) (by decide) (by decide)
  obtain ⟨sb, g5, n5, c5, q11, hsA, hTl, hn5, hhd, hg5, hgT, hgf, ⟨u5, hcy⟩, O11⟩ := O10.setTabO HT.out (i := n % 4) (by rw [H4.out]; omega) (g : Nat)
  rw [H4.out] at hn5
  dsimp only at hsA hTl O11
  subst hsA hn5
  have s9 := hb9.size
  have s10 := h5.2.2.size
  have hg := grown_set (((((w9.setCell ⟨w7.heap.size, 0, none⟩ (.int .i64 m.guest)).setCell ⟨w7.heap.size, 1, none⟩ (.slice trA trn trc)).setCell ⟨w7.heap.size, 2, none⟩ (.slice (some ⟨sb, 0, none⟩) tsn tsc)).setCell ⟨w7.heap.size, 3, none⟩ (.slice tfA tfn tfc)).setCell ⟨w7.heap.size, 4, none⟩ (.slice tpA tpn tpc)) g5 (n % 4) (.int .i64 (g : Nat))
  have hn9 : w7.heap.size ≠ g5 := h5.2.1.ty.ne hgT (by decide)
  have Z10 : ZB _ (w.heap.size + 1) := ⟨(h5.2.2.block _ Z9.box.1.ty.lt (fun e => by injection e with e; omega)).trans Z9.heap⟩
  have hnZ : w.heap.size + 1 ≠ g5 := Z10.box.1.ty.ne hgT (by decide)
  have X11 := h5.1.kept hg (fun e => hn9 (by injection e))
  have Z11 : ZB _ (w.heap.size + 1) := ⟨(hg.block _ Z10.box.1.ty.lt (fun e => hnZ (by injection e))).trans Z10.heap⟩
  have HSND := HRX.out
  have KC := Lib.hid (counted_any w6.heap.size tg _ q11 p _ _ O11 (by have := hg.size; omega) HSND.cbd)
  have LB := ((HU8.out.trans (hb9.mono (by omega))).grown h5.2.2 (by omega) (fun j e => by injection e with e; omega)).setCell (p := ⟨g5, n % 4, none⟩) (show w.heap.size ≤ g5 by omega) (.int .i64 (g : Nat))
  obtain ⟨v0, v1, v2, v3, v4⟩ := X9
  obtain ⟨a0, a1, a2, a3, a4⟩ := h5.1
  obtain ⟨x0, x1, x2, x3, x4⟩ := X11
  have y10 := B9.fz 0
  have y11 := B9.fz 1
  have y12 := B9.fz 2
  have y13 := B9.fz 3
  have y14 := B9.fz 4
  have HZ11 := Lib.hid Z11
  have HLB := Lib.hid LB
  have et0 : (0 : Int) ≤ (j : Int) := by omega
  have et1 : (j : Int) < (tsn : Int) := by omega
  dsimp only [imgV] at v0 v1 v2 v3 v4 a0 a1 a2 a3 a4 x0 x1 x2 x3 x4 KC ⊢
  clear Z9 Z10 Z11 h5 hb9 hKI B9 LB O10 O11 hO9 hg hgT HLAY HX8 HB8 HZ8 HU8 HSND
  repeat (first | go_skip | go_guarded | go_step | go_upon)
  generalize ((((((w9.setCell ⟨w7.heap.size, 0, none⟩ (.int .i64 m.guest)).setCell ⟨w7.heap.size, 1, none⟩ (.slice trA trn trc)).setCell ⟨w7.heap.size, 2, none⟩ (.slice (some ⟨sb, 0, none⟩) tsn tsc)).setCell ⟨w7.heap.size, 3, none⟩ (.slice tfA tfn tfc)).setCell ⟨w7.heap.size, 4, none⟩ (.slice tpA tpn tpc)).setCell ⟨g5, n % 4, none⟩ (.int .i64 (g : Nat))) = w11 at *
  refine KC.out.mono ?_
  rintro e' w12 ⟨⟨zrA, zrn, zrc, zsA, zsn, zsc, zfA, zfn, zfc, zpA, zpn, zpc⟩, tg12, q12, p12, rfl, hO12, hb12⟩
  have Z12 := HZ11.out.nextB hb12 (by omega)
  have hsX : settled { m with slots := (laid m.slots g (dslot pg)).set j { s0 with table := s0.table.set (n % 4) (g : Nat) } } = X := RX1.out.symm
  rw [hsX] at hO12 ⊢
  obtain ⟨⟨k0, k1, k2, k3, k4⟩, hO2, hg2⟩ := lastI Z12 hO12
  have s12 := hb12.size
  have s13 := HLB.out.size
  have LB2 := (HLB.out.trans (hb12.mono (by omega))).grown hg2 (by omega) (fun j e => by injection e with e; omega)
  obtain ⟨u0, u1, u2, u3, u4⟩ := Z12.cells
  dsimp only at k1 k2 k3 k4
  obtain ⟨q0, q1, q2, q3, q4⟩ := Z12.froz
  have HK := Lib.hid (And.intro k0 (And.intro k1 (And.intro k2 (And.intro k3 k4))))
  have HO := Lib.hid hO2
  have HLB2 := Lib.hid LB2
  dsimp only [imgV]
  clear Z12 hO12 hb12 hO2 hg2 LB2 k0 k1 k2 k3 k4 HZ11 KC x0 x1 x2 x3 x4 a0 a1 a2 a3 a4 v0 v1 v2 v3 v4
  go_wp2_with fail
  obtain ⟨k0, k1, k2, k3, k4⟩ := HK.out
  refine bodyPost_ret (v := .tuple #[imgV X ⟨zrA, zrn, zrc, zsA, zsn, zsc, zfA, zfn, zfc, zpA, zpn, zpc⟩, .int .i64 0]) ?_ rfl ⟨_, by rw [RE1.out]; rfl, .inr ⟨w6.heap.size, _, _, _, by omega, HO.out⟩, HLB2.out⟩
  simp [results, Tryz.results32, go_sem, k0, k1, k2, k3, k4, imgV]
set_option maxRecDepth 100000 in
set_option maxHeartbeats 1000000 in
theorem writeOf_C_zero_full (v : IV) (m : Img) (n : Nat) (pg : ByteArray) (w : World) (h : ImgR w w.heap.size v m) (he : lookE m n = 0) (hp : pg.size = 4) (X : Img) (er : Int) (hX0 : outV (writeM m n pg) = X) (hE0 : outE (writeM m n pg) = er) (hj : int m.root (n / 4) = 0) (hg : grab m.slots = 0) :
    Calls Tryz.prog 32 #[imgV m v, .int .i64 n, .string pg] w (ImgOwn w.heap.size X er w) := by
  obtain ⟨hm, _, hn⟩ := look_is he
  have hk := page_in hm hn
  have S := sound_of (check_is hm).1
  have hg16 := (own_facts hm).2.1
  have hmod : ((n % 4 : Nat) : Int) = (n : Int) % 4 := by omega
  have hdiv : ((n / 4 : Nat) : Int) = (n : Int) / 4 := by omega
  have htm : (n : Int).tmod 4 = (n : Int) % 4 := Int.tmod_eq_emod_of_nonneg (by omega)
  have htd : (n : Int).tdiv 4 = (n : Int) / 4 := Int.tdiv_eq_ediv_of_nonneg (by omega)
  have hrl := refs_len hm
  have g4 : ((pg.size : Int) != 4) = false := by simp [hp]
  have hpz : pg.size ≤ 4611686018427387903 := by omega
  have K1' := fun W (hb : Below w.heap.size w W) => rlookE_any v m n W (h.next hb)
  rw [he] at K1'
  have KL' := fun W (hb : Below w.heap.size w W) => rlookOf_any v m n W (h.next hb) (entOk_own hm hn)
  have KO' := fun W (hb : Below w.heap.size w W) => ownImg_any v m W (h.next hb) S.cbd (by rw [hrl]; exact S.cbd.slots)
  have KE' := fun W (hb : Below w.heap.size w W) => tableOf_any v m (n / 4) W (h.next hb) hm hk
  obtain ⟨f1, f2, _, f4, f5⟩ := boxesT w m.guest v
  obtain ⟨rb, ro, t, hA, hrb, hti, hct⟩ := h.root.at1 (k := n / 4) (by have := h.rlen; omega)
  have hit := int_at hti
  rw [hit] at KE'
  have hrn := h.rlen
  have hrc := h.rcap.1
  have hfn := h.flen
  have hfc := h.fcap.1
  have h1s := (slotsErr_len S.slots).1
  obtain ⟨fb, fo, _, hFA, hfb, _, _⟩ := h.refs.at1 (k := 0) (by omega)
  have REF : ∀ k, k < v.fn → w.cell? ⟨fb, fo + k, none⟩ = some (.int .i64 (int m.refs k)) := fun k hk => by
    obtain ⟨b', o', r, g1, _, g3, g5⟩ := h.refs.at1 (k := k) hk
    rw [hFA] at g1
    injection g1 with g1
    injection g1 with g1 g6
    subst g1 g6
    rw [int_at g3]; exact g5
  obtain ⟨rA, rn, rc, sA, sn, sc, fA, fn, fc, pA, pn, pc⟩ := v
  dsimp only [imgV] at *
  subst hA hFA
  have K1 := Lib.hid (K1' _ f1)
  have KL := Lib.hid KL'
  have KO := Lib.hid KO'
  have KE := Lib.hid KE'
  have HREF := Lib.hid REF
  have F1 := Lib.hid f1
  have FZ := Lib.hid f4
  have HX0 := Lib.hid hX0
  have HE0 := Lib.hid hE0
  have hct2 := (f1.cell (p := ⟨rb, ro + n / 4, none⟩) hrb).trans hct
  have HS := Lib.hid S
  have hk0 : (0 : Int) ≤ (n : Int) / 4 := by omega
  have hk1 : (n : Int) / 4 < (rn : Int) := by omega
  have hi0 : (0 : Int) ≤ (n : Int) % 4 := by omega
  have hi1 : (n : Int) % 4 < 4 := by omega
  have hi2 : n % 4 < 4 := by omega
  have hxb : n ≤ 4611686018427387903 := by omega
  obtain ⟨x0, x1, x2, x3, x4⟩ := f2
  dsimp only at x0 x1 x2 x3 x4
  clear h K1' KL' KO' KE' hti hct REF hX0 hE0 S he
  go_enter Tryz.func32, Tryz.ntmps32
  go_wp2_with fail
  generalize ((w.alloc (.cells #[.int .i64 m.guest, .slice (some ⟨rb, ro, none⟩) rn rc, .slice sA sn sc, .slice (some ⟨fb, fo, none⟩) fn fc, .slice pA pn pc] 27)).alloc (.cells #[.int .i64 0, .slice none 0 0, .slice none 0 0, .slice none 0 0, .slice none 0 0] 27)) = W2 at *
  refine K1.out.mono ?_
  rintro e' w5 ⟨rfl, hb5⟩
  have B5 := below_next F1.out hb5
  have hs5 := hb5.size
  have hl0 : w.heap.size < W2.heap.size := by omega
  have z0 := (hb5.cell (p := ⟨w.heap.size, 0, none⟩) hl0).trans x0
  have z1 := (hb5.cell (p := ⟨w.heap.size, 1, none⟩) hl0).trans x1
  have z2 := (hb5.cell (p := ⟨w.heap.size, 2, none⟩) hl0).trans x2
  have z3 := (hb5.cell (p := ⟨w.heap.size, 3, none⟩) hl0).trans x3
  have z4 := (hb5.cell (p := ⟨w.heap.size, 4, none⟩) hl0).trans x4
  have c5 := (hb5.cell (p := ⟨rb, ro + n / 4, none⟩) (show rb < W2.heap.size by omega)).trans hct2
  have hto : ((n : Int) / 4).toNat = n / 4 := by omega
  have c6 : w5.cell? ⟨rb, ro + ((n : Int) / 4).toNat, none⟩ = some (.int .i64 t) := by rw [hto]; exact c5
  have hl2 : w.heap.size < w5.heap.size := by omega
  have hl3 : rb < w5.heap.size := by omega
  have mvS := Lib.hid (fun (W' : World) (hb : Below w5.heap.size w5 W') => (show (W'.cell? ⟨w.heap.size, 0, none⟩ = some (.int .i64 m.guest) ∧ W'.cell? ⟨w.heap.size, 1, none⟩ = some (.slice (some ⟨rb, ro, none⟩) rn rc) ∧ W'.cell? ⟨w.heap.size, 2, none⟩ = some (.slice sA sn sc) ∧ W'.cell? ⟨w.heap.size, 3, none⟩ = some (.slice (some ⟨fb, fo, none⟩) fn fc) ∧ W'.cell? ⟨w.heap.size, 4, none⟩ = some (.slice pA pn pc) ∧ W'.cell? ⟨rb, ro + ((n : Int) / 4).toNat, none⟩ = some (.int .i64 t) ∧ W'.cell? ⟨rb, ro + n / 4, none⟩ = some (.int .i64 t)) from
    ⟨(hb.cell (p := ⟨w.heap.size, 0, none⟩) hl2).trans z0, (hb.cell (p := ⟨w.heap.size, 1, none⟩) hl2).trans z1, (hb.cell (p := ⟨w.heap.size, 2, none⟩) hl2).trans z2, (hb.cell (p := ⟨w.heap.size, 3, none⟩) hl2).trans z3, (hb.cell (p := ⟨w.heap.size, 4, none⟩) hl2).trans z4, (hb.cell (p := ⟨rb, ro + ((n : Int) / 4).toNat, none⟩) hl3).trans c6, (hb.cell (p := ⟨rb, ro + n / 4, none⟩) hl3).trans c5⟩))
  have HB5 := Lib.hid hb5
  have hbd : Hid (Below w.heap.size w w5.drew) := Lib.hid B5.drew
  clear x0 x1 x2 x3 x4 hct2 hb5 B5 K1
  go_wp2_with fail
  go_region_held3 (fun W' => (W'.cell? ⟨w.heap.size, 0, none⟩ = some (.int .i64 m.guest) ∧ W'.cell? ⟨w.heap.size, 1, none⟩ = some (.slice (some ⟨rb, ro, none⟩) rn rc) ∧ W'.cell? ⟨w.heap.size, 2, none⟩ = some (.slice sA sn sc) ∧ W'.cell? ⟨w.heap.size, 3, none⟩ = some (.slice (some ⟨fb, fo, none⟩) fn fc) ∧ W'.cell? ⟨w.heap.size, 4, none⟩ = some (.slice pA pn pc) ∧ W'.cell? ⟨rb, ro + ((n : Int) / 4).toNat, none⟩ = some (.int .i64 t) ∧ W'.cell? ⟨rb, ro + n / 4, none⟩ = some (.int .i64 t)))
    (first | exact ⟨z0, z1, z2, z3, z4, c6, c5⟩ | exact mvS.out _ (below_next (Below.refl w5.heap.size w5).drew hb6))
    (first | (go_at_call 30; refine (KL.out _ hbd.out).mono ?_; rintro e' w6 ⟨rfl, hb6⟩))
  have hb56 := below_next (Below.refl w5.heap.size w5).drew hb6
  obtain ⟨x0, x1, x2, x3, x4, x5, x6⟩ := mvS.out _ hb56
  have T6 := below_next (below_next F1.out HB5.out) hb56
  have HB6 := Lib.hid (below_next HB5.out hb56)
  have KO6 := Lib.hid (KO.out _ T6)
  have HT6 := Lib.hid T6
  have hs6 := hb56.size
  clear z0 z1 z2 z3 z4 c5 c6 hbd hb6 KO KL
  go_wp2_with fail
  refine KO6.out.mono ?_
  rintro e' w7 ⟨⟨rA7, rn7, rc7, sA7, sn7, sc7, fA7, fn7, fc7, pA7, pn7, pc7⟩, tg, q, p, rfl, hO7, hb7⟩
  have hb8 := below1 w7 (.cells #[.int .i64 m.guest, .slice rA7 rn7 rc7, .slice sA7 sn7 sc7, .slice fA7 fn7 fc7, .slice pA7 pn7 pc7] 27)
  have T8 := below_next hb7 hb8
  have X8 := Box.new w7 m.guest ⟨rA7, rn7, rc7, sA7, sn7, sc7, fA7, fn7, fc7, pA7, pn7, pc7⟩ 27
  have B8 := BoxB.new w7 #[.int .i64 m.guest, .slice rA7 rn7 rc7, .slice sA7 sn7 sc7, .slice fA7 fn7 fc7, .slice pA7 pn7 pc7]
  have O8 := hO7.next hb8
  have hs7 := hb7.size
  have U8 := below_next HT6.out T8
  have Z8 := FZ.out.nextB (below_next HB6.out T8) (by omega)
  have RF8 : ∀ k, k < fn → _ := fun k hk => (U8.cell (p := ⟨fb, fo + k, none⟩) hfb).trans (HREF.out k hk)
  have y0 := (T8.cell (p := ⟨w.heap.size, 0, none⟩) (show w.heap.size < w6.heap.size by omega)).trans x0
  have y1 := (T8.cell (p := ⟨w.heap.size, 1, none⟩) (show w.heap.size < w6.heap.size by omega)).trans x1
  have y2 := (T8.cell (p := ⟨w.heap.size, 2, none⟩) (show w.heap.size < w6.heap.size by omega)).trans x2
  have y3 := (T8.cell (p := ⟨w.heap.size, 3, none⟩) (show w.heap.size < w6.heap.size by omega)).trans x3
  have y4 := (T8.cell (p := ⟨w.heap.size, 4, none⟩) (show w.heap.size < w6.heap.size by omega)).trans x4
  have y5 := (T8.cell (p := ⟨rb, ro + n / 4, none⟩) (show rb < w6.heap.size by omega)).trans x6
  have hl8 : w7.heap.size < (w7.alloc (.cells #[.int .i64 m.guest, .slice rA7 rn7 rc7, .slice sA7 sn7 sc7, .slice fA7 fn7 fc7, .slice pA7 pn7 pc7] 27)).heap.size := by simp
  dsimp only [imgV]
  clear x0 x1 x2 x3 x4 x5 x6 hO7 hb7 hb8 KO6 mvS hb56 T6
  have R := write_new (pg := pg) (own_no0 hj)
  rw [if_pos hg] at R
  have RX0 := HX0.out.symm
  have RE0 := HE0.out.symm
  rw [R] at RX0 RE0
  have RX1 := Lib.hid RX0
  have RE1 := Lib.hid RE0
  clear RX0 RE0
  have KG' := rgrab_any sA7 sn7 sc7 m.slots _ O8.imgR.slots (by have := O8.imgR.slen; dsimp only at this; omega) O8.imgR.scap.1
  rw [hg] at KG'
  have KG := Lib.hid KG'
  have hen : entryOf m.slots m.root n = 0 := by unfold entryOf; rw [hj]; rfl
  rw [hj] at hit
  subst hit
  have O := outI' Z8 (X := noImg) (v := noV) (B := w.heap.size) (.inl ⟨rfl, rfl⟩) U8 (Nat.le_refl _) (by omega)
  dsimp only [noImg, noV] at O
  obtain ⟨⟨k0, k1, k2, k3, k4⟩, hF, hB⟩ := O
  obtain ⟨u0, u1, u2, u3, u4⟩ := Z8.cells
  obtain ⟨q0, q1, q2, q3, q4⟩ := Z8.froz
  obtain ⟨v0, v1, v2, v3, v4⟩ := X8
  dsimp only at v0 v1 v2 v3 v4
  have HK := Lib.hid (And.intro k0 (And.intro k1 (And.intro k2 (And.intro k3 k4))))
  have HF := Lib.hid hF
  have HLB := Lib.hid hB
  clear B8 O8 U8 T8 Z8 RF8 KG' hF hB k0 k1 k2 k3 k4 R hm HREF KE HS
  go_wp2_with fail
  generalize (w7.alloc (.cells #[.int .i64 m.guest, .slice rA7 rn7 rc7, .slice sA7 sn7 sc7, .slice fA7 fn7 fc7, .slice pA7 pn7 pc7] 27)) = w8 at *
  refine KG.out.mono ?_
  rintro e' w9 ⟨rfl, rfl⟩
  go_wp2_with fail
  obtain ⟨k0, k1, k2, k3, k4⟩ := HK.out
  refine bodyPost_ret (v := .tuple #[imgV noImg noV, .int .i64 7]) ?_ rfl ⟨noV, by rw [RX1.out, RE1.out]; rfl, by rw [RX1.out]; exact HF.out, HLB.out⟩
  simp [results, Tryz.results32, go_sem, imgV, noImg, noV, k0, k1, k2, k3, k4]
set_option maxRecDepth 100000 in
set_option maxHeartbeats 1000000 in
theorem writeOf_C_low_full (v : IV) (m : Img) (n : Nat) (pg : ByteArray) (w : World) (h : ImgR w w.heap.size v m) (he : lookE m n = 0) (hp : pg.size = 4) (X : Img) (er : Int) (hX0 : outV (writeM m n pg) = X) (hE0 : outE (writeM m n pg) = er) (j : Nat) (hj : int m.root (n / 4) = (j : Nat)) (hj1 : 1 ≤ j) (hjl : j < m.slots.length) (hr1 : 1 < int m.refs j) (he0 : entryOf m.slots m.root n ≤ 0) (hg : grab m.slots = 0) :
    Calls Tryz.prog 32 #[imgV m v, .int .i64 n, .string pg] w (ImgOwn w.heap.size X er w) := by
  obtain ⟨hm, _, hn⟩ := look_is he
  have hk := page_in hm hn
  have S := sound_of (check_is hm).1
  have hg16 := (own_facts hm).2.1
  have hmod : ((n % 4 : Nat) : Int) = (n : Int) % 4 := by omega
  have hdiv : ((n / 4 : Nat) : Int) = (n : Int) / 4 := by omega
  have htm : (n : Int).tmod 4 = (n : Int) % 4 := Int.tmod_eq_emod_of_nonneg (by omega)
  have htd : (n : Int).tdiv 4 = (n : Int) / 4 := Int.tdiv_eq_ediv_of_nonneg (by omega)
  have hrl := refs_len hm
  have g4 : ((pg.size : Int) != 4) = false := by simp [hp]
  have hpz : pg.size ≤ 4611686018427387903 := by omega
  have K1' := fun W (hb : Below w.heap.size w W) => rlookE_any v m n W (h.next hb)
  rw [he] at K1'
  have KL' := fun W (hb : Below w.heap.size w W) => rlookOf_any v m n W (h.next hb) (entOk_own hm hn)
  have KO' := fun W (hb : Below w.heap.size w W) => ownImg_any v m W (h.next hb) S.cbd (by rw [hrl]; exact S.cbd.slots)
  have KE' := fun W (hb : Below w.heap.size w W) => tableOf_any v m (n / 4) W (h.next hb) hm hk
  obtain ⟨f1, f2, _, f4, f5⟩ := boxesT w m.guest v
  obtain ⟨rb, ro, t, hA, hrb, hti, hct⟩ := h.root.at1 (k := n / 4) (by have := h.rlen; omega)
  have hit := int_at hti
  rw [hit] at KE'
  have hrn := h.rlen
  have hrc := h.rcap.1
  have hfn := h.flen
  have hfc := h.fcap.1
  have h1s := (slotsErr_len S.slots).1
  obtain ⟨fb, fo, _, hFA, hfb, _, _⟩ := h.refs.at1 (k := 0) (by omega)
  have REF : ∀ k, k < v.fn → w.cell? ⟨fb, fo + k, none⟩ = some (.int .i64 (int m.refs k)) := fun k hk => by
    obtain ⟨b', o', r, g1, _, g3, g5⟩ := h.refs.at1 (k := k) hk
    rw [hFA] at g1
    injection g1 with g1
    injection g1 with g1 g6
    subst g1 g6
    rw [int_at g3]; exact g5
  obtain ⟨rA, rn, rc, sA, sn, sc, fA, fn, fc, pA, pn, pc⟩ := v
  dsimp only [imgV] at *
  subst hA hFA
  have K1 := Lib.hid (K1' _ f1)
  have KL := Lib.hid KL'
  have KO := Lib.hid KO'
  have KE := Lib.hid KE'
  have HREF := Lib.hid REF
  have F1 := Lib.hid f1
  have FZ := Lib.hid f4
  have HX0 := Lib.hid hX0
  have HE0 := Lib.hid hE0
  have hct2 := (f1.cell (p := ⟨rb, ro + n / 4, none⟩) hrb).trans hct
  have HS := Lib.hid S
  have hk0 : (0 : Int) ≤ (n : Int) / 4 := by omega
  have hk1 : (n : Int) / 4 < (rn : Int) := by omega
  have hi0 : (0 : Int) ≤ (n : Int) % 4 := by omega
  have hi1 : (n : Int) % 4 < 4 := by omega
  have hi2 : n % 4 < 4 := by omega
  have hxb : n ≤ 4611686018427387903 := by omega
  obtain ⟨x0, x1, x2, x3, x4⟩ := f2
  dsimp only at x0 x1 x2 x3 x4
  clear h K1' KL' KO' KE' hti hct REF hX0 hE0 S he
  go_enter Tryz.func32, Tryz.ntmps32
  go_wp2_with fail
  generalize ((w.alloc (.cells #[.int .i64 m.guest, .slice (some ⟨rb, ro, none⟩) rn rc, .slice sA sn sc, .slice (some ⟨fb, fo, none⟩) fn fc, .slice pA pn pc] 27)).alloc (.cells #[.int .i64 0, .slice none 0 0, .slice none 0 0, .slice none 0 0, .slice none 0 0] 27)) = W2 at *
  refine K1.out.mono ?_
  rintro e' w5 ⟨rfl, hb5⟩
  have B5 := below_next F1.out hb5
  have hs5 := hb5.size
  have hl0 : w.heap.size < W2.heap.size := by omega
  have z0 := (hb5.cell (p := ⟨w.heap.size, 0, none⟩) hl0).trans x0
  have z1 := (hb5.cell (p := ⟨w.heap.size, 1, none⟩) hl0).trans x1
  have z2 := (hb5.cell (p := ⟨w.heap.size, 2, none⟩) hl0).trans x2
  have z3 := (hb5.cell (p := ⟨w.heap.size, 3, none⟩) hl0).trans x3
  have z4 := (hb5.cell (p := ⟨w.heap.size, 4, none⟩) hl0).trans x4
  have c5 := (hb5.cell (p := ⟨rb, ro + n / 4, none⟩) (show rb < W2.heap.size by omega)).trans hct2
  have hto : ((n : Int) / 4).toNat = n / 4 := by omega
  have c6 : w5.cell? ⟨rb, ro + ((n : Int) / 4).toNat, none⟩ = some (.int .i64 t) := by rw [hto]; exact c5
  have hl2 : w.heap.size < w5.heap.size := by omega
  have hl3 : rb < w5.heap.size := by omega
  have mvS := Lib.hid (fun (W' : World) (hb : Below w5.heap.size w5 W') => (show (W'.cell? ⟨w.heap.size, 0, none⟩ = some (.int .i64 m.guest) ∧ W'.cell? ⟨w.heap.size, 1, none⟩ = some (.slice (some ⟨rb, ro, none⟩) rn rc) ∧ W'.cell? ⟨w.heap.size, 2, none⟩ = some (.slice sA sn sc) ∧ W'.cell? ⟨w.heap.size, 3, none⟩ = some (.slice (some ⟨fb, fo, none⟩) fn fc) ∧ W'.cell? ⟨w.heap.size, 4, none⟩ = some (.slice pA pn pc) ∧ W'.cell? ⟨rb, ro + ((n : Int) / 4).toNat, none⟩ = some (.int .i64 t) ∧ W'.cell? ⟨rb, ro + n / 4, none⟩ = some (.int .i64 t)) from
    ⟨(hb.cell (p := ⟨w.heap.size, 0, none⟩) hl2).trans z0, (hb.cell (p := ⟨w.heap.size, 1, none⟩) hl2).trans z1, (hb.cell (p := ⟨w.heap.size, 2, none⟩) hl2).trans z2, (hb.cell (p := ⟨w.heap.size, 3, none⟩) hl2).trans z3, (hb.cell (p := ⟨w.heap.size, 4, none⟩) hl2).trans z4, (hb.cell (p := ⟨rb, ro + ((n : Int) / 4).toNat, none⟩) hl3).trans c6, (hb.cell (p := ⟨rb, ro + n / 4, none⟩) hl3).trans c5⟩))
  have HB5 := Lib.hid hb5
  have hbd : Hid (Below w.heap.size w w5.drew) := Lib.hid B5.drew
  clear x0 x1 x2 x3 x4 hct2 hb5 B5 K1
  go_wp2_with fail
  go_region_held3 (fun W' => (W'.cell? ⟨w.heap.size, 0, none⟩ = some (.int .i64 m.guest) ∧ W'.cell? ⟨w.heap.size, 1, none⟩ = some (.slice (some ⟨rb, ro, none⟩) rn rc) ∧ W'.cell? ⟨w.heap.size, 2, none⟩ = some (.slice sA sn sc) ∧ W'.cell? ⟨w.heap.size, 3, none⟩ = some (.slice (some ⟨fb, fo, none⟩) fn fc) ∧ W'.cell? ⟨w.heap.size, 4, none⟩ = some (.slice pA pn pc) ∧ W'.cell? ⟨rb, ro + ((n : Int) / 4).toNat, none⟩ = some (.int .i64 t) ∧ W'.cell? ⟨rb, ro + n / 4, none⟩ = some (.int .i64 t)))
    (first | exact ⟨z0, z1, z2, z3, z4, c6, c5⟩ | exact mvS.out _ (below_next (Below.refl w5.heap.size w5).drew hb6))
    (first | (go_at_call 30; refine (KL.out _ hbd.out).mono ?_; rintro e' w6 ⟨rfl, hb6⟩))
  have hb56 := below_next (Below.refl w5.heap.size w5).drew hb6
  obtain ⟨x0, x1, x2, x3, x4, x5, x6⟩ := mvS.out _ hb56
  have T6 := below_next (below_next F1.out HB5.out) hb56
  have HB6 := Lib.hid (below_next HB5.out hb56)
  have KO6 := Lib.hid (KO.out _ T6)
  have HT6 := Lib.hid T6
  have hs6 := hb56.size
  clear z0 z1 z2 z3 z4 c5 c6 hbd hb6 KO KL
  go_wp2_with fail
  refine KO6.out.mono ?_
  rintro e' w7 ⟨⟨rA7, rn7, rc7, sA7, sn7, sc7, fA7, fn7, fc7, pA7, pn7, pc7⟩, tg, q, p, rfl, hO7, hb7⟩
  have hb8 := below1 w7 (.cells #[.int .i64 m.guest, .slice rA7 rn7 rc7, .slice sA7 sn7 sc7, .slice fA7 fn7 fc7, .slice pA7 pn7 pc7] 27)
  have T8 := below_next hb7 hb8
  have X8 := Box.new w7 m.guest ⟨rA7, rn7, rc7, sA7, sn7, sc7, fA7, fn7, fc7, pA7, pn7, pc7⟩ 27
  have B8 := BoxB.new w7 #[.int .i64 m.guest, .slice rA7 rn7 rc7, .slice sA7 sn7 sc7, .slice fA7 fn7 fc7, .slice pA7 pn7 pc7]
  have O8 := hO7.next hb8
  have hs7 := hb7.size
  have U8 := below_next HT6.out T8
  have Z8 := FZ.out.nextB (below_next HB6.out T8) (by omega)
  have RF8 : ∀ k, k < fn → _ := fun k hk => (U8.cell (p := ⟨fb, fo + k, none⟩) hfb).trans (HREF.out k hk)
  have y0 := (T8.cell (p := ⟨w.heap.size, 0, none⟩) (show w.heap.size < w6.heap.size by omega)).trans x0
  have y1 := (T8.cell (p := ⟨w.heap.size, 1, none⟩) (show w.heap.size < w6.heap.size by omega)).trans x1
  have y2 := (T8.cell (p := ⟨w.heap.size, 2, none⟩) (show w.heap.size < w6.heap.size by omega)).trans x2
  have y3 := (T8.cell (p := ⟨w.heap.size, 3, none⟩) (show w.heap.size < w6.heap.size by omega)).trans x3
  have y4 := (T8.cell (p := ⟨w.heap.size, 4, none⟩) (show w.heap.size < w6.heap.size by omega)).trans x4
  have y5 := (T8.cell (p := ⟨rb, ro + n / 4, none⟩) (show rb < w6.heap.size by omega)).trans x6
  have hl8 : w7.heap.size < (w7.alloc (.cells #[.int .i64 m.guest, .slice rA7 rn7 rc7, .slice sA7 sn7 sc7, .slice fA7 fn7 fc7, .slice pA7 pn7 pc7] 27)).heap.size := by simp
  dsimp only [imgV]
  clear x0 x1 x2 x3 x4 x5 x6 hO7 hb7 hb8 KO6 mvS hb56 T6
  have R := write_new (pg := pg) (own_noj hj (by omega))
  rw [if_pos hg] at R
  have RX0 := HX0.out.symm
  have RE0 := HE0.out.symm
  rw [R] at RX0 RE0
  have RX1 := Lib.hid RX0
  have RE1 := Lib.hid RE0
  clear RX0 RE0
  have KG' := rgrab_any sA7 sn7 sc7 m.slots _ O8.imgR.slots (by have := O8.imgR.slen; dsimp only at this; omega) O8.imgR.scap.1
  rw [hg] at KG'
  have KG := Lib.hid KG'
  have cj := RF8 j (by omega)
  have hrr : (int m.refs j == 1) = false := by simp; omega
  have hrg : decide (1 < int m.refs j) = true := decide_eq_true hr1
  generalize int m.refs j = rj at cj hrr hrg
  have e0 : (0 : Int) ≤ (j : Int) := by omega
  have e1 : (j : Int) < (fn : Int) := by omega
  have e8 : ((j : Int) == 0) = false := by simp; omega
  rw [hj] at hit
  subst hit
  have e7 : decide ((0 : Int) < entryOf m.slots m.root n) = false := by simpa using he0
  have O := outI' Z8 (X := noImg) (v := noV) (B := w.heap.size) (.inl ⟨rfl, rfl⟩) U8 (Nat.le_refl _) (by omega)
  dsimp only [noImg, noV] at O
  obtain ⟨⟨k0, k1, k2, k3, k4⟩, hF, hB⟩ := O
  obtain ⟨u0, u1, u2, u3, u4⟩ := Z8.cells
  obtain ⟨q0, q1, q2, q3, q4⟩ := Z8.froz
  obtain ⟨v0, v1, v2, v3, v4⟩ := X8
  dsimp only at v0 v1 v2 v3 v4
  have HK := Lib.hid (And.intro k0 (And.intro k1 (And.intro k2 (And.intro k3 k4))))
  have HF := Lib.hid hF
  have HLB := Lib.hid hB
  clear B8 O8 U8 T8 Z8 RF8 KG' hF hB k0 k1 k2 k3 k4 R hm HREF KE HS
  go_wp2_with fail
  generalize (w7.alloc (.cells #[.int .i64 m.guest, .slice rA7 rn7 rc7, .slice sA7 sn7 sc7, .slice fA7 fn7 fc7, .slice pA7 pn7 pc7] 27)) = w8 at *
  refine KG.out.mono ?_
  rintro e' w9 ⟨rfl, rfl⟩
  go_wp2_with fail
  obtain ⟨k0, k1, k2, k3, k4⟩ := HK.out
  refine bodyPost_ret (v := .tuple #[imgV noImg noV, .int .i64 7]) ?_ rfl ⟨noV, by rw [RX1.out, RE1.out]; rfl, by rw [RX1.out]; exact HF.out, HLB.out⟩
  simp [results, Tryz.results32, go_sem, imgV, noImg, noV, k0, k1, k2, k3, k4]
set_option maxRecDepth 100000 in
set_option maxHeartbeats 1000000 in
theorem writeOf_C_high_full (v : IV) (m : Img) (n : Nat) (pg : ByteArray) (w : World) (h : ImgR w w.heap.size v m) (he : lookE m n = 0) (hp : pg.size = 4) (X : Img) (er : Int) (hX0 : outV (writeM m n pg) = X) (hE0 : outE (writeM m n pg) = er) (j : Nat) (hj : int m.root (n / 4) = (j : Nat)) (hj1 : 1 ≤ j) (hjl : j < m.slots.length) (hr1 : 1 < int m.refs j) (he0 : 0 < entryOf m.slots m.root n) (hg : grab m.slots = 0) :
    Calls Tryz.prog 32 #[imgV m v, .int .i64 n, .string pg] w (ImgOwn w.heap.size X er w) := by
  obtain ⟨hm, _, hn⟩ := look_is he
  have hk := page_in hm hn
  have S := sound_of (check_is hm).1
  have hg16 := (own_facts hm).2.1
  have hmod : ((n % 4 : Nat) : Int) = (n : Int) % 4 := by omega
  have hdiv : ((n / 4 : Nat) : Int) = (n : Int) / 4 := by omega
  have htm : (n : Int).tmod 4 = (n : Int) % 4 := Int.tmod_eq_emod_of_nonneg (by omega)
  have htd : (n : Int).tdiv 4 = (n : Int) / 4 := Int.tdiv_eq_ediv_of_nonneg (by omega)
  have hrl := refs_len hm
  have g4 : ((pg.size : Int) != 4) = false := by simp [hp]
  have hpz : pg.size ≤ 4611686018427387903 := by omega
  have K1' := fun W (hb : Below w.heap.size w W) => rlookE_any v m n W (h.next hb)
  rw [he] at K1'
  have KL' := fun W (hb : Below w.heap.size w W) => rlookOf_any v m n W (h.next hb) (entOk_own hm hn)
  have KO' := fun W (hb : Below w.heap.size w W) => ownImg_any v m W (h.next hb) S.cbd (by rw [hrl]; exact S.cbd.slots)
  have KE' := fun W (hb : Below w.heap.size w W) => tableOf_any v m (n / 4) W (h.next hb) hm hk
  obtain ⟨f1, f2, _, f4, f5⟩ := boxesT w m.guest v
  obtain ⟨rb, ro, t, hA, hrb, hti, hct⟩ := h.root.at1 (k := n / 4) (by have := h.rlen; omega)
  have hit := int_at hti
  rw [hit] at KE'
  have hrn := h.rlen
  have hrc := h.rcap.1
  have hfn := h.flen
  have hfc := h.fcap.1
  have h1s := (slotsErr_len S.slots).1
  obtain ⟨fb, fo, _, hFA, hfb, _, _⟩ := h.refs.at1 (k := 0) (by omega)
  have REF : ∀ k, k < v.fn → w.cell? ⟨fb, fo + k, none⟩ = some (.int .i64 (int m.refs k)) := fun k hk => by
    obtain ⟨b', o', r, g1, _, g3, g5⟩ := h.refs.at1 (k := k) hk
    rw [hFA] at g1
    injection g1 with g1
    injection g1 with g1 g6
    subst g1 g6
    rw [int_at g3]; exact g5
  obtain ⟨rA, rn, rc, sA, sn, sc, fA, fn, fc, pA, pn, pc⟩ := v
  dsimp only [imgV] at *
  subst hA hFA
  have K1 := Lib.hid (K1' _ f1)
  have KL := Lib.hid KL'
  have KO := Lib.hid KO'
  have KE := Lib.hid KE'
  have HREF := Lib.hid REF
  have F1 := Lib.hid f1
  have FZ := Lib.hid f4
  have HX0 := Lib.hid hX0
  have HE0 := Lib.hid hE0
  have hct2 := (f1.cell (p := ⟨rb, ro + n / 4, none⟩) hrb).trans hct
  have HS := Lib.hid S
  have hk0 : (0 : Int) ≤ (n : Int) / 4 := by omega
  have hk1 : (n : Int) / 4 < (rn : Int) := by omega
  have hi0 : (0 : Int) ≤ (n : Int) % 4 := by omega
  have hi1 : (n : Int) % 4 < 4 := by omega
  have hi2 : n % 4 < 4 := by omega
  have hxb : n ≤ 4611686018427387903 := by omega
  obtain ⟨x0, x1, x2, x3, x4⟩ := f2
  dsimp only at x0 x1 x2 x3 x4
  clear h K1' KL' KO' KE' hti hct REF hX0 hE0 S he
  go_enter Tryz.func32, Tryz.ntmps32
  go_wp2_with fail
  generalize ((w.alloc (.cells #[.int .i64 m.guest, .slice (some ⟨rb, ro, none⟩) rn rc, .slice sA sn sc, .slice (some ⟨fb, fo, none⟩) fn fc, .slice pA pn pc] 27)).alloc (.cells #[.int .i64 0, .slice none 0 0, .slice none 0 0, .slice none 0 0, .slice none 0 0] 27)) = W2 at *
  refine K1.out.mono ?_
  rintro e' w5 ⟨rfl, hb5⟩
  have B5 := below_next F1.out hb5
  have hs5 := hb5.size
  have hl0 : w.heap.size < W2.heap.size := by omega
  have z0 := (hb5.cell (p := ⟨w.heap.size, 0, none⟩) hl0).trans x0
  have z1 := (hb5.cell (p := ⟨w.heap.size, 1, none⟩) hl0).trans x1
  have z2 := (hb5.cell (p := ⟨w.heap.size, 2, none⟩) hl0).trans x2
  have z3 := (hb5.cell (p := ⟨w.heap.size, 3, none⟩) hl0).trans x3
  have z4 := (hb5.cell (p := ⟨w.heap.size, 4, none⟩) hl0).trans x4
  have c5 := (hb5.cell (p := ⟨rb, ro + n / 4, none⟩) (show rb < W2.heap.size by omega)).trans hct2
  have hto : ((n : Int) / 4).toNat = n / 4 := by omega
  have c6 : w5.cell? ⟨rb, ro + ((n : Int) / 4).toNat, none⟩ = some (.int .i64 t) := by rw [hto]; exact c5
  have hl2 : w.heap.size < w5.heap.size := by omega
  have hl3 : rb < w5.heap.size := by omega
  have mvS := Lib.hid (fun (W' : World) (hb : Below w5.heap.size w5 W') => (show (W'.cell? ⟨w.heap.size, 0, none⟩ = some (.int .i64 m.guest) ∧ W'.cell? ⟨w.heap.size, 1, none⟩ = some (.slice (some ⟨rb, ro, none⟩) rn rc) ∧ W'.cell? ⟨w.heap.size, 2, none⟩ = some (.slice sA sn sc) ∧ W'.cell? ⟨w.heap.size, 3, none⟩ = some (.slice (some ⟨fb, fo, none⟩) fn fc) ∧ W'.cell? ⟨w.heap.size, 4, none⟩ = some (.slice pA pn pc) ∧ W'.cell? ⟨rb, ro + ((n : Int) / 4).toNat, none⟩ = some (.int .i64 t) ∧ W'.cell? ⟨rb, ro + n / 4, none⟩ = some (.int .i64 t)) from
    ⟨(hb.cell (p := ⟨w.heap.size, 0, none⟩) hl2).trans z0, (hb.cell (p := ⟨w.heap.size, 1, none⟩) hl2).trans z1, (hb.cell (p := ⟨w.heap.size, 2, none⟩) hl2).trans z2, (hb.cell (p := ⟨w.heap.size, 3, none⟩) hl2).trans z3, (hb.cell (p := ⟨w.heap.size, 4, none⟩) hl2).trans z4, (hb.cell (p := ⟨rb, ro + ((n : Int) / 4).toNat, none⟩) hl3).trans c6, (hb.cell (p := ⟨rb, ro + n / 4, none⟩) hl3).trans c5⟩))
  have HB5 := Lib.hid hb5
  have hbd : Hid (Below w.heap.size w w5.drew) := Lib.hid B5.drew
  clear x0 x1 x2 x3 x4 hct2 hb5 B5 K1
  go_wp2_with fail
  go_region_held3 (fun W' => (W'.cell? ⟨w.heap.size, 0, none⟩ = some (.int .i64 m.guest) ∧ W'.cell? ⟨w.heap.size, 1, none⟩ = some (.slice (some ⟨rb, ro, none⟩) rn rc) ∧ W'.cell? ⟨w.heap.size, 2, none⟩ = some (.slice sA sn sc) ∧ W'.cell? ⟨w.heap.size, 3, none⟩ = some (.slice (some ⟨fb, fo, none⟩) fn fc) ∧ W'.cell? ⟨w.heap.size, 4, none⟩ = some (.slice pA pn pc) ∧ W'.cell? ⟨rb, ro + ((n : Int) / 4).toNat, none⟩ = some (.int .i64 t) ∧ W'.cell? ⟨rb, ro + n / 4, none⟩ = some (.int .i64 t)))
    (first | exact ⟨z0, z1, z2, z3, z4, c6, c5⟩ | exact mvS.out _ (below_next (Below.refl w5.heap.size w5).drew hb6))
    (first | (go_at_call 30; refine (KL.out _ hbd.out).mono ?_; rintro e' w6 ⟨rfl, hb6⟩))
  have hb56 := below_next (Below.refl w5.heap.size w5).drew hb6
  obtain ⟨x0, x1, x2, x3, x4, x5, x6⟩ := mvS.out _ hb56
  have T6 := below_next (below_next F1.out HB5.out) hb56
  have HB6 := Lib.hid (below_next HB5.out hb56)
  have KO6 := Lib.hid (KO.out _ T6)
  have HT6 := Lib.hid T6
  have hs6 := hb56.size
  clear z0 z1 z2 z3 z4 c5 c6 hbd hb6 KO KL
  go_wp2_with fail
  refine KO6.out.mono ?_
  rintro e' w7 ⟨⟨rA7, rn7, rc7, sA7, sn7, sc7, fA7, fn7, fc7, pA7, pn7, pc7⟩, tg, q, p, rfl, hO7, hb7⟩
  have hb8 := below1 w7 (.cells #[.int .i64 m.guest, .slice rA7 rn7 rc7, .slice sA7 sn7 sc7, .slice fA7 fn7 fc7, .slice pA7 pn7 pc7] 27)
  have T8 := below_next hb7 hb8
  have X8 := Box.new w7 m.guest ⟨rA7, rn7, rc7, sA7, sn7, sc7, fA7, fn7, fc7, pA7, pn7, pc7⟩ 27
  have B8 := BoxB.new w7 #[.int .i64 m.guest, .slice rA7 rn7 rc7, .slice sA7 sn7 sc7, .slice fA7 fn7 fc7, .slice pA7 pn7 pc7]
  have O8 := hO7.next hb8
  have hs7 := hb7.size
  have U8 := below_next HT6.out T8
  have Z8 := FZ.out.nextB (below_next HB6.out T8) (by omega)
  have RF8 : ∀ k, k < fn → _ := fun k hk => (U8.cell (p := ⟨fb, fo + k, none⟩) hfb).trans (HREF.out k hk)
  have y0 := (T8.cell (p := ⟨w.heap.size, 0, none⟩) (show w.heap.size < w6.heap.size by omega)).trans x0
  have y1 := (T8.cell (p := ⟨w.heap.size, 1, none⟩) (show w.heap.size < w6.heap.size by omega)).trans x1
  have y2 := (T8.cell (p := ⟨w.heap.size, 2, none⟩) (show w.heap.size < w6.heap.size by omega)).trans x2
  have y3 := (T8.cell (p := ⟨w.heap.size, 3, none⟩) (show w.heap.size < w6.heap.size by omega)).trans x3
  have y4 := (T8.cell (p := ⟨w.heap.size, 4, none⟩) (show w.heap.size < w6.heap.size by omega)).trans x4
  have y5 := (T8.cell (p := ⟨rb, ro + n / 4, none⟩) (show rb < w6.heap.size by omega)).trans x6
  have hl8 : w7.heap.size < (w7.alloc (.cells #[.int .i64 m.guest, .slice rA7 rn7 rc7, .slice sA7 sn7 sc7, .slice fA7 fn7 fc7, .slice pA7 pn7 pc7] 27)).heap.size := by simp
  dsimp only [imgV]
  clear x0 x1 x2 x3 x4 x5 x6 hO7 hb7 hb8 KO6 mvS hb56 T6
  have R := write_new (pg := pg) (own_noj hj (by omega))
  rw [if_pos hg] at R
  have RX0 := HX0.out.symm
  have RE0 := HE0.out.symm
  rw [R] at RX0 RE0
  have RX1 := Lib.hid RX0
  have RE1 := Lib.hid RE0
  clear RX0 RE0
  have KG' := rgrab_any sA7 sn7 sc7 m.slots _ O8.imgR.slots (by have := O8.imgR.slen; dsimp only at this; omega) O8.imgR.scap.1
  rw [hg] at KG'
  have KG := Lib.hid KG'
  have cj := RF8 j (by omega)
  have hrr : (int m.refs j == 1) = false := by simp; omega
  have hrg : decide (1 < int m.refs j) = true := decide_eq_true hr1
  generalize int m.refs j = rj at cj hrr hrg
  have e0 : (0 : Int) ≤ (j : Int) := by omega
  have e1 : (j : Int) < (fn : Int) := by omega
  have e8 : ((j : Int) == 0) = false := by simp; omega
  rw [hj] at hit
  subst hit
  have e7 : decide ((0 : Int) < entryOf m.slots m.root n) = true := decide_eq_true he0
  have O := outI' Z8 (X := noImg) (v := noV) (B := w.heap.size) (.inl ⟨rfl, rfl⟩) U8 (Nat.le_refl _) (by omega)
  dsimp only [noImg, noV] at O
  obtain ⟨⟨k0, k1, k2, k3, k4⟩, hF, hB⟩ := O
  obtain ⟨u0, u1, u2, u3, u4⟩ := Z8.cells
  obtain ⟨q0, q1, q2, q3, q4⟩ := Z8.froz
  obtain ⟨v0, v1, v2, v3, v4⟩ := X8
  dsimp only at v0 v1 v2 v3 v4
  have HK := Lib.hid (And.intro k0 (And.intro k1 (And.intro k2 (And.intro k3 k4))))
  have HF := Lib.hid hF
  have HLB := Lib.hid hB
  clear B8 O8 U8 T8 Z8 RF8 KG' hF hB k0 k1 k2 k3 k4 R hm HREF KE HS
  go_wp2_with fail
  generalize (w7.alloc (.cells #[.int .i64 m.guest, .slice rA7 rn7 rc7, .slice sA7 sn7 sc7, .slice fA7 fn7 fc7, .slice pA7 pn7 pc7] 27)) = w8 at *
  refine KG.out.mono ?_
  rintro e' w9 ⟨rfl, rfl⟩
  go_wp2_with fail
  obtain ⟨k0, k1, k2, k3, k4⟩ := HK.out
  refine bodyPost_ret (v := .tuple #[imgV noImg noV, .int .i64 7]) ?_ rfl ⟨noV, by rw [RX1.out, RE1.out]; rfl, by rw [RX1.out]; exact HF.out, HLB.out⟩
  simp [results, Tryz.results32, go_sem, imgV, noImg, noV, k0, k1, k2, k3, k4]
end Go.Proofs.YtmdjoafbckphfaaGreat
