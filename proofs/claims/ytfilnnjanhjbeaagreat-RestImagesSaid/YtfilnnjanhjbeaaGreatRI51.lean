/- Texts of the proof of restImages_holds: RestMem, RestRep. Conditions: as each text says. -/
import Derived.Test.YtfilnnjanhjbeaaGreatRI29
import Derived.Test.YtfilnnjanhjbeaaGreatRI22
namespace Go.Proofs.YtfilnnjanhjbeaaGreat
open Go.RowKit Sl
def IntRow (w : World) (base : Nat) (A : Option Addr) (n : Nat) : Prop := n = 0 ∨ ∃ g cur, A = some ⟨g, 0, none⟩ ∧ base ≤ g ∧ w.heap[g]? = some (.cells cur 3 (0, 0)) ∧ n ≤ cur.size
def Row3 (w : World) (base : Nat) (T : TypeId) (A : Option Addr) (n : Nat) : Prop :=
  n = 0 ∨ ∃ g cur, A = some ⟨g, 0, none⟩ ∧ base ≤ g ∧ w.heap[g]? = some (.cells cur T (0, 0)) ∧ n * 3 ≤ cur.size ∧ ∀ k, k < n → ∃ A' n' c', cur[k * 3 + 2]? = some (.slice A' n' c') ∧ n' ≤ 4611686018427387903 ∧ IntRow w base A' n'
structure Wk (w : World) (base : Nat) (v : IV) : Prop where
  root : IntRow w base v.rA v.rn
  refs : IntRow w base v.fA v.fn
  slots : Row3 w base 37 v.sA v.sn
  snaps : Row3 w base 39 v.pA v.pn
  lens : v.rn ≤ 4611686018427387903 ∧ v.sn ≤ 4611686018427387903 ∧ v.fn ≤ 4611686018427387903 ∧ v.pn ≤ 4611686018427387903
section
variable {w w' : World} {base : Nat}
theorem TabO.row {tg : Nat → Nat} {t n c : Nat} {A : Option Addr} {xs : List Int} (h : TabO w base tg t A n c xs) : IntRow w base A n := by
  rcases h.2.2 with ⟨h0, _⟩ | ⟨ho, _⟩
  · exact .inl h0
  · rcases ho.2 with ⟨_, h0⟩ | ⟨g, cap, cur, hv, h1, h2, h3, _, h5, _⟩
    · exact .inl h0
    · simp only [Value.slice.injEq] at hv
      exact .inr ⟨g, cur, hv.1, h1, h2, by omega⟩
theorem Row3.slots_of {tg : Nat → Nat} {v : IV} {q : List SV} {p : List PV} {m : Img} (h : OwnI w base tg v q p m) : Row3 w base 37 v.sA v.sn := by
  rcases Nat.eq_zero_or_pos v.sn with h0 | h0
  · exact .inl h0
  · obtain ⟨g, cur, hA, h1, h2, h3, h4, h5, h6⟩ := own_partsI h.slots h0
    refine .inr ⟨g, cur, hA, h1, h2, by omega, fun k hk => ?_⟩
    have hq : k < q.length := by rw [h.qlen]; exact hk
    have hx := List.getElem?_eq_getElem hq
    have hc := flat3_at SV.cells SV.cells_len q k _ hx 2 (by omega)
    rw [← h6, List.getElem?_take_of_lt (by omega), Array.getElem?_toList] at hc
    exact ⟨_, _, _, hc, (h.tabs k _ hx).2.2.1.1, (h.tabs k _ hx).2.row⟩
theorem Row3.snaps_of {tg : Nat → Nat} {v : IV} {q : List SV} {p : List PV} {m : Img} (h : OwnI w base tg v q p m) : Row3 w base 39 v.pA v.pn := by
  rcases Nat.eq_zero_or_pos v.pn with h0 | h0
  · exact .inl h0
  · obtain ⟨g, cur, hA, h1, h2, h3, h4, h5, h6⟩ := own_partsI h.snaps h0
    refine .inr ⟨g, cur, hA, h1, h2, by omega, fun k hk => ?_⟩
    have hq : k < p.length := by rw [h.plen]; exact hk
    have hx := List.getElem?_eq_getElem hq
    have hc := flat3_at PV.cells PV.cells_len p k _ hx 2 (by omega)
    rw [← h6, List.getElem?_take_of_lt (by omega), Array.getElem?_toList] at hc
    exact ⟨_, _, _, hc, (h.roots k _ hx).2.2.1.1, (h.roots k _ hx).2.row⟩
theorem Wk.of_own {tg : Nat → Nat} {v : IV} {q : List SV} {p : List PV} {m : Img} (h : OwnI w base tg v q p m) : Wk w base v :=
  ⟨h.root.row, h.refs.row, Row3.slots_of h, Row3.snaps_of h, h.root.2.1.1, h.scap.1, h.refs.2.1.1, h.pcap.1⟩
theorem Wk.lower {v : IV} {b : Nat} (h : Wk w base v) (hb : b ≤ base) : Wk w b v := by
  have hi : ∀ {A n}, IntRow w base A n → IntRow w b A n := fun hh => hh.imp id fun ⟨g, cur, h1, h2, h3⟩ => ⟨g, cur, h1, by omega, h3⟩
  have h3 : ∀ {T A n}, Row3 w base T A n → Row3 w b T A n := fun hh => hh.imp id fun ⟨g, cur, h1, h2, h3, h4, h5⟩ => ⟨g, cur, h1, by omega, h3, h4, fun k hk => by
    obtain ⟨A', n', c', e1, e2, e3⟩ := h5 k hk
    exact ⟨A', n', c', e1, e2, hi e3⟩⟩
  exact ⟨hi h.root, hi h.refs, h3 h.slots, h3 h.snaps, h.lens⟩
theorem Wk.fresh {v : IV} {m : Img} (h : Fresh w base v m) : Wk w base v := by
  rcases h with ⟨_, rfl⟩ | ⟨b, tg, q, p, hb, ho⟩
  · exact ⟨.inl rfl, .inl rfl, .inl rfl, .inl rfl, by decide, by decide, by decide, by decide⟩
  · exact (Wk.of_own ho).lower hb
theorem IntRow.next {A : Option Addr} {n : Nat} (h : IntRow w base A n) (hb : Below w.heap.size w w') : IntRow w' base A n :=
  h.imp id fun ⟨g, cur, e1, e2, e3, e4⟩ => ⟨g, cur, e1, e2, (hb.block g (Array.getElem?_eq_some_iff.1 e3).1).trans e3, e4⟩
theorem Row3.next {T : TypeId} {A : Option Addr} {n : Nat} (h : Row3 w base T A n) (hb : Below w.heap.size w w') : Row3 w' base T A n :=
  h.imp id fun ⟨g, cur, e1, e2, e3, e4, e5⟩ => ⟨g, cur, e1, e2, (hb.block g (Array.getElem?_eq_some_iff.1 e3).1).trans e3, e4, fun k hk => by
    obtain ⟨A', n', c', f1, f2, f3⟩ := e5 k hk
    exact ⟨A', n', c', f1, f2, f3.next hb⟩⟩
theorem Wk.next {v : IV} (h : Wk w base v) (hb : Below w.heap.size w w') : Wk w' base v := ⟨h.root.next hb, h.refs.next hb, h.slots.next hb, h.snaps.next hb, h.lens⟩
structure Chg (T : TypeId) (w w' : World) : Prop where
  chg : ∃ (g : Nat) (cur cur' : Array Value), w.heap[g]? = some (Obj.cells cur T (0, 0)) ∧ w'.heap[g]? = some (Obj.cells cur' T (0, 0)) ∧ cur'.size = cur.size ∧ (∀ j, j ≠ g → w'.heap[j]? = w.heap[j]?) ∧
    (T = 3 ∨ ∀ k, cur'[k * 3 + 2]? = cur[k * 3 + 2]? ∨ cur'[k * 3 + 2]? = some (Value.slice none 0 0))
theorem IntRow.chg {A : Option Addr} {n : Nat} (h : IntRow w base A n) {T : TypeId} (hc : Chg T w w') : IntRow w' base A n := by
  obtain ⟨g, cur, cur', h1, h2, h3, h4, _⟩ := hc.chg
  refine h.imp id fun ⟨g', c, e1, e2, e3, e4⟩ => ?_
  by_cases hg : g' = g
  · subst hg
    rw [h1] at e3
    injection e3 with e3
    injection e3 with a b d
    subst a b
    exact ⟨g', cur', e1, e2, h2, by omega⟩
  · exact ⟨g', c, e1, e2, (h4 g' hg).trans e3, e4⟩
theorem Row3.chg {T T' : TypeId} {A : Option Addr} {n : Nat} (h : Row3 w base T A n) (hT : T ≠ 3) (hc : Chg T' w w') : Row3 w' base T A n := by
  have hc0 := hc
  obtain ⟨g, cur, cur', h1, h2, h3, h4, h5⟩ := hc.chg
  refine h.imp id fun ⟨g', c, e1, e2, e3, e4, e5⟩ => ?_
  by_cases hg : g' = g
  · subst hg
    rw [h1] at e3
    injection e3 with e3
    injection e3 with a b d
    subst a b
    rcases h5 with h5 | h5
    · exact absurd h5 hT
    · refine ⟨g', cur', e1, e2, h2, by omega, fun k hk => ?_⟩
      obtain ⟨A', n', c', f1, f2, f3⟩ := e5 k hk
      rcases h5 k with h6 | h6
      · exact ⟨A', n', c', h6.trans f1, f2, f3.chg hc0⟩
      · exact ⟨none, 0, 0, h6, by omega, .inl rfl⟩
  · refine ⟨g', c, e1, e2, (h4 g' hg).trans e3, e4, fun k hk => ?_⟩
    obtain ⟨A', n', c', f1, f2, f3⟩ := e5 k hk
    exact ⟨A', n', c', f1, f2, f3.chg hc0⟩
theorem Wk.chg {T : TypeId} {v : IV} (h : Wk w base v) (hc : Chg T w w') : Wk w' base v := ⟨h.root.chg hc, h.refs.chg hc, h.slots.chg (by decide) hc, h.snaps.chg (by decide) hc, h.lens⟩
theorem chg_int {g i : Nat} {cur : Array Value} (h : w.heap[g]? = some (.cells cur 3 (0, 0))) (u : Value) : Chg 3 w (w.setCell ⟨g, i, none⟩ u) :=
  ⟨⟨g, cur, cur.setIfInBounds i u, h, heap_setCell_same w g i cur _ u h, by simp, fun j hj => heap_setCell_other w ⟨g, i, none⟩ j u hj, .inl rfl⟩⟩
theorem chg_slot {g k : Nat} {cur : Array Value} {T : TypeId} (h : w.heap[g]? = some (.cells cur T (0, 0))) (u0 u1 : Value) :
    Chg T w (((w.setCell ⟨g, k * 3, none⟩ u0).setCell ⟨g, k * 3 + 1, none⟩ u1).setCell ⟨g, k * 3 + 2, none⟩ (.slice none 0 0)) := by
  have h1 := heap_setCell_same w g (k * 3) cur T u0 h
  have h2 := heap_setCell_same _ g (k * 3 + 1) _ T u1 h1
  have h3 := heap_setCell_same _ g (k * 3 + 2) _ T (.slice none 0 0) h2
  refine ⟨⟨g, cur, _, h, h3, by simp, fun j hj => ?_, .inr fun j => ?_⟩⟩
  · rw [heap_setCell_other _ ⟨g, k * 3 + 2, none⟩ j _ hj, heap_setCell_other _ ⟨g, k * 3 + 1, none⟩ j _ hj, heap_setCell_other _ ⟨g, k * 3, none⟩ j _ hj]
  · rw [Array.getElem?_setIfInBounds, Array.getElem?_setIfInBounds, Array.getElem?_setIfInBounds]
    by_cases hj : k * 3 + 2 = j * 3 + 2
    · rw [if_pos hj]
      split
      · exact .inr rfl
      · rename_i hs
        refine .inl (Array.getElem?_eq_none ?_).symm
        simp at hs; omega
    · rw [if_neg hj, if_neg (by omega), if_neg (by omega)]
      exact .inl rfl
theorem Chg.same {T T2 : TypeId} (hc : Chg T w w') {L : Nat} (hL : TypeB w L T2) (hT : T2 ≠ T) : w'.heap[L]? = w.heap[L]? := by
  obtain ⟨g, cur, cur', h1, h2, _, h4, _⟩ := hc.chg
  refine h4 L fun e => hT ?_
  subst e
  obtain ⟨c, f, hh⟩ := hL
  rw [h1] at hh
  injection hh with hh
  injection hh with _ b _
  exact b.symm
structure RSt (W0 : World) (B L : Nat) (vs : Nat → IV) (W : World) : Prop where
  ty : TypeB W L 26
  root : ∀ i, i < 4 → W.cell? ⟨L, i * 5 + 1, none⟩ = some (.slice (vs i).rA (vs i).rn (vs i).rc)
  slots : ∀ i, i < 4 → W.cell? ⟨L, i * 5 + 2, none⟩ = some (.slice (vs i).sA (vs i).sn (vs i).sc)
  refs : ∀ i, i < 4 → W.cell? ⟨L, i * 5 + 3, none⟩ = some (.slice (vs i).fA (vs i).fn (vs i).fc)
  snaps : ∀ i, i < 4 → W.cell? ⟨L, i * 5 + 4, none⟩ = some (.slice (vs i).pA (vs i).pn (vs i).pc)
  wk : ∀ i, i < 4 → Wk W B (vs i)
  below : Below B W0 W
theorem cell_heap {L i : Nat} (e : w'.heap[L]? = w.heap[L]?) : w'.cell? ⟨L, i, none⟩ = w.cell? ⟨L, i, none⟩ := by simp [World.cell?, e]
theorem RSt.turn {W0 W W' : World} {B L : Nat} {vs : Nat → IV} {T : TypeId} (h : RSt W0 B L vs W) (hc : Chg T W W') (hT : 26 ≠ T) (hb : Below B W0 W') : RSt W0 B L vs W' := by
  have e := hc.same h.ty hT
  obtain ⟨c, f, hh⟩ := h.ty
  exact ⟨⟨c, f, e.trans hh⟩, fun i hi => (cell_heap e).trans (h.root i hi), fun i hi => (cell_heap e).trans (h.slots i hi), fun i hi => (cell_heap e).trans (h.refs i hi), fun i hi => (cell_heap e).trans (h.snaps i hi), fun i hi => (h.wk i hi).chg hc, hb⟩
theorem RSt.int {W0 W : World} {B L : Nat} {vs : Nat → IV} (h : RSt W0 B L vs W) {g i : Nat} {cur : Array Value} (hg : W.heap[g]? = some (.cells cur 3 (0, 0))) (hb : B ≤ g) (u : Value) :
    RSt W0 B L vs (W.setCell ⟨g, i, none⟩ u) ∧ Chg 3 W (W.setCell ⟨g, i, none⟩ u) :=
  ⟨h.turn (chg_int hg u) (by decide) (h.below.setCell (p := ⟨g, i, none⟩) hb u), chg_int hg u⟩
theorem RSt.zero {W0 W : World} {B L : Nat} {vs : Nat → IV} (h : RSt W0 B L vs W) {g k : Nat} {cur : Array Value} (hg : W.heap[g]? = some (.cells cur 37 (0, 0))) (hb : B ≤ g) (u0 u1 : Value) :
    RSt W0 B L vs (((W.setCell ⟨g, k * 3, none⟩ u0).setCell ⟨g, k * 3 + 1, none⟩ u1).setCell ⟨g, k * 3 + 2, none⟩ (.slice none 0 0)) :=
  h.turn (chg_slot hg u0 u1) (by decide) (((h.below.setCell (p := ⟨g, k * 3, none⟩) hb u0).setCell (p := ⟨g, k * 3 + 1, none⟩) hb u1).setCell (p := ⟨g, k * 3 + 2, none⟩) hb _)
theorem IntRow.at_ {A : Option Addr} {n k : Nat} (h : IntRow w base A n) (hk : k < n) : ∃ g cur u, A = some ⟨g, 0, none⟩ ∧ base ≤ g ∧ w.heap[g]? = some (.cells cur 3 (0, 0)) ∧ w.cell? ⟨g, k, none⟩ = some u ∧ w.frozen? ⟨g, k, none⟩ = false := by
  rcases h with h0 | ⟨g, cur, e1, e2, e3, e4⟩
  · omega
  · exact ⟨g, cur, cur[k]'(by omega), e1, e2, e3, by rw [cell_of_row _ _ _ _ _ _ e3, Array.getElem?_eq_getElem (by omega)], frozen_of_row _ _ _ _ _ e3⟩
theorem Row3.at_ {T : TypeId} {A : Option Addr} {n k : Nat} (h : Row3 w base T A n) (hk : k < n) : ∃ g cur u0 u1 A' n' c', A = some ⟨g, 0, none⟩ ∧ base ≤ g ∧ w.heap[g]? = some (.cells cur T (0, 0)) ∧ w.cell? ⟨g, k * 3, none⟩ = some u0 ∧ w.cell? ⟨g, k * 3 + 1, none⟩ = some u1 ∧
    w.cell? ⟨g, k * 3 + 2, none⟩ = some (.slice A' n' c') ∧ (∀ i, w.frozen? ⟨g, i, none⟩ = false) ∧ n' ≤ 4611686018427387903 ∧ IntRow w base A' n' := by
  rcases h with h0 | ⟨g, cur, e1, e2, e3, e4, e5⟩
  · omega
  · obtain ⟨A', n', c', f1, f2, f3⟩ := e5 k hk
    exact ⟨g, cur, cur[k * 3]'(by omega), cur[k * 3 + 1]'(by omega), A', n', c', e1, e2, e3, by rw [cell_of_row _ _ _ _ _ _ e3, Array.getElem?_eq_getElem (by omega)], by rw [cell_of_row _ _ _ _ _ _ e3, Array.getElem?_eq_getElem (by omega)], by rw [cell_of_row _ _ _ _ _ _ e3, f1], fun i => frozen_of_row _ _ _ _ _ e3, f2, f3⟩
end
end Go.Proofs.YtfilnnjanhjbeaaGreat
namespace Go.Proofs.YtfilnnjanhjbeaaGreat
open Go.RowKit Sl
set_option maxRecDepth 100000 in
set_option maxHeartbeats 2000000 in
theorem repairF_any (v : IV) (m : Img) (w : World) (h : ImgR w w.heap.size v m) :
    Calls Tryz.prog 10 #[imgV m v] w (ImgOwn w.heap.size (repairV m) (shapeErr m) w) := by
  have K1' := fun W (hb : Below w.heap.size w W) => shape_any v m W (h.next hb)
  by_cases he : shapeErr m = 0
  · have hcb := shape_cbd he
    have hwi := shape_wired he
    have R := Lib.hid (show repairV m = settled m from by unfold repairV; rw [if_pos he])
    have K2 := Lib.hid (fun W (hb : Below w.heap.size w W) => own_any v m W (h.next hb) hcb (by rw [(sh_is he).1.refs]; exact hcb.slots))
    have K3 := Lib.hid (fun b base tg v' q p W (ho : OwnI W base tg v' q p m) (hx : Box W b m.guest v') (hB : BoxB W b) (hb : base ≤ b) => settle_any b base tg v' q p m W ho hx hB hb hcb hwi)
    rw [he] at K1'
    have K1 := Lib.hid K1'
    have HE := Lib.hid he
    obtain ⟨rA, rn, rc, sA, sn, sc, fA, fn, fc, pA, pn, pc⟩ := v
    dsimp only [imgV] at K1 K2 ⊢
    have HB1 := below_next (below1 w (.cells #[.int .i64 m.guest, .slice rA rn rc, .slice sA sn sc, .slice fA fn fc, .slice pA pn pc] 26)) (below1 _ (.cells #[.int .i64 0, .slice none 0 0, .slice none 0 0, .slice none 0 0, .slice none 0 0] 26))
    have HX := Lib.hid ((Box.new w m.guest ⟨rA, rn, rc, sA, sn, sc, fA, fn, fc, pA, pn, pc⟩ 26).keep (below1 _ (.cells #[.int .i64 0, .slice none 0 0, .slice none 0 0, .slice none 0 0, .slice none 0 0] 26)) (by simp))
    have HZ' := ZB.new (w.alloc (.cells #[.int .i64 m.guest, .slice rA rn rc, .slice sA sn sc, .slice fA fn fc, .slice pA pn pc] 26))
    rw [World.size_alloc] at HZ'
    have HZ := Lib.hid HZ'
    have hz : w.heap.size < ((w.alloc (.cells #[.int .i64 m.guest, .slice rA rn rc, .slice sA sn sc, .slice fA fn fc, .slice pA pn pc] 26)).alloc (.cells #[.int .i64 0, .slice none 0 0, .slice none 0 0, .slice none 0 0, .slice none 0 0] 26)).heap.size := by simp <;> omega
    clear K1' h he hcb hwi HZ'
    go_enter Tryz.func10, Tryz.ntmps10
    go_wp2_with fail
    refine (K1.out _ HB1).mono ?_
    rintro e w1 ⟨rfl, hb1⟩
    have T1 := below_next HB1 hb1
    have Z1 := Lib.hid (HZ.out.next hb1)
    obtain ⟨b0, b1, b2, b3, b4⟩ := HX.out.keep hb1 hz
    dsimp only at b0 b1 b2 b3 b4
    clear hb1 HX HZ hz HB1
    go_wp2_with fail
    refine (K2.out _ T1).mono ?_
    rintro e w2 ⟨v2, tg, q, p, rfl, ho2, hb2⟩
    have T2 := below_next T1 hb2
    have Z2 := Lib.hid (Z1.out.next hb2)
    have HO := Lib.hid ho2
    have hz2 : w.heap.size + 1 < w2.heap.size := (Array.getElem?_eq_some_iff.1 Z2.out.heap).1
    clear ho2 b0 b1 b2 b3 b4 K2
    obtain ⟨rA2, rn2, rc2, sA2, sn2, sc2, fA2, fn2, fc2, pA2, pn2, pc2⟩ := v2
    dsimp only [imgV] at HO ⊢
    have X3 := Box.new w2 m.guest ⟨rA2, rn2, rc2, sA2, sn2, sc2, fA2, fn2, fc2, pA2, pn2, pc2⟩ 26
    have E3 := BoxB.new w2 #[.int .i64 m.guest, .slice rA2 rn2 rc2, .slice sA2 sn2 sc2, .slice fA2 fn2 fc2, .slice pA2 pn2 pc2]
    have K4 := Lib.hid (K3.out w2.heap.size w1.heap.size tg _ q p _ (HO.out.next (below1 w2 _)) X3 E3 hb2.size)
    have T3 := below_next T2 (below1 w2 (.cells #[.int .i64 m.guest, .slice rA2 rn2 rc2, .slice sA2 sn2 sc2, .slice fA2 fn2 fc2, .slice pA2 pn2 pc2] 26))
    have Z3 := Lib.hid (Z2.out.next (below1 w2 (.cells #[.int .i64 m.guest, .slice rA2 rn2 rc2, .slice sA2 sn2 sc2, .slice fA2 fn2 fc2, .slice pA2 pn2 pc2] 26)))
    have hz1 := Lib.hid (T1.size)
    have hlt1 : w.heap.size + 1 < w1.heap.size := (Array.getElem?_eq_some_iff.1 Z1.out.heap).1
    clear hb2 X3 E3 K3 T2
    go_wp2_with fail
    refine K4.out.mono ?_
    rintro e w4 ⟨rfl, v4, tg4, q4, X4, I4, E4, hb4⟩
    have T4 := Lib.hid (T3.trans (hb4.mono hz1.out))
    have Z4 : ZB w4 (w.heap.size + 1) := ⟨(hb4.block _ hlt1).trans Z3.out.heap⟩
    have h5 := five Z4.box.1 Z4.box.2 m.guest v4
    have hI5 := Lib.hid (show Fresh _ w.heap.size v4 (settled m) from .inr ⟨w1.heap.size, tg4, _, _, T1.size, I4.kept h5.2.2 Z4.box.1.ty (by decide) (by decide) (by decide)⟩)
    have hb5 := Lib.hid (T4.out.grown h5.2.2 T4.out.size (fun j e => by injection e with e; omega))
    obtain ⟨k0, k1, k2, k3, k4⟩ := h5.1
    have HK := Lib.hid (And.intro k0 (And.intro k1 (And.intro k2 (And.intro k3 k4))))
    obtain ⟨b0, b1, b2, b3, b4⟩ := X4
    obtain ⟨y0, y1, y2, y3, y4⟩ := Z4.cells
    obtain ⟨x0, x1, x2, x3, x4⟩ := Z4.froz
    clear h5 k0 k1 k2 k3 k4 T3
    go_wp2_with fail
    obtain ⟨k0, k1, k2, k3, k4⟩ := HK.out
    refine bodyPost_ret (v := .tuple #[imgV (settled m) v4, .int .i64 0]) ?_ rfl ⟨v4, by rw [R.out, HE.out], by rw [R.out]; exact hI5.out, hb5.out⟩
    simp [results, Tryz.results10, go_sem, k0, k1, k2, k3, k4]
    rfl
  · have R := Lib.hid (show repairV m = noImg from by unfold repairV; rw [if_neg he])
    have lz : (shapeErr m != 0) = true := by simpa using he
    generalize shapeErr m = er at *
    have K1 := Lib.hid K1'
    obtain ⟨rA, rn, rc, sA, sn, sc, fA, fn, fc, pA, pn, pc⟩ := v
    dsimp only [imgV] at K1 ⊢
    have HB1 := below_next (below1 w (.cells #[.int .i64 m.guest, .slice rA rn rc, .slice sA sn sc, .slice fA fn fc, .slice pA pn pc] 26)) (below1 _ (.cells #[.int .i64 0, .slice none 0 0, .slice none 0 0, .slice none 0 0, .slice none 0 0] 26))
    have HZ' := ZB.new (w.alloc (.cells #[.int .i64 m.guest, .slice rA rn rc, .slice sA sn sc, .slice fA fn fc, .slice pA pn pc] 26))
    rw [World.size_alloc] at HZ'
    have HZ := Lib.hid HZ'
    clear K1' h he HZ'
    go_enter Tryz.func10, Tryz.ntmps10
    go_wp2_with fail
    refine (K1.out _ HB1).mono ?_
    rintro e w1 ⟨rfl, hb1⟩
    have Z4 := HZ.out.next hb1
    have T4 := Lib.hid (below_next HB1 hb1)
    have h5 := five Z4.box.1 Z4.box.2 0 noV
    have hb5 := Lib.hid (T4.out.grown h5.2.2 T4.out.size (fun j e => by injection e with e; omega))
    have HK := Lib.hid h5.1
    obtain ⟨y0, y1, y2, y3, y4⟩ := Z4.cells
    obtain ⟨x0, x1, x2, x3, x4⟩ := Z4.froz
    clear h5
    go_wp2_with fail
    obtain ⟨k0, k1, k2, k3, k4⟩ := HK.out
    dsimp only [noV] at k0 k1 k2 k3 k4
    refine bodyPost_ret (v := .tuple #[imgV noImg noV, .int .i64 er]) ?_ rfl ⟨noV, by rw [R.out], by rw [R.out]; exact .inl ⟨rfl, rfl⟩, hb5.out⟩
    simp [results, Tryz.results10, go_sem, k0, k1, k2, k3, k4]
    exact ⟨rfl, ⟨rfl, rfl, rfl⟩, ⟨rfl, rfl, rfl⟩, ⟨rfl, rfl, rfl⟩, rfl, rfl, rfl⟩
end Go.Proofs.YtfilnnjanhjbeaaGreat
