/- tree.Own. Conditions: the image is read below the heap's size, its sizes are bounded. -/
import Derived.Test.YtmdjoafbckphfaaOwnP
import Derived.Deep.DeepCutAuto
namespace Go.Proofs.Ytmdjoafbckphfaa
open Go.RowKit Sl

theorem img_keepS {wa W : World} {k b' j : Nat} {a b c d f u : Value} (hlt : k < wa.heap.size) (ho : wa.heap.size ≤ b')
    (h : W.cell? ⟨k, 0, none⟩ = some a ∧ W.cell? ⟨k, 1, none⟩ = some b ∧ W.cell? ⟨k, 2, none⟩ = some c ∧ W.cell? ⟨k, 3, none⟩ = some d ∧ W.cell? ⟨k, 4, none⟩ = some f ∧ Below wa.heap.size wa W) :
    (W.setCell ⟨b', j, none⟩ u).cell? ⟨k, 0, none⟩ = some a ∧ (W.setCell ⟨b', j, none⟩ u).cell? ⟨k, 1, none⟩ = some b ∧ (W.setCell ⟨b', j, none⟩ u).cell? ⟨k, 2, none⟩ = some c ∧ (W.setCell ⟨b', j, none⟩ u).cell? ⟨k, 3, none⟩ = some d ∧ (W.setCell ⟨b', j, none⟩ u).cell? ⟨k, 4, none⟩ = some f ∧ Below wa.heap.size wa (W.setCell ⟨b', j, none⟩ u) :=
  img_keepB hlt ((Below.refl _ _).setCell (p := ⟨b', j, none⟩) ho u) h
/-- The block b is an image's box that holds nothing yet. -/
structure ZB (W : World) (b : Nat) : Prop where
  heap : W.heap[b]? = some (.cells #[.int .i64 0, .slice none 0 0, .slice none 0 0, .slice none 0 0, .slice none 0 0] 27 (0, 0))
theorem ZB.new (W : World) : ZB (W.alloc (.cells #[.int .i64 0, .slice none 0 0, .slice none 0 0, .slice none 0 0, .slice none 0 0] 27)) W.heap.size := ⟨heap_alloc_new W _⟩
theorem ZB.newD (W : World) : ZB (W.alloc (.cells #[.int .i64 0, .slice none 0 0, .slice none 0 0, .slice none 0 0, .slice none 0 0] 27)).drew W.heap.size := ⟨heap_alloc_new W _⟩
def mkZ (W : World) : World := W.alloc (.cells #[.int .i64 0, .slice none 0 0, .slice none 0 0, .slice none 0 0, .slice none 0 0] 27)
def mkD (W : World) : World := (W.alloc (.cells #[.int .i64 0, .slice none 0 0, .slice none 0 0, .slice none 0 0, .slice none 0 0] 27)).drew
theorem mkZ_is (W : World) : W.alloc (.cells #[.int .i64 0, .slice none 0 0, .slice none 0 0, .slice none 0 0, .slice none 0 0] 27) = mkZ W := rfl
theorem mkD_is (W : World) : (W.alloc (.cells #[.int .i64 0, .slice none 0 0, .slice none 0 0, .slice none 0 0, .slice none 0 0] 27)).drew = mkD W := rfl
theorem mkZ_ZB (W : World) : ZB (mkZ W) W.heap.size := ZB.new W
theorem mkD_ZB (W : World) : ZB (mkD W) W.heap.size := ZB.newD W
theorem ZB.next {W W' : World} {b : Nat} (h : ZB W b) (hb : Below W.heap.size W W') : ZB W' b := ⟨(hb.block b (Array.getElem?_eq_some_iff.1 h.heap).1).trans h.heap⟩
theorem ZB.cells {W : World} {b : Nat} (h : ZB W b) : W.cell? ⟨b, 0, none⟩ = some (.int .i64 0) ∧ W.cell? ⟨b, 1, none⟩ = some (.slice none 0 0) ∧ W.cell? ⟨b, 2, none⟩ = some (.slice none 0 0) ∧ W.cell? ⟨b, 3, none⟩ = some (.slice none 0 0) ∧ W.cell? ⟨b, 4, none⟩ = some (.slice none 0 0) := by
  have := fun j => cell_of_row W b j _ _ _ h.heap
  exact ⟨this 0, this 1, this 2, this 3, this 4⟩
theorem ZB.froz {W : World} {b : Nat} (h : ZB W b) : W.frozen? ⟨b, 0, none⟩ = false ∧ W.frozen? ⟨b, 1, none⟩ = false ∧ W.frozen? ⟨b, 2, none⟩ = false ∧ W.frozen? ⟨b, 3, none⟩ = false ∧ W.frozen? ⟨b, 4, none⟩ = false := by
  have := fun j => frozen_of_row W b j _ _ h.heap
  exact ⟨this 0, this 1, this 2, this 3, this 4⟩
/-- An image's five cells laid down in a box. -/
theorem five {W : World} {b : Nat} (h : BoxB W b) (hc : ∃ g v, Box W b g v) (g : Int) (v : IV) :
    Box (((((W.setCell ⟨b, 0, none⟩ (.int .i64 g)).setCell ⟨b, 1, none⟩ (.slice v.rA v.rn v.rc)).setCell ⟨b, 2, none⟩ (.slice v.sA v.sn v.sc)).setCell ⟨b, 3, none⟩ (.slice v.fA v.fn v.fc)).setCell ⟨b, 4, none⟩ (.slice v.pA v.pn v.pc)) b g v ∧
    BoxB (((((W.setCell ⟨b, 0, none⟩ (.int .i64 g)).setCell ⟨b, 1, none⟩ (.slice v.rA v.rn v.rc)).setCell ⟨b, 2, none⟩ (.slice v.sA v.sn v.sc)).setCell ⟨b, 3, none⟩ (.slice v.fA v.fn v.fc)).setCell ⟨b, 4, none⟩ (.slice v.pA v.pn v.pc)) b ∧
    W.grownBy (((((W.setCell ⟨b, 0, none⟩ (.int .i64 g)).setCell ⟨b, 1, none⟩ (.slice v.rA v.rn v.rc)).setCell ⟨b, 2, none⟩ (.slice v.sA v.sn v.sc)).setCell ⟨b, 3, none⟩ (.slice v.fA v.fn v.fc)).setCell ⟨b, 4, none⟩ (.slice v.pA v.pn v.pc)) (some b) := by
  obtain ⟨g', v', c0, c1, c2, c3, c4⟩ := hc
  refine ⟨⟨?_, ?_, ?_, ?_, ?_⟩, ((((h.set _ _).set _ _).set _ _).set _ _).set _ _, ((((grown_set W b 0 _).trans (grown_set _ b 1 _)).trans (grown_set _ b 2 _)).trans (grown_set _ b 3 _)).trans (grown_set _ b 4 _)⟩ <;> go_simp
theorem ZB.box {W : World} {b : Nat} (h : ZB W b) : BoxB W b ∧ ∃ g v, Box W b g v := ⟨⟨_, h.heap⟩, 0, ⟨none, 0, 0, none, 0, 0, none, 0, 0, none, 0, 0⟩, h.cells⟩
/-- What Own answers. -/
def OwnOut (w : World) (m : Img) (e : Ending) (w' : World) : Prop := ∃ v' tg q p, e = .returned (imgV m v') ∧ OwnI w' w.heap.size tg v' q p m ∧ Below w.heap.size w w'
/-- What Own has gathered when its first statement is done. -/
def OwnR (w : World) (m : Img) (q0 : List SV) (p0 : List PV) (sn pn : Nat) (s3 : Value) (wx : World) : Prop :=
  ∃ (bo : Nat) (v' : IV) (tg : Nat → Nat), s3 = .pointer (some ⟨bo, 0, none⟩) ∧ PartI w wx w.heap.size tg v' q0 p0 m 0 0 ∧ v'.sn = sn ∧ v'.pn = pn ∧ Box wx bo m.guest v' ∧ BoxB wx bo ∧ w.heap.size + 1 < bo ∧ ZB wx (w.heap.size + 1) ∧ Below w.heap.size w wx
theorem ownR_of {w w3 w4 w5 w6 wx : World} {b3 b4 b5 b6 bo : Nat} {A3 A4 A5 A6 : Option Addr} {rn fn sn pn c3 c4 c5 c6 : Nat} {m : Img} {q0 : List SV} {p0 : List PV}
    (ho3 : w3.ownsRow b3 3 1 (.slice A3 rn c3) rn (ints m.root)) (ho4 : w4.ownsRow b4 3 1 (.slice A4 fn c4) fn (ints m.refs)) (ho5 : w5.ownsRow b5 80 3 (.slice A5 sn c5) sn (q0.flatMap SV.cells)) (ho6 : w6.ownsRow b6 83 3 (.slice A6 pn c6) pn (p0.flatMap PV.cells))
    (hc3 : rn ≤ c3) (hm3 : c3 ≤ maxLen) (hc4 : fn ≤ c4) (hm4 : c4 ≤ maxLen) (hc5 : sn ≤ c5) (hm5 : c5 ≤ maxLen) (hc6 : pn ≤ c6) (hm6 : c6 ≤ maxLen)
    (G4 : Below w3.heap.size w3 w4) (G5 : Below w4.heap.size w4 w5) (G6 : Below w5.heap.size w5 w6) (hb3 : w.heap.size ≤ b3) (hb4 : w3.heap.size ≤ b4) (hb34 : b3 ≤ w3.heap.size) (hb5 : w.heap.size ≤ b5) (hb6 : w.heap.size ≤ b6)
    (U6 : Below w.heap.size w w6) (hr : rn ≤ 1000000) (hf : fn ≤ 1000000) (hs : sn ≤ 1000000) (hp : pn ≤ 1000000) (hq0 : q0.map (·.s) = m.slots) (hp0 : p0.map (·.s) = m.snaps)
    (hvq : ∀ (k : Nat) (x : SV), q0[k]? = some x → SlotV w w.heap.size x.s x.A x.n x.c) (hvp : ∀ (k : Nat) (x : PV), p0[k]? = some x → SnapV w w.heap.size x.s x.A x.n x.c)
    (hz : ZB w6 (w.heap.size + 1)) (hg : w6.grownBy wx (some bo)) (hbo : w.heap.size + 1 < bo) (hT : bo < w6.heap.size → TypeB w6 bo 27)
    (hx : Box wx bo m.guest ⟨A3, rn, c3, A5, sn, c5, A4, fn, c4, A6, pn, c6⟩) (hB : BoxB wx bo) :
    OwnR w m q0 p0 sn pn (.pointer (some ⟨bo, 0, none⟩)) wx := by
  have hz3 := G4.size
  have hz4 := G5.size
  have hz5 := G6.size
  unfold maxLen at *
  have far : ∀ {e : TypeId} {size n base : Nat} {v : Value} {xs : List Value}, w6.ownsRow base e size v n xs → e ≠ 27 → wx.ownsRow base e size v n xs := by
    intro e size n base v xs ho hne
    refine ho.kept hg ?_
    rcases Nat.lt_or_ge bo w6.heap.size with hl | hl
    · exact own_far ho (hT hl) (fun h => hne h.symm)
    · refine .inr fun e => ?_
      have := (ho.lt _ e).2
      omega
  have r3 := far (own_below (own_below (own_below ho3 G4) G5) G6) (by decide)
  have r4 := far (own_below (own_below ho4 G5) G6) (by decide)
  have r5 := far (own_below ho5 G6) (by decide)
  have r6 := far ho6 (by decide)
  refine ⟨bo, ⟨A3, rn, c3, A5, sn, c5, A4, fn, c4, A6, pn, c6⟩, fun g => if g < w3.heap.size then 0 else 1, rfl, ⟨?_, ?_, ?_, hc5, ?_, ?_, hc6, ?_, hq0, hp0, ?_, ?_⟩, rfl, rfl, hx, hB, hbo, ?_, ?_⟩
  · exact ⟨hc3, ⟨by show rn ≤ _; omega, by show c3 ≤ _; omega⟩, .inr ⟨own_base r3 hb3, fun b e => if_pos (ho3.lt b e).2⟩⟩
  · exact ⟨hc4, ⟨by show fn ≤ _; omega, by show c4 ≤ _; omega⟩, .inr ⟨own_base r4 (by omega), fun b e => if_neg (by have := (ho4.lt b e).1; omega)⟩⟩
  · exact own_base r5 hb5
  · exact ⟨by show sn ≤ _; omega, by show c5 ≤ _; omega⟩
  · exact own_base r6 hb6
  · exact ⟨by show pn ≤ _; omega, by show c6 ≤ _; omega⟩
  · exact fun j x hx => ⟨(hvq j x hx).data, fun h => absurd h (Nat.not_lt_zero _), fun _ => hvq j x hx⟩
  · exact fun j x hx => ⟨(hvp j x hx).name, fun h => absurd h (Nat.not_lt_zero _), fun _ => hvp j x hx⟩
  · exact ⟨(hg.block _ (Array.getElem?_eq_some_iff.1 hz.heap).1 (fun e => by injection e; omega)).trans hz.heap⟩
  · exact U6.grown hg U6.size (fun k e => by injection e; omega)

set_option maxRecDepth 100000 in
set_option maxHeartbeats 4000000 in
theorem own_any (v : IV) (m : Img) (w : World) (h : ImgR w w.heap.size v m) (hc : CBd m) (hfl : m.refs.length ≤ 40) :
    Calls Try.prog 44 #[imgV m v] w (OwnOut w m) := by
  obtain ⟨q0, hq0, hrq, hvq⟩ := h.slots.list
  obtain ⟨p0, hp0, hrp, hvp⟩ := h.snaps.list
  have hsn := h.slen
  have hpn := h.plen
  have hrn := h.rlen
  have hfn := h.flen
  have h40 := hc.slots
  have h1 := hc.one
  have h4 := hc.snaps
  have hr4 := hc.root
  have hfle : v.fn ≤ 1000000 := by omega
  have KR := Lib.hid (fun W (hb : Below w.heap.size w W) => cloneInts v.rA v.rn v.rc (ints m.root) W (h.next hb).root (one_ints _) (by omega))
  have KF := Lib.hid (fun W (hb : Below w.heap.size w W) => cloneInts v.fA v.fn v.fc (ints m.refs) W (h.next hb).refs (one_ints _) hfle)
  have KS := Lib.hid (fun W (hb : Below w.heap.size w W) => cloneSlots v.sA v.sn v.sc (q0.flatMap SV.cells) W (Rd.next hrq hb) (one_sv q0) (by omega))
  have KP := Lib.hid (fun W (hb : Below w.heap.size w W) => cloneSnaps v.pA v.pn v.pc (p0.flatMap PV.cells) W (Rd.next hrp hb) (one_pv p0) (by omega))
  have KRz := Lib.hid (fun W b (hb : Below w.heap.size w W) (hz : ZB W b) => (KR.out W hb).mono (R' := fun e w' => OwnRes W.heap.size 3 1 v.rn (ints m.root) W e w' ∧ ZB w' b) (fun e w' h => ⟨h, by obtain ⟨A, c, _, _, hb', _⟩ := h; exact hz.next hb'⟩))
  have KFz := Lib.hid (fun W b (hb : Below w.heap.size w W) (hz : ZB W b) => (KF.out W hb).mono (R' := fun e w' => OwnRes W.heap.size 3 1 v.fn (ints m.refs) W e w' ∧ ZB w' b) (fun e w' h => ⟨h, by obtain ⟨A, c, _, _, hb', _⟩ := h; exact hz.next hb'⟩))
  have KSz := Lib.hid (fun W b (hb : Below w.heap.size w W) (hz : ZB W b) => (KS.out W hb).mono (R' := fun e w' => OwnRes W.heap.size 80 3 v.sn (q0.flatMap SV.cells) W e w' ∧ ZB w' b) (fun e w' h => ⟨h, by obtain ⟨A, c, _, _, hb', _⟩ := h; exact hz.next hb'⟩))
  have KPz := Lib.hid (fun W b (hb : Below w.heap.size w W) (hz : ZB W b) => (KP.out W hb).mono (R' := fun e w' => OwnRes W.heap.size 83 3 v.pn (p0.flatMap PV.cells) W e w' ∧ ZB w' b) (fun e w' h => ⟨h, by obtain ⟨A, c, _, _, hb', _⟩ := h; exact hz.next hb'⟩))
  have HQ := Lib.hid (And.intro hq0 hvq)
  have HP := Lib.hid (And.intro hp0 hvp)
  have HC := Lib.hid hc
  have hrn' : v.rn ≤ 1000000 := by omega
  have hsn' : v.sn ≤ 1000000 := by omega
  have hpn' : v.pn ≤ 1000000 := by omega
  have HSN := Lib.hid hsn
  obtain ⟨rA, rn, rc, sA, sn, sc, fA, fn, fc, pA, pn, pc⟩ := v
  dsimp only [imgV] at *
  have HB1 := below_next (below1 w (.cells #[.int .i64 m.guest, .slice rA rn rc, .slice sA sn sc, .slice fA fn fc, .slice pA pn pc] 27)) (below1 _ (.cells #[.int .i64 0, .slice none 0 0, .slice none 0 0, .slice none 0 0, .slice none 0 0] 27))
  have HZ := Lib.hid (ZB.new (w.alloc (.cells #[.int .i64 m.guest, .slice rA rn rc, .slice sA sn sc, .slice fA fn fc, .slice pA pn pc] 27)))
  have HX := (Box.new w m.guest ⟨rA, rn, rc, sA, sn, sc, fA, fn, fc, pA, pn, pc⟩ 27).keep (below1 _ (.cells #[.int .i64 0, .slice none 0 0, .slice none 0 0, .slice none 0 0, .slice none 0 0] 27)) (by simp)
  have hz : w.heap.size < ((w.alloc (.cells #[.int .i64 m.guest, .slice rA rn rc, .slice sA sn sc, .slice fA fn fc, .slice pA pn pc] 27)).alloc (.cells #[.int .i64 0, .slice none 0 0, .slice none 0 0, .slice none 0 0, .slice none 0 0] 27)).heap.size := by simp <;> omega
  have hz2 : w.heap.size + 2 ≤ ((w.alloc (.cells #[.int .i64 m.guest, .slice rA rn rc, .slice sA sn sc, .slice fA fn fc, .slice pA pn pc] 27)).alloc (.cells #[.int .i64 0, .slice none 0 0, .slice none 0 0, .slice none 0 0, .slice none 0 0] 27)).heap.size := by simp <;> omega
  rw [World.size_alloc] at HZ
  clear h hc hq0 hvq hp0 hvp hrq hrp hsn hpn hrn hfn
  go_enter Try.func44, Try.ntmps44
  go_upto_region 1 with fail
  generalize hwa : (w.alloc (.cells #[.int .i64 m.guest, .slice rA rn rc, .slice sA sn sc, .slice fA fn fc, .slice pA pn pc] 27)).alloc (.cells #[.int .i64 0, .slice none 0 0, .slice none 0 0, .slice none 0 0, .slice none 0 0] 27) = wa at *
  obtain ⟨b0, b1, b2, b3, b4⟩ := HX
  dsimp only at b0 b1 b2 b3 b4
  have hzz : w.heap.size ≤ wa.heap.size := by omega
  clear hwa
  go_cut [3] (fun s3 wx => OwnR w m q0 p0 sn pn s3 wx)
  case first =>
    have HBd : Hid (Below wa.heap.size wa wa.drew) := Lib.hid (Below.refl _ _).drew
    have HBD : Hid (Below w.heap.size w wa.drew) := Lib.hid HB1.drew
    go_region_held3 (fun w' => w'.cell? ⟨w.heap.size, 0, none⟩ = some (.int .i64 m.guest) ∧ w'.cell? ⟨w.heap.size, 1, none⟩ = some (.slice rA rn rc) ∧ w'.cell? ⟨w.heap.size, 2, none⟩ = some (.slice sA sn sc) ∧ w'.cell? ⟨w.heap.size, 3, none⟩ = some (.slice fA fn fc) ∧ w'.cell? ⟨w.heap.size, 4, none⟩ = some (.slice pA pn pc) ∧ Below wa.heap.size wa w')
      (first | (with_reducible assumption) | ((repeat (first | (with_reducible apply img_keepN hz hb6) | (with_reducible apply img_keepN hz hb5) | (with_reducible apply img_keepN hz hb4) | (with_reducible apply img_keepN hz hb3) | (with_reducible apply img_keepS hz; (have s6 := hb6.size; have s5 := hb5.size; have s4 := hb4.size; have s3 := hb3.size; have sd := HBd.out.size; (try simp only [World.size_alloc] at s6 s5 s4 s3); omega)) | (with_reducible apply img_keepA hz) | (with_reducible apply img_keepD))); first | (with_reducible assumption) | (go_split_ands; refine ⟨?_, ?_, ?_, ?_, ?_, ?_⟩ <;> with_reducible assumption) | (refine ⟨?_, ?_, ?_, ?_, ?_, ?_⟩ <;> first | assumption | exact HBd.out | exact Below.refl _ _)) | (refine ⟨?_, ?_, ?_, ?_, ?_, ?_⟩ <;> first | assumption | exact HBd.out | exact Below.refl _ _))
      (first | (go_at_call 63; rw [mkD_is]; refine (KRz.out (mkD _) _ ?_ (mkD_ZB _)).mono ?_; (unfold mkD; (refine HB1.trans (Below.mono (B := wa.heap.size) ?_ hzz); (first | with_reducible assumption | (go_split_ands; with_reducible assumption)))); rintro e w3 ⟨⟨A3, c3, rfl, ho3, hb3, hc3, hm3⟩, Z3⟩; (unfold mkD at hb3); (have V3 : Below wa.heap.size wa w3 := below_next (by (first | with_reducible assumption | (go_split_ands; with_reducible assumption))) hb3)) | (go_at_call 63; refine (KR.out _ ?_).mono ?_; (refine HB1.trans (Below.mono (B := wa.heap.size) ?_ hzz); (first | with_reducible assumption | (go_split_ands; with_reducible assumption))); rintro e w3 ⟨A3, c3, rfl, ho3, hb3, hc3, hm3⟩; (have V3 : Below wa.heap.size wa w3 := below_next (by (first | with_reducible assumption | (go_split_ands; with_reducible assumption))) hb3); skip) | (go_at_call 63; rw [mkZ_is]; refine (KFz.out (mkZ _) _ ?_ (mkZ_ZB _)).mono ?_; (unfold mkZ; (refine HB1.trans (Below.mono (B := wa.heap.size) ?_ hzz); (first | with_reducible assumption | (go_split_ands; with_reducible assumption)))); rintro e w4 ⟨⟨A4, c4, rfl, ho4, hb4, hc4, hm4⟩, Z4⟩; (unfold mkZ at hb4); (have V4 : Below wa.heap.size wa w4 := below_next (by (first | with_reducible assumption | (go_split_ands; with_reducible assumption))) hb4); have G4 := below_next (below1 _ _) hb4) | (go_at_call 63; refine (KFz.out _ _ ?_ Z3).mono ?_; (refine HB1.trans (Below.mono (B := wa.heap.size) ?_ hzz); (first | with_reducible assumption | (go_split_ands; with_reducible assumption))); rintro e w4 ⟨⟨A4, c4, rfl, ho4, hb4, hc4, hm4⟩, Z4⟩; (have V4 : Below wa.heap.size wa w4 := below_next (by (first | with_reducible assumption | (go_split_ands; with_reducible assumption))) hb4); have G4 := hb4) | (go_at_call 63; refine (KF.out _ ?_).mono ?_; (refine HB1.trans (Below.mono (B := wa.heap.size) ?_ hzz); (first | with_reducible assumption | (go_split_ands; with_reducible assumption))); rintro e w4 ⟨A4, c4, rfl, ho4, hb4, hc4, hm4⟩; (have V4 : Below wa.heap.size wa w4 := below_next (by (first | with_reducible assumption | (go_split_ands; with_reducible assumption))) hb4); have G4 := hb4) | (go_at_call 67; rw [mkZ_is]; refine (KSz.out (mkZ _) _ ?_ (mkZ_ZB _)).mono ?_; (unfold mkZ; (refine HB1.trans (Below.mono (B := wa.heap.size) ?_ hzz); (first | with_reducible assumption | (go_split_ands; with_reducible assumption)))); rintro e w5 ⟨⟨A5, c5, rfl, ho5, hb5, hc5, hm5⟩, Z5⟩; (unfold mkZ at hb5); (have V5 : Below wa.heap.size wa w5 := below_next (by (first | with_reducible assumption | (go_split_ands; with_reducible assumption))) hb5); have G5 := below_next (below1 _ _) hb5) | (go_at_call 67; refine (KSz.out _ _ ?_ Z4).mono ?_; (refine HB1.trans (Below.mono (B := wa.heap.size) ?_ hzz); (first | with_reducible assumption | (go_split_ands; with_reducible assumption))); rintro e w5 ⟨⟨A5, c5, rfl, ho5, hb5, hc5, hm5⟩, Z5⟩; (have V5 : Below wa.heap.size wa w5 := below_next (by (first | with_reducible assumption | (go_split_ands; with_reducible assumption))) hb5); have G5 := hb5) | (go_at_call 67; refine (KS.out _ ?_).mono ?_; (refine HB1.trans (Below.mono (B := wa.heap.size) ?_ hzz); (first | with_reducible assumption | (go_split_ands; with_reducible assumption))); rintro e w5 ⟨A5, c5, rfl, ho5, hb5, hc5, hm5⟩; (have V5 : Below wa.heap.size wa w5 := below_next (by (first | with_reducible assumption | (go_split_ands; with_reducible assumption))) hb5); have G5 := hb5) | (go_at_call 68; rw [mkZ_is]; refine (KPz.out (mkZ _) _ ?_ (mkZ_ZB _)).mono ?_; (unfold mkZ; (refine HB1.trans (Below.mono (B := wa.heap.size) ?_ hzz); (first | with_reducible assumption | (go_split_ands; with_reducible assumption)))); rintro e w6 ⟨⟨A6, c6, rfl, ho6, hb6, hc6, hm6⟩, Z6⟩; (unfold mkZ at hb6); (have V6 : Below wa.heap.size wa w6 := below_next (by (first | with_reducible assumption | (go_split_ands; with_reducible assumption))) hb6); have G6 := below_next (below1 _ _) hb6; (obtain ⟨z0, z1, z2, z3, z4⟩ := Z6.cells); (obtain ⟨y0, y1, y2, y3, y4⟩ := Z6.froz)) | (go_at_call 68; refine (KPz.out _ _ ?_ Z5).mono ?_; (refine HB1.trans (Below.mono (B := wa.heap.size) ?_ hzz); (first | with_reducible assumption | (go_split_ands; with_reducible assumption))); rintro e w6 ⟨⟨A6, c6, rfl, ho6, hb6, hc6, hm6⟩, Z6⟩; (have V6 : Below wa.heap.size wa w6 := below_next (by (first | with_reducible assumption | (go_split_ands; with_reducible assumption))) hb6); have G6 := hb6; (obtain ⟨z0, z1, z2, z3, z4⟩ := Z6.cells); (obtain ⟨y0, y1, y2, y3, y4⟩ := Z6.froz)) | (go_at_call 68; refine (KP.out _ ?_).mono ?_; (refine HB1.trans (Below.mono (B := wa.heap.size) ?_ hzz); (first | with_reducible assumption | (go_split_ands; with_reducible assumption))); rintro e w6 ⟨A6, c6, rfl, ho6, hb6, hc6, hm6⟩; (have V6 : Below wa.heap.size wa w6 := below_next (by (first | with_reducible assumption | (go_split_ands; with_reducible assumption))) hb6); have G6 := hb6))
    all_goals
      go_wp2_with fail
      go_meet
      have s3 := hb3.size
      have s4 := hb4.size
      have s5 := hb5.size
      have s6 := hb6.size
      have U6 := HB1.trans (V6.mono hzz)
      have Z0 : ZB w6 (w.heap.size + 1) := ⟨(V6.block _ (by omega)).trans HZ.out.heap⟩
      (try simp only [World.size_drew] at s3 s4 s5 s6)
      (try simp only [World.size_alloc] at s3 s4 s5 s6)
      first
      | exact ownR_of ho3 ho4 ho5 ho6 hc3 hm3 hc4 hm4 hc5 hm5 hc6 hm6 G4 G5 G6 (by ((try unfold mkZ); (try unfold mkD); (try simp only [World.size_drew]); (try simp only [World.size_alloc]); omega)) (by ((try unfold mkZ); (try unfold mkD); (try simp only [World.size_drew]); (try simp only [World.size_alloc]); omega)) (by ((try unfold mkZ); (try unfold mkD); (try simp only [World.size_drew]); (try simp only [World.size_alloc]); omega)) (by ((try unfold mkZ); (try unfold mkD); (try simp only [World.size_drew]); (try simp only [World.size_alloc]); omega)) (by ((try unfold mkZ); (try unfold mkD); (try simp only [World.size_drew]); (try simp only [World.size_alloc]); omega)) U6 hrn' hfle hsn' hpn' HQ.out.1 HP.out.1 HQ.out.2 HP.out.2 Z0 (World.grownBy_alloc w6 _ _) (by ((try unfold mkZ); (try unfold mkD); (try simp only [World.size_drew]); (try simp only [World.size_alloc]); omega)) (fun h => absurd h (by omega)) (Box.new w6 m.guest ⟨A3, rn, c3, A5, sn, c5, A4, fn, c4, A6, pn, c6⟩ 27) (BoxB.new w6 _)
      | exact ownR_of ho3 ho4 ho5 ho6 hc3 hm3 hc4 hm4 hc5 hm5 hc6 hm6 G4 G5 G6 (by ((try unfold mkZ); (try unfold mkD); (try simp only [World.size_drew]); (try simp only [World.size_alloc]); omega)) (by ((try unfold mkZ); (try unfold mkD); (try simp only [World.size_drew]); (try simp only [World.size_alloc]); omega)) (by ((try unfold mkZ); (try unfold mkD); (try simp only [World.size_drew]); (try simp only [World.size_alloc]); omega)) (by ((try unfold mkZ); (try unfold mkD); (try simp only [World.size_drew]); (try simp only [World.size_alloc]); omega)) (by ((try unfold mkZ); (try unfold mkD); (try simp only [World.size_drew]); (try simp only [World.size_alloc]); omega)) U6 hrn' hfle hsn' hpn' HQ.out.1 HP.out.1 HQ.out.2 HP.out.2 Z0 (five Z6.box.1 Z6.box.2 m.guest ⟨A3, rn, c3, A5, sn, c5, A4, fn, c4, A6, pn, c6⟩).2.2 (by ((try unfold mkZ); (try unfold mkD); (try simp only [World.size_drew]); (try simp only [World.size_alloc]); omega)) (fun _ => Z6.box.1.ty) (five Z6.box.1 Z6.box.2 m.guest ⟨A3, rn, c3, A5, sn, c5, A4, fn, c4, A6, pn, c6⟩).1 (five Z6.box.1 Z6.box.2 m.guest ⟨A3, rn, c3, A5, sn, c5, A4, fn, c4, A6, pn, c6⟩).2.1
  case rest =>
    obtain ⟨bo, ⟨rA2, rn2, rc2, sA2, sn2, sc2, fA2, fn2, fc2, pA2, pn2, pc2⟩, tg0, rfl, HPt, hv1, hv2, hbx, hBB, hbo, hZ, hBw⟩ := hcut
    dsimp only at hv1 hv2
    subst hv1 hv2
    obtain ⟨sb, rfl, hsb, _⟩ := own_some HPt.slots (by dsimp only; have := HSN.out; omega)
    have HP0 := Lib.hid HPt
    clear HPt KRz KFz KSz KPz KR KF KS KP b0 b1 b2 b3 b4 HB1 HZ hz hz2 hzz
    obtain ⟨b0, b1, b2, b3, b4⟩ := hbx
    dsimp only at b0 b1 b2 b3 b4
    go_wp2_with fail
    go_loopw [24] (fun i wr => ∃ (k : Nat) (tg : Nat → Nat) (q : List SV), k ≤ sn2 ∧ i = .int .i64 k ∧ PartI w wr w.heap.size tg ⟨rA2, rn2, rc2, some ⟨sb, 0, none⟩, sn2, sc2, fA2, fn2, fc2, pA2, pn2, pc2⟩ q p0 m k 0 ∧ Box wr bo m.guest ⟨rA2, rn2, rc2, some ⟨sb, 0, none⟩, sn2, sc2, fA2, fn2, fc2, pA2, pn2, pc2⟩ ∧ BoxB wr bo ∧ ZB wr (w.heap.size + 1) ∧ Below w.heap.size w wr) (fun i _ => sn2 - (intOf i).toNat)
    case atStart => exact ⟨0, tg0, q0, Nat.zero_le _, rfl, HP0.out, ⟨b0, b1, b2, b3, b4⟩, hBB, hZ, hBw⟩
    case round =>
      obtain ⟨k, tg, q, hk, rfl, hpt, hbx, hBr, hZr, hbw⟩ := hrel
      have HPT := Lib.hid hpt
      clear b0 b1 b2 b3 b4 hBB hZ hBw
      obtain ⟨b0, b1, b2, b3, b4⟩ := hbx
      dsimp only at b0 b1 b2 b3 b4
      by_cases hlt : k < sn2
      · have hkq : k < q.length := by have := hpt.qlen; dsimp only at this; omega
        have hqk := List.getElem?_eq_getElem hkq
        generalize q[k] = xk at hqk
        have hv := (hpt.tabs k xk hqk).2.2 (Nat.le_refl _)
        have hmem : xk.s ∈ m.slots := by rw [← hpt.hq]; exact List.mem_map.2 ⟨xk, List.mem_of_getElem? hqk, rfl⟩
        have hx4 : xk.n ≤ 4 := by have := HC.out.tables _ hmem; have := hv.table.len; omega
        have KC := Lib.hid (fun W (hb : Below w.heap.size w W) => cloneInts xk.A xk.n xk.c (ints xk.s.table) W (Rd.next hv.table hb) (one_ints _) (by omega))
        have c2 := hpt.slots.cellAt (k * 3 + 2) (by dsimp only; omega)
        rw [flat3_at SV.cells SV.cells_len q k xk hqk 2 (by omega)] at c2
        simp only [SV.cells, slotCells, List.getElem?_cons_zero, List.getElem?_cons_succ] at c2
        have f2 := hpt.slots.frozenAt (k * 3 + 2)
        have hsl := (own_block hpt.slots (b := sb) rfl).lt
        have hbl := hBr.ty.lt
        have hbd : Below w.heap.size w wr.drew := hbw.drew
        have e0 : (0 : Int) ≤ (k : Int) := by omega
        have e1 : (k : Int) < (sn2 : Int) := by omega
        have HQK := Lib.hid hqk
        clear hqk hv hmem hpt
        go_wp2_with fail
        go_region_law (first | (go_simp; go_at_call 63; refine (KC.out _ hbd).mono ?_; rintro e w5 ⟨A5, c5, rfl, ho5, hb5, hc5, hm5⟩; have b2' := (hb5.cell (p := ⟨bo, 2, none⟩) hbl).trans b2; have c2' := (hb5.cell (p := ⟨sb, k * 3 + 2, none⟩) hsl).trans c2; have f2' := (hb5.frozen (p := ⟨sb, k * 3 + 2, none⟩) hsl).trans f2))
        all_goals
          have hb5' : Below wr.heap.size wr w5 := (Below.refl _ _).drew.trans hb5
          obtain ⟨n1, n2⟩ := ((HPT.out.retag (tg' := fun g => if wr.heap.size ≤ g then 2 * k + 4 else tg g) (fun b' hb' => if_neg (by omega))).next hb5').setTab rfl HQK.out (A := A5) (n := xk.n) (c := c5) ⟨hc5, ⟨by omega, by unfold maxLen at hm5; omega⟩, .inr ⟨own_base ho5 hbw.size, fun g hg => if_pos (ho5.lt g hg).1⟩⟩
          have hne : some bo ≠ some sb := fun e => hBr.ty.ne (own_block HPT.out.slots (b := sb) rfl) (by decide) (by injection e)
          have hne2 : some (w.heap.size + 1) ≠ some sb := fun e => (TypeB.ne ⟨_, _, hZr.heap⟩ (own_block HPT.out.slots (b := sb) rfl) (by decide)) (by injection e)
          have hbx5 := ((show Box wr bo m.guest ⟨rA2, rn2, rc2, some ⟨sb, 0, none⟩, sn2, sc2, fA2, fn2, fc2, pA2, pn2, pc2⟩ from ⟨b0, b1, b2, b3, b4⟩).keep hb5' hbl).kept n2 hne
          have hB5 := (hBr.next hb5').kept n2 hne
          have hZ5 := hZr.next hb5'
          have hZ6 : ZB (w5.setCell ⟨sb, k * 3 + 2, none⟩ (.slice A5 xk.n c5)) (w.heap.size + 1) := ⟨(n2.block _ (Array.getElem?_eq_some_iff.1 hZ5.heap).1 hne2).trans hZ5.heap⟩
          have hb6 := (below_next hbw hb5').grown n2 (Nat.le_trans hbw.size hb5'.size) (fun j e => by injection e with e; omega)
          clear b0 b1 b2 b3 b4 b2' c2' f2' c2 f2
          go_wp2_with fail
          go_roundw
          case rel => exact ⟨k + 1, _, _, by omega, by go_num, n1, hbx5, hB5, hZ6, hb6⟩
          case measure => simp [intOf]; omega
      · obtain rfl : k = sn2 := by omega
        have HP1 := Lib.hid hpt
        clear hpt HPT HP0
        go_wp2_with fail
        go_loopw [43] (fun i wr => ∃ (l : Nat) (tg : Nat → Nat) (p : List PV), l ≤ pn2 ∧ i = .int .i64 l ∧ PartI w wr w.heap.size tg ⟨rA2, rn2, rc2, some ⟨sb, 0, none⟩, k, sc2, fA2, fn2, fc2, pA2, pn2, pc2⟩ q p m k l ∧ Box wr bo m.guest ⟨rA2, rn2, rc2, some ⟨sb, 0, none⟩, k, sc2, fA2, fn2, fc2, pA2, pn2, pc2⟩ ∧ BoxB wr bo ∧ ZB wr (w.heap.size + 1) ∧ Below w.heap.size w wr) (fun i _ => pn2 - (intOf i).toNat)
        case atStart => exact ⟨0, tg, p0, Nat.zero_le _, rfl, HP1.out, ⟨b0, b1, b2, b3, b4⟩, hBr, hZr, hbw⟩
        case round =>
          clear b0 b1 b2 b3 b4 hBr hZr hbw HP1
          obtain ⟨l, tg, p, hl, rfl, hpt, hbx, hBr, hZr, hbw⟩ := hrel
          have HPT := Lib.hid hpt
          obtain ⟨b0, b1, b2, b3, b4⟩ := hbx
          dsimp only at b0 b1 b2 b3 b4
          by_cases hlt : l < pn2
          · obtain ⟨sb2, rfl, hsb2, _⟩ := own_some hpt.snaps (by dsimp only; omega)
            have hkq : l < p.length := by have := hpt.plen; dsimp only at this; omega
            have hqk := List.getElem?_eq_getElem hkq
            generalize p[l] = xk at hqk
            have hv := (hpt.roots l xk hqk).2.2 (Nat.le_refl _)
            have hmem : xk.s ∈ m.snaps := by rw [← hpt.hp]; exact List.mem_map.2 ⟨xk, List.mem_of_getElem? hqk, rfl⟩
            have hx4 : xk.n ≤ 4 := by have := HC.out.roots _ hmem; have := hv.root.len; omega
            have KC := Lib.hid (fun W (hb : Below w.heap.size w W) => cloneInts xk.A xk.n xk.c (ints xk.s.root) W (Rd.next hv.root hb) (one_ints _) (by omega))
            have c2 := hpt.snaps.cellAt (l * 3 + 2) (by dsimp only; omega)
            rw [flat3_at PV.cells PV.cells_len p l xk hqk 2 (by omega)] at c2
            simp only [PV.cells, List.getElem?_cons_zero, List.getElem?_cons_succ] at c2
            have f2 := hpt.snaps.frozenAt (l * 3 + 2)
            have hsl := (own_block hpt.snaps (b := sb2) rfl).lt
            have hbl := hBr.ty.lt
            have hbd : Below w.heap.size w wr.drew := hbw.drew
            have e0 : (0 : Int) ≤ (l : Int) := by omega
            have e1 : (l : Int) < (pn2 : Int) := by omega
            have HQK := Lib.hid hqk
            clear hqk hv hmem hpt
            go_wp2_with fail
            go_region_law (first | (go_simp; go_at_call 63; refine (KC.out _ hbd).mono ?_; rintro e w5 ⟨A5, c5, rfl, ho5, hb5, hc5, hm5⟩; have b4' := (hb5.cell (p := ⟨bo, 4, none⟩) hbl).trans b4; have c2' := (hb5.cell (p := ⟨sb2, l * 3 + 2, none⟩) hsl).trans c2; have f2' := (hb5.frozen (p := ⟨sb2, l * 3 + 2, none⟩) hsl).trans f2))
            all_goals
              have hb5' : Below wr.heap.size wr w5 := (Below.refl _ _).drew.trans hb5
              obtain ⟨n1, n2⟩ := ((HPT.out.retag (tg' := fun g => if wr.heap.size ≤ g then 2 * l + 5 else tg g) (fun b' hb' => if_neg (by omega))).next hb5').setRoot rfl HQK.out (A := A5) (n := xk.n) (c := c5) ⟨hc5, ⟨by omega, by unfold maxLen at hm5; omega⟩, .inr ⟨own_base ho5 hbw.size, fun g hg => if_pos (ho5.lt g hg).1⟩⟩
              have hne : some bo ≠ some sb2 := fun e => hBr.ty.ne (own_block HPT.out.snaps (b := sb2) rfl) (by decide) (by injection e)
              have hne2 : some (w.heap.size + 1) ≠ some sb2 := fun e => (TypeB.ne ⟨_, _, hZr.heap⟩ (own_block HPT.out.snaps (b := sb2) rfl) (by decide)) (by injection e)
              have hbx5 := ((show Box wr bo m.guest ⟨rA2, rn2, rc2, some ⟨sb, 0, none⟩, k, sc2, fA2, fn2, fc2, some ⟨sb2, 0, none⟩, pn2, pc2⟩ from ⟨b0, b1, b2, b3, b4⟩).keep hb5' hbl).kept n2 hne
              have hB5 := (hBr.next hb5').kept n2 hne
              have hZ5 := hZr.next hb5'
              have hZ6 : ZB (w5.setCell ⟨sb2, l * 3 + 2, none⟩ (.slice A5 xk.n c5)) (w.heap.size + 1) := ⟨(n2.block _ (Array.getElem?_eq_some_iff.1 hZ5.heap).1 hne2).trans hZ5.heap⟩
              have hb6 := (below_next hbw hb5').grown n2 (Nat.le_trans hbw.size hb5'.size) (fun j e => by injection e with e; omega)
              clear b0 b1 b2 b3 b4 b4' c2' f2' c2 f2
              go_wp2_with fail
              go_roundw
              case rel => exact ⟨l + 1, _, _, by omega, by go_num, n1, hbx5, hB5, hZ6, hb6⟩
              case measure => simp [intOf]; omega
          · have HO := Lib.hid (hpt.own (Nat.le_refl _) (by show pn2 ≤ l; omega))
            have h5 := five hZr.box.1 hZr.box.2 m.guest ⟨rA2, rn2, rc2, some ⟨sb, 0, none⟩, k, sc2, fA2, fn2, fc2, pA2, pn2, pc2⟩
            have hfin := Lib.hid (HO.out.kept h5.2.2 hZr.box.1.ty (by decide) (by decide) (by decide))
            have hbf := Lib.hid (hbw.grown h5.2.2 hbw.size (fun j e => by injection e with e; omega))
            have HK := Lib.hid h5.1
            obtain ⟨y0, y1, y2, y3, y4⟩ := hZr.cells
            obtain ⟨x0, x1, x2, x3, x4⟩ := hZr.froz
            clear hpt HPT h5
            go_wp2_with fail
            obtain ⟨k0, k1, k2, k3, k4⟩ := HK.out
            refine bodyPost_ret (v := imgV m ⟨rA2, rn2, rc2, some ⟨sb, 0, none⟩, k, sc2, fA2, fn2, fc2, pA2, pn2, pc2⟩) ?_ rfl ⟨_, tg, q, p, rfl, hfin.out, hbf.out⟩
            simp [results, Try.results44, go_sem, k0, k1, k2, k3, k4]
end Go.Proofs.Ytmdjoafbckphfaa
