/- turned: an image is changed, or is full. Conditions: the image is right; what is handed to it answers as TurnRes says. -/
import Derived.Test.YtmdjoafbckphfaaMend1
import Derived.Test.YtmdjoafbckphfaaWTurn
import Derived.Defers
import Derived.Recover
import Derived.Laws.Pointers
namespace Go.Proofs.Ytmdjoafbckphfaa
open Go.RowKit Sl
theorem assert_nil (w : World) : (Instr.typeAssert .nilIface 20 95 true).run Try.prog w = .ok (.tuple #[.agg #[], .bool false]) w := by kernel_rfl
theorem assert_full (w : World) : (Instr.typeAssert fullV 20 95 true).run Try.prog w = .ok (.tuple #[.agg #[], .bool true]) w := by kernel_rfl
set_option maxRecDepth 100000 in
set_option maxHeartbeats 1000000 in
theorem catch_idle (ob eb : Nat) (w : World) :
    CallsD Try.prog 60 #[.pointer (some ⟨ob, 0, none⟩), .pointer (some ⟨eb, 0, none⟩)] .returning w fun e u' w' => e = .returned (.tuple #[]) ∧ u' = .returning ∧ Below w.heap.size w w' := by
  have ha := assert_nil w
  refine callsD_of_wpS Try.func60 rfl fun c₀ cs hu => ?_
  apply wpS_seq
  apply wpS_region
  simp [wpOpsS, go_sem, recoverD, hu, Try.ntmps60, Exit.thenS]
  apply wpS_seq
  apply wpS_region
  simp [wpOpsS, go_sem, ha, Exit.thenS]
  apply wpS_seq
  apply wpS_region
  simp [wpOpsS, go_sem, Exit.thenS]
  refine wpS_cond (t := false) (by simp [Act.eval, Array.replicate]) ?_
  simp only [Bool.false_eq_true, if_false]
  apply wpS_seq
  apply wpS_region
  simp [wpOpsS, go_sem, Exit.thenS]
  refine wpS_cond (t := false) (by simp [Act.eval, Array.replicate]) ?_
  simp only [Bool.false_eq_true, if_false]
  refine wpS_of_wp (wp_skip ?_)
  have hb := below1 w (.cells #[] 95)
  cases c₀
  simp_all [bodyPostS, results, Try.results60]
set_option maxRecDepth 100000 in
set_option maxHeartbeats 1000000 in
theorem catch_full (ob eb : Nat) (older : List PanicEntry) (w : World) (hz : ZB w ob) (he : w.cell? ⟨eb, 0, none⟩ = some (.int .i64 0)) (hn : eb ≠ ob) (hel : eb < w.heap.size) (hfz : (w.alloc (.cells #[] 95)).frozen? ⟨eb, 0, none⟩ = false) :
    CallsD Try.prog 60 #[.pointer (some ⟨ob, 0, none⟩), .pointer (some ⟨eb, 0, none⟩)] (.panicking ({ v := fullV, recovered := false } :: older)) w fun e u' w' => e = .returned (.tuple #[]) ∧ u' = .panicking ({ v := fullV, recovered := true } :: older) ∧
      w' = ((((((w.alloc (.cells #[] 95)).setCell ⟨ob, 0, none⟩ (.int .i64 0)).setCell ⟨ob, 1, none⟩ (.slice none 0 0)).setCell ⟨ob, 2, none⟩ (.slice none 0 0)).setCell ⟨ob, 3, none⟩ (.slice none 0 0)).setCell ⟨ob, 4, none⟩ (.slice none 0 0)).setCell ⟨eb, 0, none⟩ (.int .i64 7) := by
  have ha := assert_full w
  have hZ := hz.next (below1 w (.cells #[] 95))
  obtain ⟨y0, y1, y2, y3, y4⟩ := hZ.cells
  obtain ⟨x0, x1, x2, x3, x4⟩ := hZ.froz
  have hn' : ob ≠ eb := fun e => hn e.symm
  have he1 := ((below1 w (.cells #[] 95)).cell (p := ⟨eb, 0, none⟩) hel).trans he
  refine callsD_of_wpS Try.func60 rfl fun c₀ cs hu => ?_
  apply wpS_seq
  apply wpS_region
  simp [wpOpsS, go_sem, recoverD, hu, Try.ntmps60, Exit.thenS]
  apply wpS_seq
  apply wpS_region
  simp [wpOpsS, go_sem, ha, Exit.thenS]
  generalize w.alloc (.cells #[] 95) = w1 at *
  apply wpS_seq
  apply wpS_region
  simp [wpOpsS, go_sem, Exit.thenS]
  refine wpS_cond (t := true) (by simp [Act.eval, Array.replicate]) ?_
  simp only [if_true]
  apply wpS_region
  simp [wpOpsS, go_sem, y0, y1, y2, y3, y4, x0, x1, x2, x3, x4, he1, hfz, bodyPostS, results, Try.results60]
/-- An image of new blocks, or none. -/
def Fresh (w : World) (B : Nat) (v : IV) (m : Img) : Prop := (m = noImg ∧ v = noV) ∨ ∃ base tg q p, B ≤ base ∧ OwnI w base tg v q p m
theorem Fresh.imgR {w : World} {B : Nat} {v : IV} {m : Img} (h : Fresh w B v m) : ImgR w w.heap.size v m := by
  rcases h with ⟨rfl, rfl⟩ | ⟨_, _, _, _, _, h⟩
  · exact noImg_R w
  · exact h.imgR
theorem Fresh.kept {w w' : World} {B : Nat} {v : IV} {m : Img} (h : Fresh w B v m) {b : Nat} {T : TypeId} (hg : w.grownBy w' (some b)) (hT : TypeB w b T) (h1 : T ≠ 3) (h2 : T ≠ 80) (h3 : T ≠ 83) : Fresh w' B v m :=
  h.imp id fun ⟨_, _, _, _, hb, ho⟩ => ⟨_, _, _, _, hb, ho.kept hg hT h1 h2 h3⟩
theorem Fresh.mono {w : World} {B C : Nat} {v : IV} {m : Img} (h : Fresh w B v m) (hc : C ≤ B) : Fresh w C v m := h.imp id fun ⟨_, _, _, _, hb, ho⟩ => ⟨_, _, _, _, Nat.le_trans hc hb, ho⟩
/-- What a function answers that makes an image of its own, and an error. -/
def ImgOwn (base : Nat) (m : Img) (er : Int) (w : World) (e : Ending) (w' : World) : Prop := ∃ v', e = .returned (.tuple #[imgV m v', .int .i64 er]) ∧ Fresh w' base v' m ∧ Below base w w'
/-- The image that turned answers, and its error. -/
def outV (o : Option Img) : Img := match o with | none => noImg | some x => settled x
def outE (o : Option Img) : Int := match o with | none => 7 | some _ => 0
/-- The error's cell: it holds 0. -/
structure ErrB (W : World) (b : Nat) : Prop where
  heap : W.heap[b]? = some (.cells #[.int .i64 0] 30 (0, 0))
theorem ErrB.new (W : World) : ErrB (W.alloc (.cells #[.int .i64 0] 30)) W.heap.size := ⟨heap_alloc_new W _⟩
theorem ErrB.next {W W' : World} {b B : Nat} (h : ErrB W b) (hb : Below B W W') (hl : b < B) : ErrB W' b := ⟨(hb.block b hl).trans h.heap⟩
theorem ZB.nextB {W W' : World} {b B : Nat} (h : ZB W b) (hb : Below B W W') (hl : b < B) : ZB W' b := ⟨(hb.block b hl).trans h.heap⟩
theorem ErrB.cell {W : World} {b : Nat} (h : ErrB W b) : W.cell? ⟨b, 0, none⟩ = some (.int .i64 0) := cell_of_row W b 0 _ _ _ h.heap
theorem ErrB.froz {W : World} {b : Nat} (h : ErrB W b) : W.frozen? ⟨b, 0, none⟩ = false := frozen_of_row W b 0 _ _ h.heap
theorem outs {w W : World} {ob eb base : Nat} {g : Int} {v : IV} (h : Box W ob g v) (he : W.heap[eb]? = some (.cells #[.int .i64 0] 30 (0, 0))) (hb : Below base w W) (hl : base ≤ eb) (hn : eb ≠ ob) (u : Int) :
    (W.setCell ⟨eb, 0, none⟩ (.int .i64 u)).cell? ⟨ob, 0, none⟩ = some (.int .i64 g) ∧ (W.setCell ⟨eb, 0, none⟩ (.int .i64 u)).cell? ⟨ob, 1, none⟩ = some (.slice v.rA v.rn v.rc) ∧ (W.setCell ⟨eb, 0, none⟩ (.int .i64 u)).cell? ⟨ob, 2, none⟩ = some (.slice v.sA v.sn v.sc) ∧
    (W.setCell ⟨eb, 0, none⟩ (.int .i64 u)).cell? ⟨ob, 3, none⟩ = some (.slice v.fA v.fn v.fc) ∧ (W.setCell ⟨eb, 0, none⟩ (.int .i64 u)).cell? ⟨ob, 4, none⟩ = some (.slice v.pA v.pn v.pc) ∧ (W.setCell ⟨eb, 0, none⟩ (.int .i64 u)).cell? ⟨eb, 0, none⟩ = some (.int .i64 u) ∧ Below base w (W.setCell ⟨eb, 0, none⟩ (.int .i64 u)) ∧ eb < (W.setCell ⟨eb, 0, none⟩ (.int .i64 u)).heap.size := by
  obtain ⟨k0, k1, k2, k3, k4⟩ := h.kept (grown_set W eb 0 (.int .i64 u)) (fun e => hn (by injection e with e; exact e.symm))
  exact ⟨k0, k1, k2, k3, k4, cell_of_row _ _ 0 _ _ _ (heap_setCell_same W eb 0 _ _ _ he), hb.setCell (p := ⟨eb, 0, none⟩) hl _, (Array.getElem?_eq_some_iff.1 (heap_setCell_same W eb 0 _ _ (.int .i64 u) he)).1⟩
set_option maxRecDepth 100000 in
set_option maxHeartbeats 1000000 in
theorem turned_any (v : IV) (m : Img) (w : World) (h : ImgR w w.heap.size v m) (hm : checkErr m = 0) (F : Nat) (caps : Array Value) (hcall : ∀ (args : Array Value) (W : World), (callFunc F args).run Try.prog W = .ok (.enter F args) W) (o : Option Img) (hs : ∀ x, o = some x → CBd x ∧ Wired x)
    (hf : ∀ (base : Nat) (tg : Nat → Nat) (b : Nat) (v' : IV) (q : List SV) (p : List PV) (W : World), w.heap.size ≤ base → DeskAt W base tg b v' q p m → Below w.heap.size w W → Calls Try.prog F (#[.pointer (some ⟨b, 0, none⟩)] ++ caps) W (TurnRes base b o W)) :
    Calls Try.prog 38 #[imgV m v, .func (.func F) #[] caps] w (ImgOwn w.heap.size (outV o) (outE o) w) := by
  have hcb := (sound_of (check_is hm).1).cbd
  have hrl := refs_len hm
  have K2 := Lib.hid (fun W (hb : Below w.heap.size w W) => own_any v m W (h.next hb) hcb (by rw [hrl]; exact hcb.slots))
  have hmf : ∀ (fn : Fn) (first cap : Array Value) (w : World), (Instr.makeFunc fn first cap).run Try.prog w = .ok (.func fn first cap) w := fun _ _ _ _ => rfl
  obtain ⟨rA, rn, rc, sA, sn, sc, fA, fn, fc, pA, pn, pc⟩ := v
  dsimp only [imgV] at K2 ⊢
  have HB1 := below1 w (.cells #[.int .i64 m.guest, .slice rA rn rc, .slice sA sn sc, .slice fA fn fc, .slice pA pn pc] 27)
  have HX1 := Box.new w m.guest ⟨rA, rn, rc, sA, sn, sc, fA, fn, fc, pA, pn, pc⟩ 27
  have HB3 := below_next (below_next HB1 (below1 _ (.cells #[.int .i64 0, .slice none 0 0, .slice none 0 0, .slice none 0 0, .slice none 0 0] 27))) (below1 _ (.cells #[.int .i64 0] 30))
  have HZ3 := (ZB.new (w.alloc (.cells #[.int .i64 m.guest, .slice rA rn rc, .slice sA sn sc, .slice fA fn fc, .slice pA pn pc] 27))).next (below1 _ (.cells #[.int .i64 0] 30))
  have HE3 := ErrB.new ((w.alloc (.cells #[.int .i64 m.guest, .slice rA rn rc, .slice sA sn sc, .slice fA fn fc, .slice pA pn pc] 27)).alloc (.cells #[.int .i64 0, .slice none 0 0, .slice none 0 0, .slice none 0 0, .slice none 0 0] 27))
  have hs3 : (((w.alloc (.cells #[.int .i64 m.guest, .slice rA rn rc, .slice sA sn sc, .slice fA fn fc, .slice pA pn pc] 27)).alloc (.cells #[.int .i64 0, .slice none 0 0, .slice none 0 0, .slice none 0 0, .slice none 0 0] 27)).alloc (.cells #[.int .i64 0] 30)).heap.size = w.heap.size + 1 + 1 + 1 := by simp only [World.size_alloc]
  simp only [World.size_alloc] at HZ3 HE3
  have HF := Lib.hid hf
  have HSS := Lib.hid hs
  clear h hm hcb hrl hf hs
  go_enter_defers Try.func38, Try.ntmps38
  go_wp2_with fail
  generalize (((w.alloc (.cells #[.int .i64 m.guest, .slice rA rn rc, .slice sA sn sc, .slice fA fn fc, .slice pA pn pc] 27)).alloc (.cells #[.int .i64 0, .slice none 0 0, .slice none 0 0, .slice none 0 0, .slice none 0 0] 27)).alloc (.cells #[.int .i64 0] 30)) = W3 at *
  refine (K2.out _ HB3).mono ?_
  rintro e w2 ⟨v2, tg, q, p, rfl, ho2, hb2⟩
  have Z2 := Lib.hid (HZ3.nextB hb2 (by omega))
  have E2 := Lib.hid (HE3.next hb2 (by omega))
  have T2 := Lib.hid (below_next HB3 hb2)
  have hz2 := hb2.size
  have HO := Lib.hid ho2
  clear ho2 K2 HB1 HB3 HZ3 HE3 hb2
  obtain ⟨rA2, rn2, rc2, sA2, sn2, sc2, fA2, fn2, fc2, pA2, pn2, pc2⟩ := v2
  dsimp only [imgV] at HO ⊢
  have HB4 := below1 w2 (.cells #[.int .i64 m.guest, .slice rA2 rn2 rc2, .slice sA2 sn2 sc2, .slice fA2 fn2 fc2, .slice pA2 pn2 pc2] 71)
  have hd := DeskAt.mk (HO.out.next HB4) (Box.new w2 m.guest ⟨rA2, rn2, rc2, sA2, sn2, sc2, fA2, fn2, fc2, pA2, pn2, pc2⟩ 71) (BoxG.new w2 #[.int .i64 m.guest, .slice rA2 rn2 rc2, .slice sA2 sn2 sc2, .slice fA2 fn2 fc2, .slice pA2 pn2 pc2] 71) hz2
  have T3 := below_next T2.out HB4
  have K3' := HF.out _ _ _ _ _ _ _ (by omega) hd T3
  have Z3 := Lib.hid (Z2.out.next HB4)
  have E3 := Lib.hid (E2.out.next HB4 (by omega))
  cases ho : o
  · subst ho
    have K3 := Lib.hid K3'
    clear K3' hd HB4 HO HF
    go_wp2_with fail
    refine K3.out.mono ?_
    rintro e w3 ⟨rfl, hb3⟩
    have Z4 := Z3.out.nextB hb3 (by omega)
    have E4 := E3.out.next hb3 (by omega)
    have T4 := T3.trans (hb3.mono (show w.heap.size ≤ W3.heap.size by omega))
    have hs4 : w.heap.size + 1 + 1 < w3.heap.size := (Array.getElem?_eq_some_iff.1 E4.heap).1
    have HB5 := below1 w3 (.cells #[] 95)
    have Z5 := Z4.next HB5
    have E5 := E4.next HB5 hs4
    have h5 := five Z5.box.1 Z5.box.2 0 noV
    have KC := Lib.hid (catch_full (w.heap.size + 1) (w.heap.size + 1 + 1) [] w3 Z4 E4.cell (by omega) hs4 E5.froz)
    have hb6 := (below_next T4 HB5).grown h5.2.2 (by have := HB5.size; omega) (fun j e => by injection e with e; omega)
    have hee := (h5.2.2.block _ (by have := HB5.size; omega) (fun e => by injection e with e; omega)).trans E5.heap
    have F6 := Lib.hid (outs h5.1 hee hb6 (by omega) (by omega) 7)
    dsimp only [noV] at F6
    clear Z4 E4 T4 HB5 Z5 E5 h5 hb6 K3 hb3 T3 Z3 E3 hee
    show bodyPostD _ _ _ _ _ _
    refine leaves_cons (f := 60) (args := #[.pointer (some ⟨w.heap.size + 1, 0, none⟩), .pointer (some ⟨w.heap.size + 1 + 1, 0, none⟩)]) (by simp) (by simp [go_sem]) ?_
    refine KC.out.mono ?_
    rintro e u' w6 ⟨rfl, rfl, e6⟩
    rw [← e6] at F6
    obtain ⟨k0, k1, k2, k3, k4, k5, hb6, _⟩ := F6.out
    clear e6 KC
    simp [Leaves, settle, results, Try.results38, go_sem, k0, k1, k2, k3, k4, k5]
    exact ⟨noV, rfl, .inl ⟨rfl, rfl⟩, hb6⟩
  · rename_i x
    subst ho
    have K3 := Lib.hid K3'
    clear K3' hd HB4 HO HF
    obtain ⟨hc, hwi⟩ := HSS.out x rfl
    go_wp2_with fail
    refine K3.out.mono ?_
    rintro e w3 ⟨rfl, ⟨tg3, v3, q3, p3, hd3⟩, hb3⟩
    have Z4 := Z3.out.nextB hb3 (by omega)
    have E4 := E3.out.next hb3 (by omega)
    have T4 := T3.trans (hb3.mono (show w.heap.size ≤ W3.heap.size by omega))
    have hs4 : w.heap.size + 1 + 1 < w3.heap.size := (Array.getElem?_eq_some_iff.1 E4.heap).1
    have K5 := Lib.hid (settleG_any 71 (by decide) (by decide) (by decide) w2.heap.size W3.heap.size tg3 v3 q3 p3 x w3 hd3.own hd3.box hd3.ty hd3.lo hc hwi)
    have HT4 := Lib.hid T4
    have Z4 := Lib.hid Z4
    have E4 := Lib.hid E4
    clear K3 hb3 T3 Z3 E3 hd3 T4 hc hwi
    go_wp2_with fail
    refine K5.out.mono ?_
    rintro e w5 ⟨rfl, v5, tg5, q5, X5, I5, G5, hb5⟩
    have Z5 := Z4.out.nextB hb5 (by omega)
    have E5 := E4.out.next hb5 (by omega)
    have T5 := HT4.out.trans (hb5.mono (show w.heap.size ≤ W3.heap.size by omega))
    have hs5 : w.heap.size + 1 + 1 < w5.heap.size := (Array.getElem?_eq_some_iff.1 E5.heap).1
    have h5 := five Z5.box.1 Z5.box.2 x.guest v5
    have I6 := (I5.kept h5.2.2 Z5.box.1.ty (by decide) (by decide) (by decide))
    have hb6 := T5.grown h5.2.2 T5.size (fun j e => by injection e with e; omega)
    have hee := (h5.2.2.block _ hs5 (fun e => by injection e with e; omega)).trans E5.heap
    have c7 := cell_of_row _ _ 0 _ _ _ hee
    have f7 := frozen_of_row _ _ 0 _ _ hee
    have I7 := Lib.hid (I6.kept (grown_set _ (w.heap.size + 1 + 1) 0 (.int .i64 0)) ⟨_, _, hee⟩ (by decide) (by decide) (by decide))
    have F6 := Lib.hid (outs h5.1 hee hb6 (by omega) (by omega) 0)
    have KI := Lib.hid (fun W => catch_idle (w.heap.size + 1) (w.heap.size + 1 + 1) W)
    obtain ⟨b0, b1, b2, b3, b4⟩ := X5
    obtain ⟨y0, y1, y2, y3, y4⟩ := Z5.cells
    obtain ⟨x0, x1, x2, x3, x4⟩ := Z5.froz
    clear K5 HT4 Z4 E4 Z5 E5 T5 h5 I5 I6 G5 hb5 hb6 hee HSS
    go_wp2_with fail
    generalize ((((((w5.setCell ⟨w.heap.size + 1, 0, none⟩ (.int .i64 x.guest)).setCell ⟨w.heap.size + 1, 1, none⟩ (.slice v5.rA v5.rn v5.rc)).setCell ⟨w.heap.size + 1, 2, none⟩ (.slice v5.sA v5.sn v5.sc)).setCell ⟨w.heap.size + 1, 3, none⟩ (.slice v5.fA v5.fn v5.fc)).setCell ⟨w.heap.size + 1, 4, none⟩ (.slice v5.pA v5.pn v5.pc)).setCell ⟨w.heap.size + 1 + 1, 0, none⟩ (.int .i64 0)) = W6 at *
    refine leaves_cons (f := 60) (args := #[.pointer (some ⟨w.heap.size + 1, 0, none⟩), .pointer (some ⟨w.heap.size + 1 + 1, 0, none⟩)]) (by simp) (by simp [go_sem]) ?_
    refine (KI.out W6).mono ?_
    rintro e u' w7 ⟨rfl, rfl, hb7⟩
    obtain ⟨k0, k1, k2, k3, k4, k5, hb6, hl6⟩ := F6.out
    have mv : ∀ {j : Nat} {b : Nat} {u : Value}, b < W6.heap.size → W6.cell? ⟨b, j, none⟩ = some u → w7.cell? ⟨b, j, none⟩ = some u := fun {j b u} hl h => (hb7.cell (p := ⟨b, j, none⟩) hl).trans h
    have k0 := mv (by omega) k0
    have k1 := mv (by omega) k1
    have k2 := mv (by omega) k2
    have k3 := mv (by omega) k3
    have k4 := mv (by omega) k4
    have k5 := mv hl6 k5
    have I8 := Lib.hid (I7.out.next hb7)
    have HB8 := Lib.hid (below_next hb6 hb7)
    clear mv hb6 hb7 I7 F6
    simp [Leaves, settle, results, Try.results38, go_sem, k0, k1, k2, k3, k4, k5]
    exact ⟨v5, rfl, .inr ⟨_, _, _, _, by omega, I8.out⟩, HB8.out⟩
end Go.Proofs.Ytmdjoafbckphfaa
