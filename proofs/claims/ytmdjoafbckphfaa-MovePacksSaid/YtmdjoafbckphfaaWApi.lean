/- The texts WJoin, WApi, WApi2 in one. Conditions: as each says. -/
import Derived.Test.YtmdjoafbckphfaaWWrite
import Derived.Test.YtmdjoafbckphfaaWTurned
import Derived.Test.YtmdjoafbckphfaaCheck
import Derived.Test.YtmdjoafbckphfaaWRes
-- WJoin: What Write hands to turned: all its ways joined. Conditions: the desk holds an image that is right; the page is one of it.
namespace Go.Proofs.Ytmdjoafbckphfaa
open Go.RowKit Sl
theorem writefn_any (base : Nat) (tg : Nat → Nat) (b : Nat) (v : IV) (q : List SV) (p : List PV) (m : Img) (nb wb pb n : Nat) (pg : ByteArray) (w : World) (h : WAt w base tg b v q p m nb wb pb n pg) :
    Calls Try.prog 50 #[.pointer (some ⟨b, 0, none⟩), .pointer (some ⟨nb, 0, none⟩), .pointer (some ⟨wb, 0, none⟩), .pointer (some ⟨pb, 0, none⟩)] w (TurnRes base b (writeM m n pg) w) := by
  rcases root_facts h.right h.page with h0 | ⟨j, s, hj, hj1, hs, _, _⟩
  · by_cases hg : grab m.slots = 0
    · exact writeC_zero_full base tg b v q p m nb wb pb n pg w h h0 hg
    · by_cases hg2 : grab (laid m.slots (grab m.slots) (tslot [-1, 0, 0, 0])) = 0
      · exact writeC_zero_full2 base tg b v q p m nb wb pb n pg w h h0 hg hg2
      · exact writeC_zero_ok base tg b v q p m nb wb pb n pg w h h0 hg hg2
  · have hjl := (List.getElem?_eq_some_iff.1 hs).1
    by_cases hr : int m.refs j = 1
    · obtain ⟨l1, l2⟩ := look_page h.right n
      by_cases he : 0 < entryOf m.slots m.root n
      · obtain ⟨d, sd, e, hd, _⟩ := l2 he
        have hd1 : 1 ≤ d := by omega
        by_cases hr2 : int m.refs d = 1
        · exact writeA base tg b v q p m nb wb pb n pg w h j d sd hj hj1 hjl hr e hd1 hd hr2
        · by_cases hg : grab m.slots = 0
          · exact writeB_shared_full base tg b v q p m nb wb pb n pg w h j hj hj1 hjl hr d sd e hd1 hd hr2 hg
          · exact writeB_shared_ok base tg b v q p m nb wb pb n pg w h j hj hj1 hjl hr d sd e hd1 hd hr2 hg
      · by_cases hg : grab m.slots = 0
        · exact writeB_low_full base tg b v q p m nb wb pb n pg w h j hj hj1 hjl hr (by omega) hg
        · exact writeB_low_ok base tg b v q p m nb wb pb n pg w h j hj hj1 hjl hr (by omega) hg
    · by_cases hg : grab m.slots = 0
      · exact writeC_shared_full base tg b v q p m nb wb pb n pg w h j hj hj1 hjl hr hg
      · by_cases hg2 : grab (laid m.slots (grab m.slots) (tslot [-1, 0, 0, 0])) = 0
        · exact writeC_shared_full2 base tg b v q p m nb wb pb n pg w h j hj hj1 hjl hr hg hg2
        · exact writeC_shared_ok base tg b v q p m nb wb pb n pg w h j hj hj1 hjl hr hg hg2
end Go.Proofs.Ytmdjoafbckphfaa
-- WApi: Write. Conditions: the image is read below the heap's size.
namespace Go.Proofs.Ytmdjoafbckphfaa
open Go.RowKit Sl
theorem outI {w W : World} {ob base B : Nat} {v : IV} {X : Img} (hz : ZB W ob) (hF : Fresh W B v X) (hb : Below base w W) (hbw : base ≤ w.heap.size) (hl : base ≤ ob) :
    Box (((((W.setCell ⟨ob, 0, none⟩ (.int .i64 X.guest)).setCell ⟨ob, 1, none⟩ (.slice v.rA v.rn v.rc)).setCell ⟨ob, 2, none⟩ (.slice v.sA v.sn v.sc)).setCell ⟨ob, 3, none⟩ (.slice v.fA v.fn v.fc)).setCell ⟨ob, 4, none⟩ (.slice v.pA v.pn v.pc)) ob X.guest v ∧
    Fresh (((((W.setCell ⟨ob, 0, none⟩ (.int .i64 X.guest)).setCell ⟨ob, 1, none⟩ (.slice v.rA v.rn v.rc)).setCell ⟨ob, 2, none⟩ (.slice v.sA v.sn v.sc)).setCell ⟨ob, 3, none⟩ (.slice v.fA v.fn v.fc)).setCell ⟨ob, 4, none⟩ (.slice v.pA v.pn v.pc)) B v X ∧
    Below base w (((((W.setCell ⟨ob, 0, none⟩ (.int .i64 X.guest)).setCell ⟨ob, 1, none⟩ (.slice v.rA v.rn v.rc)).setCell ⟨ob, 2, none⟩ (.slice v.sA v.sn v.sc)).setCell ⟨ob, 3, none⟩ (.slice v.fA v.fn v.fc)).setCell ⟨ob, 4, none⟩ (.slice v.pA v.pn v.pc)) := by
  have h5 := five hz.box.1 hz.box.2 X.guest v
  exact ⟨h5.1, hF.kept h5.2.2 hz.box.1.ty (by decide) (by decide) (by decide), hb.grown h5.2.2 (Nat.le_trans hbw hb.size) (fun j e => by injection e with e; omega)⟩
def writeE (m : Img) (n : Int) (pg : ByteArray) : Int := if lookE m n = 0 then (if pg.size = 4 then outE (writeM m n.toNat pg) else 1) else lookE m n
def writeI (m : Img) (n : Int) (pg : ByteArray) : Img := if lookE m n = 0 ∧ pg.size = 4 then outV (writeM m n.toNat pg) else noImg
/-- Boxes made at the entry: the image's, two of one cell each, the result's. -/
theorem boxes4 (w : World) (g : Int) (v : IV) (x y : Value) (T U : TypeId) :
    Below w.heap.size w ((((w.alloc (.cells #[.int .i64 g, .slice v.rA v.rn v.rc, .slice v.sA v.sn v.sc, .slice v.fA v.fn v.fc, .slice v.pA v.pn v.pc] 27)).alloc (.cells #[x] T)).alloc (.cells #[y] U)).alloc (.cells #[.int .i64 0, .slice none 0 0, .slice none 0 0, .slice none 0 0, .slice none 0 0] 27)) ∧
    Box ((((w.alloc (.cells #[.int .i64 g, .slice v.rA v.rn v.rc, .slice v.sA v.sn v.sc, .slice v.fA v.fn v.fc, .slice v.pA v.pn v.pc] 27)).alloc (.cells #[x] T)).alloc (.cells #[y] U)).alloc (.cells #[.int .i64 0, .slice none 0 0, .slice none 0 0, .slice none 0 0, .slice none 0 0] 27)) w.heap.size g v ∧
    ((((w.alloc (.cells #[.int .i64 g, .slice v.rA v.rn v.rc, .slice v.sA v.sn v.sc, .slice v.fA v.fn v.fc, .slice v.pA v.pn v.pc] 27)).alloc (.cells #[x] T)).alloc (.cells #[y] U)).alloc (.cells #[.int .i64 0, .slice none 0 0, .slice none 0 0, .slice none 0 0, .slice none 0 0] 27)).cell? ⟨w.heap.size + 1, 0, none⟩ = some x ∧
    ((((w.alloc (.cells #[.int .i64 g, .slice v.rA v.rn v.rc, .slice v.sA v.sn v.sc, .slice v.fA v.fn v.fc, .slice v.pA v.pn v.pc] 27)).alloc (.cells #[x] T)).alloc (.cells #[y] U)).alloc (.cells #[.int .i64 0, .slice none 0 0, .slice none 0 0, .slice none 0 0, .slice none 0 0] 27)).cell? ⟨w.heap.size + 1 + 1, 0, none⟩ = some y ∧
    ZB ((((w.alloc (.cells #[.int .i64 g, .slice v.rA v.rn v.rc, .slice v.sA v.sn v.sc, .slice v.fA v.fn v.fc, .slice v.pA v.pn v.pc] 27)).alloc (.cells #[x] T)).alloc (.cells #[y] U)).alloc (.cells #[.int .i64 0, .slice none 0 0, .slice none 0 0, .slice none 0 0, .slice none 0 0] 27)) (w.heap.size + 1 + 1 + 1) ∧
    ((((w.alloc (.cells #[.int .i64 g, .slice v.rA v.rn v.rc, .slice v.sA v.sn v.sc, .slice v.fA v.fn v.fc, .slice v.pA v.pn v.pc] 27)).alloc (.cells #[x] T)).alloc (.cells #[y] U)).alloc (.cells #[.int .i64 0, .slice none 0 0, .slice none 0 0, .slice none 0 0, .slice none 0 0] 27)).heap.size = w.heap.size + 1 + 1 + 1 + 1 := by
  have hX := Box.new w g v 27
  have hB := below1 w (.cells #[.int .i64 g, .slice v.rA v.rn v.rc, .slice v.sA v.sn v.sc, .slice v.fA v.fn v.fc, .slice v.pA v.pn v.pc] 27)
  have s1 : (w.alloc (.cells #[.int .i64 g, .slice v.rA v.rn v.rc, .slice v.sA v.sn v.sc, .slice v.fA v.fn v.fc, .slice v.pA v.pn v.pc] 27)).heap.size = w.heap.size + 1 := World.size_alloc _ _
  generalize w.alloc (.cells #[.int .i64 g, .slice v.rA v.rn v.rc, .slice v.sA v.sn v.sc, .slice v.fA v.fn v.fc, .slice v.pA v.pn v.pc] 27) = w1 at *
  have b2 := below1 w1 (.cells #[x] T)
  have c2 := cell_of_row _ _ 0 _ _ _ (heap_alloc_new w1 (.cells #[x] T))
  have s2 : (w1.alloc (.cells #[x] T)).heap.size = w1.heap.size + 1 := World.size_alloc _ _
  generalize w1.alloc (.cells #[x] T) = w2 at *
  have b3 := below1 w2 (.cells #[y] U)
  have c3 := cell_of_row _ _ 0 _ _ _ (heap_alloc_new w2 (.cells #[y] U))
  have s3 : (w2.alloc (.cells #[y] U)).heap.size = w2.heap.size + 1 := World.size_alloc _ _
  generalize w2.alloc (.cells #[y] U) = w3 at *
  have b4 := below1 w3 (.cells #[.int .i64 0, .slice none 0 0, .slice none 0 0, .slice none 0 0, .slice none 0 0] 27)
  have z4 := ZB.new w3
  have s4 : (w3.alloc (.cells #[.int .i64 0, .slice none 0 0, .slice none 0 0, .slice none 0 0, .slice none 0 0] 27)).heap.size = w3.heap.size + 1 := World.size_alloc _ _
  generalize w3.alloc (.cells #[.int .i64 0, .slice none 0 0, .slice none 0 0, .slice none 0 0, .slice none 0 0] 27) = w4 at *
  have e3 : w3.heap.size = w.heap.size + 1 + 1 + 1 := by omega
  have e2 : w2.heap.size = w.heap.size + 1 + 1 := by omega
  refine ⟨below_next (below_next (below_next hB b2) b3) b4, ((hX.keep b2 (by omega)).keep b3 (by omega)).keep b4 (by omega), ?_, ?_, by rw [← e3]; exact z4, by omega⟩
  · rw [← s1]
    exact (b4.cell (p := ⟨w1.heap.size, 0, none⟩) (show w1.heap.size < _ by omega)).trans ((b3.cell (p := ⟨w1.heap.size, 0, none⟩) (show w1.heap.size < _ by omega)).trans c2)
  · rw [← e2]
    exact (b4.cell (p := ⟨w2.heap.size, 0, none⟩) (show w2.heap.size < _ by omega)).trans c3
/-- A box of one number. -/
theorem boxI (w : World) (y : Int) : Below w.heap.size w (w.alloc (.cells #[.int .i64 y] 3)) ∧ (w.alloc (.cells #[.int .i64 y] 3)).cell? ⟨w.heap.size, 0, none⟩ = some (.int .i64 y) ∧ (w.alloc (.cells #[.int .i64 y] 3)).heap.size = w.heap.size + 1 :=
  ⟨below1 w _, cell_of_row _ _ 0 _ _ _ (heap_alloc_new w _), World.size_alloc _ _⟩
theorem page_root {m : Img} (hm : checkErr m = 0) {n : Nat} (hn : (n : Int) < m.guest) : n / 4 < m.root.length := by
  have h := (own_facts hm).2.2
  unfold rootFine at h
  simp only [Bool.and_eq_true, decide_eq_true_eq] at h
  have := h.1
  unfold wants at this
  omega
set_option maxRecDepth 100000 in
set_option maxHeartbeats 1000000 in
theorem write_no (v : IV) (m : Img) (n : Int) (pg : ByteArray) (w : World) (h : ImgR w w.heap.size v m) (he : lookE m n ≠ 0) :
    Calls Try.prog 25 #[imgV m v, .int .i64 n, .string pg] w (ImgOwn w.heap.size noImg (lookE m n) w) := by
    have K1' := fun W (hb : Below w.heap.size w W) => tlook_any v m n W (h.next hb)
    obtain ⟨f1, f2, f3, f4, f5, f6⟩ := boxes4 w m.guest v (.int .i64 n) (.string pg) 3 9
    have lz : (lookE m n != 0) = true := by simpa using he
    generalize lookE m n = er at *
    obtain ⟨rA, rn, rc, sA, sn, sc, fA, fn, fc, pA, pn, pc⟩ := v
    dsimp only [imgV] at K1' f1 f2 f3 f4 f5 f6 ⊢
    have K1 := Lib.hid K1'
    clear K1' h he
    obtain ⟨x0, x1, x2, x3, x4⟩ := f2
    dsimp only at x0 x1 x2 x3 x4
    go_enter Try.func25, Try.ntmps25
    go_wp2_with fail
    generalize ((((w.alloc (.cells #[.int .i64 m.guest, .slice rA rn rc, .slice sA sn sc, .slice fA fn fc, .slice pA pn pc] 27)).alloc (.cells #[.int .i64 n] 3)).alloc (.cells #[.string pg] 9)).alloc (.cells #[.int .i64 0, .slice none 0 0, .slice none 0 0, .slice none 0 0, .slice none 0 0] 27)) = W4 at *
    refine (K1.out _ f1).mono ?_
    rintro e w5 ⟨rfl, hb5⟩
    have B5 := below_next f1 hb5
    have Z5 := f5.nextB hb5 (by omega)
    obtain ⟨g1, g2, g3⟩ := boxI w5 (lookN m n)
    have B6 := below_next B5 g1
    have Z6 := Z5.next g1
    obtain ⟨y0, y1, y2, y3, y4⟩ := Z6.cells
    obtain ⟨q0, q1, q2, q3, q4⟩ := Z6.froz
    have O := outI Z6 (X := noImg) (v := noV) (B := w.heap.size) (.inl ⟨rfl, rfl⟩) B6 (Nat.le_refl _) (by omega)
    dsimp only [noImg, noV] at O
    obtain ⟨⟨k0, k1, k2, k3, k4⟩, hF, hB⟩ := O
    have HK := Lib.hid (And.intro k0 (And.intro k1 (And.intro k2 (And.intro k3 (And.intro k4 (And.intro hF hB))))))
    clear x0 x1 x2 x3 x4 f1 f3 f4 f5 K1 Z5 Z6 B5 B6 hb5 g1 k0 k1 k2 k3 k4 hF hB
    go_wp2_with fail
    obtain ⟨k0, k1, k2, k3, k4, hF, hB⟩ := HK.out
    refine bodyPost_ret (v := .tuple #[imgV noImg noV, .int .i64 er]) ?_ rfl ⟨noV, rfl, hF, hB⟩
    simp [results, Try.results25, go_sem, imgV, noImg, noV, k0, k1, k2, k3, k4]
set_option maxRecDepth 100000 in
set_option maxHeartbeats 1000000 in
theorem write_form (v : IV) (m : Img) (n : Int) (pg : ByteArray) (w : World) (h : ImgR w w.heap.size v m) (he : lookE m n = 0) (hp : pg.size ≠ 4) :
    Calls Try.prog 25 #[imgV m v, .int .i64 n, .string pg] w (ImgOwn w.heap.size noImg 1 w) := by
    have K1' := fun W (hb : Below w.heap.size w W) => tlook_any v m n W (h.next hb)
    obtain ⟨f1, f2, f3, f4, f5, f6⟩ := boxes4 w m.guest v (.int .i64 n) (.string pg) 3 9
    rw [he] at K1'
    have g4 : ((pg.size : Int) != 4) = true := by simp; omega
    obtain ⟨rA, rn, rc, sA, sn, sc, fA, fn, fc, pA, pn, pc⟩ := v
    dsimp only [imgV] at K1' f1 f2 f3 f4 f5 f6 ⊢
    have K1 := Lib.hid K1'
    clear K1' h he hp
    obtain ⟨x0, x1, x2, x3, x4⟩ := f2
    dsimp only at x0 x1 x2 x3 x4
    go_enter Try.func25, Try.ntmps25
    go_wp2_with fail
    generalize ((((w.alloc (.cells #[.int .i64 m.guest, .slice rA rn rc, .slice sA sn sc, .slice fA fn fc, .slice pA pn pc] 27)).alloc (.cells #[.int .i64 n] 3)).alloc (.cells #[.string pg] 9)).alloc (.cells #[.int .i64 0, .slice none 0 0, .slice none 0 0, .slice none 0 0, .slice none 0 0] 27)) = W4 at *
    refine (K1.out _ f1).mono ?_
    rintro e w5 ⟨rfl, hb5⟩
    have B5 := below_next f1 hb5
    have Z5 := f5.nextB hb5 (by omega)
    obtain ⟨g1, g2, g3⟩ := boxI w5 (lookN m n)
    have B6 := below_next B5 g1
    have Z6 := Z5.next g1
    have hz5 := hb5.size
    have mv : ∀ {b j : Nat} {u : Value}, b < W4.heap.size → W4.cell? ⟨b, j, none⟩ = some u → (w5.alloc (.cells #[.int .i64 (lookN m n)] 3)).cell? ⟨b, j, none⟩ = some u := fun {b j u} hl h => (g1.cell (p := ⟨b, j, none⟩) (show b < w5.heap.size by omega)).trans ((hb5.cell (p := ⟨b, j, none⟩) hl).trans h)
    have p4 := mv (by omega) f4
    obtain ⟨y0, y1, y2, y3, y4⟩ := Z6.cells
    obtain ⟨q0, q1, q2, q3, q4⟩ := Z6.froz
    have O := outI Z6 (X := noImg) (v := noV) (B := w.heap.size) (.inl ⟨rfl, rfl⟩) B6 (Nat.le_refl _) (by omega)
    dsimp only [noImg, noV] at O
    obtain ⟨⟨k0, k1, k2, k3, k4⟩, hF, hB⟩ := O
    have HK := Lib.hid (And.intro k0 (And.intro k1 (And.intro k2 (And.intro k3 (And.intro k4 (And.intro hF hB))))))
    clear mv x0 x1 x2 x3 x4 f1 f3 f4 f5 K1 Z5 Z6 B5 B6 hb5 g1 k0 k1 k2 k3 k4 hF hB
    go_wp2_with fail
    obtain ⟨k0, k1, k2, k3, k4, hF, hB⟩ := HK.out
    refine bodyPost_ret (v := .tuple #[imgV noImg noV, .int .i64 1]) ?_ rfl ⟨noV, rfl, hF, hB⟩
    simp [results, Try.results25, go_sem, imgV, noImg, noV, k0, k1, k2, k3, k4]
set_option maxRecDepth 100000 in
set_option maxHeartbeats 1000000 in
theorem write_ok (v : IV) (m : Img) (n : Nat) (pg : ByteArray) (w : World) (h : ImgR w w.heap.size v m) (he : lookE m n = 0) (hp : pg.size = 4) (X : Img) (er : Int) (hX : outV (writeM m n pg) = X) (hE : outE (writeM m n pg) = er) (hw : ∀ x, writeM m n pg = some x → CBd x ∧ Wired x) :
    Calls Try.prog 25 #[imgV m v, .int .i64 n, .string pg] w (ImgOwn w.heap.size X er w) := by
    have K1' := fun W (hb : Below w.heap.size w W) => tlook_any v m n W (h.next hb)
    obtain ⟨f1, f2, f3, f4, f5, f6⟩ := boxes4 w m.guest v (.int .i64 n) (.string pg) 3 9
    obtain ⟨hm, h0, hn⟩ := look_is he
    obtain ⟨_, hl⟩ := look_ok hm hn
    rw [he, hl] at K1'
    have g4 : ((pg.size : Int) != 4) = false := by simp [hp]
    have hmf : ∀ (fn : Fn) (first cap : Array Value) (w : World), (Instr.makeFunc fn first cap).run Try.prog w = .ok (.func fn first cap) w := fun _ _ _ _ => rfl
    have KT := Lib.hid (fun (W : World) (hi : ImgR W W.heap.size v m) (nb wb pb : Nat) (b1 : nb < W.heap.size) (b2 : wb < W.heap.size) (b3 : pb < W.heap.size) (c1 : W.cell? ⟨nb, 0, none⟩ = some (.int .i64 n)) (c2 : W.cell? ⟨wb, 0, none⟩ = some (.int .i64 (entryOf m.slots m.root n))) (c3 : W.cell? ⟨pb, 0, none⟩ = some (.string pg)) =>
      turned_any v m W hi hm 50 #[.pointer (some ⟨nb, 0, none⟩), .pointer (some ⟨wb, 0, none⟩), .pointer (some ⟨pb, 0, none⟩)] (fun _ _ => by kernel_rfl) (writeM m n pg) hw
        (fun base tg b v' q p W' hb hd hB => writefn_any base tg b v' q p m nb wb pb n pg W' ⟨hd, hm, page_root hm hn, hp, by omega, by omega, by omega, (hB.cell (p := ⟨nb, 0, none⟩) b1).trans c1, (hB.cell (p := ⟨wb, 0, none⟩) b2).trans c2, (hB.cell (p := ⟨pb, 0, none⟩) b3).trans c3⟩))
    rw [hX, hE] at KT
    have HI := Lib.hid h
    obtain ⟨rA, rn, rc, sA, sn, sc, fA, fn, fc, pA, pn, pc⟩ := v
    dsimp only [imgV] at K1' f1 f2 f3 f4 f5 f6 ⊢
    have K1 := Lib.hid K1'
    clear K1' h he hp hX hE hw hl
    obtain ⟨x0, x1, x2, x3, x4⟩ := f2
    dsimp only at x0 x1 x2 x3 x4
    go_enter Try.func25, Try.ntmps25
    go_wp2_with fail
    generalize ((((w.alloc (.cells #[.int .i64 m.guest, .slice rA rn rc, .slice sA sn sc, .slice fA fn fc, .slice pA pn pc] 27)).alloc (.cells #[.int .i64 n] 3)).alloc (.cells #[.string pg] 9)).alloc (.cells #[.int .i64 0, .slice none 0 0, .slice none 0 0, .slice none 0 0, .slice none 0 0] 27)) = W4 at *
    refine (K1.out _ f1).mono ?_
    rintro e w5 ⟨rfl, hb5⟩
    have B5 := below_next f1 hb5
    have Z5 := f5.nextB hb5 (by omega)
    obtain ⟨g1, g2, g3⟩ := boxI w5 (entryOf m.slots m.root n)
    have B6 := below_next B5 g1
    have Z6 := Z5.next g1
    have hz5 := hb5.size
    have mv : ∀ {b j : Nat} {u : Value}, b < W4.heap.size → W4.cell? ⟨b, j, none⟩ = some u → (w5.alloc (.cells #[.int .i64 (entryOf m.slots m.root n)] 3)).cell? ⟨b, j, none⟩ = some u := fun {b j u} hl h => (g1.cell (p := ⟨b, j, none⟩) (show b < w5.heap.size by omega)).trans ((hb5.cell (p := ⟨b, j, none⟩) hl).trans h)
    have p1 := mv (by omega) f3
    have p3 := mv (by omega) f4
    have a0 := mv (by omega) x0
    have a1 := mv (by omega) x1
    have a2 := mv (by omega) x2
    have a3 := mv (by omega) x3
    have a4 := mv (by omega) x4
    have K3 := Lib.hid (KT.out _ (HI.out.next B6) (w.heap.size + 1) w5.heap.size (w.heap.size + 1 + 1) (by omega) (by omega) (by omega) p1 g2 p3)
    have HB6 := Lib.hid B6
    have HZ6 := Lib.hid Z6
    dsimp only [imgV] at K3
    clear mv x0 x1 x2 x3 x4 f1 f3 f4 f5 K1 KT HI Z5 Z6 B5 B6 hb5 g1 g2 p1 hm h0 hn
    go_wp2_with fail
    refine K3.out.mono ?_
    rintro e w7 ⟨v7, rfl, hF7, hb7⟩
    have Z7 := HZ6.out.nextB hb7 (by omega)
    have B7 := below_next HB6.out hb7
    obtain ⟨y0, y1, y2, y3, y4⟩ := Z7.cells
    obtain ⟨q0, q1, q2, q3, q4⟩ := Z7.froz
    obtain ⟨⟨k0, k1, k2, k3, k4⟩, hF, hB⟩ := outI Z7 (hF7.mono (show w.heap.size ≤ _ by omega)) B7 (Nat.le_refl _) (by omega)
    have HK := Lib.hid (And.intro k0 (And.intro k1 (And.intro k2 (And.intro k3 (And.intro k4 (And.intro hF hB))))))
    dsimp only [imgV]
    clear K3 HB6 HZ6 Z7 B7 hF7 hb7 k0 k1 k2 k3 k4 hF hB a0 a1 a2 a3 a4 p3
    go_wp2_with fail
    obtain ⟨k0, k1, k2, k3, k4, hF, hB⟩ := HK.out
    refine bodyPost_ret (v := .tuple #[imgV X v7, .int .i64 er]) ?_ rfl ⟨v7, rfl, hF, hB⟩
    simp [results, Try.results25, go_sem, k0, k1, k2, k3, k4]
theorem write_any (v : IV) (m : Img) (n : Int) (pg : ByteArray) (w : World) (h : ImgR w w.heap.size v m) (hw : ∀ x, lookE m n = 0 → pg.size = 4 → writeM m n.toNat pg = some x → CBd x ∧ Wired x) :
    Calls Try.prog 25 #[imgV m v, .int .i64 n, .string pg] w (ImgOwn w.heap.size (writeI m n pg) (writeE m n pg) w) := by
  unfold writeI writeE
  by_cases he : lookE m n = 0
  · obtain ⟨_, h0, _⟩ := look_is he
    obtain ⟨k, rfl⟩ := Int.eq_ofNat_of_zero_le h0
    rw [if_pos he]
    by_cases hp : pg.size = 4
    · rw [if_pos hp, if_pos ⟨he, hp⟩]
      exact write_ok v m k pg w h he hp _ _ rfl rfl (fun x => hw x he hp)
    · rw [if_neg hp, if_neg (fun h => hp h.2)]
      exact write_form v m k pg w h he hp
  · rw [if_neg he, if_neg (fun h => he h.1)]
    exact write_no v m n pg w h he
end Go.Proofs.Ytmdjoafbckphfaa
-- WApi2: set, Wipe, Punch, Resize. Conditions: the image is read below the heap's size. (Printed by gen_wapi2.py.)
namespace Go.Proofs.Ytmdjoafbckphfaa
open Go.RowKit Sl
def setE (m : Img) (n e : Int) : Int := if lookE m n = 0 then outE (setM m n.toNat e) else lookE m n
def setI (m : Img) (n e : Int) : Img := if lookE m n = 0 then outV (setM m n.toNat e) else noImg
def resizeE (m : Img) (g : Int) : Int := if checkErr m = 0 then (if 0 ≤ g ∧ g ≤ 16 then outE (resizeM m g.toNat) else 3) else checkErr m
def resizeI (m : Img) (g : Int) : Img := if checkErr m = 0 ∧ 0 ≤ g ∧ g ≤ 16 then outV (resizeM m g.toNat) else noImg
theorem boxes3 (w : World) (g : Int) (v : IV) (x : Value) (T : TypeId) :
    Below w.heap.size w (((w.alloc (.cells #[.int .i64 g, .slice v.rA v.rn v.rc, .slice v.sA v.sn v.sc, .slice v.fA v.fn v.fc, .slice v.pA v.pn v.pc] 27)).alloc (.cells #[x] T)).alloc (.cells #[.int .i64 0, .slice none 0 0, .slice none 0 0, .slice none 0 0, .slice none 0 0] 27)) ∧ Box (((w.alloc (.cells #[.int .i64 g, .slice v.rA v.rn v.rc, .slice v.sA v.sn v.sc, .slice v.fA v.fn v.fc, .slice v.pA v.pn v.pc] 27)).alloc (.cells #[x] T)).alloc (.cells #[.int .i64 0, .slice none 0 0, .slice none 0 0, .slice none 0 0, .slice none 0 0] 27)) w.heap.size g v ∧ (((w.alloc (.cells #[.int .i64 g, .slice v.rA v.rn v.rc, .slice v.sA v.sn v.sc, .slice v.fA v.fn v.fc, .slice v.pA v.pn v.pc] 27)).alloc (.cells #[x] T)).alloc (.cells #[.int .i64 0, .slice none 0 0, .slice none 0 0, .slice none 0 0, .slice none 0 0] 27)).cell? ⟨w.heap.size + 1, 0, none⟩ = some x ∧ ZB (((w.alloc (.cells #[.int .i64 g, .slice v.rA v.rn v.rc, .slice v.sA v.sn v.sc, .slice v.fA v.fn v.fc, .slice v.pA v.pn v.pc] 27)).alloc (.cells #[x] T)).alloc (.cells #[.int .i64 0, .slice none 0 0, .slice none 0 0, .slice none 0 0, .slice none 0 0] 27)) (w.heap.size + 1 + 1) ∧ (((w.alloc (.cells #[.int .i64 g, .slice v.rA v.rn v.rc, .slice v.sA v.sn v.sc, .slice v.fA v.fn v.fc, .slice v.pA v.pn v.pc] 27)).alloc (.cells #[x] T)).alloc (.cells #[.int .i64 0, .slice none 0 0, .slice none 0 0, .slice none 0 0, .slice none 0 0] 27)).heap.size = w.heap.size + 1 + 1 + 1 := by
  have hX := Box.new w g v 27
  have hB := below1 w (.cells #[.int .i64 g, .slice v.rA v.rn v.rc, .slice v.sA v.sn v.sc, .slice v.fA v.fn v.fc, .slice v.pA v.pn v.pc] 27)
  have s1 : (w.alloc (.cells #[.int .i64 g, .slice v.rA v.rn v.rc, .slice v.sA v.sn v.sc, .slice v.fA v.fn v.fc, .slice v.pA v.pn v.pc] 27)).heap.size = w.heap.size + 1 := World.size_alloc _ _
  generalize w.alloc (.cells #[.int .i64 g, .slice v.rA v.rn v.rc, .slice v.sA v.sn v.sc, .slice v.fA v.fn v.fc, .slice v.pA v.pn v.pc] 27) = w1 at *
  have b2 := below1 w1 (.cells #[x] T)
  have c2 := cell_of_row _ _ 0 _ _ _ (heap_alloc_new w1 (.cells #[x] T))
  have s2 : (w1.alloc (.cells #[x] T)).heap.size = w1.heap.size + 1 := World.size_alloc _ _
  generalize w1.alloc (.cells #[x] T) = w2 at *
  have b3 := below1 w2 (.cells #[.int .i64 0, .slice none 0 0, .slice none 0 0, .slice none 0 0, .slice none 0 0] 27)
  have z3 := ZB.new w2
  have s3 : (w2.alloc (.cells #[.int .i64 0, .slice none 0 0, .slice none 0 0, .slice none 0 0, .slice none 0 0] 27)).heap.size = w2.heap.size + 1 := World.size_alloc _ _
  generalize w2.alloc (.cells #[.int .i64 0, .slice none 0 0, .slice none 0 0, .slice none 0 0, .slice none 0 0] 27) = w3 at *
  have e2 : w2.heap.size = w.heap.size + 1 + 1 := by omega
  refine ⟨below_next (below_next hB b2) b3, (hX.keep b2 (by omega)).keep b3 (by omega), ?_, by rw [← e2]; exact z3, by omega⟩
  rw [← s1]
  exact (b3.cell (p := ⟨w1.heap.size, 0, none⟩) (show w1.heap.size < _ by omega)).trans c2
theorem boxes2 (w : World) (g : Int) (v : IV) :
    Below w.heap.size w ((w.alloc (.cells #[.int .i64 g, .slice v.rA v.rn v.rc, .slice v.sA v.sn v.sc, .slice v.fA v.fn v.fc, .slice v.pA v.pn v.pc] 27)).alloc (.cells #[.int .i64 0, .slice none 0 0, .slice none 0 0, .slice none 0 0, .slice none 0 0] 27)) ∧ Box ((w.alloc (.cells #[.int .i64 g, .slice v.rA v.rn v.rc, .slice v.sA v.sn v.sc, .slice v.fA v.fn v.fc, .slice v.pA v.pn v.pc] 27)).alloc (.cells #[.int .i64 0, .slice none 0 0, .slice none 0 0, .slice none 0 0, .slice none 0 0] 27)) w.heap.size g v ∧ ZB ((w.alloc (.cells #[.int .i64 g, .slice v.rA v.rn v.rc, .slice v.sA v.sn v.sc, .slice v.fA v.fn v.fc, .slice v.pA v.pn v.pc] 27)).alloc (.cells #[.int .i64 0, .slice none 0 0, .slice none 0 0, .slice none 0 0, .slice none 0 0] 27)) (w.heap.size + 1) ∧ ((w.alloc (.cells #[.int .i64 g, .slice v.rA v.rn v.rc, .slice v.sA v.sn v.sc, .slice v.fA v.fn v.fc, .slice v.pA v.pn v.pc] 27)).alloc (.cells #[.int .i64 0, .slice none 0 0, .slice none 0 0, .slice none 0 0, .slice none 0 0] 27)).heap.size = w.heap.size + 1 + 1 := by
  have hX := Box.new w g v 27
  have hB := below1 w (.cells #[.int .i64 g, .slice v.rA v.rn v.rc, .slice v.sA v.sn v.sc, .slice v.fA v.fn v.fc, .slice v.pA v.pn v.pc] 27)
  have s1 : (w.alloc (.cells #[.int .i64 g, .slice v.rA v.rn v.rc, .slice v.sA v.sn v.sc, .slice v.fA v.fn v.fc, .slice v.pA v.pn v.pc] 27)).heap.size = w.heap.size + 1 := World.size_alloc _ _
  generalize w.alloc (.cells #[.int .i64 g, .slice v.rA v.rn v.rc, .slice v.sA v.sn v.sc, .slice v.fA v.fn v.fc, .slice v.pA v.pn v.pc] 27) = w1 at *
  have b3 := below1 w1 (.cells #[.int .i64 0, .slice none 0 0, .slice none 0 0, .slice none 0 0, .slice none 0 0] 27)
  have z3 := ZB.new w1
  have s3 : (w1.alloc (.cells #[.int .i64 0, .slice none 0 0, .slice none 0 0, .slice none 0 0, .slice none 0 0] 27)).heap.size = w1.heap.size + 1 := World.size_alloc _ _
  generalize w1.alloc (.cells #[.int .i64 0, .slice none 0 0, .slice none 0 0, .slice none 0 0, .slice none 0 0] 27) = w3 at *
  exact ⟨below_next hB b3, hX.keep b3 (by omega), by rw [← s1]; exact z3, by omega⟩
set_option maxRecDepth 100000 in
set_option maxHeartbeats 1000000 in
theorem resize_no (v : IV) (m : Img) (n : Int) (w : World) (h : ImgR w w.heap.size v m) (he : checkErr m ≠ 0) :
    Calls Try.prog 18 #[imgV m v, .int .i64 n] w (ImgOwn w.heap.size noImg (checkErr m) w) := by
  have K1' := fun W (hb : Below w.heap.size w W) => tcheck_any v m W (h.next hb)
  obtain ⟨f1, f2, f3, f4, f5⟩ := boxes3 w m.guest v (.int .i64 n) 3
  have lz : (checkErr m != 0) = true := by simpa using he
  generalize checkErr m = er at *
  obtain ⟨rA, rn, rc, sA, sn, sc, fA, fn, fc, pA, pn, pc⟩ := v
  dsimp only [imgV] at K1' f1 f2 f3 f4 f5 ⊢
  have K1 := Lib.hid K1'
  clear K1' h he
  obtain ⟨x0, x1, x2, x3, x4⟩ := f2
  dsimp only at x0 x1 x2 x3 x4
  go_enter Try.func18, Try.ntmps18
  go_wp2_with fail
  generalize (((w.alloc (.cells #[.int .i64 m.guest, .slice rA rn rc, .slice sA sn sc, .slice fA fn fc, .slice pA pn pc] 27)).alloc (.cells #[.int .i64 n] 3)).alloc (.cells #[.int .i64 0, .slice none 0 0, .slice none 0 0, .slice none 0 0, .slice none 0 0] 27)) = W4 at *
  refine (K1.out _ f1).mono ?_
  rintro e w5 ⟨rfl, hb5⟩
  have B5 := below_next f1 hb5
  have Z5 := f4.nextB hb5 (by omega)
  obtain ⟨y0, y1, y2, y3, y4⟩ := Z5.cells
  obtain ⟨q0, q1, q2, q3, q4⟩ := Z5.froz
  have O := outI Z5 (X := noImg) (v := noV) (B := w.heap.size) (.inl ⟨rfl, rfl⟩) B5 (Nat.le_refl _) (by omega)
  dsimp only [noImg, noV] at O
  obtain ⟨⟨k0, k1, k2, k3, k4⟩, hF, hB⟩ := O
  have HK := Lib.hid (And.intro k0 (And.intro k1 (And.intro k2 (And.intro k3 (And.intro k4 (And.intro hF hB))))))
  clear x0 x1 x2 x3 x4 f1 f3 f4 K1 Z5 B5 hb5 k0 k1 k2 k3 k4 hF hB
  go_wp2_with fail
  obtain ⟨k0, k1, k2, k3, k4, hF, hB⟩ := HK.out
  refine bodyPost_ret (v := .tuple #[imgV noImg noV, .int .i64 er]) ?_ rfl ⟨noV, rfl, hF, hB⟩
  simp [results, Try.results18, go_sem, imgV, noImg, noV, k0, k1, k2, k3, k4]
set_option maxRecDepth 100000 in
set_option maxHeartbeats 1000000 in
theorem resize_low (v : IV) (m : Img) (n : Int) (w : World) (h : ImgR w w.heap.size v m) (he : checkErr m = 0) (hn : n < 0) :
    Calls Try.prog 18 #[imgV m v, .int .i64 n] w (ImgOwn w.heap.size noImg 3 w) := by
  have K1' := fun W (hb : Below w.heap.size w W) => tcheck_any v m W (h.next hb)
  obtain ⟨f1, f2, f3, f4, f5⟩ := boxes3 w m.guest v (.int .i64 n) 3
  rw [he] at K1'
  obtain ⟨rA, rn, rc, sA, sn, sc, fA, fn, fc, pA, pn, pc⟩ := v
  dsimp only [imgV] at K1' f1 f2 f3 f4 f5 ⊢
  have K1 := Lib.hid K1'
  clear K1' h he
  obtain ⟨x0, x1, x2, x3, x4⟩ := f2
  dsimp only at x0 x1 x2 x3 x4
  go_enter Try.func18, Try.ntmps18
  go_wp2_with fail
  generalize (((w.alloc (.cells #[.int .i64 m.guest, .slice rA rn rc, .slice sA sn sc, .slice fA fn fc, .slice pA pn pc] 27)).alloc (.cells #[.int .i64 n] 3)).alloc (.cells #[.int .i64 0, .slice none 0 0, .slice none 0 0, .slice none 0 0, .slice none 0 0] 27)) = W4 at *
  refine (K1.out _ f1).mono ?_
  rintro e w5 ⟨rfl, hb5⟩
  have B5 := below_next f1 hb5
  have Z5 := f4.nextB hb5 (by omega)
  have hz5 := hb5.size
  have mv : ∀ {b j : Nat} {u : Value}, b < W4.heap.size → W4.cell? ⟨b, j, none⟩ = some u → w5.cell? ⟨b, j, none⟩ = some u := fun {b j u} hl h => (hb5.cell (p := ⟨b, j, none⟩) hl).trans h
  have p1 := mv (by omega) f3
  obtain ⟨y0, y1, y2, y3, y4⟩ := Z5.cells
  obtain ⟨q0, q1, q2, q3, q4⟩ := Z5.froz
  have O := outI Z5 (X := noImg) (v := noV) (B := w.heap.size) (.inl ⟨rfl, rfl⟩) B5 (Nat.le_refl _) (by omega)
  dsimp only [noImg, noV] at O
  obtain ⟨⟨k0, k1, k2, k3, k4⟩, hF, hB⟩ := O
  have HK := Lib.hid (And.intro k0 (And.intro k1 (And.intro k2 (And.intro k3 (And.intro k4 (And.intro hF hB))))))
  clear mv x0 x1 x2 x3 x4 f1 f3 f4 K1 Z5 B5 hb5 k0 k1 k2 k3 k4 hF hB
  go_wp2_with fail
  obtain ⟨k0, k1, k2, k3, k4, hF, hB⟩ := HK.out
  refine bodyPost_ret (v := .tuple #[imgV noImg noV, .int .i64 3]) ?_ rfl ⟨noV, rfl, hF, hB⟩
  simp [results, Try.results18, go_sem, imgV, noImg, noV, k0, k1, k2, k3, k4]
set_option maxRecDepth 100000 in
set_option maxHeartbeats 1000000 in
theorem resize_high (v : IV) (m : Img) (n : Int) (w : World) (h : ImgR w w.heap.size v m) (he : checkErr m = 0) (hn : ¬ n < 0) (hn2 : 16 < n) :
    Calls Try.prog 18 #[imgV m v, .int .i64 n] w (ImgOwn w.heap.size noImg 3 w) := by
  have K1' := fun W (hb : Below w.heap.size w W) => tcheck_any v m W (h.next hb)
  obtain ⟨f1, f2, f3, f4, f5⟩ := boxes3 w m.guest v (.int .i64 n) 3
  rw [he] at K1'
  obtain ⟨rA, rn, rc, sA, sn, sc, fA, fn, fc, pA, pn, pc⟩ := v
  dsimp only [imgV] at K1' f1 f2 f3 f4 f5 ⊢
  have K1 := Lib.hid K1'
  clear K1' h he
  obtain ⟨x0, x1, x2, x3, x4⟩ := f2
  dsimp only at x0 x1 x2 x3 x4
  go_enter Try.func18, Try.ntmps18
  go_wp2_with fail
  generalize (((w.alloc (.cells #[.int .i64 m.guest, .slice rA rn rc, .slice sA sn sc, .slice fA fn fc, .slice pA pn pc] 27)).alloc (.cells #[.int .i64 n] 3)).alloc (.cells #[.int .i64 0, .slice none 0 0, .slice none 0 0, .slice none 0 0, .slice none 0 0] 27)) = W4 at *
  refine (K1.out _ f1).mono ?_
  rintro e w5 ⟨rfl, hb5⟩
  have B5 := below_next f1 hb5
  have Z5 := f4.nextB hb5 (by omega)
  have hz5 := hb5.size
  have mv : ∀ {b j : Nat} {u : Value}, b < W4.heap.size → W4.cell? ⟨b, j, none⟩ = some u → w5.cell? ⟨b, j, none⟩ = some u := fun {b j u} hl h => (hb5.cell (p := ⟨b, j, none⟩) hl).trans h
  have p1 := mv (by omega) f3
  obtain ⟨y0, y1, y2, y3, y4⟩ := Z5.cells
  obtain ⟨q0, q1, q2, q3, q4⟩ := Z5.froz
  have O := outI Z5 (X := noImg) (v := noV) (B := w.heap.size) (.inl ⟨rfl, rfl⟩) B5 (Nat.le_refl _) (by omega)
  dsimp only [noImg, noV] at O
  obtain ⟨⟨k0, k1, k2, k3, k4⟩, hF, hB⟩ := O
  have HK := Lib.hid (And.intro k0 (And.intro k1 (And.intro k2 (And.intro k3 (And.intro k4 (And.intro hF hB))))))
  clear mv x0 x1 x2 x3 x4 f1 f3 f4 K1 Z5 B5 hb5 k0 k1 k2 k3 k4 hF hB
  go_wp2_with fail
  obtain ⟨k0, k1, k2, k3, k4, hF, hB⟩ := HK.out
  refine bodyPost_ret (v := .tuple #[imgV noImg noV, .int .i64 3]) ?_ rfl ⟨noV, rfl, hF, hB⟩
  simp [results, Try.results18, go_sem, imgV, noImg, noV, k0, k1, k2, k3, k4]
set_option maxRecDepth 100000 in
set_option maxHeartbeats 1000000 in
theorem resize_ok (v : IV) (m : Img) (n : Nat) (w : World) (h : ImgR w w.heap.size v m) (hn : n ≤ 16) (he : checkErr m = 0) (X : Img) (er : Int) (hX : outV (resizeM m n) = X) (hE : outE (resizeM m n) = er) (hw : ∀ x, resizeM m n = some x → CBd x ∧ Wired x) :
    Calls Try.prog 18 #[imgV m v, .int .i64 n] w (ImgOwn w.heap.size X er w) := by
  have K1' := fun W (hb : Below w.heap.size w W) => tcheck_any v m W (h.next hb)
  obtain ⟨f1, f2, f3, f4, f5⟩ := boxes3 w m.guest v (.int .i64 n) 3
  rw [he] at K1'
  have hmf : ∀ (fn : Fn) (first cap : Array Value) (w : World), (Instr.makeFunc fn first cap).run Try.prog w = .ok (.func fn first cap) w := fun _ _ _ _ => rfl
  have KT := Lib.hid (fun (W : World) (hi : ImgR W W.heap.size v m) (nb : Nat) (b1 : nb < W.heap.size) (c1 : W.cell? ⟨nb, 0, none⟩ = some (.int .i64 n)) =>
    turned_any v m W hi he 39 #[.pointer (some ⟨nb, 0, none⟩)] (fun _ _ => by kernel_rfl) (resizeM m n) hw
      (fun base tg b v' q p W' hb hd hB => resizefn_any base tg b v' q p m nb n W' hd he hn (by omega) ((hB.cell (p := ⟨nb, 0, none⟩) b1).trans c1)))
  rw [hX, hE] at KT
  have HI := Lib.hid h
  have e1 : ¬ (n : Int) < 0 := by omega
  have e2 : ¬ (16 : Int) < (n : Int) := by omega
  obtain ⟨rA, rn, rc, sA, sn, sc, fA, fn, fc, pA, pn, pc⟩ := v
  dsimp only [imgV] at K1' f1 f2 f3 f4 f5 ⊢
  have K1 := Lib.hid K1'
  clear K1' h he hX hE hw hn
  obtain ⟨x0, x1, x2, x3, x4⟩ := f2
  dsimp only at x0 x1 x2 x3 x4
  go_enter Try.func18, Try.ntmps18
  go_wp2_with fail
  generalize (((w.alloc (.cells #[.int .i64 m.guest, .slice rA rn rc, .slice sA sn sc, .slice fA fn fc, .slice pA pn pc] 27)).alloc (.cells #[.int .i64 n] 3)).alloc (.cells #[.int .i64 0, .slice none 0 0, .slice none 0 0, .slice none 0 0, .slice none 0 0] 27)) = W4 at *
  refine (K1.out _ f1).mono ?_
  rintro e w5 ⟨rfl, hb5⟩
  have B5 := below_next f1 hb5
  have Z5 := f4.nextB hb5 (by omega)
  have hz5 := hb5.size
  have mv : ∀ {b j : Nat} {u : Value}, b < W4.heap.size → W4.cell? ⟨b, j, none⟩ = some u → w5.cell? ⟨b, j, none⟩ = some u := fun {b j u} hl h => (hb5.cell (p := ⟨b, j, none⟩) hl).trans h
  have p1 := mv (by omega) f3
  have a0 := mv (by omega) x0
  have a1 := mv (by omega) x1
  have a2 := mv (by omega) x2
  have a3 := mv (by omega) x3
  have a4 := mv (by omega) x4
  have K3 := Lib.hid (KT.out _ (HI.out.next B5) (w.heap.size + 1) (by omega) p1)
  have HB6 := Lib.hid B5
  have HZ6 := Lib.hid Z5
  dsimp only [imgV] at K3
  clear mv x0 x1 x2 x3 x4 f1 f3 f4 K1 KT HI Z5 B5 hb5
  go_wp2_with fail
  refine K3.out.mono ?_
  rintro e w7 ⟨v7, rfl, hF7, hb7⟩
  have Z7 := HZ6.out.nextB hb7 (by omega)
  have B7 := below_next HB6.out hb7
  obtain ⟨y0, y1, y2, y3, y4⟩ := Z7.cells
  obtain ⟨q0, q1, q2, q3, q4⟩ := Z7.froz
  obtain ⟨⟨k0, k1, k2, k3, k4⟩, hF, hB⟩ := outI Z7 (hF7.mono (show w.heap.size ≤ _ by omega)) B7 (Nat.le_refl _) (by omega)
  have HK := Lib.hid (And.intro k0 (And.intro k1 (And.intro k2 (And.intro k3 (And.intro k4 (And.intro hF hB))))))
  dsimp only [imgV]
  clear K3 Z7 B7 hF7 hb7 k0 k1 k2 k3 k4 hF hB HB6 HZ6 a0 a1 a2 a3 a4
  go_wp2_with fail
  obtain ⟨k0, k1, k2, k3, k4, hF, hB⟩ := HK.out
  refine bodyPost_ret (v := .tuple #[imgV X v7, .int .i64 er]) ?_ rfl ⟨v7, rfl, hF, hB⟩
  simp [results, Try.results18, go_sem, k0, k1, k2, k3, k4]
theorem resize_any (v : IV) (m : Img) (g : Int) (w : World) (h : ImgR w w.heap.size v m) (hw : ∀ x, checkErr m = 0 → 0 ≤ g → g ≤ 16 → resizeM m g.toNat = some x → CBd x ∧ Wired x) :
    Calls Try.prog 18 #[imgV m v, .int .i64 g] w (ImgOwn w.heap.size (resizeI m g) (resizeE m g) w) := by
  unfold resizeI resizeE
  by_cases he : checkErr m = 0
  · rw [if_pos he]
    by_cases hg : 0 ≤ g
    · obtain ⟨k, rfl⟩ := Int.eq_ofNat_of_zero_le hg
      by_cases h16 : k ≤ 16
      · rw [if_pos ⟨he, hg, by omega⟩, if_pos ⟨hg, by omega⟩]
        exact resize_ok v m k w h h16 he _ _ rfl rfl (fun x => hw x he hg (by omega))
      · rw [if_neg (by omega), if_neg (by omega)]
        exact resize_high v m k w h he (by omega) (by omega)
    · rw [if_neg (by omega), if_neg (by omega)]
      exact resize_low v m g w h he (by omega)
  · rw [if_neg he, if_neg (fun h => he h.1)]
    exact resize_no v m g w h he
end Go.Proofs.Ytmdjoafbckphfaa
