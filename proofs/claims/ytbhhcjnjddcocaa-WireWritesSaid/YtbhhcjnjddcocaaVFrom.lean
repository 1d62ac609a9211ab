/- The reference's ImageFrom. No conditions. (Printed by gen_vfrom.py.) -/
import Derived.Test.YtbhhcjnjddcocaaVNose
import Derived.Test.YtbhhcjnjddcocaaVWrite
import Derived.Test.YtbhhcjnjddcocaaMend1
import Derived.Test.YtbhhcjnjddcocaaRShape
import Derived.Test.YtbhhcjnjddcocaaRCounts
import Derived.Test.YtbhhcjnjddcocaaCheck
import Derived.Deep.DeepCutAuto
namespace Go.Proofs.Ytbhhcjnjddcocaa
open Go.RowKit Sl
/-- ImageFrom's boxes: what comes out, the nose, the image at mb. -/
structure NoS (w W : World) (mb : Nat) (v : IV) (tg : Nat → Nat) (q : List SV) (p : List PV) (m : Img) (r : List UInt8) : Prop where
  own : OwnI W w.heap.size tg v q p m
  box : Box W mb m.guest v
  ty : BoxB W mb
  zb : ZB W w.heap.size
  gl : Gl W (w.heap.size + 1) 66 r
  lo : w.heap.size + 1 < mb
  below : Below w.heap.size w W
theorem ZB.keptG {W W' : World} {b : Nat} {row : Option Nat} (h : ZB W b) (hg : W.grownBy W' row) (hn : some b ≠ row) : ZB W' b := ⟨(hg.block b (Array.getElem?_eq_some_iff.1 h.heap).1 hn).trans h.heap⟩
section
variable {w W W' : World} {mb : Nat} {v : IV} {tg : Nat → Nat} {q : List SV} {p : List PV} {m : Img} {r r' : List UInt8}
theorem NoS.next (h : NoS w W mb v tg q p m r) (hb : Below W.heap.size W W') : NoS w W' mb v tg q p m r :=
  ⟨h.own.next hb, h.box.keep hb h.ty.ty.lt, h.ty.next hb, h.zb.next hb, h.gl.next hb, h.lo, below_next h.below hb⟩
theorem NoS.retag {tg' : Nat → Nat} (h : NoS w W mb v tg q p m r) (ht : ∀ b, b < W.heap.size → tg' b = tg b) : NoS w W mb v tg' q p m r := ⟨h.own.retag ht, h.box, h.ty, h.zb, h.gl, h.lo, h.below⟩
theorem NoS.nose (h : NoS w W mb v tg q p m r) (hg : W.grownBy W' (some (w.heap.size + 1))) (hG : Gl W' (w.heap.size + 1) 66 r') : NoS w W' mb v tg q p m r' :=
  have hm := h.lo
  ⟨h.own.kept hg h.gl.ty (by decide) (by decide) (by decide), h.box.kept hg (fun e => by injection e; omega), h.ty.kept hg (fun e => by injection e; omega), h.zb.keptG hg (fun e => by injection e; omega), hG, hm,
    h.below.grown hg h.below.size (fun k e => by injection e; omega)⟩
theorem NoS.row (h : NoS w W mb v tg q p m r) (hg : W.grownBy W' (some (w.heap.size + 1))) (hG : Gl W' (w.heap.size + 1) 66 r') {A : Option Addr} {n c : Nat} {xs : List Int}
    (ho : W'.ownsRow W.heap.size 3 1 (.slice A n c) n (ints xs)) (hn : n ≤ 1000000) (hc : n ≤ c) (hm : c ≤ maxLen) (t : Nat) : ∃ tg', NoS w W' mb v tg' q p m r' ∧ TabO W' w.heap.size tg' t A n c xs :=
  ⟨_, (h.retag (tg' := fun g => if W.heap.size ≤ g then t else tg g) (fun b hb => if_neg (by omega))).nose hg hG, TabO.made (.inr ho) h.below.size hn hc hm⟩
theorem NoS.rowB (h : NoS w W mb v tg q p m r) (hb : Below W.heap.size W W') {A : Option Addr} {n c : Nat} {xs : List Int} (ho : W'.ownsRow W.heap.size 3 1 (.slice A n c) n (ints xs)) (hn : n ≤ 1000000) (hc : n ≤ c) (hm : c ≤ maxLen) (t : Nat) :
    ∃ tg', NoS w W' mb v tg' q p m r ∧ TabO W' w.heap.size tg' t A n c xs :=
  ⟨_, (h.retag (tg' := fun g => if W.heap.size ≤ g then t else tg g) (fun b hb => if_neg (by omega))).next hb, TabO.made (.inr ho) h.below.size hn hc hm⟩
theorem NoS.set (h : NoS w W mb v tg q p m r) (j : Nat) (u : Value) {v' : IV} {m' : Img} (hb : Box (W.setCell ⟨mb, j, none⟩ u) mb m'.guest v') (ho : OwnI W w.heap.size tg v' q p m') : NoS w (W.setCell ⟨mb, j, none⟩ u) mb v' tg q p m' r :=
  have hg := grown_set W mb j u
  have hm := h.lo
  ⟨ho.kept hg h.ty.ty (by decide) (by decide) (by decide), hb, h.ty.set j u, h.zb.keptG hg (fun e => by injection e; omega), h.gl.kept hg (fun e => by injection e; omega), hm, h.below.setCell (p := ⟨mb, j, none⟩) (show w.heap.size ≤ mb by omega) u⟩
theorem NoS.setRoot (h : NoS w W mb v tg q p m r) {A : Option Addr} {n c : Nat} {xs : List Int} (ht : TabO W w.heap.size tg 0 A n c xs) :
    NoS w (W.setCell ⟨mb, 1, none⟩ (.slice A n c)) mb { v with rA := A, rn := n, rc := c } tg q p { m with root := xs } r := by
  obtain ⟨b0, b1, b2, b3, b4⟩ := h.box
  have ho : OwnI W w.heap.size tg { v with rA := A, rn := n, rc := c } q p { m with root := xs } := ⟨ht, h.own.refs, h.own.slots, h.own.sle, h.own.scap, h.own.snaps, h.own.ple, h.own.pcap, h.own.hq, h.own.hp, h.own.tabs, h.own.roots⟩
  exact h.set 1 _ (by refine ⟨?_, ?_, ?_, ?_, ?_⟩ <;> go_simp) ho
theorem NoS.setRefs (h : NoS w W mb v tg q p m r) {A : Option Addr} {n c : Nat} {xs : List Int} (ht : TabO W w.heap.size tg 1 A n c xs) :
    NoS w (W.setCell ⟨mb, 3, none⟩ (.slice A n c)) mb { v with fA := A, fn := n, fc := c } tg q p { m with refs := xs } r := by
  obtain ⟨b0, b1, b2, b3, b4⟩ := h.box
  exact h.set 3 _ (by refine ⟨?_, ?_, ?_, ?_, ?_⟩ <;> go_simp) (h.own.newRefs ht)
theorem NoS.other (h : NoS w W mb v tg q p m r) {b : Nat} {T : TypeId} (hT : TypeB W b T) (h1 : T ≠ 3) (hs : (Value.slice v.sA v.sn v.sc).ownBlock ≠ some b) (hn : (Value.slice v.pA v.pn v.pc).ownBlock ≠ some b) (hb : mb < b) (j : Nat) (u : Value) : NoS w (W.setCell ⟨b, j, none⟩ u) mb v tg q p m r :=
  have hg := grown_set W b j u
  have hm := h.lo
  ⟨h.own.keptAt hg hT h1 hs hn, h.box.kept hg (fun e => by injection e; omega), h.ty.kept hg (fun e => by injection e; omega), h.zb.keptG hg (fun e => by injection e; omega), h.gl.kept hg (fun e => by injection e; omega), hm, h.below.setCell (p := ⟨b, j, none⟩) (show w.heap.size ≤ b by omega) u⟩
theorem NoS.push (h : NoS w W mb v tg q p m r) (x : Slot) {A : Option Addr} {n c : Nat} (ht : TabO W w.heap.size tg (2 * v.sn + 4) A n c x.table) (hn : v.sn ≤ 1000000) (hd : x.data.size ≤ 4611686018427387903) :
    ∃ A2 c2 w9, (Builtin.append_ #[23, 23] 23 #[.slice v.sA v.sn v.sc, .slice (some ⟨W.heap.size, 0, none⟩) 1 1]).run Try.prog (W.alloc (.cells #[.int .i64 x.kind, .string x.data, .slice A n c] 45)) = .ok (.slice A2 (v.sn + 1) c2) w9 ∧
      w9.cell? ⟨mb, 2, none⟩ = some (.slice v.sA v.sn v.sc) ∧ w9.frozen? ⟨mb, 2, none⟩ = false ∧
      ∃ y, NoS w (w9.setCell ⟨mb, 2, none⟩ (.slice A2 (v.sn + 1) c2)) mb { v with sA := A2, sn := v.sn + 1, sc := c2 } tg y p { m with slots := m.slots ++ [x] } r := by
  obtain ⟨i0, hi0, hz0, hz1, hz2⟩ := info_parts Try.infoSlot
  have W9 := below1 W (.cells #[.int .i64 x.kind, .string x.data, .slice A n c] 45)
  obtain ⟨A2, c2, w9, q1, q2, q3, q4, q5, q6, _⟩ := app_one (P := Try.prog) W w.heap.size 23 23 45 i0 _ 3 48 Try.underlying23 hi0 hz0 hz1 hz2 rfl (by omega) _ _ _ h.own.slots #[.int .i64 x.kind, .string x.data, .slice A n c] rfl
    (by intro u hu; simp at hu; rcases hu with rfl | rfl | rfl <;> rfl) (by omega) (by unfold maxLen; omega) h.below.size
  have h9 := h.next W9
  have O9 := h9.own.pushSlot (x := ⟨x, A, n, c⟩) q2 q6 q4 q5 hn hd (ht.next W9)
  have hne : ∀ (b : Nat) (T : TypeId), TypeB (W.alloc (.cells #[.int .i64 x.kind, .string x.data, .slice A n c] 45)) b T → T ≠ 45 → some b ≠ (Value.slice v.sA v.sn v.sc).ownBlock := fun b T hb hT e => (hb.ne (own_block h9.own.slots e.symm) hT) rfl
  have hm := h.lo
  have nb := hne _ _ h9.ty.ty (by decide)
  have X9 := h9.box.kept q6 nb
  have Y9 := h9.ty.kept q6 nb
  have E9 := h9.zb.keptG q6 (hne _ _ h9.zb.box.1.ty (by decide))
  have G9 := h9.gl.kept q6 (hne _ _ h9.gl.ty (by decide))
  have L9 := (h.below).trans q3
  have hgs := grown_set w9 mb 2 (.slice A2 (v.sn + 1) c2)
  obtain ⟨b0, b1, b2, b3, b4⟩ := X9
  refine ⟨A2, c2, w9, q1, b2, Y9.fz 2, _, O9.kept hgs Y9.ty (by decide) (by decide) (by decide), ?_, Y9.set 2 _, E9.keptG hgs (fun e => by injection e; omega), G9.kept hgs (fun e => by injection e; omega), hm, L9.setCell (p := ⟨mb, 2, none⟩) (show w.heap.size ≤ mb by omega) _⟩
  refine ⟨?_, ?_, ?_, ?_, ?_⟩ <;> go_simp
theorem NoS.pushP (h : NoS w W mb v tg q p m r) (x : Snap) {A : Option Addr} {n c : Nat} (ht : TabO W w.heap.size tg (2 * v.pn + 5) A n c x.root) (hn : v.pn ≤ 1000000) (hd : x.name.size ≤ 4611686018427387903) :
    ∃ A2 c2 w9, (Builtin.append_ #[24, 24] 24 #[.slice v.pA v.pn v.pc, .slice (some ⟨W.heap.size, 0, none⟩) 1 1]).run Try.prog (W.alloc (.cells #[.string x.name, .int .i64 x.guest, .slice A n c] 48)) = .ok (.slice A2 (v.pn + 1) c2) w9 ∧
      w9.cell? ⟨mb, 4, none⟩ = some (.slice v.pA v.pn v.pc) ∧ w9.frozen? ⟨mb, 4, none⟩ = false ∧
      ∃ y, NoS w (w9.setCell ⟨mb, 4, none⟩ (.slice A2 (v.pn + 1) c2)) mb { v with pA := A2, pn := v.pn + 1, pc := c2 } tg q y { m with snaps := m.snaps ++ [x] } r := by
  obtain ⟨i0, hi0, hz0, hz1, hz2⟩ := info_parts Try.infoSnap
  have W9 := below1 W (.cells #[.string x.name, .int .i64 x.guest, .slice A n c] 48)
  obtain ⟨A2, c2, w9, q1, q2, q3, q4, q5, q6, _⟩ := app_one (P := Try.prog) W w.heap.size 24 24 48 i0 _ 3 48 Try.underlying24 hi0 hz0 hz1 hz2 rfl (by omega) _ _ _ h.own.snaps #[.string x.name, .int .i64 x.guest, .slice A n c] rfl
    (by intro u hu; simp at hu; rcases hu with rfl | rfl | rfl <;> rfl) (by omega) (by unfold maxLen; omega) h.below.size
  have h9 := h.next W9
  have O9 := h9.own.pushSnap (x := ⟨x, A, n, c⟩) q2 q6 q4 q5 hn hd (ht.next W9)
  have hne : ∀ (b : Nat) (T : TypeId), TypeB (W.alloc (.cells #[.string x.name, .int .i64 x.guest, .slice A n c] 48)) b T → T ≠ 48 → some b ≠ (Value.slice v.pA v.pn v.pc).ownBlock := fun b T hb hT e => (hb.ne (own_block h9.own.snaps e.symm) hT) rfl
  have hm := h.lo
  have nb := hne _ _ h9.ty.ty (by decide)
  have X9 := h9.box.kept q6 nb
  have Y9 := h9.ty.kept q6 nb
  have E9 := h9.zb.keptG q6 (hne _ _ h9.zb.box.1.ty (by decide))
  have G9 := h9.gl.kept q6 (hne _ _ h9.gl.ty (by decide))
  have L9 := (h.below).trans q3
  have hgs := grown_set w9 mb 4 (.slice A2 (v.pn + 1) c2)
  obtain ⟨b0, b1, b2, b3, b4⟩ := X9
  refine ⟨A2, c2, w9, q1, b4, Y9.fz 4, _, O9.kept hgs Y9.ty (by decide) (by decide) (by decide), ?_, Y9.set 4 _, E9.keptG hgs (fun e => by injection e; omega), G9.kept hgs (fun e => by injection e; omega), hm, L9.setCell (p := ⟨mb, 4, none⟩) (show w.heap.size ≤ mb by omega) _⟩
  refine ⟨?_, ?_, ?_, ?_, ?_⟩ <;> go_simp
/-- The image is stored into what comes out. -/
theorem NoS.fin (h : NoS w W mb v tg q p m r) : ImgR (((((W.setCell ⟨w.heap.size, 0, none⟩ (.int .i64 m.guest)).setCell ⟨w.heap.size, 1, none⟩ (.slice v.rA v.rn v.rc)).setCell ⟨w.heap.size, 2, none⟩ (.slice v.sA v.sn v.sc)).setCell ⟨w.heap.size, 3, none⟩ (.slice v.fA v.fn v.fc)).setCell ⟨w.heap.size, 4, none⟩ (.slice v.pA v.pn v.pc)) (((((W.setCell ⟨w.heap.size, 0, none⟩ (.int .i64 m.guest)).setCell ⟨w.heap.size, 1, none⟩ (.slice v.rA v.rn v.rc)).setCell ⟨w.heap.size, 2, none⟩ (.slice v.sA v.sn v.sc)).setCell ⟨w.heap.size, 3, none⟩ (.slice v.fA v.fn v.fc)).setCell ⟨w.heap.size, 4, none⟩ (.slice v.pA v.pn v.pc)).heap.size v m ∧
    Box (((((W.setCell ⟨w.heap.size, 0, none⟩ (.int .i64 m.guest)).setCell ⟨w.heap.size, 1, none⟩ (.slice v.rA v.rn v.rc)).setCell ⟨w.heap.size, 2, none⟩ (.slice v.sA v.sn v.sc)).setCell ⟨w.heap.size, 3, none⟩ (.slice v.fA v.fn v.fc)).setCell ⟨w.heap.size, 4, none⟩ (.slice v.pA v.pn v.pc)) w.heap.size m.guest v ∧
    Below w.heap.size w (((((W.setCell ⟨w.heap.size, 0, none⟩ (.int .i64 m.guest)).setCell ⟨w.heap.size, 1, none⟩ (.slice v.rA v.rn v.rc)).setCell ⟨w.heap.size, 2, none⟩ (.slice v.sA v.sn v.sc)).setCell ⟨w.heap.size, 3, none⟩ (.slice v.fA v.fn v.fc)).setCell ⟨w.heap.size, 4, none⟩ (.slice v.pA v.pn v.pc)) := by
  have h5 := five h.zb.box.1 h.zb.box.2 m.guest v
  exact ⟨(h.own.kept h5.2.2 h.zb.box.1.ty (by decide) (by decide) (by decide)).imgR, h5.1, h.below.grown h5.2.2 h.below.size (fun k e => by injection e; omega)⟩
end
/-- What ImageFrom answers. -/
def fmI (s : ByteArray) : Img := (fromW (toL s)).getD noImg
def fmB (s : ByteArray) : Bool := (fromW (toL s)).isSome
theorem from_no {s : ByteArray} (h : fromW (toL s) = none) : fmI s = noImg ∧ fmB s = false := by unfold fmI fmB; rw [h]; exact ⟨rfl, rfl⟩
theorem from_yes {s : ByteArray} {m : Img} (h : fromW (toL s) = some m) : fmI s = m ∧ fmB s = true := by unfold fmI fmB; rw [h]; exact ⟨rfl, rfl⟩
def FmOut (base : Nat) (m : Img) (is : Bool) (w : World) (e : Ending) (w' : World) : Prop := ∃ v', e = .returned (.tuple #[imgV m v', .bool is]) ∧ ImgR w' w'.heap.size v' m ∧ Below base w w'
set_option maxRecDepth 100000 in
set_option maxHeartbeats 1000000 in
/-- None. -/
theorem fm_no {s : ByteArray} {w W : World} {mb : Nat} {v : IV} {tg : Nat → Nat} {q : List SV} {p : List PV} {m : Img} {r : List UInt8} {tmps : Array Value} (h : NoS w W mb v tg q p m r) (h2 : tmps[2]?.getD undef = .pointer (some ⟨w.heap.size, 0, none⟩)) (h3 : tmps[3]?.getD undef = .bool false)
    (hn : fromW (toL s) = none) {W' : World} (hW : W' = (((((W.setCell ⟨w.heap.size, 0, none⟩ (.int .i64 0)).setCell ⟨w.heap.size, 1, none⟩ (.slice none 0 0)).setCell ⟨w.heap.size, 2, none⟩ (.slice none 0 0)).setCell ⟨w.heap.size, 3, none⟩ (.slice none 0 0)).setCell ⟨w.heap.size, 4, none⟩ (.slice none 0 0))) :
    bodyPost Try.prog Try.f11 (FmOut w.heap.size (fmI s) (fmB s) w) .ret { tmps := tmps, defers := [] } W' := by
  have h5 := five h.zb.box.1 h.zb.box.2 0 noV
  dsimp only [noV] at h5
  rw [← hW] at h5
  obtain ⟨k0, k1, k2, k3, k4⟩ := h5.1
  dsimp only at k1 k2 k3 k4
  have hb := h.below.grown h5.2.2 h.below.size (fun k e => by injection e; omega)
  refine bodyPost_ret (v := .tuple #[.agg #[.int .i64 0, .slice none 0 0, .slice none 0 0, .slice none 0 0, .slice none 0 0], .bool false]) ?_ rfl ?_
  · simp [results, Try.results11, go_sem, h2, h3, k0, k1, k2, k3, k4]
  · rw [(from_no hn).1, (from_no hn).2]
    exact ⟨noV, rfl, noImg_R _, hb⟩
set_option maxRecDepth 100000 in
set_option maxHeartbeats 1000000 in
theorem fm_yes {s : ByteArray} {w W : World} {mb : Nat} {v : IV} {tg : Nat → Nat} {q : List SV} {p : List PV} {m : Img} {r : List UInt8} {tmps : Array Value} (h : NoS w W mb v tg q p m r) (h2 : tmps[2]?.getD undef = .pointer (some ⟨w.heap.size, 0, none⟩)) (h3 : tmps[3]?.getD undef = .bool true)
    (hn : fromW (toL s) = some m) {W' : World} (hW : W' = (((((W.setCell ⟨w.heap.size, 0, none⟩ (.int .i64 m.guest)).setCell ⟨w.heap.size, 1, none⟩ (.slice v.rA v.rn v.rc)).setCell ⟨w.heap.size, 2, none⟩ (.slice v.sA v.sn v.sc)).setCell ⟨w.heap.size, 3, none⟩ (.slice v.fA v.fn v.fc)).setCell ⟨w.heap.size, 4, none⟩ (.slice v.pA v.pn v.pc))) :
    bodyPost Try.prog Try.f11 (FmOut w.heap.size (fmI s) (fmB s) w) .ret { tmps := tmps, defers := [] } W' := by
  have h5 := h.fin
  rw [← hW] at h5
  obtain ⟨hI, ⟨k0, k1, k2, k3, k4⟩, hb⟩ := h5
  refine bodyPost_ret (v := .tuple #[imgV m v, .bool true]) ?_ rfl ?_
  · simp [results, Try.results11, go_sem, h2, h3, k0, k1, k2, k3, k4, imgV]
  · rw [(from_yes hn).1, (from_yes hn).2]
    exact ⟨v, rfl, hI, hb⟩
set_option maxRecDepth 100000 in
set_option maxHeartbeats 1000000 in
theorem imageFrom_any (s : ByteArray) (w : World) : Calls Try.prog 11 #[.string s] w (FmOut w.heap.size (fmI s) (fmB s) w) := by
  have B1 := below1 w (.cells #[.int .i64 0, .slice none 0 0, .slice none 0 0, .slice none 0 0, .slice none 0 0] 26)
  have Z1 := ZB.new w
  have s1 : (w.alloc (.cells #[.int .i64 0, .slice none 0 0, .slice none 0 0, .slice none 0 0, .slice none 0 0] 26)).heap.size = w.heap.size + 1 := World.size_alloc _ _
  have B2 := below1 (w.alloc (.cells #[.int .i64 0, .slice none 0 0, .slice none 0 0, .slice none 0 0, .slice none 0 0] 26)) (.cells #[.string s] 66)
  have G2 := heap_alloc_new (w.alloc (.cells #[.int .i64 0, .slice none 0 0, .slice none 0 0, .slice none 0 0, .slice none 0 0] 26)) (.cells #[.string s] 66)
  have s2 : ((w.alloc (.cells #[.int .i64 0, .slice none 0 0, .slice none 0 0, .slice none 0 0, .slice none 0 0] 26)).alloc (.cells #[.string s] 66)).heap.size = (w.alloc (.cells #[.int .i64 0, .slice none 0 0, .slice none 0 0, .slice none 0 0, .slice none 0 0] 26)).heap.size + 1 := World.size_alloc _ _
  rw [s1] at G2 s2
  have Z2 := Z1.next B2
  have T2 := below_next B1 B2
  have G2 : Gl ((w.alloc (.cells #[.int .i64 0, .slice none 0 0, .slice none 0 0, .slice none 0 0, .slice none 0 0] 26)).alloc (.cells #[.string s] 66)) (w.heap.size + 1) 66 (toL s) := ⟨by rw [ofL_toL]; exact G2⟩
  clear B1 Z1 B2 s1
  go_enter Try.func11, Try.ntmps11
  go_wp2_with fail
  generalize ((w.alloc (.cells #[.int .i64 0, .slice none 0 0, .slice none 0 0, .slice none 0 0, .slice none 0 0] 26)).alloc (.cells #[.string s] 66)) = w2 at *
  have K3 := Lib.hid (nbyte_any _ _ w2 G2)
  refine K3.out.mono ?_
  rintro e w3 ⟨rfl, hG, hg⟩
  have Z3 := Z2.keptG hg (fun e => by injection e; omega)
  have T3 := T2.grown hg T2.size (fun k e => by injection e; omega)
  have hl3 := hg.size
  generalize hgn : nNum (toL s) = g at *
  have B4 := below1 w3 (.cells #[.int .i64 (g.1 : Nat), .slice none 0 0, .slice none 0 0, .slice none 0 0, .slice none 0 0] 26)
  have S4 : NoS w (w3.alloc (.cells #[.int .i64 (g.1 : Nat), .slice none 0 0, .slice none 0 0, .slice none 0 0, .slice none 0 0] 26)) w3.heap.size noV (fun _ => 0) [] [] ⟨(g.1 : Nat), [], [], [], []⟩ g.2 :=
    ⟨⟨TabO.nil, TabO.nil, World.ownsRow_nil _ _ _ _, Nat.le_refl _, by decide, World.ownsRow_nil _ _ _ _, Nat.le_refl _, by decide, rfl, rfl, fun k x h => by simp at h, fun k x h => by simp at h⟩,
      Box.new w3 (g.1 : Nat) noV 26, BoxB.new w3 _, Z3.next B4, (Gl.next hG B4), by omega, below_next T3 B4⟩
  have HS := Lib.hid S4
  clear S4 B4 Z3 T3 hG hg K3 Z2 T2 G2 s2
  generalize hmb : w3.heap.size = mb at *
  go_wp2_with fail
  generalize w3.alloc (.cells #[.int .i64 (g.1 : Nat), .slice none 0 0, .slice none 0 0, .slice none 0 0, .slice none 0 0] 26) = w4 at *
  have K5 := Lib.hid (nbyte_any _ _ w4 HS.out.gl)
  refine K5.out.mono ?_
  rintro e w5 ⟨rfl, hG, hg⟩
  have S5 := Lib.hid (HS.out.nose hg hG)
  have hn1 := nNum_lt g.2
  clear hG hg K5 HS
  generalize hnn : nNum g.2 = n0 at *
  obtain ⟨n, l2⟩ := n0
  dsimp only at S5 hn1 ⊢
  go_wp2_with fail
  go_loopw [6] (fun i wr => ∃ (j d c : Nat) (A : Option Addr) (tg : Nat → Nat) (q : List SV), j + d = n ∧ i = .int .i64 d ∧ NoS w wr mb ⟨none, 0, 0, A, j, c, none, 0, 0, none, 0, 0⟩ tg q [] ⟨(g.1 : Nat), [], (nSlots j l2).1, [], []⟩ (nSlots j l2).2) (fun i _ => (intOf i).toNat)
  case atStart => exact ⟨0, n, 0, none, _, _, by omega, rfl, S5.out⟩
  case round =>
    clear S5
    obtain ⟨j, d, c, A, tg, q, hjd, rfl, hS⟩ := hrel
    cases d with
    | succ d =>
      have hst := fun x r => nSlots_succ (n := j) (l := l2) (x := x) (r := r)
      have HS := Lib.hid hS
      clear hS
      generalize hzz : nSlots (j + 1) l2 = z at *
      generalize nSlots j l2 = y at *
      obtain ⟨ss, r⟩ := y
      dsimp only at HS hst
      have e0 : (0 : Int) < ((d + 1 : Nat) : Int) := by omega
      have e1 : ((d + 1 : Nat) : Int) - 1 = (d : Int) := by omega
      have e2 : wrap64 (d : Int) = (d : Int) := by unfold wrap64; omega
      have K6 := Lib.hid (nbyte_any _ _ wr HS.out.gl)
      generalize hD : ((d + 1 : Nat) : Int) = D at *
      go_wp2_with fail
      refine K6.out.mono ?_
      rintro e w6 ⟨rfl, hG, hg⟩
      have S6 := HS.out.nose hg hG
      clear hG hg K6 HS
      generalize hu : nNum r = u at *
      obtain ⟨k, r2⟩ := u
      dsimp only at S6 ⊢
      generalize hK : (k : Int) = K at *
      have W7 := below1 w6 (.cells #[.int .i64 K, .string { data := #[] }, .slice none 0 0] 45)
      have X7 := heap_alloc_new w6 (.cells #[.int .i64 K, .string { data := #[] }, .slice none 0 0] 45)
      have H7 := Lib.hid (S6.next W7)
      have hmb7 : mb < w6.heap.size := S6.ty.ty.lt
      have hs7 : (Value.slice A j c).ownBlock ≠ some w6.heap.size := fun e => by have := (S6.own.slots.lt _ e).2; omega
      have x0 := cell_of_row _ _ 0 _ _ _ X7
      have x1 := cell_of_row _ _ 1 _ _ _ X7
      have x2 := cell_of_row _ _ 2 _ _ _ X7
      simp only [List.getElem?_toArray, List.getElem?_cons_zero, List.getElem?_cons_succ] at x0 x1 x2
      have s7 : (w6.alloc (.cells #[.int .i64 K, .string { data := #[] }, .slice none 0 0] 45)).heap.size = w6.heap.size + 1 := World.size_alloc _ _
      have Z7 := Lib.hid s7
      clear W7 S6 s7
      go_upto_region 7 with fail
      generalize w6.alloc (.cells #[.int .i64 K, .string { data := #[] }, .slice none 0 0] 45) = w7 at *
      cases h1 : (K == 1)
      · cases h2 : (K == 2)
        · have hst2 := hst ⟨K, ByteArray.empty, []⟩ r2 (nSlot_other hu hK h1 h2)
          have S7 := H7.out
          clear hst
          obtain ⟨A2, c2, w9, q1, q2, q3, q', S9⟩ := S7.push ⟨K, { data := #[] }, []⟩ (A := none) (n := 0) (c := 0) TabO.nil (by show j ≤ _; omega) (by exact Nat.zero_le _)
          dsimp only at q1 q2 S9
          obtain ⟨b0, b1, b2, b3, b4⟩ := S7.box
          dsimp only at b0 b1 b2 b3 b4
          have HR := Lib.hid q1
          have H9 := Lib.hid S9
          clear q1 S9 S7 H7
          go_wp2_with (at_builtin; refine wpList_app rfl _ _ _ _ rfl rfl rfl rfl HR.out ?_)
          go_roundw
          case rel => exact ⟨j + 1, d, c2, A2, _, q', by omega, by go_num, by rw [hzz, hst2]; exact H9.out⟩
          case measure => simp [intOf]; omega
        · have hst2 := hst _ _ (nSlot_two hu hK h2)
          obtain rfl : K = 2 := by simpa using h2
          have KL := Lib.hid (nlist_any _ _ 4 w7 H7.out.gl (by decide))
          have hl4 := Nat.le_of_eq (nList_len 4 r2)
          clear hst hu hK
          generalize nList 4 r2 = u4 at *
          obtain ⟨xs, r3⟩ := u4
          dsimp only at KL hst2 hl4
          go_wp2_with fail
          refine KL.out.mono ?_
          rintro e w8 ⟨⟨v8, rfl, tA, tc, rfl, ho, hc1, hc2⟩, hG, hg⟩
          obtain ⟨tg', S8, T8⟩ := H7.out.row hg hG ho (by omega) hc1 hc2 (2 * j + 4)
          have X8 := (hg.block w6.heap.size (by have := Z7.out; omega) (fun e => by injection e; have := H7.out.lo; omega)).trans X7
          have S7 := S8.other (b := w6.heap.size) ⟨_, _, X8⟩ (by decide) hs7 (fun e => by cases e) hmb7 2 (.slice tA xs.length tc)
          have T7 := T8.kept (grown_set w8 w6.heap.size 2 (.slice tA xs.length tc)) (fun b' e _ => .inl ⟨_, by injection e with e; subst e; exact ⟨_, _, X8⟩, by decide⟩)
          have X9 := heap_setCell_same w8 w6.heap.size 2 _ _ (.slice tA xs.length tc) X8
          clear x0 x1 x2
          have x2 := cell_of_row _ _ 2 _ _ _ X8
          have f2 := frozen_of_row _ _ 2 _ _ X8
          clear KL hG hg ho S8 T8 X7 X8
          go_upto_region 12 with fail
          clear x2 f2
          generalize w8.setCell ⟨w6.heap.size, 2, none⟩ (.slice tA xs.length tc) = w10 at *
          simp only [List.setIfInBounds_toArray, List.set_cons_succ, List.set_cons_zero] at X9
          have x0 := cell_of_row _ _ 0 _ _ _ X9
          have x1 := cell_of_row _ _ 1 _ _ _ X9
          have x2 := cell_of_row _ _ 2 _ _ _ X9
          simp only [List.getElem?_toArray, List.getElem?_cons_zero, List.getElem?_cons_succ] at x0 x1 x2
          clear X9
          obtain ⟨A2, c2, w9, q1, q2, q3, q', S9⟩ := S7.push ⟨2, { data := #[] }, xs⟩ T7 (by show j ≤ _; omega) (by exact Nat.zero_le _)
          dsimp only at q1 q2 S9
          obtain ⟨b0, b1, b2, b3, b4⟩ := S7.box
          dsimp only at b0 b1 b2 b3 b4
          have HR := Lib.hid q1
          have H9 := Lib.hid S9
          clear q1 S9 S7 H7
          go_wp2_with (at_builtin; refine wpList_app rfl _ _ _ _ rfl rfl rfl rfl HR.out ?_)
          go_roundw
          case rel => exact ⟨j + 1, d, c2, A2, _, q', by omega, by go_num, by rw [hzz, hst2]; exact H9.out⟩
          case measure => simp [intOf]; omega
      · have hst2 := hst _ _ (nSlot_one hu hK h1)
        obtain rfl : K = 1 := by simpa using h1
        have KT := Lib.hid (ntext_any _ _ 4 w7 H7.out.gl)
        have hd4 : (ofL (r2.take 4)).size ≤ 4 := by rw [ofL_size, List.length_take]; omega
        clear hst hu hK
        generalize ofL (r2.take 4) = dt at *
        generalize r2.drop 4 = r3 at *
        go_wp2_with fail
        refine KT.out.mono ?_
        rintro e w8 ⟨rfl, hG, hg⟩
        have S8 := H7.out.nose hg hG
        have X8 := (hg.block w6.heap.size (by have := Z7.out; omega) (fun e => by injection e; have := H7.out.lo; omega)).trans X7
        have S7 := S8.other (b := w6.heap.size) ⟨_, _, X8⟩ (by decide) hs7 (fun e => by cases e) hmb7 1 (.string dt)
        have X9 := heap_setCell_same w8 w6.heap.size 1 _ _ (.string dt) X8
        clear x0 x1 x2
        have x1 := cell_of_row _ _ 1 _ _ _ X8
        have f1 := frozen_of_row _ _ 1 _ _ X8
        clear KT hG hg S8 X7 X8
        go_upto_region 12 with fail
        clear x1 f1
        generalize w8.setCell ⟨w6.heap.size, 1, none⟩ (.string dt) = w10 at *
        simp only [List.setIfInBounds_toArray, List.set_cons_succ, List.set_cons_zero] at X9
        have x0 := cell_of_row _ _ 0 _ _ _ X9
        have x1 := cell_of_row _ _ 1 _ _ _ X9
        have x2 := cell_of_row _ _ 2 _ _ _ X9
        simp only [List.getElem?_toArray, List.getElem?_cons_zero, List.getElem?_cons_succ] at x0 x1 x2
        clear X9
        obtain ⟨A2, c2, w9, q1, q2, q3, q', S9⟩ := S7.push ⟨1, dt, []⟩ (A := none) (n := 0) (c := 0) TabO.nil (by show j ≤ _; omega) (by show dt.size ≤ _; omega)
        dsimp only at q1 q2 S9
        obtain ⟨b0, b1, b2, b3, b4⟩ := S7.box
        dsimp only at b0 b1 b2 b3 b4
        have HR := Lib.hid q1
        have H9 := Lib.hid S9
        clear q1 S9 S7 H7
        go_wp2_with (at_builtin; refine wpList_app rfl _ _ _ _ rfl rfl rfl rfl HR.out ?_)
        go_roundw
        case rel => exact ⟨j + 1, d, c2, A2, _, q', by omega, by go_num, by rw [hzz, hst2]; exact H9.out⟩
        case measure => simp [intOf]; omega
    | zero =>
      obtain rfl : j = n := by omega
      rw [show ((0 : Nat) : Int) = 0 from rfl]
      have HS := Lib.hid hS
      clear hS hjd
      have hjl := nSlots_len j l2
      generalize hsl : nSlots j l2 = y at *
      obtain ⟨ss, r⟩ := y
      dsimp only at HS hjl
      have K6 := Lib.hid (nbyte_any _ _ wr HS.out.gl)
      have HJ := Lib.hid hjl
      clear hjl
      go_wp2_with fail
      refine K6.out.mono ?_
      rintro e w6 ⟨rfl, hG, hg⟩
      have S6 := Lib.hid (HS.out.nose hg hG)
      have hk1 := nNum_lt r
      clear hG hg K6 HS
      generalize hkk : nNum r = k0 at *
      obtain ⟨k, l3⟩ := k0
      dsimp only at S6 hk1 ⊢
      go_wp2_with fail
      go_loopw [8] (fun i wr => ∃ (y d c' : Nat) (B : Option Addr) (tg : Nat → Nat) (q : List SV) (p : List PV), y + d = k ∧ i = .int .i64 d ∧ NoS w wr mb ⟨none, 0, 0, A, j, c, none, 0, 0, B, y, c'⟩ tg q p ⟨(g.1 : Nat), [], ss, [], (nSnaps y l3).1⟩ (nSnaps y l3).2) (fun i _ => (intOf i).toNat)
      case atStart => exact ⟨0, k, 0, none, _, _, _, by omega, rfl, S6.out⟩
      case round =>
        clear S6
        obtain ⟨y, d, c', B, tg, q, p, hyd, rfl, hS⟩ := hrel
        cases d with
        | succ d =>
          have hst := fun x r => nSnaps_succ (n := y) (l := l3) (x := x) (r := r)
          have HS := Lib.hid hS
          clear hS
          generalize hzz : nSnaps (y + 1) l3 = z at *
          generalize nSnaps y l3 = yy at *
          obtain ⟨ps, r⟩ := yy
          dsimp only at HS hst
          have e0 : (0 : Int) < ((d + 1 : Nat) : Int) := by omega
          have e1 : ((d + 1 : Nat) : Int) - 1 = (d : Int) := by omega
          have e2 : wrap64 (d : Int) = (d : Int) := by unfold wrap64; omega
          have K6 := Lib.hid (nbyte_any _ _ wr HS.out.gl)
          generalize hD : ((d + 1 : Nat) : Int) = D at *
          go_wp2_with fail
          refine K6.out.mono ?_
          rintro e w7 ⟨rfl, hG, hg⟩
          have S7 := Lib.hid (HS.out.nose hg hG)
          have hb1 := nNum_lt r
          clear hG hg K6 HS
          generalize hu : nNum r = u at *
          obtain ⟨b, r1⟩ := u
          dsimp only at S7 hb1 ⊢
          have K7 := Lib.hid (ntext_any _ _ b w7 S7.out.gl)
          go_wp2_with fail
          refine K7.out.mono ?_
          rintro e w8 ⟨rfl, hG, hg⟩
          have S8 := S7.out.nose hg hG
          have hst1 := fun gx r3 hu2 => hst _ _ (nSnap_is (gx := gx) (r3 := r3) hu hu2)
          have hns : (ofL (r1.take b)).size ≤ 1000 := by rw [ofL_size, List.length_take]; omega
          clear hG hg K7 S7 hst
          generalize ofL (r1.take b) = nm at *
          generalize r1.drop b = r2 at *
          have W9 := below1 w8 (.cells #[.string nm, .int .i64 0, .slice none 0 0] 48)
          have X9 := heap_alloc_new w8 (.cells #[.string nm, .int .i64 0, .slice none 0 0] 48)
          have H9 := Lib.hid (S8.next W9)
          have hmb9 : mb < w8.heap.size := S8.ty.ty.lt
          have hs9 : (Value.slice A j c).ownBlock ≠ some w8.heap.size := fun e => by have := (S8.own.slots.lt _ e).2; omega
          have hp9 : (Value.slice B y c').ownBlock ≠ some w8.heap.size := fun e => by have := (S8.own.snaps.lt _ e).2; omega
          have Z9 := Lib.hid (show (w8.alloc (.cells #[.string nm, .int .i64 0, .slice none 0 0] 48)).heap.size = w8.heap.size + 1 from World.size_alloc _ _)
          clear W9 S8
          go_wp2_with fail
          generalize w8.alloc (.cells #[.string nm, .int .i64 0, .slice none 0 0] 48) = w9 at *
          have K9 := Lib.hid (nbyte_any _ _ w9 H9.out.gl)
          refine K9.out.mono ?_
          rintro e w10 ⟨rfl, hG, hg⟩
          have S10 := H9.out.nose hg hG
          have X10 := (hg.block w8.heap.size (by have := Z9.out; omega) (fun e => by injection e; have := H9.out.lo; omega)).trans X9
          have hgx := nNum_lt r2
          clear K9 hG hg H9 X9
          generalize hu2 : nNum r2 = u2 at *
          obtain ⟨gx, r3⟩ := u2
          dsimp only at S10 hgx ⊢
          have hst2 := hst1 gx r3 rfl
          have S11 := Lib.hid (S10.other (b := w8.heap.size) ⟨_, _, X10⟩ (by decide) hs9 hp9 hmb9 1 (.int .i64 (gx : Int)))
          have X11 := heap_setCell_same w10 w8.heap.size 1 _ _ (.int .i64 (gx : Int)) X10
          have x1 := cell_of_row _ _ 1 _ _ _ X10
          have f1 := frozen_of_row _ _ 1 _ _ X10
          clear S10 X10 hst1 hu hu2
          go_upto_region 19 with fail
          clear x1 f1
          generalize w10.setCell ⟨w8.heap.size, 1, none⟩ (.int .i64 (gx : Int)) = w11 at *
          simp only [List.setIfInBounds_toArray, List.set_cons_succ, List.set_cons_zero] at X11
          have x1 := cell_of_row _ _ 1 _ _ _ X11
          simp only [List.getElem?_toArray, List.getElem?_cons_zero, List.getElem?_cons_succ] at x1
          have KW := Lib.hid (fun W => rwants_any (gx : Int) W (by omega) (by omega))
          rw [nWants_nat] at KW
          have hxs := Nat.le_of_eq (nList_len (nWants gx) r3)
          have hwg : nWants gx ≤ 100 := by unfold nWants; omega
          generalize nWants gx = wn at *
          have KL := Lib.hid (nlist_any _ _ wn w11 S11.out.gl (by omega))
          generalize nList wn r3 = u3 at *
          obtain ⟨xs, r4⟩ := u3
          dsimp only at KL hxs hst2
          go_wp2_with (go_at_call 29; refine (KW.out _).mono ?_; rintro e w' ⟨rfl, rfl⟩)
          refine KL.out.mono ?_
          rintro e w12 ⟨⟨v12, rfl, tA, tc, rfl, ho, hc1, hc2⟩, hG, hg⟩
          obtain ⟨tg', S12, T12⟩ := S11.out.row hg hG ho (by omega) hc1 hc2 (2 * y + 5)
          have X12 := (hg.block w8.heap.size (Array.getElem?_eq_some_iff.1 X11).1 (fun e => by injection e; have := S11.out.lo; omega)).trans X11
          have S13 := S12.other (b := w8.heap.size) ⟨_, _, X12⟩ (by decide) hs9 hp9 hmb9 2 (.slice tA xs.length tc)
          have T13 := T12.kept (grown_set w12 w8.heap.size 2 (.slice tA xs.length tc)) (fun b' e _ => .inl ⟨_, by injection e with e; subst e; exact ⟨_, _, X12⟩, by decide⟩)
          have X13 := heap_setCell_same w12 w8.heap.size 2 _ _ (.slice tA xs.length tc) X12
          clear x1
          have x2 := cell_of_row _ _ 2 _ _ _ X12
          have f2 := frozen_of_row _ _ 2 _ _ X12
          clear KL KW hG hg ho S12 T12 X12 X11 S11
          go_upto_region 20 with fail
          clear x2 f2
          generalize w12.setCell ⟨w8.heap.size, 2, none⟩ (.slice tA xs.length tc) = w13 at *
          simp only [List.setIfInBounds_toArray, List.set_cons_succ, List.set_cons_zero] at X13
          have x0 := cell_of_row _ _ 0 _ _ _ X13
          have x1 := cell_of_row _ _ 1 _ _ _ X13
          have x2 := cell_of_row _ _ 2 _ _ _ X13
          simp only [List.getElem?_toArray, List.getElem?_cons_zero, List.getElem?_cons_succ] at x0 x1 x2
          clear X13
          obtain ⟨A2, c2, wz, q1, q2, q3, p', Sz⟩ := S13.pushP ⟨nm, (gx : Int), xs⟩ T13 (by show y ≤ _; omega) (by show nm.size ≤ _; omega)
          dsimp only at q1 q2 Sz
          obtain ⟨b0, b1, b2, b3, b4⟩ := S13.box
          dsimp only at b0 b1 b2 b3 b4
          have HR := Lib.hid q1
          have Hz := Lib.hid Sz
          clear q1 Sz S13 T13
          go_wp2_with (at_builtin; refine wpList_app rfl _ _ _ _ rfl rfl rfl rfl HR.out ?_)
          go_roundw
          case rel => exact ⟨y + 1, d, c2, A2, _, _, p', by omega, by go_num, by rw [hzz, hst2]; exact Hz.out⟩
          case measure => simp [intOf]; omega
        | zero =>
          obtain rfl : y = k := by omega
          rw [show ((0 : Nat) : Int) = 0 from rfl]
          clear hyd
          have HS := Lib.hid hS
          clear hS
          have hg1 := nNum_lt (toL s)
          rw [hgn] at hg1
          have NP := nParse_is hgn hnn hsl hkk
          rw [HJ.out] at NP
          clear hgn hnn hsl hkk
          generalize nSnaps y l3 = z at *
          obtain ⟨ps, r5⟩ := z
          obtain ⟨g0, g2⟩ := g
          dsimp only at HS NP hg1
          obtain ⟨b0, b1, b2, b3, b4⟩ := HS.out.box
          dsimp only at b0 b1 b2 b3 b4
          have KW := Lib.hid (fun W => rwants_any (g0 : Int) W (by omega) (by omega))
          rw [nWants_nat] at KW
          have hxs := Nat.le_of_eq (nList_len (nWants g0) r5)
          have hwg : nWants g0 ≤ 100 := by unfold nWants; omega
          generalize nWants g0 = wn at *
          have KL := Lib.hid (nlist_any _ _ wn wr HS.out.gl (by omega))
          generalize nList wn r5 = u3 at *
          obtain ⟨xs, r6⟩ := u3
          dsimp only at KL hxs NP
          go_wp2_with (go_at_call 29; refine (KW.out _).mono ?_; rintro e w' ⟨rfl, rfl⟩)
          refine KL.out.mono ?_
          rintro e w10 ⟨⟨v10, rfl, tA, tc, rfl, ho, hc1, hc2⟩, hG, hg⟩
          obtain ⟨tg', S10, T10⟩ := HS.out.row hg hG ho (by omega) hc1 hc2 0
          have S11 := Lib.hid (S10.setRoot T10)
          clear b0 b1 b2 b3 b4
          obtain ⟨b0, b1, b2, b3, b4⟩ := S10.box
          dsimp only at b0 b1 b2 b3 b4 S11
          have y1 := S10.ty.fz 1
          clear hG hg KL KW HS T10 S10 ho hc1 hc2
          go_upto_region 22 with fail
          clear b0 b1 b2 b3 b4 y1
          generalize w10.setCell ⟨mb, 1, none⟩ (.slice tA xs.length tc) = w11 at *
          have hmk := fun W => make_ints j (by omega) W
          obtain ⟨b0, b1, b2, b3, b4⟩ := S11.out.box
          dsimp only at b0 b1 b2 b3 b4
          have B12 := below1 w11 (.cells (ints (List.replicate j 0)).toArray 3)
          obtain ⟨tg2, S12, T12⟩ := S11.out.rowB B12 (own_of_block (base := w11.heap.size) (n := j) (heap_alloc_new w11 (.cells (ints (List.replicate j 0)).toArray 3)) (Nat.le_refl _) (by simp [ints]) (by unfold maxLen; omega)) (by omega) (Nat.le_refl _) (by unfold maxLen; omega) 1
          have S13 := Lib.hid (S12.setRefs T12)
          dsimp only at S13
          have k3 := S12.box.2.2.2.1
          have y3 := S12.ty.fz 3
          dsimp only at k3
          clear S12 T12 B12 S11
          go_upto_region 23 with fail
          clear b0 b1 b2 b3 b4 k3 y3 hmk
          generalize (w11.alloc (.cells (ints (List.replicate j 0)).toArray 3)).setCell ⟨mb, 3, none⟩ (.slice (some ⟨w11.heap.size, 0, none⟩) j j) = w13 at *
          have FW := Lib.hid (show fromW (toL s) = if shapeErr ⟨(g0 : Int), xs, ss, List.replicate j 0, ps⟩ = 0 ∧ checkErr (withCounts ⟨(g0 : Int), xs, ss, List.replicate j 0, ps⟩) = 0 ∧ imgB (withCounts ⟨(g0 : Int), xs, ss, List.replicate j 0, ps⟩) = toL s then some (withCounts ⟨(g0 : Int), xs, ss, List.replicate j 0, ps⟩) else none from by unfold fromW; rw [NP])
          have KS' := rshape_any _ _ w13 S13.out.own.imgR
          dsimp only at KS'
          have KS := Lib.hid KS'
          have HCB := Lib.hid (show shapeErr ⟨(g0 : Int), xs, ss, List.replicate j 0, ps⟩ = 0 → CBd ⟨(g0 : Int), xs, ss, List.replicate j 0, ps⟩ from fun h => shape_cbd h)
          clear KS' NP
          obtain ⟨b0, b1, b2, b3, b4⟩ := S13.out.box
          dsimp only at b0 b1 b2 b3 b4
          generalize shapeErr ⟨(g0 : Int), xs, ss, List.replicate j 0, ps⟩ = er at *
          go_wp2_with fail
          refine KS.out.mono ?_
          rintro e w14 ⟨rfl, hb⟩
          have S14 := Lib.hid (S13.out.next hb)
          clear b0 b1 b2 b3 b4 KS hb S13
          by_cases he : er = 0
          case neg =>
            have he' : (er != 0) = true := by simpa using he
            obtain ⟨z0, z1, z2, z3, z4⟩ := S14.out.zb.cells
            obtain ⟨y0, y1, y2, y3, y4⟩ := S14.out.zb.froz
            go_wp2_with fail
            exact fm_no S14.out rfl rfl (by rw [FW.out, if_neg (fun h => he h.1)]) rfl
          subst he
          obtain ⟨b0, b1, b2, b3, b4⟩ := S14.out.box
          dsimp only at b0 b1 b2 b3 b4
          have KC' := rcounts_any _ _ w14 S14.out.own.imgR (HCB.out rfl)
          dsimp only at KC'
          rw [HJ.out] at KC'
          have KC := Lib.hid KC'
          have hwc : withCounts ⟨(g0 : Int), xs, ss, List.replicate j 0, ps⟩ = ⟨(g0 : Int), xs, ss, countsOf ⟨(g0 : Int), xs, ss, List.replicate j 0, ps⟩, ps⟩ := rfl
          rw [hwc] at FW
          clear KC' HCB hwc
          generalize countsOf ⟨(g0 : Int), xs, ss, List.replicate j 0, ps⟩ = cn at *
          go_wp2_with fail
          refine KC.out.mono ?_
          rintro e w15 ⟨lA, lc, rfl, ho, hb, hc1, hc2⟩
          obtain ⟨tg3, S15, T15⟩ := S14.out.rowB hb ho (by omega) hc1 hc2 1
          have S16 := Lib.hid (S15.setRefs T15)
          dsimp only at S16
          clear b0 b1 b2 b3 b4
          have k3 := S15.box.2.2.2.1
          have y3 := S15.ty.fz 3
          dsimp only at k3
          clear KC S14 S15 T15 ho hb hc1 hc2
          go_upto_region 26 with fail
          clear k3 y3
          generalize w15.setCell ⟨mb, 3, none⟩ (.slice lA j lc) = w16 at *
          have KK' := rcheckimg_any _ _ w16 S16.out.own.imgR
          dsimp only at KK'
          have KK := Lib.hid KK'
          have KB' := fun v W (h : ImgR W W.heap.size v ⟨(g0 : Int), xs, ss, cn, ps⟩) (he : checkErr ⟨(g0 : Int), xs, ss, cn, ps⟩ = 0) => imageBytes_any v _ W h he
          dsimp only [imgV] at KB'
          have KB := Lib.hid KB'
          obtain ⟨b0, b1, b2, b3, b4⟩ := S16.out.box
          dsimp only at b0 b1 b2 b3 b4
          clear KK' KB'
          generalize hce : checkErr ⟨(g0 : Int), xs, ss, cn, ps⟩ = er2 at *
          by_cases he : er2 = 0
          case neg =>
            have he' : (er2 != 0) = true := by simpa using he
            clear KB
            go_wp2_with fail
            refine KK.out.mono ?_
            rintro e w17 ⟨rfl, hb⟩
            have S17 := Lib.hid (S16.out.next hb)
            clear b0 b1 b2 b3 b4 KK hb S16
            obtain ⟨z0, z1, z2, z3, z4⟩ := S17.out.zb.cells
            obtain ⟨y0, y1, y2, y3, y4⟩ := S17.out.zb.froz
            go_wp2_with fail
            exact fm_no S17.out rfl rfl (by rw [FW.out, if_neg (fun h => he h.2.1)]) rfl
          subst he
          have FW2 := Lib.hid (show fromW (toL s) = if imgB ⟨(g0 : Int), xs, ss, cn, ps⟩ = toL s then some ⟨(g0 : Int), xs, ss, cn, ps⟩ else none from by
            have A := FW.out
            by_cases hh : imgB ⟨(g0 : Int), xs, ss, cn, ps⟩ = toL s
            · rw [A, if_pos (by simp [hh]), if_pos hh]
            · rw [A, if_neg (by simp [hh]), if_neg hh])
          clear FW hce
          generalize hib : imgB ⟨(g0 : Int), xs, ss, cn, ps⟩ = ib at *
          go_wp2_with fail
          refine KK.out.mono ?_
          rintro e w17 ⟨rfl, hb⟩
          have S17 := Lib.hid (S16.out.next hb)
          clear b0 b1 b2 b3 b4 KK hb S16
          obtain ⟨b0, b1, b2, b3, b4⟩ := S17.out.box
          dsimp only at b0 b1 b2 b3 b4
          go_wp2_with fail
          refine (KB.out _ _ S17.out.own.imgR trivial).mono ?_
          clear b0 b1 b2 b3 b4
          rintro e w18 ⟨rfl, hb⟩
          have S18 := Lib.hid (S17.out.next hb)
          clear KB hb S17
          obtain ⟨z0, z1, z2, z3, z4⟩ := S18.out.zb.cells
          obtain ⟨y0, y1, y2, y3, y4⟩ := S18.out.zb.froz
          obtain ⟨b0, b1, b2, b3, b4⟩ := S18.out.box
          dsimp only at b0 b1 b2 b3 b4
          by_cases hq : ib = toL s
          case neg =>
            have hq' : ((ofL ib).toList == s.toList) = false := by
              apply Bool.eq_false_iff.2
              intro hh
              exact hq (by rw [← toList_inj hh, toL_ofL])
            generalize ofL ib = t at *
            go_wp2_with fail
            exact fm_no S18.out rfl rfl (by rw [FW2.out, if_neg hq]) rfl
          have hq' : ((ofL ib).toList == s.toList) = true := by rw [hq, ofL_toL]; exact beq_self_eq_true _
          have hlo := S18.out.lo
          generalize ofL ib = t at *
          go_wp2_with fail
          exact fm_yes S18.out rfl rfl (by rw [FW2.out, if_pos hq]) rfl
end Go.Proofs.Ytbhhcjnjddcocaa
