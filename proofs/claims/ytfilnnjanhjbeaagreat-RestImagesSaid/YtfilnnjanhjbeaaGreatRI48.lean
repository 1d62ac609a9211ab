/- Texts of the proof of restImages_holds: RPut. Conditions: as each text says. -/
import Derived.Test.YtfilnnjanhjbeaaGreatRI29
import Derived.Test.YtfilnnjanhjbeaaGreatRI23
import Derived.Test.YtfilnnjanhjbeaaGreatRI36
import Derived.Test.YtfilnnjanhjbeaaGreatRI26
import Derived.Test.YtfilnnjanhjbeaaGreatRI27
import Derived.Test.YtfilnnjanhjbeaaGreatRI47
import Derived.Test.YtfilnnjanhjbeaaGreatRI37
import Derived.Test.YtfilnnjanhjbeaaGreatRI20
import Derived.Test.YtfilnnjanhjbeaaGreatRI31
import Derived.Test.YtfilnnjanhjbeaaGreatRI30
namespace Go.Proofs.YtfilnnjanhjbeaaGreat
open Go.RowKit Sl
def KeepI (w w' : World) : Prop := ∀ b, b < w.heap.size → TypeB w b 26 → w'.heap[b]? = w.heap[b]?
theorem KeepI.box {w w' : World} (h : KeepI w w') {b : Nat} {g : Int} {v : IV} (hB : BoxB w b) (hx : Box w b g v) : Box w' b g v ∧ BoxB w' b := by
  obtain ⟨cur, e⟩ := hB
  have e' := (h b (Array.getElem?_eq_some_iff.1 e).1 ⟨cur, _, e⟩).trans e
  have c := fun j => (cell_of_row w' b j _ _ _ e').trans (cell_of_row w b j _ _ _ e).symm
  exact ⟨⟨(c 0).trans hx.1, (c 1).trans hx.2.1, (c 2).trans hx.2.2.1, (c 3).trans hx.2.2.2.1, (c 4).trans hx.2.2.2.2⟩, ⟨cur, e'⟩⟩
theorem KeepI.zb {w w' : World} (h : KeepI w w') {b : Nat} (hB : ZB w b) : ZB w' b := ⟨(h b (Array.getElem?_eq_some_iff.1 hB.heap).1 ⟨_, _, hB.heap⟩).trans hB.heap⟩
def LayOut (base : Nat) (tg : Nat → Nat) (v : IV) (p : List PV) (m2 : Img) (w : World) (e : Ending) (w' : World) : Prop :=
  ∃ v' q', e = .returned (imgV m2 v') ∧ OwnI w' base tg v' q' p m2 ∧ v'.rA = v.rA ∧ v'.rn = v.rn ∧ v'.rc = v.rc ∧ (∀ t A n c xs, TabO w base tg t A n c xs → TabO w' base tg t A n c xs) ∧ Below base w w' ∧ KeepI w w'
theorem boxesL (w : World) (g : Int) (v : IV) (a b c : Value) :
    Below w.heap.size w (((w.alloc (.cells #[.int .i64 g, .slice v.rA v.rn v.rc, .slice v.sA v.sn v.sc, .slice v.fA v.fn v.fc, .slice v.pA v.pn v.pc] 26)).alloc (.cells #[a, b, c] 37)).alloc (.cells #[.int .i64 0, .slice none 0 0, .slice none 0 0, .slice none 0 0, .slice none 0 0] 26)) ∧
    Box (((w.alloc (.cells #[.int .i64 g, .slice v.rA v.rn v.rc, .slice v.sA v.sn v.sc, .slice v.fA v.fn v.fc, .slice v.pA v.pn v.pc] 26)).alloc (.cells #[a, b, c] 37)).alloc (.cells #[.int .i64 0, .slice none 0 0, .slice none 0 0, .slice none 0 0, .slice none 0 0] 26)) w.heap.size g v ∧
    BoxB (((w.alloc (.cells #[.int .i64 g, .slice v.rA v.rn v.rc, .slice v.sA v.sn v.sc, .slice v.fA v.fn v.fc, .slice v.pA v.pn v.pc] 26)).alloc (.cells #[a, b, c] 37)).alloc (.cells #[.int .i64 0, .slice none 0 0, .slice none 0 0, .slice none 0 0, .slice none 0 0] 26)) w.heap.size ∧
    (∀ j : Nat, (((w.alloc (.cells #[.int .i64 g, .slice v.rA v.rn v.rc, .slice v.sA v.sn v.sc, .slice v.fA v.fn v.fc, .slice v.pA v.pn v.pc] 26)).alloc (.cells #[a, b, c] 37)).alloc (.cells #[.int .i64 0, .slice none 0 0, .slice none 0 0, .slice none 0 0, .slice none 0 0] 26)).cell? ⟨w.heap.size + 1, j, none⟩ = #[a, b, c][j]?) ∧
    ZB (((w.alloc (.cells #[.int .i64 g, .slice v.rA v.rn v.rc, .slice v.sA v.sn v.sc, .slice v.fA v.fn v.fc, .slice v.pA v.pn v.pc] 26)).alloc (.cells #[a, b, c] 37)).alloc (.cells #[.int .i64 0, .slice none 0 0, .slice none 0 0, .slice none 0 0, .slice none 0 0] 26)) (w.heap.size + 1 + 1) ∧
    (((w.alloc (.cells #[.int .i64 g, .slice v.rA v.rn v.rc, .slice v.sA v.sn v.sc, .slice v.fA v.fn v.fc, .slice v.pA v.pn v.pc] 26)).alloc (.cells #[a, b, c] 37)).alloc (.cells #[.int .i64 0, .slice none 0 0, .slice none 0 0, .slice none 0 0, .slice none 0 0] 26)).heap.size = w.heap.size + 1 + 1 + 1 := by
  have hX := Box.new w g v 26
  have hBB := BoxB.new w #[.int .i64 g, .slice v.rA v.rn v.rc, .slice v.sA v.sn v.sc, .slice v.fA v.fn v.fc, .slice v.pA v.pn v.pc]
  have hB := below1 w (.cells #[.int .i64 g, .slice v.rA v.rn v.rc, .slice v.sA v.sn v.sc, .slice v.fA v.fn v.fc, .slice v.pA v.pn v.pc] 26)
  have s1 : (w.alloc (.cells #[.int .i64 g, .slice v.rA v.rn v.rc, .slice v.sA v.sn v.sc, .slice v.fA v.fn v.fc, .slice v.pA v.pn v.pc] 26)).heap.size = w.heap.size + 1 := World.size_alloc _ _
  generalize w.alloc (.cells #[.int .i64 g, .slice v.rA v.rn v.rc, .slice v.sA v.sn v.sc, .slice v.fA v.fn v.fc, .slice v.pA v.pn v.pc] 26) = w1 at *
  have b2 := below1 w1 (.cells #[a, b, c] 37)
  have c2 := fun j => cell_of_row _ _ j _ _ _ (heap_alloc_new w1 (.cells #[a, b, c] 37))
  have s2 : (w1.alloc (.cells #[a, b, c] 37)).heap.size = w1.heap.size + 1 := World.size_alloc _ _
  generalize w1.alloc (.cells #[a, b, c] 37) = w2 at *
  have b3 := below1 w2 (.cells #[.int .i64 0, .slice none 0 0, .slice none 0 0, .slice none 0 0, .slice none 0 0] 26)
  have z3 := ZB.new w2
  have s3 : (w2.alloc (.cells #[.int .i64 0, .slice none 0 0, .slice none 0 0, .slice none 0 0, .slice none 0 0] 26)).heap.size = w2.heap.size + 1 := World.size_alloc _ _
  generalize w2.alloc (.cells #[.int .i64 0, .slice none 0 0, .slice none 0 0, .slice none 0 0, .slice none 0 0] 26) = w3 at *
  have e2 : w2.heap.size = w.heap.size + 1 + 1 := by omega
  refine ⟨below_next (below_next hB b2) b3, (hX.keep b2 (by omega)).keep b3 (by omega), (hBB.next b2).next b3, fun j => ?_, by rw [← e2]; exact z3, by omega⟩
  rw [← s1]
  exact (b3.cell (p := ⟨w1.heap.size, j, none⟩) (show w1.heap.size < _ by omega)).trans (c2 j)
set_option maxRecDepth 100000 in
set_option maxHeartbeats 1000000 in
theorem lay_any (base : Nat) (tg : Nat → Nat) (v : IV) (q : List SV) (p : List PV) (m : Img) (g : Nat) (s : Slot) (A : Option Addr) (n c : Nat) (w : World) (h : OwnI w base tg v q p m) (hbase : base ≤ w.heap.size) (hg : g ≤ m.slots.length) (h40 : m.slots.length ≤ 40) (hgp : 1 ≤ g)
    (hd : s.data.size ≤ 4611686018427387903) (ht : TabO w base tg (2 * g + 4) A n c s.table) :
    Calls Tryz.prog 41 #[imgV m v, .int .i64 (g : Nat), .agg #[.int .i64 s.kind, .string s.data, .slice A n c]] w (LayOut base tg v p { m with slots := laid m.slots g s } w) := by
  have hsn : m.slots.length = v.sn := h.imgR.slen
  obtain ⟨f1, f2, fb, f3, f4, f5⟩ := boxesL w m.guest v (.int .i64 s.kind) (.string s.data) (.slice A n c)
  have O3' := h.next f1
  have T3' := ht.next f1
  have KT' : ∀ t A n c xs, TabO w base tg t A n c xs → TabO _ base tg t A n c xs := fun t A n c xs hh => hh.next f1
  obtain ⟨sb, hsA, hsb, hsl⟩ := own_some h.slots (by omega)
  obtain ⟨rA, rn, rc, sA, sn, sc, fA, fn, fc, pA, pn, pc⟩ := v
  dsimp only [imgV] at *
  subst hsA
  have u0 := f3 0
  have u1 := f3 1
  have u2 := f3 2
  simp only [List.getElem?_toArray, List.getElem?_cons_zero, List.getElem?_cons_succ] at u0 u1 u2
  have O3 := Lib.hid O3'
  have T3 := Lib.hid T3'
  have KT := Lib.hid KT'
  have X3 := Lib.hid f2
  have B3 := Lib.hid fb
  have Z3 := Lib.hid f4
  have F1 := Lib.hid f1
  have HSN := Lib.hid hsn
  clear h ht O3' T3' KT' f3 f4 fb f1
  obtain ⟨x0, x1, x2, x3, x4⟩ := f2
  dsimp only at x0 x1 x2 x3 x4
  go_enter Tryz.func41, Tryz.ntmps41
  by_cases hn : g = sn
  · subst hn
    have hgg : ((g : Int) == (g : Int)) = true := by simp
    obtain ⟨is0, his, hsz0, hsz1, hsz2⟩ := info_parts Tryz.infoSlot
    obtain ⟨A2, c2, w5, q1, q2, q3, q4, q5, q6, q7⟩ := app_one (P := Tryz.prog) (((w.alloc (.cells #[.int .i64 m.guest, .slice rA rn rc, .slice (some ⟨sb, 0, none⟩) g sc, .slice fA fn fc, .slice pA pn pc] 26)).alloc (.cells #[.int .i64 s.kind, .string s.data, .slice A n c] 37)).alloc (.cells #[.int .i64 0, .slice none 0 0, .slice none 0 0, .slice none 0 0, .slice none 0 0] 26)) base 23 23 37 is0 _ 3 48 Tryz.underlying23 his hsz0 hsz1 hsz2 rfl (by omega) _ _ _ O3.out.slots #[.int .i64 s.kind, .string s.data, .slice A n c] rfl
      (by intro u hu; simp at hu; rcases hu with rfl | rfl | rfl <;> rfl) (by show (g + 1) * 48 ≤ _; omega) (by show g + 1 ≤ _; unfold maxLen; omega) (by rw [f5]; omega)
    dsimp only at q1
    rw [f5] at q1
    have HR := Lib.hid q1
    have W5 := below1 (((w.alloc (.cells #[.int .i64 m.guest, .slice rA rn rc, .slice (some ⟨sb, 0, none⟩) g sc, .slice fA fn fc, .slice pA pn pc] 26)).alloc (.cells #[.int .i64 s.kind, .string s.data, .slice A n c] 37)).alloc (.cells #[.int .i64 0, .slice none 0 0, .slice none 0 0, .slice none 0 0, .slice none 0 0] 26)) (.cells #[.int .i64 s.kind, .string s.data, .slice A n c] 37)
    have O5 := (O3.out.next W5).pushSlot (x := ⟨s, A, n, c⟩) q2 q6 q4 q5 (by show g ≤ _; omega) hd (T3.out.next W5)
    have hne1 : some w.heap.size ≠ (Value.slice (some ⟨sb, 0, none⟩) g sc).ownBlock := fun e => (B3.out.ty.ne (own_block O3.out.slots e.symm) (by decide)) rfl
    have hne2 : some (w.heap.size + 1 + 1) ≠ (Value.slice (some ⟨sb, 0, none⟩) g sc).ownBlock := fun e => (Z3.out.box.1.ty.ne (own_block O3.out.slots e.symm) (by decide)) rfl
    have X5 := (X3.out.keep W5 (by omega)).kept q6 hne1
    have B5 := (B3.out.next W5).kept q6 hne1
    have Z5 : ZB w5 (w.heap.size + 1 + 1) := ⟨(q6.block _ (by have := W5.size; omega) hne2).trans (Z3.out.next W5).heap⟩
    have hgs := grown_set w5 w.heap.size 2 (.slice A2 (g + 1) c2)
    have O6 := O5.kept hgs B5.ty (by decide) (by decide) (by decide)
    obtain ⟨x5, x6, x7, x8, x9⟩ := X5
    dsimp only at x5 x6 x7 x8 x9
    have X6 : Box (w5.setCell ⟨w.heap.size, 2, none⟩ (.slice A2 (g + 1) c2)) w.heap.size m.guest ⟨rA, rn, rc, A2, g + 1, c2, fA, fn, fc, pA, pn, pc⟩ := by
      refine ⟨?_, ?_, ?_, ?_, ?_⟩ <;> go_simp
    have Z6 : ZB (w5.setCell ⟨w.heap.size, 2, none⟩ (.slice A2 (g + 1) c2)) (w.heap.size + 1 + 1) := ⟨(hgs.block _ (Array.getElem?_eq_some_iff.1 Z5.heap).1 (fun e => by injection e with e; omega)).trans Z5.heap⟩
    have fz2 := B5.fz 2
    have h5 := five Z6.box.1 Z6.box.2 m.guest ⟨rA, rn, rc, A2, g + 1, c2, fA, fn, fc, pA, pn, pc⟩
    have O7 := O6.kept h5.2.2 Z6.box.1.ty (by decide) (by decide) (by decide)
    have TT : ∀ t A n c xs, TabO w base tg t A n c xs → TabO _ base tg t A n c xs := fun t A n' c' xs hh =>
      ((((KT.out t A n' c' xs hh).next W5).far (O3.out.next W5).slots (by decide) q6).kept hgs (fun b' e hl => .inl ⟨_, by injection e with e; subst e; exact B5.ty, by decide⟩)).kept h5.2.2 (fun b' e hl => .inl ⟨_, by injection e with e; subst e; exact Z6.box.1.ty, by decide⟩)
    have LB := (((F1.out.mono hbase).trans q3).setCell (p := ⟨w.heap.size, 2, none⟩) hbase (.slice A2 (g + 1) c2)).grown h5.2.2 (by have := (((F1.out.mono hbase).trans q3).setCell (p := ⟨w.heap.size, 2, none⟩) hbase (.slice A2 (g + 1) c2)).size; omega) (fun j e => by injection e with e; omega)
    have KH : KeepI w _ := fun b hl hT => (((h5.2.2.block b (by have := F1.out.size; have := W5.size; have := q6.size; have := hgs.size; omega) (fun e => by injection e with e; omega)).trans (hgs.block b (by have := F1.out.size; have := W5.size; have := q6.size; omega) (fun e => by injection e with e; omega))).trans (q6.block b (by have := W5.size; omega) (fun e => ((hT.next F1.out).ne (own_block O3.out.slots e.symm) (by decide)) rfl))).trans ((W5.block b (by omega)).trans (F1.out.block b hl))
    have LD : m.slots ++ [s] = laid m.slots g s := by unfold laid; rw [if_pos HSN.out.symm]
    dsimp only at h5
    obtain ⟨⟨k0, k1, k2, k3, k4⟩, _, _⟩ := h5
    obtain ⟨z0, z1, z2, z3, z4⟩ := Z6.cells
    obtain ⟨b0, b1, b2, b3, b4⟩ := Z6.froz
    obtain ⟨y5, y6, y7, y8, y9⟩ := X6
    dsimp only at y5 y6 y7 y8 y9
    have HO := Lib.hid O7
    have HTT := Lib.hid TT
    have HLB := Lib.hid LB
    have HKH := Lib.hid KH
    have HLD := Lib.hid LD
    have HK := Lib.hid (And.intro k0 (And.intro k1 (And.intro k2 (And.intro k3 k4))))
    clear q1 q2 q3 q6 q7 W5 O5 hne1 hne2 B5 Z5 hgs O6 Z6 O7 TT LB LD KH k0 k1 k2 k3 k4 O3 T3 KT X3 B3 Z3 F1 f5
    go_wp2_with (at_builtin; refine wpList_app rfl _ _ _ _ rfl rfl rfl rfl HR.out ?_)
    obtain ⟨k0, k1, k2, k3, k4⟩ := HK.out
    refine bodyPost_ret (v := imgV { m with slots := laid m.slots g s } ⟨rA, rn, rc, A2, g + 1, c2, fA, fn, fc, pA, pn, pc⟩) ?_ rfl ⟨_, _, rfl, by rw [← HLD.out]; exact HO.out, rfl, rfl, rfl, HTT.out, HLB.out, HKH.out⟩
    simp [results, Tryz.results41, go_sem, k0, k1, k2, k3, k4, imgV]
  · have hgg : ((g : Int) == (sn : Int)) = false := by simp; omega
    have hsl3 := O3.out.slots
    have hq1 : g < q.length := by have := O3.out.qlen; dsimp only at this; omega
    have hqk := List.getElem?_eq_getElem hq1
    generalize q[g] = xk at hqk
    have c0 := hsl3.cellAt (g * 3) (by dsimp only; omega)
    have c1 := hsl3.cellAt (g * 3 + 1) (by dsimp only; omega)
    have c2 := hsl3.cellAt (g * 3 + 2) (by dsimp only; omega)
    have p0 := hsl3.frozenAt (g * 3)
    have p1 := hsl3.frozenAt (g * 3 + 1)
    have p2 := hsl3.frozenAt (g * 3 + 2)
    have y0 := flat3_at SV.cells SV.cells_len _ g xk hqk 0 (by omega)
    rw [Nat.add_zero] at y0
    rw [y0] at c0
    rw [flat3_at SV.cells SV.cells_len _ g xk hqk 1 (by omega)] at c1
    rw [flat3_at SV.cells SV.cells_len _ g xk hqk 2 (by omega)] at c2
    simp only [SV.cells, slotCells, List.getElem?_cons_zero, List.getElem?_cons_succ] at c0 c1 c2
    have e0 : (0 : Int) ≤ (g : Int) := by omega
    have e1 : (g : Int) < (sn : Int) := by omega
    obtain ⟨n1, n2⟩ := O3.out.set3 (x' := ⟨s, A, n, c⟩) rfl hqk hd T3.out
    have hTy := own_block O3.out.slots (b := sb) rfl
    have hne : w.heap.size ≠ sb := B3.out.ty.ne hTy (by decide)
    have hne2 : w.heap.size + 1 + 1 ≠ sb := Z3.out.box.1.ty.ne hTy (by decide)
    have X4 := X3.out.kept n2 (fun e => hne (by injection e))
    have KH0 : ∀ b, b < w.heap.size → TypeB w b 26 → b ≠ sb := fun b hl hT => (hT.next F1.out).ne hTy (by decide)
    have LD : (m.slots.set g s) = laid m.slots g s := by unfold laid; rw [if_neg (by have := HSN.out; omega)]
    have Z4 : ZB _ (w.heap.size + 1 + 1) := ⟨(n2.block _ (by omega) (fun e => hne2 (by injection e))).trans Z3.out.heap⟩
    have h5 := five Z4.box.1 Z4.box.2 m.guest ⟨rA, rn, rc, some ⟨sb, 0, none⟩, sn, sc, fA, fn, fc, pA, pn, pc⟩
    have O5 := n1.kept h5.2.2 Z4.box.1.ty (by decide) (by decide) (by decide)
    have TT : ∀ t A n c xs, TabO w base tg t A n c xs → TabO _ base tg t A n c xs := fun t A n' c' xs hh => ((KT.out t A n' c' xs hh).kept n2 (fun b' e hl => .inl ⟨_, by injection e with e; subst e; exact hTy, by decide⟩)).kept h5.2.2 (fun b' e hl => .inl ⟨_, by injection e with e; subst e; exact Z4.box.1.ty, by decide⟩)
    have LB := ((F1.out.mono hbase).grown n2 (by omega) (fun j e => by injection e with e; omega)).grown h5.2.2 (by have := n2.size; omega) (fun j e => by injection e with e; omega)
    have KH : KeepI w _ := fun b hl hT => ((h5.2.2.block b (by have := n2.size; omega) (fun e => by injection e with e; omega)).trans (n2.block b (by omega) (fun e => KH0 b hl hT (by injection e)))).trans (F1.out.block b hl)
    dsimp only at h5
    obtain ⟨⟨k0, k1, k2, k3, k4⟩, _, _⟩ := h5
    obtain ⟨z0, z1, z2, z3, z4⟩ := Z4.cells
    obtain ⟨b0, b1, b2, b3, b4⟩ := Z4.froz
    obtain ⟨x5, x6, x7, x8, x9⟩ := X4
    dsimp only at x5 x6 x7 x8 x9
    have HO := Lib.hid O5
    have HTT := Lib.hid TT
    have HLB := Lib.hid LB
    have HKH := Lib.hid KH
    have HLD := Lib.hid LD
    have HK := Lib.hid (And.intro k0 (And.intro k1 (And.intro k2 (And.intro k3 k4))))
    clear hsl3 hq1 hqk y0 n1 n2 hTy LD Z4 O5 TT LB KH KH0 k0 k1 k2 k3 k4 O3 T3 KT X3 B3 Z3 F1
    go_wp2_with fail
    obtain ⟨k0, k1, k2, k3, k4⟩ := HK.out
    refine bodyPost_ret (v := imgV { m with slots := laid m.slots g s } ⟨rA, rn, rc, some ⟨sb, 0, none⟩, sn, sc, fA, fn, fc, pA, pn, pc⟩) ?_ rfl ⟨_, _, rfl, by rw [← HLD.out]; exact HO.out, rfl, rfl, rfl, HTT.out, HLB.out, HKH.out⟩
    simp [results, Tryz.results41, go_sem, k0, k1, k2, k3, k4, imgV]
end Go.Proofs.YtfilnnjanhjbeaaGreat
namespace Go.Proofs.YtfilnnjanhjbeaaGreat
open Go.RowKit Sl
set_option maxRecDepth 100000 in
set_option maxHeartbeats 1000000 in
theorem tableOf_any (v : IV) (m : Img) (k : Nat) (w : World) (h : ImgR w w.heap.size v m) (hm : checkErr m = 0) (hk : k < m.root.length) :
    Calls Tryz.prog 42 #[imgV m v, .int .i64 (int m.root k)] w (OwnRes w.heap.size 3 1 4 (ints (entriesAt m k)) w) := by
  have HB1 := below1 w (.cells #[.int .i64 m.guest, .slice v.rA v.rn v.rc, .slice v.sA v.sn v.sc, .slice v.fA v.fn v.fc, .slice v.pA v.pn v.pc] 26)
  have hX := Box.new w m.guest v 26
  have s1 : (w.alloc (.cells #[.int .i64 m.guest, .slice v.rA v.rn v.rc, .slice v.sA v.sn v.sc, .slice v.fA v.fn v.fc, .slice v.pA v.pn v.pc] 26)).heap.size = w.heap.size + 1 := World.size_alloc _ _
  rcases root_facts hm hk with h0 | ⟨j, s, hj, hj1, hs, hk2, h4⟩
  · have R := Lib.hid (entries_no (m := m) (k := k) (by omega))
    rw [h0]
    have HM : ∀ W : World, (Instr.makeSlice 22 (.int .i64 4) (.int .i64 4)).run Tryz.prog W = .ok (.slice (some ⟨W.heap.size, 0, none⟩) 4 4) (W.alloc (.cells (ints (List.replicate 4 0)).toArray 3)) := fun W => make_ints 4 (by omega) W
    obtain ⟨rA, rn, rc, sA, sn, sc, fA, fn, fc, pA, pn, pc⟩ := v
    dsimp only [imgV] at *
    have hown := own_of_block (heap_alloc_new (w.alloc (.cells #[.int .i64 m.guest, .slice rA rn rc, .slice sA sn sc, .slice fA fn fc, .slice pA pn pc] 26)) (.cells (ints (List.replicate 4 0)).toArray 3)) (Nat.le_refl _) (show (ints (List.replicate 4 0)).length = 4 from rfl) (by unfold maxLen; omega)
    have HO := Lib.hid (own_base hown (show w.heap.size ≤ _ by omega))
    have HBB := Lib.hid (below_next HB1 (below1 (w.alloc (.cells #[.int .i64 m.guest, .slice rA rn rc, .slice sA sn sc, .slice fA fn fc, .slice pA pn pc] 26)) (.cells (ints (List.replicate 4 0)).toArray 3)))
    rw [s1] at HO
    clear h hm hown HB1 hX
    go_enter Tryz.func42, Tryz.ntmps42
    go_wp2_with fail
    go_ret
    exact ⟨_, _, rfl, by rw [R.out]; exact HO.out, HBB.out, Nat.le_refl _, by unfold maxLen; omega⟩
  · have hjl : j < v.sn := by have := h.slen; have := (List.getElem?_eq_some_iff.1 hs).1; omega
    obtain ⟨b2, o2, s2, tA, tn, tc, hA, hb2, hx2, d0, d1, d2, hsv⟩ := h.slots.at_ (k := j) hjl
    rw [hs] at hx2
    injection hx2 with hx2
    subst hx2
    obtain rfl : tn = 4 := by have := hsv.table.len; omega
    have R := Lib.hid (entries_yes hj hj1 hs)
    rw [hj]
    have HB2 := below1 (w.alloc (.cells #[.int .i64 m.guest, .slice v.rA v.rn v.rc, .slice v.sA v.sn v.sc, .slice v.fA v.fn v.fc, .slice v.pA v.pn v.pc] 26)) (.cells #[] 3)
    have T2 := below_next HB1 HB2
    have he : EB ((w.alloc (.cells #[.int .i64 m.guest, .slice v.rA v.rn v.rc, .slice v.sA v.sn v.sc, .slice v.fA v.fn v.fc, .slice v.pA v.pn v.pc] 26)).alloc (.cells #[] 3)) (w.heap.size + 1) := by rw [← s1]; exact ⟨heap_alloc_new _ _⟩
    obtain ⟨A', c', w', q1, q2, q3, q4, q5⟩ := run_appE _ _ he tA 4 tc s.table (hsv.table.next T2) (by omega)
    have q6 : w'.ownsRow w.heap.size 3 1 (.slice A' 4 c') 4 (ints s.table) := by
      rcases q2 with ⟨h0, _⟩ | q2
      · omega
      · exact own_base q2 (by rw [World.size_alloc]; omega)
    have e8 := (T2.cell (p := ⟨b2, o2 + j * 3 + 2, none⟩) hb2).trans d2
    have hX2 := hX.keep HB2 (by omega)
    obtain ⟨rA, rn, rc, sA, sn, sc, fA, fn, fc, pA, pn, pc⟩ := v
    dsimp only [imgV] at *
    subst hA
    obtain ⟨x0, x1, x2, x3, x4⟩ := hX2
    dsimp only at x0 x1 x2 x3 x4
    have HR := Lib.hid q1
    have HO := Lib.hid q6
    have HBB := Lib.hid (below_next T2 q3)
    have hj0 : ((j : Int) == 0) = false := by simp; omega
    have e2 : (0 : Int) ≤ (j : Int) := by omega
    have e3 : (j : Int) < (sn : Int) := by omega
    clear h hm hs hsv hX HB1 HB2 T2 he q1 q2 q3 q6 d0 d1 d2 hj h4
    go_enter Tryz.func42, Tryz.ntmps42
    go_wp2_with (at_builtin; refine wpList_app rfl _ _ _ _ rfl rfl rfl rfl HR.out ?_)
    go_ret
    exact ⟨_, _, rfl, by rw [R.out]; exact HO.out, HBB.out, q4, q5⟩
end Go.Proofs.YtfilnnjanhjbeaaGreat
namespace Go.Proofs.YtfilnnjanhjbeaaGreat
open Go.RowKit Sl
theorem OwnI.setRootO {w : World} {base : Nat} {tg : Nat → Nat} {v : IV} {q : List SV} {p : List PV} {m : Img} (h : OwnI w base tg v q p m) {k : Nat} (hk : k < v.rn) (y : Int) : ∃ g, v.rA = some ⟨g, 0, none⟩ ∧ base ≤ g ∧ TypeB w g 3 ∧ w.frozen? ⟨g, k, none⟩ = false ∧ (∃ x, w.cell? ⟨g, k, none⟩ = some (.int .i64 x)) ∧
    OwnI (w.setCell ⟨g, k, none⟩ (.int .i64 y)) base tg v q p { m with root := m.root.set k y } := by
  obtain ⟨g, hA, h1, h2, h3, h4, ⟨x, _, hx⟩, h6, h7⟩ := h.root.stored hk y
  have hg := grown_set w g k (.int .i64 y)
  have ht : ∀ {t n c : Nat} {A : Option Addr} {xs : List Int}, TabO w base tg t A n c xs → t ≠ 0 → TabO (w.setCell ⟨g, k, none⟩ (.int .i64 y)) base tg t A n c xs := fun hh hn => hh.kept hg fun b' e _ => by injection e with e; subst e; exact .inr (by omega)
  exact ⟨g, hA, h1, h4, h6, ⟨x, hx⟩, ⟨h7, ht h.refs (by decide), h.slots.kept hg (own_far h.slots h4 (by decide)), h.sle, h.scap, h.snaps.kept hg (own_far h.snaps h4 (by decide)), h.ple, h.pcap, h.hq, h.hp,
    fun k x hx => ⟨(h.tabs k x hx).1, ht (h.tabs k x hx).2 (by omega)⟩, fun k x hx => ⟨(h.roots k x hx).1, ht (h.roots k x hx).2 (by omega)⟩⟩⟩
theorem boxesT (w : World) (g : Int) (v : IV) :
    Below w.heap.size w ((w.alloc (.cells #[.int .i64 g, .slice v.rA v.rn v.rc, .slice v.sA v.sn v.sc, .slice v.fA v.fn v.fc, .slice v.pA v.pn v.pc] 26)).alloc (.cells #[.int .i64 0, .slice none 0 0, .slice none 0 0, .slice none 0 0, .slice none 0 0] 26)) ∧
    Box ((w.alloc (.cells #[.int .i64 g, .slice v.rA v.rn v.rc, .slice v.sA v.sn v.sc, .slice v.fA v.fn v.fc, .slice v.pA v.pn v.pc] 26)).alloc (.cells #[.int .i64 0, .slice none 0 0, .slice none 0 0, .slice none 0 0, .slice none 0 0] 26)) w.heap.size g v ∧
    BoxB ((w.alloc (.cells #[.int .i64 g, .slice v.rA v.rn v.rc, .slice v.sA v.sn v.sc, .slice v.fA v.fn v.fc, .slice v.pA v.pn v.pc] 26)).alloc (.cells #[.int .i64 0, .slice none 0 0, .slice none 0 0, .slice none 0 0, .slice none 0 0] 26)) w.heap.size ∧
    ZB ((w.alloc (.cells #[.int .i64 g, .slice v.rA v.rn v.rc, .slice v.sA v.sn v.sc, .slice v.fA v.fn v.fc, .slice v.pA v.pn v.pc] 26)).alloc (.cells #[.int .i64 0, .slice none 0 0, .slice none 0 0, .slice none 0 0, .slice none 0 0] 26)) (w.heap.size + 1) ∧
    ((w.alloc (.cells #[.int .i64 g, .slice v.rA v.rn v.rc, .slice v.sA v.sn v.sc, .slice v.fA v.fn v.fc, .slice v.pA v.pn v.pc] 26)).alloc (.cells #[.int .i64 0, .slice none 0 0, .slice none 0 0, .slice none 0 0, .slice none 0 0] 26)).heap.size = w.heap.size + 1 + 1 := by
  have hX := Box.new w g v 26
  have hBB := BoxB.new w #[.int .i64 g, .slice v.rA v.rn v.rc, .slice v.sA v.sn v.sc, .slice v.fA v.fn v.fc, .slice v.pA v.pn v.pc]
  have hB := below1 w (.cells #[.int .i64 g, .slice v.rA v.rn v.rc, .slice v.sA v.sn v.sc, .slice v.fA v.fn v.fc, .slice v.pA v.pn v.pc] 26)
  have s1 : (w.alloc (.cells #[.int .i64 g, .slice v.rA v.rn v.rc, .slice v.sA v.sn v.sc, .slice v.fA v.fn v.fc, .slice v.pA v.pn v.pc] 26)).heap.size = w.heap.size + 1 := World.size_alloc _ _
  generalize w.alloc (.cells #[.int .i64 g, .slice v.rA v.rn v.rc, .slice v.sA v.sn v.sc, .slice v.fA v.fn v.fc, .slice v.pA v.pn v.pc] 26) = w1 at *
  have b3 := below1 w1 (.cells #[.int .i64 0, .slice none 0 0, .slice none 0 0, .slice none 0 0, .slice none 0 0] 26)
  have z3 := ZB.new w1
  have s3 : (w1.alloc (.cells #[.int .i64 0, .slice none 0 0, .slice none 0 0, .slice none 0 0, .slice none 0 0] 26)).heap.size = w1.heap.size + 1 := World.size_alloc _ _
  generalize w1.alloc (.cells #[.int .i64 0, .slice none 0 0, .slice none 0 0, .slice none 0 0, .slice none 0 0] 26) = w3 at *
  exact ⟨below_next hB b3, hX.keep b3 (by omega), hBB.next b3, by rw [← s1]; exact z3, by omega⟩
theorem lastI {W : World} {base ob : Nat} {tg : Nat → Nat} {v : IV} {q : List SV} {p : List PV} {m : Img} (hz : ZB W ob) (hO : OwnI W base tg v q p m) :
    Box (((((W.setCell ⟨ob, 0, none⟩ (.int .i64 m.guest)).setCell ⟨ob, 1, none⟩ (.slice v.rA v.rn v.rc)).setCell ⟨ob, 2, none⟩ (.slice v.sA v.sn v.sc)).setCell ⟨ob, 3, none⟩ (.slice v.fA v.fn v.fc)).setCell ⟨ob, 4, none⟩ (.slice v.pA v.pn v.pc)) ob m.guest v ∧
    OwnI (((((W.setCell ⟨ob, 0, none⟩ (.int .i64 m.guest)).setCell ⟨ob, 1, none⟩ (.slice v.rA v.rn v.rc)).setCell ⟨ob, 2, none⟩ (.slice v.sA v.sn v.sc)).setCell ⟨ob, 3, none⟩ (.slice v.fA v.fn v.fc)).setCell ⟨ob, 4, none⟩ (.slice v.pA v.pn v.pc)) base tg v q p m ∧
    W.grownBy (((((W.setCell ⟨ob, 0, none⟩ (.int .i64 m.guest)).setCell ⟨ob, 1, none⟩ (.slice v.rA v.rn v.rc)).setCell ⟨ob, 2, none⟩ (.slice v.sA v.sn v.sc)).setCell ⟨ob, 3, none⟩ (.slice v.fA v.fn v.fc)).setCell ⟨ob, 4, none⟩ (.slice v.pA v.pn v.pc)) (some ob) := by
  have h5 := five hz.box.1 hz.box.2 m.guest v
  exact ⟨h5.1, hO.kept h5.2.2 hz.box.1.ty (by decide) (by decide) (by decide), h5.2.2⟩
end Go.Proofs.YtfilnnjanhjbeaaGreat
namespace Go.Proofs.YtfilnnjanhjbeaaGreat
open Go.RowKit Sl
theorem outI' {w W : World} {ob base B : Nat} {v : IV} {X : Img} (hz : ZB W ob) (hF : Fresh W B v X) (hb : Below base w W) (hbw : base ≤ w.heap.size) (hl : base ≤ ob) :
    Box (((((W.setCell ⟨ob, 0, none⟩ (.int .i64 X.guest)).setCell ⟨ob, 1, none⟩ (.slice v.rA v.rn v.rc)).setCell ⟨ob, 2, none⟩ (.slice v.sA v.sn v.sc)).setCell ⟨ob, 3, none⟩ (.slice v.fA v.fn v.fc)).setCell ⟨ob, 4, none⟩ (.slice v.pA v.pn v.pc)) ob X.guest v ∧
    Fresh (((((W.setCell ⟨ob, 0, none⟩ (.int .i64 X.guest)).setCell ⟨ob, 1, none⟩ (.slice v.rA v.rn v.rc)).setCell ⟨ob, 2, none⟩ (.slice v.sA v.sn v.sc)).setCell ⟨ob, 3, none⟩ (.slice v.fA v.fn v.fc)).setCell ⟨ob, 4, none⟩ (.slice v.pA v.pn v.pc)) B v X ∧
    Below base w (((((W.setCell ⟨ob, 0, none⟩ (.int .i64 X.guest)).setCell ⟨ob, 1, none⟩ (.slice v.rA v.rn v.rc)).setCell ⟨ob, 2, none⟩ (.slice v.sA v.sn v.sc)).setCell ⟨ob, 3, none⟩ (.slice v.fA v.fn v.fc)).setCell ⟨ob, 4, none⟩ (.slice v.pA v.pn v.pc)) := by
  have h5 := five hz.box.1 hz.box.2 X.guest v
  exact ⟨h5.1, hF.kept h5.2.2 hz.box.1.ty (by decide) (by decide) (by decide), hb.grown h5.2.2 (Nat.le_trans hbw hb.size) (fun j e => by injection e with e; omega)⟩
theorem OwnI.fresh {w W W' : World} {base n c : Nat} {tg : Nat → Nat} {v : IV} {q : List SV} {p : List PV} {m : Img} {A : Option Addr} {l : List Int} (h : OwnI w base tg v q p m) (hbw : base ≤ w.heap.size) (T : Below w.heap.size w W) (hb : Below W.heap.size W W') (ho : W'.ownsRow W.heap.size 3 1 (.slice A n c) n (ints l))
    (hn : n ≤ 1000000) (hc : n ≤ c) (hm : c ≤ maxLen) : ∃ tg', OwnI W' base tg' v q p m ∧ TabO W' base tg' 3 A n c l := by
  have := T.size
  exact ⟨fun g => if W.heap.size ≤ g then 3 else tg g, ((h.next T).retag (fun b' hb' => if_neg (by omega))).next hb, TabO.made (.inr ho) (by omega) hn hc hm⟩
end Go.Proofs.YtfilnnjanhjbeaaGreat
