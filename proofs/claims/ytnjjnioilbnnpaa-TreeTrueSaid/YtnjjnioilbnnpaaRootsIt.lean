/- tree.roots: the maker and the iterator's contract. Conditions: the image is read in blocks below n₀. -/
import Derived.RangeFuncNested
import Derived.RangeFuncBound
import Derived.RangeFuncCalls
import Derived.RangeFuncLeaves
import Derived.RangeFuncFrom
import Derived.Shelf.Abstract
import Derived.WalkKit
import Derived.OwnWalkIn
import Derived.TacticsInMore
import Derived.LoopNIn
import Derived.LoopIn
import Derived.Test.YtnjjnioilbnnpaaShape0
namespace Go.Proofs.Ytnjjnioilbnnpaa
open Go.RowKit Go.Shelf Sl

attribute [local go_sem] Oper.semAt_some

/-- A Root that is handed to a loop's body: the guest, the slice value, and what it holds. -/
structure RV where
  g : Int
  A : Option Addr
  n : Nat
  c : Nat
  root : List Int
/-- What a round that goes on keeps: what lies below n₀, and the iterator's own box. -/
def KeepB (n₀ Bm : Nat) (W W' : World) : Prop := Below n₀ W W' ∧ W'.cell? ⟨Bm, 4, none⟩ = W.cell? ⟨Bm, 4, none⟩
theorem KeepB.t {n₀ Bm : Nat} {A B C : World} (h : KeepB n₀ Bm A B) (k : KeepB n₀ Bm B C) : KeepB n₀ Bm A C := ⟨h.1.trans k.1, k.2.trans h.2⟩
theorem KeepB.b {n₀ Bm : Nat} {w : World} (hn : n₀ ≤ w.heap.size) (hm : Bm < w.heap.size) (W : World) (l : Nat) (o o' : Obj) (hl : w.heap.size ≤ l) (h : W.heap[l]? = some o) (h1 : o.isCells = false) (h2 : o.isWalk = false) : KeepB n₀ Bm W (W.putObj l o') :=
  ⟨belowK_b hn W l o o' hl h h1 h2, (belowK_b (n₀ := Bm + 1) (by omega) W l o o' hl h h1 h2).cell (p := ⟨Bm, 4, none⟩) (by show Bm < Bm + 1; omega)⟩
theorem KeepB.of_below {n₀ Bm M : Nat} {W W' : World} (h : Below M W W') (hn : n₀ ≤ M) (hm : Bm < M) : KeepB n₀ Bm W W' := ⟨h.mono hn, h.cell (p := ⟨Bm, 4, none⟩) hm⟩
def RV.encs (x : RV) : Array Value := #[.int .i64 x.g, .slice x.A x.n x.c]
/-- rs are the values of the snapshots' guests and Roots. -/
def RootsAt (W : World) (B : Nat) (pA : Option Addr) (pn : Nat) (rs : List RV) : Prop :=
  rs.length = pn ∧ (0 < pn → ∃ b o, pA = some ⟨b, o, none⟩ ∧ b < B ∧ ∀ k x, rs[k]? = some x → (∃ s, W.cell? ⟨b, o + k * 3, none⟩ = some (.string s)) ∧ W.cell? ⟨b, o + k * 3 + 1, none⟩ = some (.int .i64 x.g) ∧ W.cell? ⟨b, o + k * 3 + 2, none⟩ = some (.slice x.A x.n x.c))
theorem RootsAt.below {W W' : World} {B M : Nat} {pA : Option Addr} {pn : Nat} {rs : List RV} (h : RootsAt W B pA pn rs) (hb : Below M W W') (hM : B ≤ M) : RootsAt W' B pA pn rs :=
  ⟨h.1, fun hn => by
    obtain ⟨b, o, e, hb', hc⟩ := h.2 hn
    refine ⟨b, o, e, hb', fun k x hx => ?_⟩
    obtain ⟨⟨s, h0⟩, h1, h2⟩ := hc k x hx
    exact ⟨⟨s, (hb.cell (by show b < M; omega)).trans h0⟩, (hb.cell (by show b < M; omega)).trans h1, (hb.cell (by show b < M; omega)).trans h2⟩⟩

theorem roots_any (g : Int) (v : IV) (w : World) :
    Calls Try.prog 42 #[.agg #[.int .i64 g, .slice v.rA v.rn v.rc, .slice v.sA v.sn v.sc, .slice v.fA v.fn v.fc, .slice v.pA v.pn v.pc]] w fun e w' => e = .returned (.func (.func 70) #[] #[.pointer (some ⟨w.heap.size, 0, none⟩)]) ∧
      w.alloc (.cells #[.int .i64 g, .slice v.rA v.rn v.rc, .slice v.sA v.sn v.sc, .slice v.fA v.fn v.fc, .slice v.pA v.pn v.pc] 26) = w' := by
  go_enter Try.func42, Try.ntmps42
  go_wp2
  go_ret
  exact ⟨rfl, rfl⟩

set_option maxRecDepth 100000 in
set_option maxHeartbeats 2000000 in
theorem roots1_in (F : Fence) (n : Nat) (hF : F.fn 70) (hro : F.round = none) (hn : 1 ≤ n) (l Bm n₀ : Nat) (g : Int) (v : IV) (Pr : RV → Prop) (x0 : {x : RV // Pr x}) (hx0 : x0.1.encs = #[.int .i64 g, .slice v.rA v.rn v.rc]) (rs : List {x : RV // Pr x}) (hpn : v.pn ≤ 4611686018427387903) (J Jx : List {x : RV // Pr x} → World → Prop) (M : Nat) (hJ : AbidesFrom M J)
    (hY : ∀ pre x W, J pre W → pre.length < v.pn + 1 → YieldAt F (n - 1) Try.prog l x.1.encs W fun e W' =>
      (e = .returned (.bool true) ∧ J (pre ++ [x]) W' ∧ KeepB n₀ Bm W W') ∨ (e = .returned (.bool false) ∧ Jx (pre ++ [x]) W'))
    (W : World) (hW : n₀ ≤ W.heap.size) (hb : Box W Bm g v) (hr : RootsAt W n₀ v.pA v.pn (rs.map (·.1))) (h0 : J [] W) :
    CallsIn F n Try.prog 70 #[.func (.yield l) #[] #[], .pointer (some ⟨Bm, 0, none⟩)] W fun e W' => (∃ v, e = .returned v) ∧
      ((∃ ys, ys = x0 :: rs ∧ J ys W') ∨ (∃ pre, pre <+: x0 :: rs ∧ Jx pre W')) := by
  obtain ⟨rA, rn, rc, sA, sn, sc, fA, fn, fc, pA, pn, pc⟩ := v
  dsimp only at *
  obtain ⟨b0, b1, b2, b3, b4⟩ := hb
  dsimp only at b0 b1 b2 b3 b4
  have hY0 := hY [] x0 W h0 (by simp)
  rw [hx0] at hY0
  obtain ⟨fn', tmps, assign, body, hy, hR⟩ := hY0
  have HR := Lib.hid hr
  have HY := Lib.hid hY
  have HJ := Lib.hid hJ
  clear hr hY hJ h0 hx0
  refine callsIn_of_wp Try.func70 rfl hF ?_ hro
  simp only [Try.ntmps70, List.size_toArray, List.length_cons, List.length_nil, Nat.reduceAdd, Nat.reduceSub, Array.replicate_succ, Array.replicate_zero, List.push_toArray, List.append_toArray, List.nil_append, List.cons_append]
  gi_wp2
  refine hR.mono ?_
  rintro e W1 (⟨rfl, hJ1, hk1⟩ | ⟨rfl, hJx1⟩)
  · have b4' := hk1.2.trans b4
    have hk1 := hk1.1
    have HR1 := Lib.hid (HR.out.below hk1 (Nat.le_refl _))
    have HJ1 := Lib.hid hJ1
    have hz1 := hk1.size
    clear b0 b1 b2 b3 b4 hJ1 hk1 hR hy
    gi_wp2
    gi_loopw [15] (fun i wr => ∃ k : Nat, k ≤ pn ∧ i = .int .i64 k ∧ J (x0 :: rs.take k) wr ∧ Below n₀ W1 wr) (fun i _ => pn - (intOf i).toNat)
    case atStart => exact ⟨0, Nat.zero_le _, rfl, by simpa using HJ1.out, Below.refl _ _⟩
    case round =>
      obtain ⟨k, hk, rfl, hJs, hnx⟩ := hrel
      by_cases hlt : k < pn
      · obtain ⟨b, o, rfl, hbb, hc⟩ := HR1.out.2 (by omega)
        have hkl : k < rs.length := by have := HR1.out.1; rw [List.length_map] at this; omega
        obtain ⟨⟨s, c0⟩, c1, c2⟩ := hc k rs[k].1 (by rw [List.getElem?_map, List.getElem?_eq_getElem hkl]; rfl)
        have c0' := (hnx.cell (p := ⟨b, o + k * 3, none⟩) hbb).trans c0
        have c1' := (hnx.cell (p := ⟨b, o + k * 3 + 1, none⟩) hbb).trans c1
        have c2' := (hnx.cell (p := ⟨b, o + k * 3 + 2, none⟩) hbb).trans c2
        generalize hxk : rs[k] = x at c1' c2'
        have HXK := Lib.hid (show rs[k]? = some x from by rw [List.getElem?_eq_getElem hkl, hxk])
        have hlen : (x0 :: rs.take k).length < pn + 1 := by simp; omega
        have hJn := HJ.out _ _ _ none hJs (World.grownBy_alloc wr (.cells #[.string s, .int .i64 x.1.g, .slice x.1.A x.1.n x.1.c] 64) none) (fun r e => by cases e)
        have hY1 := HY.out _ x _ hJn hlen
        unfold RV.encs at hY1
        obtain ⟨fn2, tmps2, assign2, body2, hy2, hR2⟩ := hY1
        have HJs := Lib.hid hJs
        have HLEN := Lib.hid hlen
        clear hJn hJs hc c0 c1 c2 hxk hlen
        gi_wp2
        refine hR2.mono ?_
        rintro e W3 (⟨rfl, hJ3, hk3⟩ | ⟨rfl, hJx3⟩)
        · have HJ3 := Lib.hid (show J (x0 :: rs.take (k + 1)) W3 from by rw [List.take_add_one, HXK.out]; simpa using hJ3)
          have hb3 := (hnx.alloc (by have := hnx.size; omega) (.cells #[.string s, .int .i64 x.1.g, .slice x.1.A x.1.n x.1.c] 64)).trans hk3.1
          clear hJ3 hk3
          gi_wp2
          go_roundw
          case rel => exact ⟨k + 1, by omega, by simp, HJ3.out, hb3⟩
          case measure => simp [intOf]; omega
        · have HX := Lib.hid hJx3
          clear hJx3
          gi_wp2
          refine bodyPost_ret (results_none rfl _ _ _) rfl ?_
          refine ⟨⟨_, rfl⟩, .inr ⟨_, ?_, HX.out⟩⟩
          rw [List.cons_append, show rs.take k ++ [x] = rs.take (k + 1) from by rw [List.take_add_one, HXK.out]; rfl]
          exact List.prefix_cons_inj _ |>.2 (List.take_prefix _ _)
      · gi_wp2
        go_end0
        exact ⟨⟨_, rfl⟩, .inl ⟨_, rfl, by rwa [List.take_of_length_le (by have := HR1.out.1; rw [List.length_map] at this; omega)] at hJs⟩⟩
  · have HX := Lib.hid hJx1
    clear hJx1
    gi_wp2
    refine bodyPost_ret (results_none rfl _ _ _) rfl ?_
    exact ⟨⟨_, rfl⟩, .inr ⟨_, by simp, HX.out⟩⟩

/-- tree.roots' value, as a loop's iterator. -/
theorem roots_stops (F : Fence) (n : Nat) (hF : F.fn 70) (hro : F.round = none) (hn : 1 ≤ n) (Bm n₀ : Nat) (g : Int) (v : IV) (Pr : RV → Prop) (x0 : {x : RV // Pr x}) (hx0 : x0.1.encs = #[.int .i64 g, .slice v.rA v.rn v.rc]) (rs : List {x : RV // Pr x})
    (hpn : v.pn ≤ 4611686018427387903) (w : World) (hB : Bm < w.heap.size) (hn₀ : n₀ ≤ w.heap.size) (hb : Box w Bm g v) (hr : RootsAt w n₀ v.pA v.pn (rs.map (·.1))) :
    SeqStopsK F n Try.prog 70 #[.pointer (some ⟨Bm, 0, none⟩)] (fun x : {x : RV // Pr x} => x.1.encs) (KeepB n₀ Bm) (fun ys => ys = x0 :: rs) (fun pre => pre <+: x0 :: rs) (v.pn + 1) w := fun l J Jx W hW hJ _ hY h0 =>
  roots1_in F n hF hro hn l Bm n₀ g v Pr x0 hx0 rs hpn J Jx W.heap.size hJ hY W (Nat.le_trans hn₀ hW.size) (hb.keep hW hB) (hr.below hW hn₀) h0

/-- What a Root that is handed out is good for. -/
def GoodR (w : World) (Q : Int → List Int → Prop) (x : RV) : Prop := Rd w w.heap.size 1 x.A x.n (ints x.root) ∧ x.n ≤ 4611686018427387903 ∧ Q x.g x.root
theorem roots_full (w : World) (v : IV) (m : Img) (Q : Int → List Int → Prop) (h : ImgR w w.heap.size v m) (hq : ∀ s ∈ m.snaps, Q s.guest s.root) :
    ∃ rs : List {x : RV // GoodR w Q x}, RootsAt w w.heap.size v.pA v.pn (rs.map (·.1)) ∧ rs.map (fun x => (x.1.g, x.1.root)) = m.snaps.map (fun s => (s.guest, s.root)) := by
  have hpl := h.plen
  by_cases hp : 0 < v.pn
  · obtain ⟨b, o, e, hb, hc⟩ := h.snaps.2 hp
    have key : ∀ k, k ≤ m.snaps.length → ∃ rs : List {x : RV // GoodR w Q x}, rs.length = k ∧ (∀ j x, (rs.map (·.1))[j]? = some x → (∃ s, w.cell? ⟨b, o + j * 3, none⟩ = some (.string s)) ∧ w.cell? ⟨b, o + j * 3 + 1, none⟩ = some (.int .i64 x.g) ∧ w.cell? ⟨b, o + j * 3 + 2, none⟩ = some (.slice x.A x.n x.c)) ∧
        rs.map (fun x => (x.1.g, x.1.root)) = (m.snaps.take k).map (fun s => (s.guest, s.root)) := by
      intro k
      induction k with
      | zero => intro _; exact ⟨[], rfl, fun j x hx => by simp at hx, rfl⟩
      | succ k ih =>
        intro hk
        obtain ⟨rs, h1, h2, h3⟩ := ih (by omega)
        have hs : m.snaps[k]? = some m.snaps[k] := List.getElem?_eq_getElem (by omega)
        obtain ⟨A, n, c, c0, c1, c2, hv⟩ := hc k _ hs
        refine ⟨rs ++ [⟨⟨m.snaps[k].guest, A, n, c, m.snaps[k].root⟩, hv.root, Nat.le_trans hv.len hv.cap, hq _ (List.getElem_mem _)⟩], by simp [h1], fun j x hx => ?_, ?_⟩
        · rw [List.map_append, List.getElem?_append] at hx
          split at hx
          · exact h2 j x hx
          · rename_i hge
            rw [List.length_map, h1] at hge hx
            have : j = k := by
              rcases Nat.lt_or_ge (j - k) 1 with h | h
              · omega
              · rw [List.getElem?_eq_none (by simpa using h)] at hx; cases hx
            subst this
            rw [Nat.sub_self] at hx
            simp at hx
            subst hx
            exact ⟨⟨_, c0⟩, c1, c2⟩
        · rw [List.map_append, h3, List.take_add_one, hs, List.map_append]; rfl
    obtain ⟨rs, h1, h2, h3⟩ := key m.snaps.length (Nat.le_refl _)
    refine ⟨rs, ⟨by rw [List.length_map, h1, hpl], fun _ => ⟨b, o, e, hb, h2⟩⟩, by rw [h3, List.take_length]⟩
  · refine ⟨[], ⟨by simp; omega, fun h => absurd h hp⟩, ?_⟩
    have : m.snaps = [] := List.eq_nil_of_length_eq_zero (by omega)
    rw [this]; rfl
end Go.Proofs.Ytnjjnioilbnnpaa
