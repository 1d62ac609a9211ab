/- Texts of the proof of restImages_holds: Pages, Flat, Same, TreeBegun, Reads1. Conditions: as each text says. -/
import Derived.Test.YtfilnnjanhjbeaaGreatRI3
import Derived.Test.YtfilnnjanhjbeaaGreatRI1
import Derived.Test.YtfilnnjanhjbeaaGreatShelf
import Derived.Test.YtfilnnjanhjbeaaGreatRI4
import Derived.Test.YtfilnnjanhjbeaaGreatRI12
import Derived.StillTailTactics
namespace Go.Proofs.YtfilnnjanhjbeaaGreat
open Go.RowKit Sl
theorem own_some {w : World} {base size n c : Nat} {e : TypeId} {A : Option Addr} {xs : List Value} (h : w.ownsRow base e size (.slice A n c) n xs) (hn : 0 < n) : ∃ g, A = some ⟨g, 0, none⟩ ∧ base ≤ g ∧ g < w.heap.size := by
  rcases h.2 with ⟨hv, rfl⟩ | ⟨g, cap, cur, hv, hb, hh, _⟩
  · omega
  · simp only [Value.slice.injEq] at hv
    obtain ⟨rfl, _, _⟩ := hv
    exact ⟨g, rfl, hb, (Array.getElem?_eq_some_iff.1 hh).1⟩
def OwnPair (base : Nat) (el : TypeId) (size : Nat) (xs : List Value) (er : Int) (w : World) (e : Ending) (w' : World) : Prop :=
  ∃ A n c, e = .returned (.tuple #[.slice A n c, .int .i64 er]) ∧ w'.ownsRow base el size (.slice A n c) n xs ∧ Below base w w' ∧ n ≤ c ∧ c ≤ maxLen
theorem OwnPair.mk_nil {base : Nat} {el : TypeId} {size : Nat} {xs : List Value} {er er' : Int} {w w' : World} (hx : xs = []) (he : er = er') (hb : Below base w w') : OwnPair base el size xs er w (.returned (.tuple #[.slice none 0 0, .int .i64 er'])) w' := by
  subst hx; subst he
  exact ⟨none, 0, 0, rfl, World.ownsRow_nil _ _ _ _, hb, Nat.le_refl _, by simp⟩
end Go.Proofs.YtfilnnjanhjbeaaGreat
namespace Go.Proofs.YtfilnnjanhjbeaaGreat
open Go.RowKit Sl
theorem toList_inj {s t : ByteArray} (h : (s.toList == t.toList) = true) : s = t := by
  rw [beq_iff_eq, ByteArray.toList_eq, ByteArray.toList_eq] at h
  apply ByteArray.ext
  exact Array.toList_inj.1 h
theorem same_false {α : Type} {a b : List α} (k : Nat) {s t : α} (ha : a[k]? = some s) (hb : b[k]? = some t) (hne : s ≠ t) : a ≠ b := by
  rintro rfl; rw [ha] at hb; exact hne (Option.some.inj hb)
theorem same_true {α : Type} {a b : List α} (hl : a.length = b.length) (k : Nat) (hk : a.length ≤ k) (h : a.take k = b.take k) : a = b := by
  rw [List.take_of_length_le hk, List.take_of_length_le (by omega)] at h; exact h
theorem take_succ_same {α : Type} {a b : List α} {k : Nat} {s t : α} (ha : a[k]? = some s) (hb : b[k]? = some t) (hs : s = t) (h : a.take k = b.take k) : a.take (k + 1) = b.take (k + 1) := by
  rw [List.take_add_one, List.take_add_one, ha, hb, h, hs]
set_option maxRecDepth 100000 in
set_option maxHeartbeats 400000 in
theorem sameInts_any (A A2 : Option Addr) (n n2 c c2 : Nat) (l l2 : List Int) (w : World) (h : Rd w w.heap.size 1 A n (ints l)) (h2 : Rd w w.heap.size 1 A2 n2 (ints l2)) (hc : n ≤ 4611686018427387903) (hc2 : n2 ≤ 4611686018427387903) :
    Calls Tryz.prog 22 #[.slice A n c, .slice A2 n2 c2] w fun e w' => e = .returned (.bool (decide (l = l2))) ∧ Below w.heap.size w w' := by
  have hl : l.length = n := by have := h.1; simp [ints] at this; omega
  have hl2 : l2.length = n2 := by have := h2.1; simp [ints] at this; omega
  have L1 := Lib.hid hl
  have L2 := Lib.hid hl2
  clear hl hl2
  by_cases hnn : n = n2
  · subst hnn
    go_enter Tryz.func22, Tryz.ntmps22
    go_wp2_with fail
    go_loopw [5] (fun i wr => ∃ k : Nat, k ≤ n ∧ i = .int .i64 k ∧ l.take k = l2.take k ∧ Below w.heap.size w wr) (fun i _ => n - (intOf i).toNat)
    case atStart => exact ⟨0, Nat.zero_le _, rfl, rfl, Below.refl _ _⟩
    case round =>
      obtain ⟨k, hkn, rfl, ha, hbw⟩ := hrel
      have HA := Lib.hid ha
      clear ha
      by_cases hlt : k < n
      · obtain ⟨b, o, rfl, hb, hcell⟩ := (h.below hbw (Nat.le_refl _)).2 (by omega)
        obtain ⟨b2, o2, rfl, hb2, hcell2⟩ := (h2.below hbw (Nat.le_refl _)).2 (by omega)
        have k1 : k < l.length := by rw [L1.out]; exact hlt
        have k2 : k < l2.length := by rw [L2.out]; exact hlt
        have c1 := hcell k (.int .i64 l[k]) (by simp [ints, k1])
        have c2 := hcell2 k (.int .i64 l2[k]) (by simp [ints, k2])
        have x1 : l[k]? = some l[k] := List.getElem?_eq_getElem k1
        have x2 : l2[k]? = some l2[k] := List.getElem?_eq_getElem k2
        generalize l[k] = s at c1 x1
        generalize l2[k] = s2 at c2 x2
        have X1 := Lib.hid x1
        have X2 := Lib.hid x2
        have i1 : (0 : Int) ≤ k := by omega
        have i2 : (k : Int) < n := by omega
        clear x1 x2 hcell hcell2 k1 k2 h h2
        cases hp : (s != s2)
        · go_wp2_with fail
          go_quiet (fail)
          go_wp2_with fail
          go_roundw
          case rel => exact ⟨k + 1, by omega, by go_num, take_succ_same X1.out X2.out (by simpa using hp) HA.out, ⟨hbw.os, hbw.tape, hbw.output, hbw.size, hbw.block⟩⟩
          case measure => simp [intOf]; omega
        · go_wp2_with fail
          go_quiet (fail)
          go_wp2_with fail
          go_ret
          exact ⟨ret_bool (decide_eq_false (same_false k X1.out X2.out (by simpa using hp))), ⟨hbw.os, hbw.tape, hbw.output, hbw.size, hbw.block⟩⟩
      · go_wp2_with fail
        go_ret
        exact ⟨ret_bool (decide_eq_true (same_true (by rw [L1.out, L2.out]) k (by rw [L1.out]; omega) HA.out)), hbw⟩
  · have g : ((n : Int) != n2) = true := by simp; omega
    go_enter Tryz.func22, Tryz.ntmps22
    go_wp2_with fail
    go_ret
    exact ⟨ret_bool (decide_eq_false (by rintro rfl; exact hnn (by rw [← L1.out, ← L2.out]))), Below.refl _ _⟩
end Go.Proofs.YtfilnnjanhjbeaaGreat
namespace Go.Proofs.YtfilnnjanhjbeaaGreat
open Go.RowKit Sl
theorem Box.set {W : World} {b : Nat} {g : Int} {v : IV} (h : Box W b g v) (a : Addr) (u : Value) (hn : b ≠ a.block) : Box (W.setCell a u) b g v :=
  ⟨cell_set_far h.1 hn, cell_set_far h.2.1 hn, cell_set_far h.2.2.1 hn, cell_set_far h.2.2.2.1 hn, cell_set_far h.2.2.2.2 hn⟩
def pSlots (t4 : List Int) : List Slot := [⟨0, { data := #[] }, []⟩, ⟨1, { data := #[97, 97, 97, 97] }, []⟩, ⟨2, { data := #[] }, [1, 0, -1, 1]⟩, ⟨1, { data := #[98, 98, 98, 98] }, []⟩, ⟨2, { data := #[] }, t4⟩]
def pImg (g : Int) (root refs t4 : List Int) : Img := ⟨g, root, pSlots t4, refs, [⟨{ data := #[111, 108, 100] }, 4, [2]⟩]⟩
def pV (h : Nat) : IV := ⟨some ⟨h + 1, 0, none⟩, 2, 2, some ⟨h + 1 + 1 + 1 + 1, 0, none⟩, 5, 5, some ⟨h + 1 + 1 + 1 + 1 + 1, 0, none⟩, 5, 5, some ⟨h + 1 + 1 + 1 + 1 + 1 + 1 + 1, 0, none⟩, 1, 1⟩
structure PairAt (W : World) (h : Nat) (root refs t4 : List Int) : Prop where
  root : RowB W (h + 1) root
  t2 : RowB W (h + 1 + 1) [1, 0, -1, 1]
  t4 : RowB W (h + 1 + 1 + 1) t4
  slots : W.heap[h + 1 + 1 + 1 + 1]? = some (.cells #[.int .i64 0, .string { data := #[] }, .slice none 0 0, .int .i64 1, .string { data := #[97, 97, 97, 97] }, .slice none 0 0, .int .i64 2, .string { data := #[] }, .slice (some ⟨h + 1 + 1, 0, none⟩) 4 4,
    .int .i64 1, .string { data := #[98, 98, 98, 98] }, .slice none 0 0, .int .i64 2, .string { data := #[] }, .slice (some ⟨h + 1 + 1 + 1, 0, none⟩) 4 4] 37 (0, 0))
  refs : RowB W (h + 1 + 1 + 1 + 1 + 1) refs
  old : RowB W (h + 1 + 1 + 1 + 1 + 1 + 1) [2]
  snaps : W.heap[h + 1 + 1 + 1 + 1 + 1 + 1 + 1]? = some (.cells #[.string { data := #[111, 108, 100] }, .int .i64 4, .slice (some ⟨h + 1 + 1 + 1 + 1 + 1 + 1, 0, none⟩) 1 1] 39 (0, 0))
section
variable {W W' : World} {h M : Nat} {root refs t4 : List Int}
theorem PairAt.keep (p : PairAt W h root refs t4) (hb : Below M W W') (hM : h + 1 + 1 + 1 + 1 + 1 + 1 + 1 < M) : PairAt W' h root refs t4 :=
  ⟨p.root.keep hb (by omega), p.t2.keep hb (by omega), p.t4.keep hb (by omega), (hb.block _ (by omega)).trans p.slots, p.refs.keep hb (by omega), p.old.keep hb (by omega), (hb.block _ hM).trans p.snaps⟩
theorem PairAt.drewN (p : PairAt W h root refs t4) (q : Nat) : PairAt (W.drewN q) h root refs t4 := ⟨p.root, p.t2, p.t4, p.slots, p.refs, p.old, p.snaps⟩
theorem PairAt.lt (p : PairAt W h root refs t4) : h + 1 + 1 + 1 + 1 + 1 + 1 + 1 < W.heap.size := (Array.getElem?_eq_some_iff.1 p.snaps).1
theorem PairAt.setRoot (p : PairAt W h root refs t4) (k : Nat) (y : Int) : PairAt (W.setCell ⟨h + 1, k, none⟩ (.int .i64 y)) h (root.set k y) refs t4 :=
  ⟨p.root.set k y, p.t2.other _ _ (by dsimp only; omega), p.t4.other _ _ (by dsimp only; omega), (heap_setCell_other _ _ _ _ (by dsimp only; omega)).trans p.slots, p.refs.other _ _ (by dsimp only; omega), p.old.other _ _ (by dsimp only; omega), (heap_setCell_other _ _ _ _ (by dsimp only; omega)).trans p.snaps⟩
theorem PairAt.img (p : PairAt W h root refs t4) (g : Int) (h2 : root.length = 2) (h5 : refs.length = 5) (h4 : t4.length = 4) : ImgR W W.heap.size (pV h) (pImg g root refs t4) := by
  have hl := p.lt
  refine ⟨p.root.rd h2, Nat.le_refl _, (by show 2 ≤ 4611686018427387903 ∧ 2 ≤ 9223372036854775807; decide), ?_, Nat.le_refl _, (by show 5 ≤ 4611686018427387903 ∧ 5 ≤ 9223372036854775807; decide), p.refs.rd h5, Nat.le_refl _, (by show 5 ≤ 4611686018427387903 ∧ 5 ≤ 9223372036854775807; decide), ?_, Nat.le_refl _, (by show 1 ≤ 4611686018427387903 ∧ 1 ≤ 9223372036854775807; decide)⟩
  · refine SlotsR.of_block [⟨⟨0, { data := #[] }, []⟩, none, 0, 0⟩, ⟨⟨1, { data := #[97, 97, 97, 97] }, []⟩, none, 0, 0⟩, ⟨⟨2, { data := #[] }, [1, 0, -1, 1]⟩, some ⟨h + 1 + 1, 0, none⟩, 4, 4⟩, ⟨⟨1, { data := #[98, 98, 98, 98] }, []⟩, none, 0, 0⟩, ⟨⟨2, { data := #[] }, t4⟩, some ⟨h + 1 + 1 + 1, 0, none⟩, 4, 4⟩] _ p.slots (by omega) rfl rfl rfl ?_
    intro x hx
    simp only [List.mem_cons, List.not_mem_nil, or_false] at hx
    rcases hx with rfl | rfl | rfl | rfl | rfl
    · exact ⟨by decide, by decide, by decide, Rd.none_⟩
    · exact ⟨by decide, by decide, by decide, Rd.none_⟩
    · exact ⟨by dsimp only; decide, by dsimp only; decide, by dsimp only; decide, p.t2.rd rfl⟩
    · exact ⟨by decide, by decide, by decide, Rd.none_⟩
    · exact ⟨by dsimp only; decide, by dsimp only; decide, by dsimp only; decide, p.t4.rd h4⟩
  · refine ⟨rfl, fun _ => ⟨h + 1 + 1 + 1 + 1 + 1 + 1 + 1, 0, rfl, hl, fun k s hs => ?_⟩⟩
    cases k with
    | zero =>
      simp only [pImg, List.getElem?_cons_zero, Option.some.injEq] at hs
      subst hs
      have hc := fun j => cell_of_row W (h + 1 + 1 + 1 + 1 + 1 + 1 + 1) j _ _ _ p.snaps
      exact ⟨some ⟨h + 1 + 1 + 1 + 1 + 1 + 1, 0, none⟩, 1, 1, hc 0, hc 1, hc 2, by dsimp only; decide, by decide, by decide, p.old.rd rfl⟩
    | succ k => simp [pImg] at hs
end
theorem allocs8 (w : World) (o0 o1 o2 o3 o4 o5 o6 o7 : Obj) :
    ((((((((w.alloc o0).alloc o1).alloc o2).alloc o3).alloc o4).alloc o5).alloc o6).alloc o7).heap[w.heap.size + 1]? = some o1 ∧
    ((((((((w.alloc o0).alloc o1).alloc o2).alloc o3).alloc o4).alloc o5).alloc o6).alloc o7).heap[w.heap.size + 1 + 1]? = some o2 ∧
    ((((((((w.alloc o0).alloc o1).alloc o2).alloc o3).alloc o4).alloc o5).alloc o6).alloc o7).heap[w.heap.size + 1 + 1 + 1]? = some o3 ∧
    ((((((((w.alloc o0).alloc o1).alloc o2).alloc o3).alloc o4).alloc o5).alloc o6).alloc o7).heap[w.heap.size + 1 + 1 + 1 + 1]? = some o4 ∧
    ((((((((w.alloc o0).alloc o1).alloc o2).alloc o3).alloc o4).alloc o5).alloc o6).alloc o7).heap[w.heap.size + 1 + 1 + 1 + 1 + 1]? = some o5 ∧
    ((((((((w.alloc o0).alloc o1).alloc o2).alloc o3).alloc o4).alloc o5).alloc o6).alloc o7).heap[w.heap.size + 1 + 1 + 1 + 1 + 1 + 1]? = some o6 ∧
    ((((((((w.alloc o0).alloc o1).alloc o2).alloc o3).alloc o4).alloc o5).alloc o6).alloc o7).heap[w.heap.size + 1 + 1 + 1 + 1 + 1 + 1 + 1]? = some o7 := by
  have e : ∀ (W : World) (o : Obj) (k : Nat), k < W.heap.size → (W.alloc o).heap[k]? = W.heap[k]? := fun W o k hk => (below1 W o).block k hk
  have n : ∀ (W : World) (o : Obj) (k : Nat), k = W.heap.size → (W.alloc o).heap[k]? = some o := fun W o k hk => by subst hk; exact heap_alloc_new W o
  refine ⟨?_, ?_, ?_, ?_, ?_, ?_, ?_⟩
  · iterate 6 rw [e _ _ _ (by simp only [World.size_alloc]; omega)]
    exact n _ _ _ (by simp only [World.size_alloc])
  · iterate 5 rw [e _ _ _ (by simp only [World.size_alloc]; omega)]
    exact n _ _ _ (by simp only [World.size_alloc])
  · iterate 4 rw [e _ _ _ (by simp only [World.size_alloc]; omega)]
    exact n _ _ _ (by simp only [World.size_alloc])
  · iterate 3 rw [e _ _ _ (by simp only [World.size_alloc]; omega)]
    exact n _ _ _ (by simp only [World.size_alloc])
  · iterate 2 rw [e _ _ _ (by simp only [World.size_alloc]; omega)]
    exact n _ _ _ (by simp only [World.size_alloc])
  · rw [e _ _ _ (by simp only [World.size_alloc]; omega)]
    exact n _ _ _ (by simp only [World.size_alloc])
  · exact n _ _ _ (by simp only [World.size_alloc])
def PairRes (w : World) (e : Ending) (w' : World) : Prop :=
  e = .returned (.agg #[.int .i64 6, .slice (some ⟨w.heap.size + 1, 0, none⟩) 2 2, .slice (some ⟨w.heap.size + 1 + 1 + 1 + 1, 0, none⟩) 5 5, .slice (some ⟨w.heap.size + 1 + 1 + 1 + 1 + 1, 0, none⟩) 5 5, .slice (some ⟨w.heap.size + 1 + 1 + 1 + 1 + 1 + 1 + 1, 0, none⟩) 1 1]) ∧
  PairAt w' w.heap.size [2, 4] [0, 2, 2, 1, 1] [3, 0, 0, 0] ∧ Below w.heap.size w w'
set_option maxRecDepth 100000 in
set_option maxHeartbeats 1000000 in
theorem pair_any (w : World) : Calls Tryz.prog 18 #[] w (PairRes w) := by
  go_enter Tryz.func18, Tryz.ntmps18
  go_wp2
  refine bodyPost_ret (v := .agg #[.int .i64 6, .slice (some ⟨w.heap.size + 1, 0, none⟩) 2 2, .slice (some ⟨w.heap.size + 1 + 1 + 1 + 1, 0, none⟩) 5 5, .slice (some ⟨w.heap.size + 1 + 1 + 1 + 1 + 1, 0, none⟩) 5 5, .slice (some ⟨w.heap.size + 1 + 1 + 1 + 1 + 1 + 1 + 1, 0, none⟩) 1 1]) (by simp [results, Tryz.results18, go_sem]) rfl ⟨rfl, ?_, ?_⟩
  · obtain ⟨h1, h2, h3, h4, h5, h6, h7⟩ := allocs8 w _ _ _ _ _ _ _ _
    exact ⟨h1, h2, h3, h4, h5, h6, h7⟩
  · repeat (first | exact Below.refl _ _ | refine Below.alloc ?_ (by simp; try omega) _)
end Go.Proofs.YtfilnnjanhjbeaaGreat
namespace Go.Proofs.YtfilnnjanhjbeaaGreat
open Go.RowKit Sl
section
variable (W : World) (h : Nat)
end
end Go.Proofs.YtfilnnjanhjbeaaGreat
namespace Go.Proofs.YtfilnnjanhjbeaaGreat
open Go.RowKit Sl
abbrev imgV (m : Img) (v : IV) : Value := .agg #[.int .i64 m.guest, .slice v.rA v.rn v.rc, .slice v.sA v.sn v.sc, .slice v.fA v.fn v.fc, .slice v.pA v.pn v.pc]
set_option maxRecDepth 100000 in
set_option maxHeartbeats 1000000 in
theorem rsnapAt_any (v : IV) (m : Img) (name : ByteArray) (w : World) (h : ImgR w w.heap.size v m) :
    Calls Tryz.prog 45 #[imgV m v, .string name] w fun e' w' => e' = .returned (.int .i64 (indexOf (named name) m.snaps)) ∧ Below w.heap.size w w' := by
  obtain ⟨rA, rn, rc, sA, sn, sc, fA, fn, fc, pA, pn, pc⟩ := v
  dsimp only [imgV]
  have HB1 := below1 w (.cells #[.int .i64 m.guest, .slice rA rn rc, .slice sA sn sc, .slice fA fn fc, .slice pA pn pc] 26)
  have hpn : pn ≤ 4611686018427387903 := h.pcap.1
  have HPL := Lib.hid h.plen
  have HI := Lib.hid (h.box (.cells #[.int .i64 m.guest, .slice rA rn rc, .slice sA sn sc, .slice fA fn fc, .slice pA pn pc] 26)).snaps
  clear h
  dsimp only at HPL HI
  go_enter Tryz.func45, Tryz.ntmps45
  go_wp2_with fail
  go_loop [5] (fun i => ∃ k : Nat, k ≤ pn ∧ i = .int .i64 k ∧ (m.snaps.take k).all (fun y => !named name y) = true) (fun i => pn - (intOf i).toNat)
  case atStart => exact ⟨0, Nat.zero_le _, rfl, by simp⟩
  case round =>
    obtain ⟨k, hk, rfl, ha⟩ := hrel
    have HA := Lib.hid ha
    clear ha
    by_cases hlt : k < pn
    · obtain ⟨b, o, s, tA, tn, tc, rfl, hb, hx, d0, d1, d2, hsv⟩ := HI.out.at_ (k := k) hlt
      have HX := Lib.hid hx
      clear hx d1 d2 hsv
      have e0 : (0 : Int) ≤ (k : Int) := by omega
      have e1 : (k : Int) < (pn : Int) := by omega
      cases hp : (s.name.toList == name.toList)
      · go_wp2_with fail
        go_round
        case rel => exact ⟨k + 1, by omega, by go_num, by rw [all_take_succ _ m.snaps k s HX.out, HA.out]; unfold named; rw [hp]; rfl⟩
        case measure => simp [intOf]; omega
      · go_wp2_with fail
        go_ret
        exact ⟨ret_int (indexOf_hit (named name) m.snaps k s HX.out hp HA.out), HB1⟩
    · go_wp2_with fail
      go_ret
      exact ⟨ret_int (indexOf_none (named name) m.snaps (all_done _ m.snaps k (by rw [HPL.out]; omega) HA.out)), HB1⟩
end Go.Proofs.YtfilnnjanhjbeaaGreat
namespace Go.Proofs.YtfilnnjanhjbeaaGreat
open Go.RowKit Sl
theorem own_base {w : World} {base base' size n : Nat} {e : TypeId} {v : Value} {xs : List Value} (h : w.ownsRow base e size v n xs) (hb : base' ≤ base) : w.ownsRow base' e size v n xs :=
  ⟨h.1, h.2.imp id fun ⟨g, cap, cur, h1, h2, h3⟩ => ⟨g, cap, cur, h1, by omega, h3⟩⟩
end Go.Proofs.YtfilnnjanhjbeaaGreat
namespace Go.Proofs.YtfilnnjanhjbeaaGreat
open Go.RowKit Sl
section
variable {wa W W' : World} {k b o o' : Nat} {a b' c d f u : Value}
end
end Go.Proofs.YtfilnnjanhjbeaaGreat
