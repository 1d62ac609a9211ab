/- The reference's PackOf: its first statement. Conditions: as each says. (Printed by gen_rpackb.py.) -/
import Derived.Test.YtmdjoafbckphfaaRPackA
import Derived.Test.YtmdjoafbckphfaaRPackP
import Derived.Test.YtmdjoafbckphfaaStkF
import Derived.Test.YtmdjoafbckphfaaPurePk2
import Derived.Deep.DeepCutAuto
namespace Go
section
variable {P : Program} {ops : Array Oper} {Q : Exit → Act → World → Prop} {md : Region.Mode} {S : World → Prop} {c : Nat}
/-- Each of the operations 'rs' comes up next. -/
def AllZ (P : Program) (md : Region.Mode) (ops : Array Oper) (Q : Exit → Act → World → Prop) (S : World → Prop) (c fuel : Nat) (listed : Array Bool) (a : Act) (w : World) (rs : List Nat) : Prop :=
  ∀ i ∈ rs, wpOp P ops Q i (fun a' w' => (i < c → S w') ∧ wpAnyZ P md ops Q S c fuel (listed.setIfInBounds i true) a' w') a w
theorem AllZ.nil {fuel : Nat} {listed : Array Bool} {a : Act} {w : World} : AllZ P md ops Q S c fuel listed a w [] := fun _ h => by cases h
theorem AllZ.cons {fuel : Nat} {listed : Array Bool} {a : Act} {w : World} {i : Nat} {o : Oper} {rs : List Nat} (ho : ops[i]? = some o)
    (h : ∀ K' : Act → World → Prop, Shut (∀ a w, (i < c → S w) → wpAnyZ P md ops Q S c fuel (listed.setIfInBounds i true) a w → K' a w) → if Region.wanted o (yielded ops a.tmps) = true then Oper.wp P o a w K' Q else K' (a.put o.dst undef) w)
    (hs : AllZ P md ops Q S c fuel listed a w rs) : AllZ P md ops Q S c fuel listed a w (i :: rs) := fun j hj => by
  rcases List.mem_cons.1 hj with rfl | hj
  · exact wpOp_step ho (fun K' hK => h K' (fun a w hS hW => hK a w ⟨hS, hW⟩))
  · exact hs j hj
theorem wpAnyZ_ready {fuel : Nat} {listed : Array Bool} {a : Act} {w : World} {rs : List Nat} (hr : Region.ready md ops listed = rs) (hne : rs ≠ [])
    (h : AllZ P md ops Q S c fuel listed a w rs) : wpAnyZ P md ops Q S c (fuel + 1) listed a w :=
  ⟨fun h0 => absurd (hr.symm.trans h0) hne, fun i hi => h i (by rw [← hr]; exact hi)⟩
end
end Go
namespace Go.Proofs.Ytmdjoafbckphfaa
open Go.RowKit Sl
/-- What PackOf has gathered when its first statement is done. -/
def PkS0 (wa : World) (m : Img) (f : Int → Int) (s3 : Value) (wx : World) : Prop :=
  ∃ (bo : Nat) (A3 : Option Addr) (n3 c3 sb fb : Nat) (tg : Nat → Nat), s3 = .pointer (some ⟨bo, 0, none⟩) ∧
    OwnI wx wa.heap.size tg ⟨A3, n3, c3, some ⟨sb, 0, none⟩, 1, 1, some ⟨fb, 0, none⟩, 1, 1, none, 0, 0⟩ [freeSV] [] ⟨m.guest, m.root.map f, [freeSlot], [0], []⟩ ∧
    Box wx bo m.guest ⟨A3, n3, c3, some ⟨sb, 0, none⟩, 1, 1, some ⟨fb, 0, none⟩, 1, 1, none, 0, 0⟩ ∧ BoxB wx bo ∧ wa.heap.size ≤ bo ∧ Below wa.heap.size wa wx
theorem pkS0_of {wa Wf W5 w5 W6 w6 W7 w7 W9 w9 : World} {A5 : Option Addr} {rn c5 : Nat} {f : Int → Int} {m : Img}
    (ho5 : w5.ownsRow W5.heap.size 3 1 (.slice A5 rn c5) rn (ints (m.root.map f))) (hc5 : rn ≤ c5) (hm5 : c5 ≤ maxLen) (hrn : rn ≤ 1000)
    (g6 : w6.heap[W6.heap.size]? = some (.cells #[.int .i64 0, .string { data := #[] }, .slice none 0 0] 80 (0, 0))) (g7 : w7.heap[W7.heap.size]? = some (.cells #[.int .i64 0] 3 (0, 0))) (z9 : ZB w9 W9.heap.size)
    (f5 : Below w5.heap.size w5 Wf) (f6 : Below w6.heap.size w6 Wf) (f7 : Below w7.heap.size w7 Wf) (f9 : Below w9.heap.size w9 Wf)
    (l5 : wa.heap.size ≤ W5.heap.size) (l6 : wa.heap.size ≤ W6.heap.size) (l7 : wa.heap.size ≤ W7.heap.size) (l9 : wa.heap.size ≤ W9.heap.size)
    (d57 : w5.heap.size ≤ W7.heap.size ∨ W7.heap.size < W5.heap.size) (UF : Below wa.heap.size wa Wf) :
    PkS0 wa m f (.pointer (some ⟨W9.heap.size, 0, none⟩)) (((((Wf.setCell ⟨W9.heap.size, 0, none⟩ (.int .i64 m.guest)).setCell ⟨W9.heap.size, 1, none⟩ (.slice A5 rn c5)).setCell ⟨W9.heap.size, 2, none⟩ (.slice (some ⟨W6.heap.size, 0, none⟩) 1 1)).setCell ⟨W9.heap.size, 3, none⟩ (.slice (some ⟨W7.heap.size, 0, none⟩) 1 1)).setCell ⟨W9.heap.size, 4, none⟩ (.slice none 0 0)) := by
  have ZF := z9.nextB f9 z9.box.1.ty.lt
  have h5 := five ZF.box.1 ZF.box.2 m.guest ⟨A5, rn, c5, some ⟨W6.heap.size, 0, none⟩, 1, 1, some ⟨W7.heap.size, 0, none⟩, 1, 1, none, 0, 0⟩
  dsimp only at h5
  have g6' := (f6.block _ (Array.getElem?_eq_some_iff.1 g6).1).trans g6
  have g7' := (f7.block _ (Array.getElem?_eq_some_iff.1 g7).1).trans g7
  have o3 : Wf.ownsRow wa.heap.size 3 1 (.slice (some ⟨W7.heap.size, 0, none⟩) 1 1) 1 (ints [0]) := own_blockG (cs := [.int .i64 0]) g7' l7 rfl (by decide)
  have o2 : Wf.ownsRow wa.heap.size 80 3 (.slice (some ⟨W6.heap.size, 0, none⟩) 1 1) 1 ([freeSV].flatMap SV.cells) := own_blockG (cs := [.int .i64 0, .string { data := #[] }, .slice none 0 0]) g6' l6 rfl (by decide)
  have o1 := own_base (own_below ho5 f5) l5
  have O : OwnI Wf wa.heap.size (fun x => if x = W7.heap.size then 1 else 0) ⟨A5, rn, c5, some ⟨W6.heap.size, 0, none⟩, 1, 1, some ⟨W7.heap.size, 0, none⟩, 1, 1, none, 0, 0⟩ [freeSV] [] ⟨m.guest, m.root.map f, [freeSlot], [0], []⟩ := by
    refine ⟨?_, ?_, o2, Nat.le_refl _, by dsimp only; decide, World.ownsRow_nil _ _ _ _, Nat.le_refl _, by dsimp only; decide, rfl, rfl, ?_, ?_⟩
    · refine ⟨hc5, ⟨by dsimp only; omega, by unfold maxLen at hm5; dsimp only; omega⟩, .inr ⟨o1, fun x e => ?_⟩⟩
      have := ho5.lt x e
      exact if_neg (by omega)
    · refine ⟨Nat.le_refl _, by dsimp only; decide, .inr ⟨o3, fun x e => ?_⟩⟩
      simp only [Value.ownBlock, Option.some.injEq] at e
      subst e; exact if_pos rfl
    · intro k x hx
      have hk : k = 0 := by have := (List.getElem?_eq_some_iff.1 hx).1; simp at this; omega
      subst hk
      have hx : freeSV = x := by simpa using hx
      subst hx
      exact ⟨by decide, TabO.nil⟩
    · intro k x hx; simp at hx
  exact ⟨W9.heap.size, A5, rn, c5, W6.heap.size, W7.heap.size, _, rfl, O.kept h5.2.2 ZF.box.1.ty (by decide) (by decide) (by decide), h5.1, h5.2.1, l9, UF.grown h5.2.2 UF.size (fun j e => by injection e with e; omega)⟩
theorem valid_le {l : List Slot} {e : Int} (h : ValidE l e) : e ≤ (l.length : Int) := by
  rcases h with h | ⟨n, s, rfl, _, hs, _⟩
  · omega
  · have := (List.getElem?_eq_some_iff.1 hs).1; omega
set_option maxRecDepth 100000 in
set_option maxHeartbeats 8000000 in
theorem packOf_any (v : IV) (m : Img) (w : World) (h : ImgR w w.heap.size v m) (he : checkErr m = 0) :
    Calls Try.prog 22 #[imgV m v] w (OwnOut w (packM m)) := by
  have SS := sound_of (check_is he).1
  have h40 := SS.cbd.slots
  have hr4 := SS.cbd.root
  have h4 := SS.cbd.snaps
  have hsn := h.slen
  have hpn := h.plen
  have hrn := h.rlen
  have hfn := h.flen
  have hrle : v.rn ≤ 1000 := by omega
  have KR := Lib.hid (fun W (hb : Below w.heap.size w W) => allRenamed_any v m v.rA v.rn v.rc m.root W (h.next hb) (h.next hb).root hrle (slot_first SS) (fun x hx => valid_le (valid_root SS (List.mem_cons_self ..) hx)) h40)
  have KA := Lib.hid (fun (A : Option Addr) (n c : Nat) (xs : List Int) (hn : n ≤ 4) (hv : ∀ x ∈ xs, ValidE m.slots x) W (hb : Below w.heap.size w W) (hr : Rd W W.heap.size 1 A n (ints xs)) => allRenamed_any v m A n c xs W (h.next hb) hr (by omega) (slot_first SS) (fun x hx => valid_le (hv x hx)) h40)
  have HRL := Lib.hid (refs_lenP he)
  have h1s := SS.cbd.one
  have HI := Lib.hid h
  have HS := Lib.hid SS
  have HE := Lib.hid he
  have HSN := Lib.hid hsn
  have HPN := Lib.hid hpn
  have HFN := Lib.hid hfn
  obtain ⟨rA, rn, rc, sA, sn, sc, fA, fn, fc, pA, pn, pc⟩ := v
  dsimp only [imgV] at *
  have HB1 := below_next (below1 w (.cells #[.int .i64 m.guest, .slice rA rn rc, .slice sA sn sc, .slice fA fn fc, .slice pA pn pc] 27)) (below1 _ (.cells #[.int .i64 0, .slice none 0 0, .slice none 0 0, .slice none 0 0, .slice none 0 0] 27))
  have HZ := Lib.hid (ZB.new (w.alloc (.cells #[.int .i64 m.guest, .slice rA rn rc, .slice sA sn sc, .slice fA fn fc, .slice pA pn pc] 27)))
  have HX := (Box.new w m.guest ⟨rA, rn, rc, sA, sn, sc, fA, fn, fc, pA, pn, pc⟩ 27).keep (below1 _ (.cells #[.int .i64 0, .slice none 0 0, .slice none 0 0, .slice none 0 0, .slice none 0 0] 27)) (by simp)
  have hz2 : w.heap.size + 2 ≤ ((w.alloc (.cells #[.int .i64 m.guest, .slice rA rn rc, .slice sA sn sc, .slice fA fn fc, .slice pA pn pc] 27)).alloc (.cells #[.int .i64 0, .slice none 0 0, .slice none 0 0, .slice none 0 0, .slice none 0 0] 27)).heap.size := by simp <;> omega
  rw [World.size_alloc] at HZ
  have hm1 := make_int1
  have hm2 := make_slot1
  generalize hf : ren m.slots = f at KR KA
  have HF := Lib.hid hf
  clear h he SS hsn hpn hrn hfn hf
  go_enter Try.func22, Try.ntmps22
  go_upto_region 1 with fail
  generalize (w.alloc (.cells #[.int .i64 m.guest, .slice rA rn rc, .slice sA sn sc, .slice fA fn fc, .slice pA pn pc] 27)).alloc (.cells #[.int .i64 0, .slice none 0 0, .slice none 0 0, .slice none 0 0, .slice none 0 0] 27) = wa at *
  have HXw := Lib.hid HX
  obtain ⟨b0, b1, b2, b3, b4⟩ := HX
  dsimp only at b0 b1 b2 b3 b4
  have hzz : w.heap.size ≤ wa.heap.size := by omega
  have lw : w.heap.size < wa.heap.size := by omega
  go_cut [3] (fun s3 wx => PkS0 wa m f s3 wx)
  case first =>
    have mvT := Lib.hid (fun (W' : World) (hb2 : Below wa.heap.size wa W') => (show W'.cell? ⟨w.heap.size, 0, none⟩ = some (.int .i64 m.guest) ∧ W'.cell? ⟨w.heap.size, 1, none⟩ = some (.slice rA rn rc) ∧ W'.cell? ⟨w.heap.size, 2, none⟩ = some (.slice sA sn sc) ∧ W'.cell? ⟨w.heap.size, 3, none⟩ = some (.slice fA fn fc) ∧ W'.cell? ⟨w.heap.size, 4, none⟩ = some (.slice pA pn pc) from ⟨(hb2.cell (p := ⟨w.heap.size, 0, none⟩) lw).trans b0, (hb2.cell (p := ⟨w.heap.size, 1, none⟩) lw).trans b1, (hb2.cell (p := ⟨w.heap.size, 2, none⟩) lw).trans b2, (hb2.cell (p := ⟨w.heap.size, 3, none⟩) lw).trans b3, (hb2.cell (p := ⟨w.heap.size, 4, none⟩) lw).trans b4⟩))
    have U0 : Below wa.heap.size wa wa.drew := (Below.refl _ _).drew
    clear b0 b1 b2 b3 b4
    refine wp_region_z (S := fun W' => W'.cell? ⟨w.heap.size, 0, none⟩ = some (.int .i64 m.guest) ∧ W'.cell? ⟨w.heap.size, 1, none⟩ = some (.slice rA rn rc) ∧ W'.cell? ⟨w.heap.size, 2, none⟩ = some (.slice sA sn sc) ∧ W'.cell? ⟨w.heap.size, 3, none⟩ = some (.slice fA fn fc) ∧ W'.cell? ⟨w.heap.size, 4, none⟩ = some (.slice pA pn pc)) 10 (by kernel_rfl) (fun hC => ?_)
    have hSS := mvT.out wa.drew U0
    generalize wa.drew = W0 at *
    apply wpAnyZ_take (i := 0)
    case hi => rfl
    case hs | hf | hr | hu => kernel_rfl
    case hw => exact fun z h1 h2 => (by have h2 : z < 11 := h2; have h3 : z = 10 := (by omega); subst h3; exact ⟨[1, 8], by kernel_rfl⟩)
    case hQ => exact fun _ _ _ h => h
    case hy => exact Or.inl ⟨by rfl, fun w' hSw => by (obtain ⟨s0, s1, s2, s3, s4⟩ := hSw; go_simp; try with_reducible rfl)⟩
    case hS | hC => assumption
    clear hC
    intro hC
    apply wpAnyZ_take (i := 1)
    case hi => rfl
    case hs | hf | hr | hu => kernel_rfl
    case hw => exact fun z h1 h2 => (by have h2 : z < 11 := h2; have h3 : z = 10 := (by omega); subst h3; exact ⟨[8], by kernel_rfl⟩)
    case hQ => exact fun _ _ _ h => h
    case hy => exact Or.inl ⟨by rfl, fun w' hSw => by (obtain ⟨s0, s1, s2, s3, s4⟩ := hSw; go_simp; try with_reducible rfl)⟩
    case hS | hC => assumption
    clear hC
    intro hC
    apply wpAnyZ_take (i := 2)
    case hi => rfl
    case hs | hf | hr | hu => kernel_rfl
    case hw => exact fun z h1 h2 => (by have h2 : z < 11 := h2; have h3 : z = 10 := (by omega); subst h3; exact ⟨[5], by kernel_rfl⟩)
    case hQ => exact fun _ _ _ h => h
    case hy => exact Or.inl ⟨by rfl, fun w' hSw => by (obtain ⟨s0, s1, s2, s3, s4⟩ := hSw; go_simp; try with_reducible rfl)⟩
    case hS | hC => assumption
    clear hC
    intro hC
    apply wpAnyZ_take (i := 3)
    case hi => rfl
    case hs | hf | hr | hu => kernel_rfl
    case hw => exact fun z h1 h2 => (by have h2 : z < 11 := h2; have h3 : z = 10 := (by omega); subst h3; exact ⟨[4, 5], by kernel_rfl⟩)
    case hQ => exact fun _ _ _ h => h
    case hy => exact Or.inl ⟨by rfl, fun w' hSw => by (obtain ⟨s0, s1, s2, s3, s4⟩ := hSw; go_simp; try with_reducible rfl)⟩
    case hS | hC => assumption
    clear hC
    intro hC
    apply wpAnyZ_take (i := 4)
    case hi => rfl
    case hs | hf | hr | hu => kernel_rfl
    case hw => exact fun z h1 h2 => (by have h2 : z < 11 := h2; have h3 : z = 10 := (by omega); subst h3; exact ⟨[5], by kernel_rfl⟩)
    case hQ => exact fun _ _ _ h => h
    case hy => exact Or.inl ⟨by rfl, fun w' hSw => by (obtain ⟨s0, s1, s2, s3, s4⟩ := hSw; go_simp; try with_reducible rfl)⟩
    case hS | hC => assumption
    clear hC
    intro hC
    clear hSS
    refine wpAnyZ_ready (rs := [5, 6, 7, 9]) (by kernel_rfl) (by decide) ?_
    refine AllZ.cons (i := 5) rfl (fun K' hK => ?_) ?_
    go_simp
    refine (KR.out _ (HB1.trans (U0.mono hzz))).mono ?_
    rintro e w5_1 ⟨A5, c5, rfl, ho5, h1, hc5, hm5⟩
    have U1 := below_next U0 h1
    refine hK.out _ _ (fun _ => mvT.out _ U1) ?_
    clear hK
    refine wpAnyZ_ready (rs := [6, 7, 9]) (by kernel_rfl) (by decide) ?_
    refine AllZ.cons (i := 6) rfl (fun K' hK => ?_) ?_
    go_simp
    have h2 := below1 w5_1 (.cells #[.int .i64 0, .string { data := #[] }, .slice none 0 0] 80)
    have g6 := heap_alloc_new w5_1 (.cells #[.int .i64 0, .string { data := #[] }, .slice none 0 0] 80)
    have U2 := below_next U1 h2
    refine hK.out _ _ (fun _ => mvT.out _ U2) ?_
    clear hK
    generalize w5_1.alloc (.cells #[.int .i64 0, .string { data := #[] }, .slice none 0 0] 80) = w6_2 at *
    refine wpAnyZ_ready (rs := [7, 9]) (by kernel_rfl) (by decide) ?_
    refine AllZ.cons (i := 7) rfl (fun K' hK => ?_) ?_
    go_simp
    have h3 := below1 w6_2 (.cells #[.int .i64 0] 3)
    have g7 := heap_alloc_new w6_2 (.cells #[.int .i64 0] 3)
    have U3 := below_next U2 h3
    refine hK.out _ _ (fun _ => mvT.out _ U3) ?_
    clear hK
    generalize w6_2.alloc (.cells #[.int .i64 0] 3) = w7_3 at *
    refine wpAnyZ_ready (rs := [8, 9]) (by kernel_rfl) (by decide) ?_
    refine AllZ.cons (i := 8) rfl (fun K' hK => ?_) ?_
    go_simp
    refine hK.out _ _ (fun _ => mvT.out _ U3) ?_
    clear hK
    refine wpAnyZ_ready (rs := [9]) (by kernel_rfl) (by decide) ?_
    refine AllZ.cons (i := 9) rfl (fun K' hK => ?_) ?_
    go_simp
    have h5 := below1 w7_3 (.cells #[.int .i64 0, .slice none 0 0, .slice none 0 0, .slice none 0 0, .slice none 0 0] 27)
    have z9 := ZB.new w7_3
    have U5 := below_next U3 h5
    refine hK.out _ _ (fun _ => mvT.out _ U5) ?_
    clear hK
    generalize w7_3.alloc (.cells #[.int .i64 0, .slice none 0 0, .slice none 0 0, .slice none 0 0, .slice none 0 0] 27) = w9_5 at *
    have zf := z9.nextB (Below.refl _ _) z9.box.1.ty.lt
    obtain ⟨z0, z1, z2, z3, z4⟩ := zf.cells
    obtain ⟨y0, y1, y2, y3, y4⟩ := zf.froz
    refine wpAnyZ_one (i := 10) (by kernel_rfl) rfl (fun K' hK => ?_)
    go_simp
    refine hK.out _ _ (fun h => absurd h (by decide)) ?_
    clear hK
    refine wpAnyZ_done (by kernel_rfl) ?_ _
    go_wp2_with fail
    go_meet
    have v0 := h1.size
    have v1 := h2.size
    have v2 := h3.size
    have v3 := h5.size
    have v7 := (Array.getElem?_eq_some_iff.1 g7).1
    exact pkS0_of ho5 hc5 hm5 hrle g6 g7 z9 (below_next (below_next h2 h3) h5) (below_next h3 h5) h5 (Below.refl _ _) (U0.size) (U1.size) (U2.size) (U3.size) (.inl (by omega)) U5
    exact AllZ.nil
    refine AllZ.cons (i := 9) rfl (fun K' hK => ?_) ?_
    go_simp
    have h6 := below1 w7_3 (.cells #[.int .i64 0, .slice none 0 0, .slice none 0 0, .slice none 0 0, .slice none 0 0] 27)
    have z9 := ZB.new w7_3
    have U6 := below_next U3 h6
    refine hK.out _ _ (fun _ => mvT.out _ U6) ?_
    clear hK
    generalize w7_3.alloc (.cells #[.int .i64 0, .slice none 0 0, .slice none 0 0, .slice none 0 0, .slice none 0 0] 27) = w9_6 at *
    refine wpAnyZ_ready (rs := [8]) (by kernel_rfl) (by decide) ?_
    refine AllZ.cons (i := 8) rfl (fun K' hK => ?_) ?_
    go_simp
    refine hK.out _ _ (fun _ => mvT.out _ U6) ?_
    clear hK
    have zf := z9.nextB (Below.refl _ _) z9.box.1.ty.lt
    obtain ⟨z0, z1, z2, z3, z4⟩ := zf.cells
    obtain ⟨y0, y1, y2, y3, y4⟩ := zf.froz
    refine wpAnyZ_one (i := 10) (by kernel_rfl) rfl (fun K' hK => ?_)
    go_simp
    refine hK.out _ _ (fun h => absurd h (by decide)) ?_
    clear hK
    refine wpAnyZ_done (by kernel_rfl) ?_ _
    go_wp2_with fail
    go_meet
    have v0 := h1.size
    have v1 := h2.size
    have v2 := h3.size
    have v3 := h6.size
    have v7 := (Array.getElem?_eq_some_iff.1 g7).1
    exact pkS0_of ho5 hc5 hm5 hrle g6 g7 z9 (below_next (below_next h2 h3) h6) (below_next h3 h6) h6 (Below.refl _ _) (U0.size) (U1.size) (U2.size) (U3.size) (.inl (by omega)) U6
    exact AllZ.nil
    exact AllZ.nil
    refine AllZ.cons (i := 9) rfl (fun K' hK => ?_) ?_
    go_simp
    have h8 := below1 w6_2 (.cells #[.int .i64 0, .slice none 0 0, .slice none 0 0, .slice none 0 0, .slice none 0 0] 27)
    have z9 := ZB.new w6_2
    have U8 := below_next U2 h8
    refine hK.out _ _ (fun _ => mvT.out _ U8) ?_
    clear hK
    generalize w6_2.alloc (.cells #[.int .i64 0, .slice none 0 0, .slice none 0 0, .slice none 0 0, .slice none 0 0] 27) = w9_8 at *
    refine wpAnyZ_ready (rs := [7]) (by kernel_rfl) (by decide) ?_
    refine AllZ.cons (i := 7) rfl (fun K' hK => ?_) ?_
    go_simp
    have h9 := below1 w9_8 (.cells #[.int .i64 0] 3)
    have g7 := heap_alloc_new w9_8 (.cells #[.int .i64 0] 3)
    have U9 := below_next U8 h9
    refine hK.out _ _ (fun _ => mvT.out _ U9) ?_
    clear hK
    generalize w9_8.alloc (.cells #[.int .i64 0] 3) = w7_9 at *
    refine wpAnyZ_ready (rs := [8]) (by kernel_rfl) (by decide) ?_
    refine AllZ.cons (i := 8) rfl (fun K' hK => ?_) ?_
    go_simp
    refine hK.out _ _ (fun _ => mvT.out _ U9) ?_
    clear hK
    have zf := z9.nextB h9 z9.box.1.ty.lt
    obtain ⟨z0, z1, z2, z3, z4⟩ := zf.cells
    obtain ⟨y0, y1, y2, y3, y4⟩ := zf.froz
    refine wpAnyZ_one (i := 10) (by kernel_rfl) rfl (fun K' hK => ?_)
    go_simp
    refine hK.out _ _ (fun h => absurd h (by decide)) ?_
    clear hK
    refine wpAnyZ_done (by kernel_rfl) ?_ _
    go_wp2_with fail
    go_meet
    have v0 := h1.size
    have v1 := h2.size
    have v2 := h8.size
    have v3 := h9.size
    have v7 := (Array.getElem?_eq_some_iff.1 g7).1
    exact pkS0_of ho5 hc5 hm5 hrle g6 g7 z9 (below_next (below_next h2 h8) h9) (below_next h8 h9) (Below.refl _ _) h9 (U0.size) (U1.size) (U8.size) (U2.size) (.inl (by omega)) U9
    exact AllZ.nil
    exact AllZ.nil
    exact AllZ.nil
    refine AllZ.cons (i := 7) rfl (fun K' hK => ?_) ?_
    go_simp
    have h11 := below1 w5_1 (.cells #[.int .i64 0] 3)
    have g7 := heap_alloc_new w5_1 (.cells #[.int .i64 0] 3)
    have U11 := below_next U1 h11
    refine hK.out _ _ (fun _ => mvT.out _ U11) ?_
    clear hK
    generalize w5_1.alloc (.cells #[.int .i64 0] 3) = w7_11 at *
    refine wpAnyZ_ready (rs := [6, 9]) (by kernel_rfl) (by decide) ?_
    refine AllZ.cons (i := 6) rfl (fun K' hK => ?_) ?_
    go_simp
    have h12 := below1 w7_11 (.cells #[.int .i64 0, .string { data := #[] }, .slice none 0 0] 80)
    have g6 := heap_alloc_new w7_11 (.cells #[.int .i64 0, .string { data := #[] }, .slice none 0 0] 80)
    have U12 := below_next U11 h12
    refine hK.out _ _ (fun _ => mvT.out _ U12) ?_
    clear hK
    generalize w7_11.alloc (.cells #[.int .i64 0, .string { data := #[] }, .slice none 0 0] 80) = w6_12 at *
    refine wpAnyZ_ready (rs := [8, 9]) (by kernel_rfl) (by decide) ?_
    refine AllZ.cons (i := 8) rfl (fun K' hK => ?_) ?_
    go_simp
    refine hK.out _ _ (fun _ => mvT.out _ U12) ?_
    clear hK
    refine wpAnyZ_ready (rs := [9]) (by kernel_rfl) (by decide) ?_
    refine AllZ.cons (i := 9) rfl (fun K' hK => ?_) ?_
    go_simp
    have h14 := below1 w6_12 (.cells #[.int .i64 0, .slice none 0 0, .slice none 0 0, .slice none 0 0, .slice none 0 0] 27)
    have z9 := ZB.new w6_12
    have U14 := below_next U12 h14
    refine hK.out _ _ (fun _ => mvT.out _ U14) ?_
    clear hK
    generalize w6_12.alloc (.cells #[.int .i64 0, .slice none 0 0, .slice none 0 0, .slice none 0 0, .slice none 0 0] 27) = w9_14 at *
    have zf := z9.nextB (Below.refl _ _) z9.box.1.ty.lt
    obtain ⟨z0, z1, z2, z3, z4⟩ := zf.cells
    obtain ⟨y0, y1, y2, y3, y4⟩ := zf.froz
    refine wpAnyZ_one (i := 10) (by kernel_rfl) rfl (fun K' hK => ?_)
    go_simp
    refine hK.out _ _ (fun h => absurd h (by decide)) ?_
    clear hK
    refine wpAnyZ_done (by kernel_rfl) ?_ _
    go_wp2_with fail
    go_meet
    have v0 := h1.size
    have v1 := h11.size
    have v2 := h12.size
    have v3 := h14.size
    have v7 := (Array.getElem?_eq_some_iff.1 g7).1
    exact pkS0_of ho5 hc5 hm5 hrle g6 g7 z9 (below_next (below_next h11 h12) h14) h14 (below_next h12 h14) (Below.refl _ _) (U0.size) (U11.size) (U1.size) (U12.size) (.inl (by omega)) U14
    exact AllZ.nil
    refine AllZ.cons (i := 9) rfl (fun K' hK => ?_) ?_
    go_simp
    have h15 := below1 w6_12 (.cells #[.int .i64 0, .slice none 0 0, .slice none 0 0, .slice none 0 0, .slice none 0 0] 27)
    have z9 := ZB.new w6_12
    have U15 := below_next U12 h15
    refine hK.out _ _ (fun _ => mvT.out _ U15) ?_
    clear hK
    generalize w6_12.alloc (.cells #[.int .i64 0, .slice none 0 0, .slice none 0 0, .slice none 0 0, .slice none 0 0] 27) = w9_15 at *
    refine wpAnyZ_ready (rs := [8]) (by kernel_rfl) (by decide) ?_
    refine AllZ.cons (i := 8) rfl (fun K' hK => ?_) ?_
    go_simp
    refine hK.out _ _ (fun _ => mvT.out _ U15) ?_
    clear hK
    have zf := z9.nextB (Below.refl _ _) z9.box.1.ty.lt
    obtain ⟨z0, z1, z2, z3, z4⟩ := zf.cells
    obtain ⟨y0, y1, y2, y3, y4⟩ := zf.froz
    refine wpAnyZ_one (i := 10) (by kernel_rfl) rfl (fun K' hK => ?_)
    go_simp
    refine hK.out _ _ (fun h => absurd h (by decide)) ?_
    clear hK
    refine wpAnyZ_done (by kernel_rfl) ?_ _
    go_wp2_with fail
    go_meet
    have v0 := h1.size
    have v1 := h11.size
    have v2 := h12.size
    have v3 := h15.size
    have v7 := (Array.getElem?_eq_some_iff.1 g7).1
    exact pkS0_of ho5 hc5 hm5 hrle g6 g7 z9 (below_next (below_next h11 h12) h15) h15 (below_next h12 h15) (Below.refl _ _) (U0.size) (U11.size) (U1.size) (U12.size) (.inl (by omega)) U15
    exact AllZ.nil
    exact AllZ.nil
    refine AllZ.cons (i := 9) rfl (fun K' hK => ?_) ?_
    go_simp
    have h17 := below1 w7_11 (.cells #[.int .i64 0, .slice none 0 0, .slice none 0 0, .slice none 0 0, .slice none 0 0] 27)
    have z9 := ZB.new w7_11
    have U17 := below_next U11 h17
    refine hK.out _ _ (fun _ => mvT.out _ U17) ?_
    clear hK
    generalize w7_11.alloc (.cells #[.int .i64 0, .slice none 0 0, .slice none 0 0, .slice none 0 0, .slice none 0 0] 27) = w9_17 at *
    refine wpAnyZ_ready (rs := [6]) (by kernel_rfl) (by decide) ?_
    refine AllZ.cons (i := 6) rfl (fun K' hK => ?_) ?_
    go_simp
    have h18 := below1 w9_17 (.cells #[.int .i64 0, .string { data := #[] }, .slice none 0 0] 80)
    have g6 := heap_alloc_new w9_17 (.cells #[.int .i64 0, .string { data := #[] }, .slice none 0 0] 80)
    have U18 := below_next U17 h18
    refine hK.out _ _ (fun _ => mvT.out _ U18) ?_
    clear hK
    generalize w9_17.alloc (.cells #[.int .i64 0, .string { data := #[] }, .slice none 0 0] 80) = w6_18 at *
    refine wpAnyZ_ready (rs := [8]) (by kernel_rfl) (by decide) ?_
    refine AllZ.cons (i := 8) rfl (fun K' hK => ?_) ?_
    go_simp
    refine hK.out _ _ (fun _ => mvT.out _ U18) ?_
    clear hK
    have zf := z9.nextB h18 z9.box.1.ty.lt
    obtain ⟨z0, z1, z2, z3, z4⟩ := zf.cells
    obtain ⟨y0, y1, y2, y3, y4⟩ := zf.froz
    refine wpAnyZ_one (i := 10) (by kernel_rfl) rfl (fun K' hK => ?_)
    go_simp
    refine hK.out _ _ (fun h => absurd h (by decide)) ?_
    clear hK
    refine wpAnyZ_done (by kernel_rfl) ?_ _
    go_wp2_with fail
    go_meet
    have v0 := h1.size
    have v1 := h11.size
    have v2 := h17.size
    have v3 := h18.size
    have v7 := (Array.getElem?_eq_some_iff.1 g7).1
    exact pkS0_of ho5 hc5 hm5 hrle g6 g7 z9 (below_next (below_next h11 h17) h18) (Below.refl _ _) (below_next h17 h18) h18 (U0.size) (U17.size) (U1.size) (U11.size) (.inl (by omega)) U18
    exact AllZ.nil
    exact AllZ.nil
    exact AllZ.nil
    refine AllZ.cons (i := 9) rfl (fun K' hK => ?_) ?_
    go_simp
    have h20 := below1 w5_1 (.cells #[.int .i64 0, .slice none 0 0, .slice none 0 0, .slice none 0 0, .slice none 0 0] 27)
    have z9 := ZB.new w5_1
    have U20 := below_next U1 h20
    refine hK.out _ _ (fun _ => mvT.out _ U20) ?_
    clear hK
    generalize w5_1.alloc (.cells #[.int .i64 0, .slice none 0 0, .slice none 0 0, .slice none 0 0, .slice none 0 0] 27) = w9_20 at *
    refine wpAnyZ_ready (rs := [6, 7]) (by kernel_rfl) (by decide) ?_
    refine AllZ.cons (i := 6) rfl (fun K' hK => ?_) ?_
    go_simp
    have h21 := below1 w9_20 (.cells #[.int .i64 0, .string { data := #[] }, .slice none 0 0] 80)
    have g6 := heap_alloc_new w9_20 (.cells #[.int .i64 0, .string { data := #[] }, .slice none 0 0] 80)
    have U21 := below_next U20 h21
    refine hK.out _ _ (fun _ => mvT.out _ U21) ?_
    clear hK
    generalize w9_20.alloc (.cells #[.int .i64 0, .string { data := #[] }, .slice none 0 0] 80) = w6_21 at *
    refine wpAnyZ_ready (rs := [7]) (by kernel_rfl) (by decide) ?_
    refine AllZ.cons (i := 7) rfl (fun K' hK => ?_) ?_
    go_simp
    have h22 := below1 w6_21 (.cells #[.int .i64 0] 3)
    have g7 := heap_alloc_new w6_21 (.cells #[.int .i64 0] 3)
    have U22 := below_next U21 h22
    refine hK.out _ _ (fun _ => mvT.out _ U22) ?_
    clear hK
    generalize w6_21.alloc (.cells #[.int .i64 0] 3) = w7_22 at *
    refine wpAnyZ_ready (rs := [8]) (by kernel_rfl) (by decide) ?_
    refine AllZ.cons (i := 8) rfl (fun K' hK => ?_) ?_
    go_simp
    refine hK.out _ _ (fun _ => mvT.out _ U22) ?_
    clear hK
    have zf := z9.nextB (below_next h21 h22) z9.box.1.ty.lt
    obtain ⟨z0, z1, z2, z3, z4⟩ := zf.cells
    obtain ⟨y0, y1, y2, y3, y4⟩ := zf.froz
    refine wpAnyZ_one (i := 10) (by kernel_rfl) rfl (fun K' hK => ?_)
    go_simp
    refine hK.out _ _ (fun h => absurd h (by decide)) ?_
    clear hK
    refine wpAnyZ_done (by kernel_rfl) ?_ _
    go_wp2_with fail
    go_meet
    have v0 := h1.size
    have v1 := h20.size
    have v2 := h21.size
    have v3 := h22.size
    have v7 := (Array.getElem?_eq_some_iff.1 g7).1
    exact pkS0_of ho5 hc5 hm5 hrle g6 g7 z9 (below_next (below_next h20 h21) h22) h22 (Below.refl _ _) (below_next h21 h22) (U0.size) (U20.size) (U21.size) (U1.size) (.inl (by omega)) U22
    exact AllZ.nil
    exact AllZ.nil
    refine AllZ.cons (i := 7) rfl (fun K' hK => ?_) ?_
    go_simp
    have h24 := below1 w9_20 (.cells #[.int .i64 0] 3)
    have g7 := heap_alloc_new w9_20 (.cells #[.int .i64 0] 3)
    have U24 := below_next U20 h24
    refine hK.out _ _ (fun _ => mvT.out _ U24) ?_
    clear hK
    generalize w9_20.alloc (.cells #[.int .i64 0] 3) = w7_24 at *
    refine wpAnyZ_ready (rs := [6]) (by kernel_rfl) (by decide) ?_
    refine AllZ.cons (i := 6) rfl (fun K' hK => ?_) ?_
    go_simp
    have h25 := below1 w7_24 (.cells #[.int .i64 0, .string { data := #[] }, .slice none 0 0] 80)
    have g6 := heap_alloc_new w7_24 (.cells #[.int .i64 0, .string { data := #[] }, .slice none 0 0] 80)
    have U25 := below_next U24 h25
    refine hK.out _ _ (fun _ => mvT.out _ U25) ?_
    clear hK
    generalize w7_24.alloc (.cells #[.int .i64 0, .string { data := #[] }, .slice none 0 0] 80) = w6_25 at *
    refine wpAnyZ_ready (rs := [8]) (by kernel_rfl) (by decide) ?_
    refine AllZ.cons (i := 8) rfl (fun K' hK => ?_) ?_
    go_simp
    refine hK.out _ _ (fun _ => mvT.out _ U25) ?_
    clear hK
    have zf := z9.nextB (below_next h24 h25) z9.box.1.ty.lt
    obtain ⟨z0, z1, z2, z3, z4⟩ := zf.cells
    obtain ⟨y0, y1, y2, y3, y4⟩ := zf.froz
    refine wpAnyZ_one (i := 10) (by kernel_rfl) rfl (fun K' hK => ?_)
    go_simp
    refine hK.out _ _ (fun h => absurd h (by decide)) ?_
    clear hK
    refine wpAnyZ_done (by kernel_rfl) ?_ _
    go_wp2_with fail
    go_meet
    have v0 := h1.size
    have v1 := h20.size
    have v2 := h24.size
    have v3 := h25.size
    have v7 := (Array.getElem?_eq_some_iff.1 g7).1
    exact pkS0_of ho5 hc5 hm5 hrle g6 g7 z9 (below_next (below_next h20 h24) h25) (Below.refl _ _) h25 (below_next h24 h25) (U0.size) (U24.size) (U20.size) (U1.size) (.inl (by omega)) U25
    exact AllZ.nil
    exact AllZ.nil
    exact AllZ.nil
    exact AllZ.nil
    refine AllZ.cons (i := 6) rfl (fun K' hK => ?_) ?_
    go_simp
    have h27 := below1 W0 (.cells #[.int .i64 0, .string { data := #[] }, .slice none 0 0] 80)
    have g6 := heap_alloc_new W0 (.cells #[.int .i64 0, .string { data := #[] }, .slice none 0 0] 80)
    have U27 := below_next U0 h27
    refine hK.out _ _ (fun _ => mvT.out _ U27) ?_
    clear hK
    generalize W0.alloc (.cells #[.int .i64 0, .string { data := #[] }, .slice none 0 0] 80) = w6_27 at *
    refine wpAnyZ_ready (rs := [5, 7, 9]) (by kernel_rfl) (by decide) ?_
    refine AllZ.cons (i := 5) rfl (fun K' hK => ?_) ?_
    go_simp
    refine (KR.out _ (HB1.trans (U27.mono hzz))).mono ?_
    rintro e w5_28 ⟨A5, c5, rfl, ho5, h28, hc5, hm5⟩
    have U28 := below_next U27 h28
    refine hK.out _ _ (fun _ => mvT.out _ U28) ?_
    clear hK
    refine wpAnyZ_ready (rs := [7, 9]) (by kernel_rfl) (by decide) ?_
    refine AllZ.cons (i := 7) rfl (fun K' hK => ?_) ?_
    go_simp
    have h29 := below1 w5_28 (.cells #[.int .i64 0] 3)
    have g7 := heap_alloc_new w5_28 (.cells #[.int .i64 0] 3)
    have U29 := below_next U28 h29
    refine hK.out _ _ (fun _ => mvT.out _ U29) ?_
    clear hK
    generalize w5_28.alloc (.cells #[.int .i64 0] 3) = w7_29 at *
    refine wpAnyZ_ready (rs := [8, 9]) (by kernel_rfl) (by decide) ?_
    refine AllZ.cons (i := 8) rfl (fun K' hK => ?_) ?_
    go_simp
    refine hK.out _ _ (fun _ => mvT.out _ U29) ?_
    clear hK
    refine wpAnyZ_ready (rs := [9]) (by kernel_rfl) (by decide) ?_
    refine AllZ.cons (i := 9) rfl (fun K' hK => ?_) ?_
    go_simp
    have h31 := below1 w7_29 (.cells #[.int .i64 0, .slice none 0 0, .slice none 0 0, .slice none 0 0, .slice none 0 0] 27)
    have z9 := ZB.new w7_29
    have U31 := below_next U29 h31
    refine hK.out _ _ (fun _ => mvT.out _ U31) ?_
    clear hK
    generalize w7_29.alloc (.cells #[.int .i64 0, .slice none 0 0, .slice none 0 0, .slice none 0 0, .slice none 0 0] 27) = w9_31 at *
    have zf := z9.nextB (Below.refl _ _) z9.box.1.ty.lt
    obtain ⟨z0, z1, z2, z3, z4⟩ := zf.cells
    obtain ⟨y0, y1, y2, y3, y4⟩ := zf.froz
    refine wpAnyZ_one (i := 10) (by kernel_rfl) rfl (fun K' hK => ?_)
    go_simp
    refine hK.out _ _ (fun h => absurd h (by decide)) ?_
    clear hK
    refine wpAnyZ_done (by kernel_rfl) ?_ _
    go_wp2_with fail
    go_meet
    have v0 := h27.size
    have v1 := h28.size
    have v2 := h29.size
    have v3 := h31.size
    have v7 := (Array.getElem?_eq_some_iff.1 g7).1
    exact pkS0_of ho5 hc5 hm5 hrle g6 g7 z9 (below_next h29 h31) (below_next (below_next h28 h29) h31) h31 (Below.refl _ _) (U27.size) (U0.size) (U28.size) (U29.size) (.inl (by omega)) U31
    exact AllZ.nil
    refine AllZ.cons (i := 9) rfl (fun K' hK => ?_) ?_
    go_simp
    have h32 := below1 w7_29 (.cells #[.int .i64 0, .slice none 0 0, .slice none 0 0, .slice none 0 0, .slice none 0 0] 27)
    have z9 := ZB.new w7_29
    have U32 := below_next U29 h32
    refine hK.out _ _ (fun _ => mvT.out _ U32) ?_
    clear hK
    generalize w7_29.alloc (.cells #[.int .i64 0, .slice none 0 0, .slice none 0 0, .slice none 0 0, .slice none 0 0] 27) = w9_32 at *
    refine wpAnyZ_ready (rs := [8]) (by kernel_rfl) (by decide) ?_
    refine AllZ.cons (i := 8) rfl (fun K' hK => ?_) ?_
    go_simp
    refine hK.out _ _ (fun _ => mvT.out _ U32) ?_
    clear hK
    have zf := z9.nextB (Below.refl _ _) z9.box.1.ty.lt
    obtain ⟨z0, z1, z2, z3, z4⟩ := zf.cells
    obtain ⟨y0, y1, y2, y3, y4⟩ := zf.froz
    refine wpAnyZ_one (i := 10) (by kernel_rfl) rfl (fun K' hK => ?_)
    go_simp
    refine hK.out _ _ (fun h => absurd h (by decide)) ?_
    clear hK
    refine wpAnyZ_done (by kernel_rfl) ?_ _
    go_wp2_with fail
    go_meet
    have v0 := h27.size
    have v1 := h28.size
    have v2 := h29.size
    have v3 := h32.size
    have v7 := (Array.getElem?_eq_some_iff.1 g7).1
    exact pkS0_of ho5 hc5 hm5 hrle g6 g7 z9 (below_next h29 h32) (below_next (below_next h28 h29) h32) h32 (Below.refl _ _) (U27.size) (U0.size) (U28.size) (U29.size) (.inl (by omega)) U32
    exact AllZ.nil
    exact AllZ.nil
    refine AllZ.cons (i := 9) rfl (fun K' hK => ?_) ?_
    go_simp
    have h34 := below1 w5_28 (.cells #[.int .i64 0, .slice none 0 0, .slice none 0 0, .slice none 0 0, .slice none 0 0] 27)
    have z9 := ZB.new w5_28
    have U34 := below_next U28 h34
    refine hK.out _ _ (fun _ => mvT.out _ U34) ?_
    clear hK
    generalize w5_28.alloc (.cells #[.int .i64 0, .slice none 0 0, .slice none 0 0, .slice none 0 0, .slice none 0 0] 27) = w9_34 at *
    refine wpAnyZ_ready (rs := [7]) (by kernel_rfl) (by decide) ?_
    refine AllZ.cons (i := 7) rfl (fun K' hK => ?_) ?_
    go_simp
    have h35 := below1 w9_34 (.cells #[.int .i64 0] 3)
    have g7 := heap_alloc_new w9_34 (.cells #[.int .i64 0] 3)
    have U35 := below_next U34 h35
    refine hK.out _ _ (fun _ => mvT.out _ U35) ?_
    clear hK
    generalize w9_34.alloc (.cells #[.int .i64 0] 3) = w7_35 at *
    refine wpAnyZ_ready (rs := [8]) (by kernel_rfl) (by decide) ?_
    refine AllZ.cons (i := 8) rfl (fun K' hK => ?_) ?_
    go_simp
    refine hK.out _ _ (fun _ => mvT.out _ U35) ?_
    clear hK
    have zf := z9.nextB h35 z9.box.1.ty.lt
    obtain ⟨z0, z1, z2, z3, z4⟩ := zf.cells
    obtain ⟨y0, y1, y2, y3, y4⟩ := zf.froz
    refine wpAnyZ_one (i := 10) (by kernel_rfl) rfl (fun K' hK => ?_)
    go_simp
    refine hK.out _ _ (fun h => absurd h (by decide)) ?_
    clear hK
    refine wpAnyZ_done (by kernel_rfl) ?_ _
    go_wp2_with fail
    go_meet
    have v0 := h27.size
    have v1 := h28.size
    have v2 := h34.size
    have v3 := h35.size
    have v7 := (Array.getElem?_eq_some_iff.1 g7).1
    exact pkS0_of ho5 hc5 hm5 hrle g6 g7 z9 (below_next h34 h35) (below_next (below_next h28 h34) h35) (Below.refl _ _) h35 (U27.size) (U0.size) (U34.size) (U28.size) (.inl (by omega)) U35
    exact AllZ.nil
    exact AllZ.nil
    exact AllZ.nil
    refine AllZ.cons (i := 7) rfl (fun K' hK => ?_) ?_
    go_simp
    have h37 := below1 w6_27 (.cells #[.int .i64 0] 3)
    have g7 := heap_alloc_new w6_27 (.cells #[.int .i64 0] 3)
    have U37 := below_next U27 h37
    refine hK.out _ _ (fun _ => mvT.out _ U37) ?_
    clear hK
    generalize w6_27.alloc (.cells #[.int .i64 0] 3) = w7_37 at *
    refine wpAnyZ_ready (rs := [5, 9]) (by kernel_rfl) (by decide) ?_
    refine AllZ.cons (i := 5) rfl (fun K' hK => ?_) ?_
    go_simp
    refine (KR.out _ (HB1.trans (U37.mono hzz))).mono ?_
    rintro e w5_38 ⟨A5, c5, rfl, ho5, h38, hc5, hm5⟩
    have U38 := below_next U37 h38
    refine hK.out _ _ (fun _ => mvT.out _ U38) ?_
    clear hK
    refine wpAnyZ_ready (rs := [8, 9]) (by kernel_rfl) (by decide) ?_
    refine AllZ.cons (i := 8) rfl (fun K' hK => ?_) ?_
    go_simp
    refine hK.out _ _ (fun _ => mvT.out _ U38) ?_
    clear hK
    refine wpAnyZ_ready (rs := [9]) (by kernel_rfl) (by decide) ?_
    refine AllZ.cons (i := 9) rfl (fun K' hK => ?_) ?_
    go_simp
    have h40 := below1 w5_38 (.cells #[.int .i64 0, .slice none 0 0, .slice none 0 0, .slice none 0 0, .slice none 0 0] 27)
    have z9 := ZB.new w5_38
    have U40 := below_next U38 h40
    refine hK.out _ _ (fun _ => mvT.out _ U40) ?_
    clear hK
    generalize w5_38.alloc (.cells #[.int .i64 0, .slice none 0 0, .slice none 0 0, .slice none 0 0, .slice none 0 0] 27) = w9_40 at *
    have zf := z9.nextB (Below.refl _ _) z9.box.1.ty.lt
    obtain ⟨z0, z1, z2, z3, z4⟩ := zf.cells
    obtain ⟨y0, y1, y2, y3, y4⟩ := zf.froz
    refine wpAnyZ_one (i := 10) (by kernel_rfl) rfl (fun K' hK => ?_)
    go_simp
    refine hK.out _ _ (fun h => absurd h (by decide)) ?_
    clear hK
    refine wpAnyZ_done (by kernel_rfl) ?_ _
    go_wp2_with fail
    go_meet
    have v0 := h27.size
    have v1 := h37.size
    have v2 := h38.size
    have v3 := h40.size
    have v7 := (Array.getElem?_eq_some_iff.1 g7).1
    exact pkS0_of ho5 hc5 hm5 hrle g6 g7 z9 h40 (below_next (below_next h37 h38) h40) (below_next h38 h40) (Below.refl _ _) (U37.size) (U0.size) (U27.size) (U38.size) (.inr (by omega)) U40
    exact AllZ.nil
    refine AllZ.cons (i := 9) rfl (fun K' hK => ?_) ?_
    go_simp
    have h41 := below1 w5_38 (.cells #[.int .i64 0, .slice none 0 0, .slice none 0 0, .slice none 0 0, .slice none 0 0] 27)
    have z9 := ZB.new w5_38
    have U41 := below_next U38 h41
    refine hK.out _ _ (fun _ => mvT.out _ U41) ?_
    clear hK
    generalize w5_38.alloc (.cells #[.int .i64 0, .slice none 0 0, .slice none 0 0, .slice none 0 0, .slice none 0 0] 27) = w9_41 at *
    refine wpAnyZ_ready (rs := [8]) (by kernel_rfl) (by decide) ?_
    refine AllZ.cons (i := 8) rfl (fun K' hK => ?_) ?_
    go_simp
    refine hK.out _ _ (fun _ => mvT.out _ U41) ?_
    clear hK
    have zf := z9.nextB (Below.refl _ _) z9.box.1.ty.lt
    obtain ⟨z0, z1, z2, z3, z4⟩ := zf.cells
    obtain ⟨y0, y1, y2, y3, y4⟩ := zf.froz
    refine wpAnyZ_one (i := 10) (by kernel_rfl) rfl (fun K' hK => ?_)
    go_simp
    refine hK.out _ _ (fun h => absurd h (by decide)) ?_
    clear hK
    refine wpAnyZ_done (by kernel_rfl) ?_ _
    go_wp2_with fail
    go_meet
    have v0 := h27.size
    have v1 := h37.size
    have v2 := h38.size
    have v3 := h41.size
    have v7 := (Array.getElem?_eq_some_iff.1 g7).1
    exact pkS0_of ho5 hc5 hm5 hrle g6 g7 z9 h41 (below_next (below_next h37 h38) h41) (below_next h38 h41) (Below.refl _ _) (U37.size) (U0.size) (U27.size) (U38.size) (.inr (by omega)) U41
    exact AllZ.nil
    exact AllZ.nil
    refine AllZ.cons (i := 9) rfl (fun K' hK => ?_) ?_
    go_simp
    have h43 := below1 w7_37 (.cells #[.int .i64 0, .slice none 0 0, .slice none 0 0, .slice none 0 0, .slice none 0 0] 27)
    have z9 := ZB.new w7_37
    have U43 := below_next U37 h43
    refine hK.out _ _ (fun _ => mvT.out _ U43) ?_
    clear hK
    generalize w7_37.alloc (.cells #[.int .i64 0, .slice none 0 0, .slice none 0 0, .slice none 0 0, .slice none 0 0] 27) = w9_43 at *
    refine wpAnyZ_ready (rs := [5]) (by kernel_rfl) (by decide) ?_
    refine AllZ.cons (i := 5) rfl (fun K' hK => ?_) ?_
    go_simp
    refine (KR.out _ (HB1.trans (U43.mono hzz))).mono ?_
    rintro e w5_44 ⟨A5, c5, rfl, ho5, h44, hc5, hm5⟩
    have U44 := below_next U43 h44
    refine hK.out _ _ (fun _ => mvT.out _ U44) ?_
    clear hK
    refine wpAnyZ_ready (rs := [8]) (by kernel_rfl) (by decide) ?_
    refine AllZ.cons (i := 8) rfl (fun K' hK => ?_) ?_
    go_simp
    refine hK.out _ _ (fun _ => mvT.out _ U44) ?_
    clear hK
    have zf := z9.nextB h44 z9.box.1.ty.lt
    obtain ⟨z0, z1, z2, z3, z4⟩ := zf.cells
    obtain ⟨y0, y1, y2, y3, y4⟩ := zf.froz
    refine wpAnyZ_one (i := 10) (by kernel_rfl) rfl (fun K' hK => ?_)
    go_simp
    refine hK.out _ _ (fun h => absurd h (by decide)) ?_
    clear hK
    refine wpAnyZ_done (by kernel_rfl) ?_ _
    go_wp2_with fail
    go_meet
    have v0 := h27.size
    have v1 := h37.size
    have v2 := h43.size
    have v3 := h44.size
    have v7 := (Array.getElem?_eq_some_iff.1 g7).1
    exact pkS0_of ho5 hc5 hm5 hrle g6 g7 z9 (Below.refl _ _) (below_next (below_next h37 h43) h44) (below_next h43 h44) h44 (U43.size) (U0.size) (U27.size) (U37.size) (.inr (by omega)) U44
    exact AllZ.nil
    exact AllZ.nil
    exact AllZ.nil
    refine AllZ.cons (i := 9) rfl (fun K' hK => ?_) ?_
    go_simp
    have h46 := below1 w6_27 (.cells #[.int .i64 0, .slice none 0 0, .slice none 0 0, .slice none 0 0, .slice none 0 0] 27)
    have z9 := ZB.new w6_27
    have U46 := below_next U27 h46
    refine hK.out _ _ (fun _ => mvT.out _ U46) ?_
    clear hK
    generalize w6_27.alloc (.cells #[.int .i64 0, .slice none 0 0, .slice none 0 0, .slice none 0 0, .slice none 0 0] 27) = w9_46 at *
    refine wpAnyZ_ready (rs := [5, 7]) (by kernel_rfl) (by decide) ?_
    refine AllZ.cons (i := 5) rfl (fun K' hK => ?_) ?_
    go_simp
    refine (KR.out _ (HB1.trans (U46.mono hzz))).mono ?_
    rintro e w5_47 ⟨A5, c5, rfl, ho5, h47, hc5, hm5⟩
    have U47 := below_next U46 h47
    refine hK.out _ _ (fun _ => mvT.out _ U47) ?_
    clear hK
    refine wpAnyZ_ready (rs := [7]) (by kernel_rfl) (by decide) ?_
    refine AllZ.cons (i := 7) rfl (fun K' hK => ?_) ?_
    go_simp
    have h48 := below1 w5_47 (.cells #[.int .i64 0] 3)
    have g7 := heap_alloc_new w5_47 (.cells #[.int .i64 0] 3)
    have U48 := below_next U47 h48
    refine hK.out _ _ (fun _ => mvT.out _ U48) ?_
    clear hK
    generalize w5_47.alloc (.cells #[.int .i64 0] 3) = w7_48 at *
    refine wpAnyZ_ready (rs := [8]) (by kernel_rfl) (by decide) ?_
    refine AllZ.cons (i := 8) rfl (fun K' hK => ?_) ?_
    go_simp
    refine hK.out _ _ (fun _ => mvT.out _ U48) ?_
    clear hK
    have zf := z9.nextB (below_next h47 h48) z9.box.1.ty.lt
    obtain ⟨z0, z1, z2, z3, z4⟩ := zf.cells
    obtain ⟨y0, y1, y2, y3, y4⟩ := zf.froz
    refine wpAnyZ_one (i := 10) (by kernel_rfl) rfl (fun K' hK => ?_)
    go_simp
    refine hK.out _ _ (fun h => absurd h (by decide)) ?_
    clear hK
    refine wpAnyZ_done (by kernel_rfl) ?_ _
    go_wp2_with fail
    go_meet
    have v0 := h27.size
    have v1 := h46.size
    have v2 := h47.size
    have v3 := h48.size
    have v7 := (Array.getElem?_eq_some_iff.1 g7).1
    exact pkS0_of ho5 hc5 hm5 hrle g6 g7 z9 h48 (below_next (below_next h46 h47) h48) (Below.refl _ _) (below_next h47 h48) (U46.size) (U0.size) (U47.size) (U27.size) (.inl (by omega)) U48
    exact AllZ.nil
    exact AllZ.nil
    refine AllZ.cons (i := 7) rfl (fun K' hK => ?_) ?_
    go_simp
    have h50 := below1 w9_46 (.cells #[.int .i64 0] 3)
    have g7 := heap_alloc_new w9_46 (.cells #[.int .i64 0] 3)
    have U50 := below_next U46 h50
    refine hK.out _ _ (fun _ => mvT.out _ U50) ?_
    clear hK
    generalize w9_46.alloc (.cells #[.int .i64 0] 3) = w7_50 at *
    refine wpAnyZ_ready (rs := [5]) (by kernel_rfl) (by decide) ?_
    refine AllZ.cons (i := 5) rfl (fun K' hK => ?_) ?_
    go_simp
    refine (KR.out _ (HB1.trans (U50.mono hzz))).mono ?_
    rintro e w5_51 ⟨A5, c5, rfl, ho5, h51, hc5, hm5⟩
    have U51 := below_next U50 h51
    refine hK.out _ _ (fun _ => mvT.out _ U51) ?_
    clear hK
    refine wpAnyZ_ready (rs := [8]) (by kernel_rfl) (by decide) ?_
    refine AllZ.cons (i := 8) rfl (fun K' hK => ?_) ?_
    go_simp
    refine hK.out _ _ (fun _ => mvT.out _ U51) ?_
    clear hK
    have zf := z9.nextB (below_next h50 h51) z9.box.1.ty.lt
    obtain ⟨z0, z1, z2, z3, z4⟩ := zf.cells
    obtain ⟨y0, y1, y2, y3, y4⟩ := zf.froz
    refine wpAnyZ_one (i := 10) (by kernel_rfl) rfl (fun K' hK => ?_)
    go_simp
    refine hK.out _ _ (fun h => absurd h (by decide)) ?_
    clear hK
    refine wpAnyZ_done (by kernel_rfl) ?_ _
    go_wp2_with fail
    go_meet
    have v0 := h27.size
    have v1 := h46.size
    have v2 := h50.size
    have v3 := h51.size
    have v7 := (Array.getElem?_eq_some_iff.1 g7).1
    exact pkS0_of ho5 hc5 hm5 hrle g6 g7 z9 (Below.refl _ _) (below_next (below_next h46 h50) h51) h51 (below_next h50 h51) (U50.size) (U0.size) (U46.size) (U27.size) (.inr (by omega)) U51
    exact AllZ.nil
    exact AllZ.nil
    exact AllZ.nil
    exact AllZ.nil
    refine AllZ.cons (i := 7) rfl (fun K' hK => ?_) ?_
    go_simp
    have h53 := below1 W0 (.cells #[.int .i64 0] 3)
    have g7 := heap_alloc_new W0 (.cells #[.int .i64 0] 3)
    have U53 := below_next U0 h53
    refine hK.out _ _ (fun _ => mvT.out _ U53) ?_
    clear hK
    generalize W0.alloc (.cells #[.int .i64 0] 3) = w7_53 at *
    refine wpAnyZ_ready (rs := [5, 6, 9]) (by kernel_rfl) (by decide) ?_
    refine AllZ.cons (i := 5) rfl (fun K' hK => ?_) ?_
    go_simp
    refine (KR.out _ (HB1.trans (U53.mono hzz))).mono ?_
    rintro e w5_54 ⟨A5, c5, rfl, ho5, h54, hc5, hm5⟩
    have U54 := below_next U53 h54
    refine hK.out _ _ (fun _ => mvT.out _ U54) ?_
    clear hK
    refine wpAnyZ_ready (rs := [6, 9]) (by kernel_rfl) (by decide) ?_
    refine AllZ.cons (i := 6) rfl (fun K' hK => ?_) ?_
    go_simp
    have h55 := below1 w5_54 (.cells #[.int .i64 0, .string { data := #[] }, .slice none 0 0] 80)
    have g6 := heap_alloc_new w5_54 (.cells #[.int .i64 0, .string { data := #[] }, .slice none 0 0] 80)
    have U55 := below_next U54 h55
    refine hK.out _ _ (fun _ => mvT.out _ U55) ?_
    clear hK
    generalize w5_54.alloc (.cells #[.int .i64 0, .string { data := #[] }, .slice none 0 0] 80) = w6_55 at *
    refine wpAnyZ_ready (rs := [8, 9]) (by kernel_rfl) (by decide) ?_
    refine AllZ.cons (i := 8) rfl (fun K' hK => ?_) ?_
    go_simp
    refine hK.out _ _ (fun _ => mvT.out _ U55) ?_
    clear hK
    refine wpAnyZ_ready (rs := [9]) (by kernel_rfl) (by decide) ?_
    refine AllZ.cons (i := 9) rfl (fun K' hK => ?_) ?_
    go_simp
    have h57 := below1 w6_55 (.cells #[.int .i64 0, .slice none 0 0, .slice none 0 0, .slice none 0 0, .slice none 0 0] 27)
    have z9 := ZB.new w6_55
    have U57 := below_next U55 h57
    refine hK.out _ _ (fun _ => mvT.out _ U57) ?_
    clear hK
    generalize w6_55.alloc (.cells #[.int .i64 0, .slice none 0 0, .slice none 0 0, .slice none 0 0, .slice none 0 0] 27) = w9_57 at *
    have zf := z9.nextB (Below.refl _ _) z9.box.1.ty.lt
    obtain ⟨z0, z1, z2, z3, z4⟩ := zf.cells
    obtain ⟨y0, y1, y2, y3, y4⟩ := zf.froz
    refine wpAnyZ_one (i := 10) (by kernel_rfl) rfl (fun K' hK => ?_)
    go_simp
    refine hK.out _ _ (fun h => absurd h (by decide)) ?_
    clear hK
    refine wpAnyZ_done (by kernel_rfl) ?_ _
    go_wp2_with fail
    go_meet
    have v0 := h53.size
    have v1 := h54.size
    have v2 := h55.size
    have v3 := h57.size
    have v7 := (Array.getElem?_eq_some_iff.1 g7).1
    exact pkS0_of ho5 hc5 hm5 hrle g6 g7 z9 (below_next h55 h57) h57 (below_next (below_next h54 h55) h57) (Below.refl _ _) (U53.size) (U54.size) (U0.size) (U55.size) (.inr (by omega)) U57
    exact AllZ.nil
    refine AllZ.cons (i := 9) rfl (fun K' hK => ?_) ?_
    go_simp
    have h58 := below1 w6_55 (.cells #[.int .i64 0, .slice none 0 0, .slice none 0 0, .slice none 0 0, .slice none 0 0] 27)
    have z9 := ZB.new w6_55
    have U58 := below_next U55 h58
    refine hK.out _ _ (fun _ => mvT.out _ U58) ?_
    clear hK
    generalize w6_55.alloc (.cells #[.int .i64 0, .slice none 0 0, .slice none 0 0, .slice none 0 0, .slice none 0 0] 27) = w9_58 at *
    refine wpAnyZ_ready (rs := [8]) (by kernel_rfl) (by decide) ?_
    refine AllZ.cons (i := 8) rfl (fun K' hK => ?_) ?_
    go_simp
    refine hK.out _ _ (fun _ => mvT.out _ U58) ?_
    clear hK
    have zf := z9.nextB (Below.refl _ _) z9.box.1.ty.lt
    obtain ⟨z0, z1, z2, z3, z4⟩ := zf.cells
    obtain ⟨y0, y1, y2, y3, y4⟩ := zf.froz
    refine wpAnyZ_one (i := 10) (by kernel_rfl) rfl (fun K' hK => ?_)
    go_simp
    refine hK.out _ _ (fun h => absurd h (by decide)) ?_
    clear hK
    refine wpAnyZ_done (by kernel_rfl) ?_ _
    go_wp2_with fail
    go_meet
    have v0 := h53.size
    have v1 := h54.size
    have v2 := h55.size
    have v3 := h58.size
    have v7 := (Array.getElem?_eq_some_iff.1 g7).1
    exact pkS0_of ho5 hc5 hm5 hrle g6 g7 z9 (below_next h55 h58) h58 (below_next (below_next h54 h55) h58) (Below.refl _ _) (U53.size) (U54.size) (U0.size) (U55.size) (.inr (by omega)) U58
    exact AllZ.nil
    exact AllZ.nil
    refine AllZ.cons (i := 9) rfl (fun K' hK => ?_) ?_
    go_simp
    have h60 := below1 w5_54 (.cells #[.int .i64 0, .slice none 0 0, .slice none 0 0, .slice none 0 0, .slice none 0 0] 27)
    have z9 := ZB.new w5_54
    have U60 := below_next U54 h60
    refine hK.out _ _ (fun _ => mvT.out _ U60) ?_
    clear hK
    generalize w5_54.alloc (.cells #[.int .i64 0, .slice none 0 0, .slice none 0 0, .slice none 0 0, .slice none 0 0] 27) = w9_60 at *
    refine wpAnyZ_ready (rs := [6]) (by kernel_rfl) (by decide) ?_
    refine AllZ.cons (i := 6) rfl (fun K' hK => ?_) ?_
    go_simp
    have h61 := below1 w9_60 (.cells #[.int .i64 0, .string { data := #[] }, .slice none 0 0] 80)
    have g6 := heap_alloc_new w9_60 (.cells #[.int .i64 0, .string { data := #[] }, .slice none 0 0] 80)
    have U61 := below_next U60 h61
    refine hK.out _ _ (fun _ => mvT.out _ U61) ?_
    clear hK
    generalize w9_60.alloc (.cells #[.int .i64 0, .string { data := #[] }, .slice none 0 0] 80) = w6_61 at *
    refine wpAnyZ_ready (rs := [8]) (by kernel_rfl) (by decide) ?_
    refine AllZ.cons (i := 8) rfl (fun K' hK => ?_) ?_
    go_simp
    refine hK.out _ _ (fun _ => mvT.out _ U61) ?_
    clear hK
    have zf := z9.nextB h61 z9.box.1.ty.lt
    obtain ⟨z0, z1, z2, z3, z4⟩ := zf.cells
    obtain ⟨y0, y1, y2, y3, y4⟩ := zf.froz
    refine wpAnyZ_one (i := 10) (by kernel_rfl) rfl (fun K' hK => ?_)
    go_simp
    refine hK.out _ _ (fun h => absurd h (by decide)) ?_
    clear hK
    refine wpAnyZ_done (by kernel_rfl) ?_ _
    go_wp2_with fail
    go_meet
    have v0 := h53.size
    have v1 := h54.size
    have v2 := h60.size
    have v3 := h61.size
    have v7 := (Array.getElem?_eq_some_iff.1 g7).1
    exact pkS0_of ho5 hc5 hm5 hrle g6 g7 z9 (below_next h60 h61) (Below.refl _ _) (below_next (below_next h54 h60) h61) h61 (U53.size) (U60.size) (U0.size) (U54.size) (.inr (by omega)) U61
    exact AllZ.nil
    exact AllZ.nil
    exact AllZ.nil
    refine AllZ.cons (i := 6) rfl (fun K' hK => ?_) ?_
    go_simp
    have h63 := below1 w7_53 (.cells #[.int .i64 0, .string { data := #[] }, .slice none 0 0] 80)
    have g6 := heap_alloc_new w7_53 (.cells #[.int .i64 0, .string { data := #[] }, .slice none 0 0] 80)
    have U63 := below_next U53 h63
    refine hK.out _ _ (fun _ => mvT.out _ U63) ?_
    clear hK
    generalize w7_53.alloc (.cells #[.int .i64 0, .string { data := #[] }, .slice none 0 0] 80) = w6_63 at *
    refine wpAnyZ_ready (rs := [5, 9]) (by kernel_rfl) (by decide) ?_
    refine AllZ.cons (i := 5) rfl (fun K' hK => ?_) ?_
    go_simp
    refine (KR.out _ (HB1.trans (U63.mono hzz))).mono ?_
    rintro e w5_64 ⟨A5, c5, rfl, ho5, h64, hc5, hm5⟩
    have U64 := below_next U63 h64
    refine hK.out _ _ (fun _ => mvT.out _ U64) ?_
    clear hK
    refine wpAnyZ_ready (rs := [8, 9]) (by kernel_rfl) (by decide) ?_
    refine AllZ.cons (i := 8) rfl (fun K' hK => ?_) ?_
    go_simp
    refine hK.out _ _ (fun _ => mvT.out _ U64) ?_
    clear hK
    refine wpAnyZ_ready (rs := [9]) (by kernel_rfl) (by decide) ?_
    refine AllZ.cons (i := 9) rfl (fun K' hK => ?_) ?_
    go_simp
    have h66 := below1 w5_64 (.cells #[.int .i64 0, .slice none 0 0, .slice none 0 0, .slice none 0 0, .slice none 0 0] 27)
    have z9 := ZB.new w5_64
    have U66 := below_next U64 h66
    refine hK.out _ _ (fun _ => mvT.out _ U66) ?_
    clear hK
    generalize w5_64.alloc (.cells #[.int .i64 0, .slice none 0 0, .slice none 0 0, .slice none 0 0, .slice none 0 0] 27) = w9_66 at *
    have zf := z9.nextB (Below.refl _ _) z9.box.1.ty.lt
    obtain ⟨z0, z1, z2, z3, z4⟩ := zf.cells
    obtain ⟨y0, y1, y2, y3, y4⟩ := zf.froz
    refine wpAnyZ_one (i := 10) (by kernel_rfl) rfl (fun K' hK => ?_)
    go_simp
    refine hK.out _ _ (fun h => absurd h (by decide)) ?_
    clear hK
    refine wpAnyZ_done (by kernel_rfl) ?_ _
    go_wp2_with fail
    go_meet
    have v0 := h53.size
    have v1 := h63.size
    have v2 := h64.size
    have v3 := h66.size
    have v7 := (Array.getElem?_eq_some_iff.1 g7).1
    exact pkS0_of ho5 hc5 hm5 hrle g6 g7 z9 h66 (below_next h64 h66) (below_next (below_next h63 h64) h66) (Below.refl _ _) (U63.size) (U53.size) (U0.size) (U64.size) (.inr (by omega)) U66
    exact AllZ.nil
    refine AllZ.cons (i := 9) rfl (fun K' hK => ?_) ?_
    go_simp
    have h67 := below1 w5_64 (.cells #[.int .i64 0, .slice none 0 0, .slice none 0 0, .slice none 0 0, .slice none 0 0] 27)
    have z9 := ZB.new w5_64
    have U67 := below_next U64 h67
    refine hK.out _ _ (fun _ => mvT.out _ U67) ?_
    clear hK
    generalize w5_64.alloc (.cells #[.int .i64 0, .slice none 0 0, .slice none 0 0, .slice none 0 0, .slice none 0 0] 27) = w9_67 at *
    refine wpAnyZ_ready (rs := [8]) (by kernel_rfl) (by decide) ?_
    refine AllZ.cons (i := 8) rfl (fun K' hK => ?_) ?_
    go_simp
    refine hK.out _ _ (fun _ => mvT.out _ U67) ?_
    clear hK
    have zf := z9.nextB (Below.refl _ _) z9.box.1.ty.lt
    obtain ⟨z0, z1, z2, z3, z4⟩ := zf.cells
    obtain ⟨y0, y1, y2, y3, y4⟩ := zf.froz
    refine wpAnyZ_one (i := 10) (by kernel_rfl) rfl (fun K' hK => ?_)
    go_simp
    refine hK.out _ _ (fun h => absurd h (by decide)) ?_
    clear hK
    refine wpAnyZ_done (by kernel_rfl) ?_ _
    go_wp2_with fail
    go_meet
    have v0 := h53.size
    have v1 := h63.size
    have v2 := h64.size
    have v3 := h67.size
    have v7 := (Array.getElem?_eq_some_iff.1 g7).1
    exact pkS0_of ho5 hc5 hm5 hrle g6 g7 z9 h67 (below_next h64 h67) (below_next (below_next h63 h64) h67) (Below.refl _ _) (U63.size) (U53.size) (U0.size) (U64.size) (.inr (by omega)) U67
    exact AllZ.nil
    exact AllZ.nil
    refine AllZ.cons (i := 9) rfl (fun K' hK => ?_) ?_
    go_simp
    have h69 := below1 w6_63 (.cells #[.int .i64 0, .slice none 0 0, .slice none 0 0, .slice none 0 0, .slice none 0 0] 27)
    have z9 := ZB.new w6_63
    have U69 := below_next U63 h69
    refine hK.out _ _ (fun _ => mvT.out _ U69) ?_
    clear hK
    generalize w6_63.alloc (.cells #[.int .i64 0, .slice none 0 0, .slice none 0 0, .slice none 0 0, .slice none 0 0] 27) = w9_69 at *
    refine wpAnyZ_ready (rs := [5]) (by kernel_rfl) (by decide) ?_
    refine AllZ.cons (i := 5) rfl (fun K' hK => ?_) ?_
    go_simp
    refine (KR.out _ (HB1.trans (U69.mono hzz))).mono ?_
    rintro e w5_70 ⟨A5, c5, rfl, ho5, h70, hc5, hm5⟩
    have U70 := below_next U69 h70
    refine hK.out _ _ (fun _ => mvT.out _ U70) ?_
    clear hK
    refine wpAnyZ_ready (rs := [8]) (by kernel_rfl) (by decide) ?_
    refine AllZ.cons (i := 8) rfl (fun K' hK => ?_) ?_
    go_simp
    refine hK.out _ _ (fun _ => mvT.out _ U70) ?_
    clear hK
    have zf := z9.nextB h70 z9.box.1.ty.lt
    obtain ⟨z0, z1, z2, z3, z4⟩ := zf.cells
    obtain ⟨y0, y1, y2, y3, y4⟩ := zf.froz
    refine wpAnyZ_one (i := 10) (by kernel_rfl) rfl (fun K' hK => ?_)
    go_simp
    refine hK.out _ _ (fun h => absurd h (by decide)) ?_
    clear hK
    refine wpAnyZ_done (by kernel_rfl) ?_ _
    go_wp2_with fail
    go_meet
    have v0 := h53.size
    have v1 := h63.size
    have v2 := h69.size
    have v3 := h70.size
    have v7 := (Array.getElem?_eq_some_iff.1 g7).1
    exact pkS0_of ho5 hc5 hm5 hrle g6 g7 z9 (Below.refl _ _) (below_next h69 h70) (below_next (below_next h63 h69) h70) h70 (U69.size) (U53.size) (U0.size) (U63.size) (.inr (by omega)) U70
    exact AllZ.nil
    exact AllZ.nil
    exact AllZ.nil
    refine AllZ.cons (i := 9) rfl (fun K' hK => ?_) ?_
    go_simp
    have h72 := below1 w7_53 (.cells #[.int .i64 0, .slice none 0 0, .slice none 0 0, .slice none 0 0, .slice none 0 0] 27)
    have z9 := ZB.new w7_53
    have U72 := below_next U53 h72
    refine hK.out _ _ (fun _ => mvT.out _ U72) ?_
    clear hK
    generalize w7_53.alloc (.cells #[.int .i64 0, .slice none 0 0, .slice none 0 0, .slice none 0 0, .slice none 0 0] 27) = w9_72 at *
    refine wpAnyZ_ready (rs := [5, 6]) (by kernel_rfl) (by decide) ?_
    refine AllZ.cons (i := 5) rfl (fun K' hK => ?_) ?_
    go_simp
    refine (KR.out _ (HB1.trans (U72.mono hzz))).mono ?_
    rintro e w5_73 ⟨A5, c5, rfl, ho5, h73, hc5, hm5⟩
    have U73 := below_next U72 h73
    refine hK.out _ _ (fun _ => mvT.out _ U73) ?_
    clear hK
    refine wpAnyZ_ready (rs := [6]) (by kernel_rfl) (by decide) ?_
    refine AllZ.cons (i := 6) rfl (fun K' hK => ?_) ?_
    go_simp
    have h74 := below1 w5_73 (.cells #[.int .i64 0, .string { data := #[] }, .slice none 0 0] 80)
    have g6 := heap_alloc_new w5_73 (.cells #[.int .i64 0, .string { data := #[] }, .slice none 0 0] 80)
    have U74 := below_next U73 h74
    refine hK.out _ _ (fun _ => mvT.out _ U74) ?_
    clear hK
    generalize w5_73.alloc (.cells #[.int .i64 0, .string { data := #[] }, .slice none 0 0] 80) = w6_74 at *
    refine wpAnyZ_ready (rs := [8]) (by kernel_rfl) (by decide) ?_
    refine AllZ.cons (i := 8) rfl (fun K' hK => ?_) ?_
    go_simp
    refine hK.out _ _ (fun _ => mvT.out _ U74) ?_
    clear hK
    have zf := z9.nextB (below_next h73 h74) z9.box.1.ty.lt
    obtain ⟨z0, z1, z2, z3, z4⟩ := zf.cells
    obtain ⟨y0, y1, y2, y3, y4⟩ := zf.froz
    refine wpAnyZ_one (i := 10) (by kernel_rfl) rfl (fun K' hK => ?_)
    go_simp
    refine hK.out _ _ (fun h => absurd h (by decide)) ?_
    clear hK
    refine wpAnyZ_done (by kernel_rfl) ?_ _
    go_wp2_with fail
    go_meet
    have v0 := h53.size
    have v1 := h72.size
    have v2 := h73.size
    have v3 := h74.size
    have v7 := (Array.getElem?_eq_some_iff.1 g7).1
    exact pkS0_of ho5 hc5 hm5 hrle g6 g7 z9 h74 (Below.refl _ _) (below_next (below_next h72 h73) h74) (below_next h73 h74) (U72.size) (U73.size) (U0.size) (U53.size) (.inr (by omega)) U74
    exact AllZ.nil
    exact AllZ.nil
    refine AllZ.cons (i := 6) rfl (fun K' hK => ?_) ?_
    go_simp
    have h76 := below1 w9_72 (.cells #[.int .i64 0, .string { data := #[] }, .slice none 0 0] 80)
    have g6 := heap_alloc_new w9_72 (.cells #[.int .i64 0, .string { data := #[] }, .slice none 0 0] 80)
    have U76 := below_next U72 h76
    refine hK.out _ _ (fun _ => mvT.out _ U76) ?_
    clear hK
    generalize w9_72.alloc (.cells #[.int .i64 0, .string { data := #[] }, .slice none 0 0] 80) = w6_76 at *
    refine wpAnyZ_ready (rs := [5]) (by kernel_rfl) (by decide) ?_
    refine AllZ.cons (i := 5) rfl (fun K' hK => ?_) ?_
    go_simp
    refine (KR.out _ (HB1.trans (U76.mono hzz))).mono ?_
    rintro e w5_77 ⟨A5, c5, rfl, ho5, h77, hc5, hm5⟩
    have U77 := below_next U76 h77
    refine hK.out _ _ (fun _ => mvT.out _ U77) ?_
    clear hK
    refine wpAnyZ_ready (rs := [8]) (by kernel_rfl) (by decide) ?_
    refine AllZ.cons (i := 8) rfl (fun K' hK => ?_) ?_
    go_simp
    refine hK.out _ _ (fun _ => mvT.out _ U77) ?_
    clear hK
    have zf := z9.nextB (below_next h76 h77) z9.box.1.ty.lt
    obtain ⟨z0, z1, z2, z3, z4⟩ := zf.cells
    obtain ⟨y0, y1, y2, y3, y4⟩ := zf.froz
    refine wpAnyZ_one (i := 10) (by kernel_rfl) rfl (fun K' hK => ?_)
    go_simp
    refine hK.out _ _ (fun h => absurd h (by decide)) ?_
    clear hK
    refine wpAnyZ_done (by kernel_rfl) ?_ _
    go_wp2_with fail
    go_meet
    have v0 := h53.size
    have v1 := h72.size
    have v2 := h76.size
    have v3 := h77.size
    have v7 := (Array.getElem?_eq_some_iff.1 g7).1
    exact pkS0_of ho5 hc5 hm5 hrle g6 g7 z9 (Below.refl _ _) h77 (below_next (below_next h72 h76) h77) (below_next h76 h77) (U76.size) (U72.size) (U0.size) (U53.size) (.inr (by omega)) U77
    exact AllZ.nil
    exact AllZ.nil
    exact AllZ.nil
    exact AllZ.nil
    refine AllZ.cons (i := 9) rfl (fun K' hK => ?_) ?_
    go_simp
    have h79 := below1 W0 (.cells #[.int .i64 0, .slice none 0 0, .slice none 0 0, .slice none 0 0, .slice none 0 0] 27)
    have z9 := ZB.new W0
    have U79 := below_next U0 h79
    refine hK.out _ _ (fun _ => mvT.out _ U79) ?_
    clear hK
    generalize W0.alloc (.cells #[.int .i64 0, .slice none 0 0, .slice none 0 0, .slice none 0 0, .slice none 0 0] 27) = w9_79 at *
    refine wpAnyZ_ready (rs := [5, 6, 7]) (by kernel_rfl) (by decide) ?_
    refine AllZ.cons (i := 5) rfl (fun K' hK => ?_) ?_
    go_simp
    refine (KR.out _ (HB1.trans (U79.mono hzz))).mono ?_
    rintro e w5_80 ⟨A5, c5, rfl, ho5, h80, hc5, hm5⟩
    have U80 := below_next U79 h80
    refine hK.out _ _ (fun _ => mvT.out _ U80) ?_
    clear hK
    refine wpAnyZ_ready (rs := [6, 7]) (by kernel_rfl) (by decide) ?_
    refine AllZ.cons (i := 6) rfl (fun K' hK => ?_) ?_
    go_simp
    have h81 := below1 w5_80 (.cells #[.int .i64 0, .string { data := #[] }, .slice none 0 0] 80)
    have g6 := heap_alloc_new w5_80 (.cells #[.int .i64 0, .string { data := #[] }, .slice none 0 0] 80)
    have U81 := below_next U80 h81
    refine hK.out _ _ (fun _ => mvT.out _ U81) ?_
    clear hK
    generalize w5_80.alloc (.cells #[.int .i64 0, .string { data := #[] }, .slice none 0 0] 80) = w6_81 at *
    refine wpAnyZ_ready (rs := [7]) (by kernel_rfl) (by decide) ?_
    refine AllZ.cons (i := 7) rfl (fun K' hK => ?_) ?_
    go_simp
    have h82 := below1 w6_81 (.cells #[.int .i64 0] 3)
    have g7 := heap_alloc_new w6_81 (.cells #[.int .i64 0] 3)
    have U82 := below_next U81 h82
    refine hK.out _ _ (fun _ => mvT.out _ U82) ?_
    clear hK
    generalize w6_81.alloc (.cells #[.int .i64 0] 3) = w7_82 at *
    refine wpAnyZ_ready (rs := [8]) (by kernel_rfl) (by decide) ?_
    refine AllZ.cons (i := 8) rfl (fun K' hK => ?_) ?_
    go_simp
    refine hK.out _ _ (fun _ => mvT.out _ U82) ?_
    clear hK
    have zf := z9.nextB (below_next (below_next h80 h81) h82) z9.box.1.ty.lt
    obtain ⟨z0, z1, z2, z3, z4⟩ := zf.cells
    obtain ⟨y0, y1, y2, y3, y4⟩ := zf.froz
    refine wpAnyZ_one (i := 10) (by kernel_rfl) rfl (fun K' hK => ?_)
    go_simp
    refine hK.out _ _ (fun h => absurd h (by decide)) ?_
    clear hK
    refine wpAnyZ_done (by kernel_rfl) ?_ _
    go_wp2_with fail
    go_meet
    have v0 := h79.size
    have v1 := h80.size
    have v2 := h81.size
    have v3 := h82.size
    have v7 := (Array.getElem?_eq_some_iff.1 g7).1
    exact pkS0_of ho5 hc5 hm5 hrle g6 g7 z9 (below_next h81 h82) h82 (Below.refl _ _) (below_next (below_next h80 h81) h82) (U79.size) (U80.size) (U81.size) (U0.size) (.inl (by omega)) U82
    exact AllZ.nil
    exact AllZ.nil
    refine AllZ.cons (i := 7) rfl (fun K' hK => ?_) ?_
    go_simp
    have h84 := below1 w5_80 (.cells #[.int .i64 0] 3)
    have g7 := heap_alloc_new w5_80 (.cells #[.int .i64 0] 3)
    have U84 := below_next U80 h84
    refine hK.out _ _ (fun _ => mvT.out _ U84) ?_
    clear hK
    generalize w5_80.alloc (.cells #[.int .i64 0] 3) = w7_84 at *
    refine wpAnyZ_ready (rs := [6]) (by kernel_rfl) (by decide) ?_
    refine AllZ.cons (i := 6) rfl (fun K' hK => ?_) ?_
    go_simp
    have h85 := below1 w7_84 (.cells #[.int .i64 0, .string { data := #[] }, .slice none 0 0] 80)
    have g6 := heap_alloc_new w7_84 (.cells #[.int .i64 0, .string { data := #[] }, .slice none 0 0] 80)
    have U85 := below_next U84 h85
    refine hK.out _ _ (fun _ => mvT.out _ U85) ?_
    clear hK
    generalize w7_84.alloc (.cells #[.int .i64 0, .string { data := #[] }, .slice none 0 0] 80) = w6_85 at *
    refine wpAnyZ_ready (rs := [8]) (by kernel_rfl) (by decide) ?_
    refine AllZ.cons (i := 8) rfl (fun K' hK => ?_) ?_
    go_simp
    refine hK.out _ _ (fun _ => mvT.out _ U85) ?_
    clear hK
    have zf := z9.nextB (below_next (below_next h80 h84) h85) z9.box.1.ty.lt
    obtain ⟨z0, z1, z2, z3, z4⟩ := zf.cells
    obtain ⟨y0, y1, y2, y3, y4⟩ := zf.froz
    refine wpAnyZ_one (i := 10) (by kernel_rfl) rfl (fun K' hK => ?_)
    go_simp
    refine hK.out _ _ (fun h => absurd h (by decide)) ?_
    clear hK
    refine wpAnyZ_done (by kernel_rfl) ?_ _
    go_wp2_with fail
    go_meet
    have v0 := h79.size
    have v1 := h80.size
    have v2 := h84.size
    have v3 := h85.size
    have v7 := (Array.getElem?_eq_some_iff.1 g7).1
    exact pkS0_of ho5 hc5 hm5 hrle g6 g7 z9 (below_next h84 h85) (Below.refl _ _) h85 (below_next (below_next h80 h84) h85) (U79.size) (U84.size) (U80.size) (U0.size) (.inl (by omega)) U85
    exact AllZ.nil
    exact AllZ.nil
    exact AllZ.nil
    refine AllZ.cons (i := 6) rfl (fun K' hK => ?_) ?_
    go_simp
    have h87 := below1 w9_79 (.cells #[.int .i64 0, .string { data := #[] }, .slice none 0 0] 80)
    have g6 := heap_alloc_new w9_79 (.cells #[.int .i64 0, .string { data := #[] }, .slice none 0 0] 80)
    have U87 := below_next U79 h87
    refine hK.out _ _ (fun _ => mvT.out _ U87) ?_
    clear hK
    generalize w9_79.alloc (.cells #[.int .i64 0, .string { data := #[] }, .slice none 0 0] 80) = w6_87 at *
    refine wpAnyZ_ready (rs := [5, 7]) (by kernel_rfl) (by decide) ?_
    refine AllZ.cons (i := 5) rfl (fun K' hK => ?_) ?_
    go_simp
    refine (KR.out _ (HB1.trans (U87.mono hzz))).mono ?_
    rintro e w5_88 ⟨A5, c5, rfl, ho5, h88, hc5, hm5⟩
    have U88 := below_next U87 h88
    refine hK.out _ _ (fun _ => mvT.out _ U88) ?_
    clear hK
    refine wpAnyZ_ready (rs := [7]) (by kernel_rfl) (by decide) ?_
    refine AllZ.cons (i := 7) rfl (fun K' hK => ?_) ?_
    go_simp
    have h89 := below1 w5_88 (.cells #[.int .i64 0] 3)
    have g7 := heap_alloc_new w5_88 (.cells #[.int .i64 0] 3)
    have U89 := below_next U88 h89
    refine hK.out _ _ (fun _ => mvT.out _ U89) ?_
    clear hK
    generalize w5_88.alloc (.cells #[.int .i64 0] 3) = w7_89 at *
    refine wpAnyZ_ready (rs := [8]) (by kernel_rfl) (by decide) ?_
    refine AllZ.cons (i := 8) rfl (fun K' hK => ?_) ?_
    go_simp
    refine hK.out _ _ (fun _ => mvT.out _ U89) ?_
    clear hK
    have zf := z9.nextB (below_next (below_next h87 h88) h89) z9.box.1.ty.lt
    obtain ⟨z0, z1, z2, z3, z4⟩ := zf.cells
    obtain ⟨y0, y1, y2, y3, y4⟩ := zf.froz
    refine wpAnyZ_one (i := 10) (by kernel_rfl) rfl (fun K' hK => ?_)
    go_simp
    refine hK.out _ _ (fun h => absurd h (by decide)) ?_
    clear hK
    refine wpAnyZ_done (by kernel_rfl) ?_ _
    go_wp2_with fail
    go_meet
    have v0 := h79.size
    have v1 := h87.size
    have v2 := h88.size
    have v3 := h89.size
    have v7 := (Array.getElem?_eq_some_iff.1 g7).1
    exact pkS0_of ho5 hc5 hm5 hrle g6 g7 z9 h89 (below_next h88 h89) (Below.refl _ _) (below_next (below_next h87 h88) h89) (U87.size) (U79.size) (U88.size) (U0.size) (.inl (by omega)) U89
    exact AllZ.nil
    exact AllZ.nil
    refine AllZ.cons (i := 7) rfl (fun K' hK => ?_) ?_
    go_simp
    have h91 := below1 w6_87 (.cells #[.int .i64 0] 3)
    have g7 := heap_alloc_new w6_87 (.cells #[.int .i64 0] 3)
    have U91 := below_next U87 h91
    refine hK.out _ _ (fun _ => mvT.out _ U91) ?_
    clear hK
    generalize w6_87.alloc (.cells #[.int .i64 0] 3) = w7_91 at *
    refine wpAnyZ_ready (rs := [5]) (by kernel_rfl) (by decide) ?_
    refine AllZ.cons (i := 5) rfl (fun K' hK => ?_) ?_
    go_simp
    refine (KR.out _ (HB1.trans (U91.mono hzz))).mono ?_
    rintro e w5_92 ⟨A5, c5, rfl, ho5, h92, hc5, hm5⟩
    have U92 := below_next U91 h92
    refine hK.out _ _ (fun _ => mvT.out _ U92) ?_
    clear hK
    refine wpAnyZ_ready (rs := [8]) (by kernel_rfl) (by decide) ?_
    refine AllZ.cons (i := 8) rfl (fun K' hK => ?_) ?_
    go_simp
    refine hK.out _ _ (fun _ => mvT.out _ U92) ?_
    clear hK
    have zf := z9.nextB (below_next (below_next h87 h91) h92) z9.box.1.ty.lt
    obtain ⟨z0, z1, z2, z3, z4⟩ := zf.cells
    obtain ⟨y0, y1, y2, y3, y4⟩ := zf.froz
    refine wpAnyZ_one (i := 10) (by kernel_rfl) rfl (fun K' hK => ?_)
    go_simp
    refine hK.out _ _ (fun h => absurd h (by decide)) ?_
    clear hK
    refine wpAnyZ_done (by kernel_rfl) ?_ _
    go_wp2_with fail
    go_meet
    have v0 := h79.size
    have v1 := h87.size
    have v2 := h91.size
    have v3 := h92.size
    have v7 := (Array.getElem?_eq_some_iff.1 g7).1
    exact pkS0_of ho5 hc5 hm5 hrle g6 g7 z9 (Below.refl _ _) (below_next h91 h92) h92 (below_next (below_next h87 h91) h92) (U91.size) (U79.size) (U87.size) (U0.size) (.inr (by omega)) U92
    exact AllZ.nil
    exact AllZ.nil
    exact AllZ.nil
    refine AllZ.cons (i := 7) rfl (fun K' hK => ?_) ?_
    go_simp
    have h94 := below1 w9_79 (.cells #[.int .i64 0] 3)
    have g7 := heap_alloc_new w9_79 (.cells #[.int .i64 0] 3)
    have U94 := below_next U79 h94
    refine hK.out _ _ (fun _ => mvT.out _ U94) ?_
    clear hK
    generalize w9_79.alloc (.cells #[.int .i64 0] 3) = w7_94 at *
    refine wpAnyZ_ready (rs := [5, 6]) (by kernel_rfl) (by decide) ?_
    refine AllZ.cons (i := 5) rfl (fun K' hK => ?_) ?_
    go_simp
    refine (KR.out _ (HB1.trans (U94.mono hzz))).mono ?_
    rintro e w5_95 ⟨A5, c5, rfl, ho5, h95, hc5, hm5⟩
    have U95 := below_next U94 h95
    refine hK.out _ _ (fun _ => mvT.out _ U95) ?_
    clear hK
    refine wpAnyZ_ready (rs := [6]) (by kernel_rfl) (by decide) ?_
    refine AllZ.cons (i := 6) rfl (fun K' hK => ?_) ?_
    go_simp
    have h96 := below1 w5_95 (.cells #[.int .i64 0, .string { data := #[] }, .slice none 0 0] 80)
    have g6 := heap_alloc_new w5_95 (.cells #[.int .i64 0, .string { data := #[] }, .slice none 0 0] 80)
    have U96 := below_next U95 h96
    refine hK.out _ _ (fun _ => mvT.out _ U96) ?_
    clear hK
    generalize w5_95.alloc (.cells #[.int .i64 0, .string { data := #[] }, .slice none 0 0] 80) = w6_96 at *
    refine wpAnyZ_ready (rs := [8]) (by kernel_rfl) (by decide) ?_
    refine AllZ.cons (i := 8) rfl (fun K' hK => ?_) ?_
    go_simp
    refine hK.out _ _ (fun _ => mvT.out _ U96) ?_
    clear hK
    have zf := z9.nextB (below_next (below_next h94 h95) h96) z9.box.1.ty.lt
    obtain ⟨z0, z1, z2, z3, z4⟩ := zf.cells
    obtain ⟨y0, y1, y2, y3, y4⟩ := zf.froz
    refine wpAnyZ_one (i := 10) (by kernel_rfl) rfl (fun K' hK => ?_)
    go_simp
    refine hK.out _ _ (fun h => absurd h (by decide)) ?_
    clear hK
    refine wpAnyZ_done (by kernel_rfl) ?_ _
    go_wp2_with fail
    go_meet
    have v0 := h79.size
    have v1 := h94.size
    have v2 := h95.size
    have v3 := h96.size
    have v7 := (Array.getElem?_eq_some_iff.1 g7).1
    exact pkS0_of ho5 hc5 hm5 hrle g6 g7 z9 h96 (Below.refl _ _) (below_next h95 h96) (below_next (below_next h94 h95) h96) (U94.size) (U95.size) (U79.size) (U0.size) (.inr (by omega)) U96
    exact AllZ.nil
    exact AllZ.nil
    refine AllZ.cons (i := 6) rfl (fun K' hK => ?_) ?_
    go_simp
    have h98 := below1 w7_94 (.cells #[.int .i64 0, .string { data := #[] }, .slice none 0 0] 80)
    have g6 := heap_alloc_new w7_94 (.cells #[.int .i64 0, .string { data := #[] }, .slice none 0 0] 80)
    have U98 := below_next U94 h98
    refine hK.out _ _ (fun _ => mvT.out _ U98) ?_
    clear hK
    generalize w7_94.alloc (.cells #[.int .i64 0, .string { data := #[] }, .slice none 0 0] 80) = w6_98 at *
    refine wpAnyZ_ready (rs := [5]) (by kernel_rfl) (by decide) ?_
    refine AllZ.cons (i := 5) rfl (fun K' hK => ?_) ?_
    go_simp
    refine (KR.out _ (HB1.trans (U98.mono hzz))).mono ?_
    rintro e w5_99 ⟨A5, c5, rfl, ho5, h99, hc5, hm5⟩
    have U99 := below_next U98 h99
    refine hK.out _ _ (fun _ => mvT.out _ U99) ?_
    clear hK
    refine wpAnyZ_ready (rs := [8]) (by kernel_rfl) (by decide) ?_
    refine AllZ.cons (i := 8) rfl (fun K' hK => ?_) ?_
    go_simp
    refine hK.out _ _ (fun _ => mvT.out _ U99) ?_
    clear hK
    have zf := z9.nextB (below_next (below_next h94 h98) h99) z9.box.1.ty.lt
    obtain ⟨z0, z1, z2, z3, z4⟩ := zf.cells
    obtain ⟨y0, y1, y2, y3, y4⟩ := zf.froz
    refine wpAnyZ_one (i := 10) (by kernel_rfl) rfl (fun K' hK => ?_)
    go_simp
    refine hK.out _ _ (fun h => absurd h (by decide)) ?_
    clear hK
    refine wpAnyZ_done (by kernel_rfl) ?_ _
    go_wp2_with fail
    go_meet
    have v0 := h79.size
    have v1 := h94.size
    have v2 := h98.size
    have v3 := h99.size
    have v7 := (Array.getElem?_eq_some_iff.1 g7).1
    exact pkS0_of ho5 hc5 hm5 hrle g6 g7 z9 (Below.refl _ _) h99 (below_next h98 h99) (below_next (below_next h94 h98) h99) (U98.size) (U94.size) (U79.size) (U0.size) (.inr (by omega)) U99
    exact AllZ.nil
    exact AllZ.nil
    exact AllZ.nil
    exact AllZ.nil
    exact AllZ.nil
  case rest =>
    obtain ⟨bo, A3, n3, c3, sb, fb, tg0, rfl, HO0, hbx, hBB, hbo, hBw⟩ := hcut
    obtain ⟨is0, his, hsz0, hsz1, hsz2⟩ := info_parts Try.infoSlot
    obtain ⟨ip0, hip, hpz0, hpz1, hpz2⟩ := info_parts Try.infoSnap
    have HP0 := Lib.hid HO0
    have HBX := Lib.hid hbx
    have HZA := Lib.hid (show ZB wa (w.heap.size + 1) from HZ.out)
    have hfs : sn = fn := (HFN.out.symm.trans (HRL.out.trans HSN.out)).symm
    subst hfs
    have h1sn : 1 ≤ sn := Nat.le_trans h1s (Nat.le_of_eq HSN.out)
    have hsn40 : sn ≤ 40 := Nat.le_trans (Nat.le_of_eq HSN.out.symm) h40
    clear HO0 b0 b1 b2 b3 b4 KR hbx HZ hm1 hm2
    go_wp2_with fail
    go_loopw [4] (fun i wr => ∃ (k ns nf : Nat) (sA' fA' : Option Addr) (sc' fc' : Nat) (tg : Nat → Nat) (q : List SV), 1 ≤ k ∧ k ≤ sn ∧ i = .int .i64 k ∧ ns ≤ k ∧ 1 ≤ nf ∧ nf ≤ k ∧ OwnI wr wa.heap.size tg ⟨A3, n3, c3, sA', ns, sc', fA', nf, fc', none, 0, 0⟩ q [] ⟨m.guest, m.root.map f, packK m.slots k, packR (m.slots.take k) (m.refs.take k), []⟩ ∧ Box wr bo m.guest ⟨A3, n3, c3, sA', ns, sc', fA', nf, fc', none, 0, 0⟩ ∧ BoxB wr bo ∧ Below wa.heap.size wa wr) (fun i _ => sn - (intOf i).toNat)
    case atStart => exact ⟨1, 1, 1, some ⟨sb, 0, none⟩, some ⟨fb, 0, none⟩, 1, 1, tg0, [freeSV], Nat.le_refl _, h1sn, rfl, Nat.le_refl _, Nat.le_refl _, Nat.le_refl _, by rw [packK_one (slot_first HS.out), packR_one (slot_first HS.out)]; exact HP0.out, HBX.out, hBB, hBw⟩
    case round =>
      obtain ⟨k, ns, nf, sA', fA', sc', fc', tg, q, hk1, hk, rfl, hns, hnf1, hnf, ho, hbx, hBr, hbw⟩ := hrel
      have HO := Lib.hid ho
      have HBR := Lib.hid hbx
      clear ho hbx hBB hBw
      have X := HXw.out.keep hbw (by omega)
      obtain ⟨b0, b1, b2, b3, b4⟩ := X
      dsimp only at b0 b1 b2 b3 b4
      have TW := HB1.trans (hbw.mono hzz)
      by_cases hlt : k < sn
      · obtain ⟨b, o, s, tA, tn, tc, rfl, hb, hx, d0, d1, d2, hsv⟩ := HI.out.slots.at_ (k := k) hlt
        obtain ⟨b6, o6, r, rfl, hb6, hx6, c6⟩ := HI.out.refs.at1 (k := k) hlt
        have d0' := (TW.cell (p := ⟨b, o + k * 3, none⟩) hb).trans d0
        have d1' := (TW.cell (p := ⟨b, o + k * 3 + 1, none⟩) hb).trans d1
        have d2' := (TW.cell (p := ⟨b, o + k * 3 + 2, none⟩) hb).trans d2
        have ht4 : tn ≤ 4 := by have := HS.out.cbd.tables s (List.mem_of_getElem? hx); have := hsv.table.len; omega
        have HSV := Lib.hid hsv
        have e0 : (0 : Int) ≤ (k : Int) := by omega
        have e1 : (k : Int) < (sn : Int) := by omega
        have hbol := hBr.ty.lt
        have W5 := below1 wr (.cells #[.int .i64 s.kind, .string s.data, .slice tA tn tc] 80)
        by_cases hkind : s.kind = 0
        · have hkb : (s.kind == 0) = true := by simp [hkind]
          have HK0 := Lib.hid (packK_free hx hkind)
          have HR0 := Lib.hid (packR_free hx hx6 hkind)
          have O5 := Lib.hid (HO.out.next W5)
          have X5 := Lib.hid (HBR.out.keep W5 hbol)
          have B5 := hBr.next W5
          have L5 := below_next hbw W5
          clear hkind hx hx6 d0 d1 d2 hsv c6
          go_wp2_with fail
          go_roundw
          case rel => exact ⟨k + 1, ns, nf, sA', fA', sc', fc', tg, q, by omega, by omega, by go_num, by omega, hnf1, by omega, by rw [HK0.out, HR0.out]; exact O5.out, X5.out, B5, L5⟩
          case measure => simp [intOf]; omega
        · have hkb : (s.kind == 0) = false := by simpa using hkind
          have HK0 := Lib.hid (packK_used hx hkind)
          have HR0 := Lib.hid (packR_used hx hx6 hkind)
          have hmem := List.mem_of_getElem? hx
          have KT := Lib.hid (KA.out tA tn tc s.table ht4 (fun y hy => valid_table HS.out hmem hy) (wr.alloc (.cells #[.int .i64 s.kind, .string s.data, .slice tA tn tc] 80)) (below_next TW W5) ((Rd.next HSV.out.table TW).next W5))
          have G5 := heap_alloc_new wr (.cells #[.int .i64 s.kind, .string s.data, .slice tA tn tc] 80)
          have l5 : wr.heap.size < (wr.alloc (.cells #[.int .i64 s.kind, .string s.data, .slice tA tn tc] 80)).heap.size := by simp
          have mvT := Lib.hid (fun (W' : World) (hb2 : Below wa.heap.size wa W') => (show W'.cell? ⟨w.heap.size, 3, none⟩ = some (.slice (some ⟨b6, o6, none⟩) sn fc) ∧ W'.cell? ⟨b6, o6 + k, none⟩ = some (.int .i64 r) from
            ⟨(hb2.cell (p := ⟨w.heap.size, 3, none⟩) lw).trans (HXw.out.2.2.2.1), (hb2.cell (p := ⟨b6, o6 + k, none⟩) (Nat.lt_of_lt_of_le hb6 hzz)).trans ((HB1.cell (p := ⟨b6, o6 + k, none⟩) hb6).trans c6)⟩))
          obtain ⟨a0, a1, a2, a3, a4⟩ := (HXw.out.keep hbw lw).keep W5 (Nat.lt_of_lt_of_le lw hbw.size)
          dsimp only at a0 a1 a2 a3 a4
          clear hkind hx hx6 d0 d1 d2 hsv c6 hmem
          go_upto_region 6 with fail
          generalize wr.alloc (.cells #[.int .i64 s.kind, .string s.data, .slice tA tn tc] 80) = w5 at *
          have v0 := cell_of_row _ _ 0 _ _ _ G5
          have v1 := cell_of_row _ _ 1 _ _ _ G5
          have v2 := cell_of_row _ _ 2 _ _ _ G5
          simp only [List.getElem?_toArray, List.getElem?_cons_zero, List.getElem?_cons_succ] at v0 v1 v2
          have HXM := Lib.hid (And.intro a0 (And.intro a1 (And.intro a2 (And.intro a3 a4))))
          have HG5 := Lib.hid G5
          have HBW := Lib.hid hbw
          have HW5 := Lib.hid W5
          have HTW := Lib.hid TW
          clear a0 a1 a2 a3 a4 b0 b1 b2 b3 b4 d0' d1' d2' G5 hbw W5 TW
          go_upto_region 7 with fail
          clear v0 v1
          obtain ⟨a0, a1, a2, a3, a4⟩ := HXM.out
          go_wp2_with fail
          have hbw := HBW.out
          have W5 := HW5.out
          have TW := HTW.out
          refine KT.out.mono ?_
          rintro e w7 ⟨A7, c7, rfl, r2, r3, r4, r5⟩
          clear KT a0 a1 a2 a3 a4 v2
          have TB7 := TabO.made (base := wa.heap.size) (tg := tg) (t := 2 * ns + 4) (.inr r2) (by have := hbw.size; have := W5.size; omega) (by omega) r4 r5
          have O7 := ((HO.out.next W5).retag (tg' := fun g => if w5.heap.size ≤ g then 2 * ns + 4 else tg g) (fun b' hb' => if_neg (by omega))).next r3
          generalize (fun g => if w5.heap.size ≤ g then 2 * ns + 4 else tg g) = tg7 at *
          have W07 := below_next W5 r3
          have u0 := (r3.cell (p := ⟨wr.heap.size, 0, none⟩) l5).trans (cell_of_row _ _ 0 _ _ _ HG5.out)
          have u1 := (r3.cell (p := ⟨wr.heap.size, 1, none⟩) l5).trans (cell_of_row _ _ 1 _ _ _ HG5.out)
          have u2 := (r3.cell (p := ⟨wr.heap.size, 2, none⟩) l5).trans (cell_of_row _ _ 2 _ _ _ HG5.out)
          have x2 := (r3.frozen (p := ⟨wr.heap.size, 2, none⟩) l5).trans (frozen_of_row _ _ 2 _ _ HG5.out)
          have T5T : TypeB w7 wr.heap.size 80 := (show TypeB w5 wr.heap.size 80 from ⟨_, _, HG5.out⟩).next r3
          simp only [List.getElem?_toArray, List.getElem?_cons_zero, List.getElem?_cons_succ] at u0 u1 u2
          have hg8 := grown_set w7 wr.heap.size 2 (.slice A7 tn c7)
          have hsd : some wr.heap.size ≠ (Value.slice sA' ns sc').ownBlock := fun e => by have := (HO.out.slots.lt _ e.symm).2; omega
          have O8 := O7.keptAt hg8 T5T (by decide) (fun e => hsd e.symm) (by simp [Value.ownBlock])
          have TB8 := TB7.kept hg8 (fun b' e hl => .inl ⟨_, by injection e with e; subst e; exact T5T, by decide⟩)
          have L8 : Below wa.heap.size wa (w7.setCell ⟨wr.heap.size, 2, none⟩ (.slice A7 tn c7)) := (below_next hbw W07).setCell (p := ⟨wr.heap.size, 2, none⟩) hbw.size _
          obtain ⟨A2, c2, w9, q1, q2, q3, q4, q5, q6, _⟩ := app_one (P := Try.prog) (w7.setCell ⟨wr.heap.size, 2, none⟩ (.slice A7 tn c7)) wa.heap.size 24 24 80 is0 _ 3 48 Try.underlying24 his hsz0 hsz1 hsz2 rfl (by omega) _ _ _ O8.slots #[.int .i64 s.kind, .string s.data, .slice A7 tn c7] rfl
            (by intro u hu; simp at hu; rcases hu with rfl | rfl | rfl <;> rfl) (by show (ns + 1) * 48 ≤ _; omega) (by show ns + 1 ≤ _; unfold maxLen; omega) L8.size
          dsimp only at q1
          simp only [World.size_setCell] at q1
          have HR := Lib.hid q1
          have W9 := below1 (w7.setCell ⟨wr.heap.size, 2, none⟩ (.slice A7 tn c7)) (.cells #[.int .i64 s.kind, .string s.data, .slice A7 tn c7] 80)
          have O9 := (O8.next W9).pushSlot (x := ⟨⟨s.kind, s.data, s.table.map f⟩, A7, tn, c7⟩) q2 q6 q4 q5 (by show ns ≤ _; omega) HSV.out.data (TB8.next W9)
          have hbo8 : some bo ≠ (Value.slice sA' ns sc').ownBlock := fun e => (hBr.ty.ne (own_block HO.out.slots e.symm) (by decide)) rfl
          have hbo5 : some bo ≠ some wr.heap.size := fun e => by injection e; omega
          have BB9 := (((hBr.next W07).kept hg8 hbo5).next W9).kept q6 hbo8
          have hbol8 : bo < (w7.setCell ⟨wr.heap.size, 2, none⟩ (.slice A7 tn c7)).heap.size := ((hBr.next W07).kept hg8 hbo5).ty.lt
          have X8 := ((HBR.out.keep W07 hbol).kept hg8 hbo5)
          obtain ⟨f0, f1, f2, f3, f4⟩ := (X8.keep W9 hbol8).kept q6 hbo8
          obtain ⟨g0, g1, g2, g3, g4⟩ := X8
          dsimp only at f0 f1 f2 f3 f4 g0 g1 g2 g3 g4
          have y2 := BB9.fz 2
          have hgs := grown_set w9 bo 2 (.slice A2 (ns + 1) c2)
          have OA := O9.kept hgs BB9.ty (by decide) (by decide) (by decide)
          have BXA : Box (w9.setCell ⟨bo, 2, none⟩ (.slice A2 (ns + 1) c2)) bo m.guest ⟨A3, n3, c3, A2, ns + 1, c2, fA', nf, fc', none, 0, 0⟩ := by
            refine ⟨?_, ?_, ?_, ?_, ?_⟩ <;> go_simp
          have BBA := BB9.set 2 (.slice A2 (ns + 1) c2)
          have LA := ((below_next hbw W07).setCell (p := ⟨wr.heap.size, 2, none⟩) hbw.size (.slice A7 tn c7) |>.trans q3).setCell (p := ⟨bo, 2, none⟩) hbo (.slice A2 (ns + 1) c2)
          have HOA := Lib.hid OA
          have HBA := Lib.hid BXA
          clear r2 TB7 O7 W07 hsd O8 TB8 q1 q2 O9 W9 hbo8 hbo5 hgs OA BXA hg8 W5 r3 HG5 HXM HBW HW5 HTW
          go_wp2_with (at_builtin; refine wpList_app rfl _ _ _ _ rfl rfl rfl rfl HR.out ?_)
          clear f0 f1 f2 f3 f4 g0 g1 g2 g3 g4 y2 u0 u1 u2 x2 HR q3 q6 BB9 L8 hbol8 T5T
          generalize w9.setCell ⟨bo, 2, none⟩ (.slice A2 (ns + 1) c2) = WA at *
          have UD : Below wa.heap.size wa WA.drew := LA.drew
          have dd : Below WA.heap.size WA WA.drew := (Below.refl WA.heap.size WA).drew
          have OD := HOA.out.next dd
          have XD := HBA.out.keep dd BBA.ty.lt
          have BD := BBA.next dd
          refine wp_region_z (S := fun W' => W'.cell? ⟨bo, 3, none⟩ = some (.slice fA' nf fc') ∧ W'.cell? ⟨w.heap.size, 3, none⟩ = some (.slice (some ⟨b6, o6, none⟩) sn fc) ∧ W'.cell? ⟨b6, o6 + k, none⟩ = some (.int .i64 r)) 10 (by kernel_rfl) (fun hC => ?_)
          generalize WA.drew = WD at *
          obtain ⟨A9, c9, wB, tgB, p1, p2, p3, p4, p5⟩ := OD.pushRef r UD.size hnf1 (by show nf ≤ _; omega)
          dsimp only at p1 p2 p4 p5
          have hne : some bo ≠ (Value.slice fA' nf fc').ownBlock := fun e => (BD.ty.ne (p5 _ e.symm) (by decide)) rfl
          have b7 := below1 WD (.cells #[.int .i64 r] 3)
          have X7 := XD.keep b7 BD.ty.lt
          have B7 := BD.next b7
          have XB := X7.kept p4 hne
          have BB := B7.kept p4 hne
          have m0 := XD.2.2.2.1
          have m7 := X7.2.2.2.1
          have m8 := XB.2.2.2.1
          dsimp only at m0 m7 m8
          have UB := UD.trans p3
          have U7 := below_next UD b7
          have HP := Lib.hid p1
          have HPO := Lib.hid p2
          have HXB := Lib.hid XB
          clear p1 p2 p4 p5 X7 B7 XB OD XD
          have hSS := And.intro m0 (mvT.out WD UD)
          apply wpAnyZ_take (i := 0)
          case hi => rfl
          case hs | hf | hr | hu => kernel_rfl
          case hw => exact fun z h1 h2 => (by have h2 : z < 11 := h2; have h3 : z = 10 := (by omega); subst h3; exact ⟨[1, 8], by kernel_rfl⟩)
          case hQ => exact fun _ _ _ h => h
          case hy => exact Or.inl ⟨by rfl, fun w' hSw => by (obtain ⟨s0, s1, s2⟩ := hSw; go_simp; try with_reducible rfl)⟩
          case hS | hC => assumption
          clear hC
          intro hC
          apply wpAnyZ_take (i := 1)
          case hi => rfl
          case hs | hf | hr | hu => kernel_rfl
          case hw => exact fun z h1 h2 => (by have h2 : z < 11 := h2; have h3 : z = 10 := (by omega); subst h3; exact ⟨[8], by kernel_rfl⟩)
          case hQ => exact fun _ _ _ h => h
          case hy => exact Or.inl ⟨by rfl, fun w' hSw => by (obtain ⟨s0, s1, s2⟩ := hSw; go_simp; try with_reducible rfl)⟩
          case hS | hC => assumption
          clear hC
          intro hC
          apply wpAnyZ_take (i := 2)
          case hi => rfl
          case hs | hf | hr | hu => kernel_rfl
          case hw => exact fun z h1 h2 => (by have h2 : z < 11 := h2; have h3 : z = 10 := (by omega); subst h3; exact ⟨[3, 5, 6, 7, 8], by kernel_rfl⟩)
          case hQ => exact fun _ _ _ h => h
          case hy => exact Or.inl ⟨by rfl, fun w' hSw => by (obtain ⟨s0, s1, s2⟩ := hSw; go_simp; try with_reducible rfl)⟩
          case hS | hC => assumption
          clear hC
          intro hC
          apply wpAnyZ_take (i := 3)
          case hi => rfl
          case hs | hf | hr | hu => kernel_rfl
          case hw => exact fun z h1 h2 => (by have h2 : z < 11 := h2; have h3 : z = 10 := (by omega); subst h3; exact ⟨[5, 6, 7, 8], by kernel_rfl⟩)
          case hQ => exact fun _ _ _ h => h
          case hy => exact Or.inl ⟨by rfl, fun w' hSw => by (obtain ⟨s0, s1, s2⟩ := hSw; go_simp; try with_reducible rfl)⟩
          case hS | hC => assumption
          clear hC
          intro hC
          apply wpAnyZ_take (i := 4)
          case hi => rfl
          case hs | hf | hr | hu => kernel_rfl
          case hw => exact fun z h1 h2 => (by have h2 : z < 11 := h2; have h3 : z = 10 := (by omega); subst h3; exact ⟨[5, 6, 7, 8], by kernel_rfl⟩)
          case hQ => exact fun _ _ _ h => h
          case hy => exact Or.inl ⟨by rfl, fun w' hSw => by (obtain ⟨s0, s1, s2⟩ := hSw; go_simp; try with_reducible rfl)⟩
          case hS | hC => assumption
          clear hC
          intro hC
          apply wpAnyZ_take (i := 5)
          case hi => rfl
          case hs | hf | hr | hu => kernel_rfl
          case hw => exact fun z h1 h2 => (by have h2 : z < 11 := h2; have h3 : z = 10 := (by omega); subst h3; exact ⟨[6, 7, 8], by kernel_rfl⟩)
          case hQ => exact fun _ _ _ h => h
          case hy => exact Or.inl ⟨by rfl, fun w' hSw => by (obtain ⟨s0, s1, s2⟩ := hSw; go_simp; try with_reducible rfl)⟩
          case hS | hC => assumption
          clear hC
          intro hC
          apply wpAnyZ_take (i := 6)
          case hi => rfl
          case hs | hf | hr | hu => kernel_rfl
          case hw => exact fun z h1 h2 => (by have h2 : z < 11 := h2; have h3 : z = 10 := (by omega); subst h3; exact ⟨[7, 8], by kernel_rfl⟩)
          case hQ => exact fun _ _ _ h => h
          case hy => exact Or.inl ⟨by rfl, fun w' hSw => by (obtain ⟨s0, s1, s2⟩ := hSw; go_simp; try with_reducible rfl)⟩
          case hS | hC => assumption
          clear hC
          intro hC
          clear hSS hC
          refine wpAnyZ_one (i := 7) (by kernel_rfl) rfl (fun K' hK => ?_)
          go_simp
          refine hK.out _ _ (fun _ => ⟨m7, mvT.out _ U7⟩) ?_
          clear hK
          refine wpAnyZ_one (i := 8) (by kernel_rfl) rfl (fun K' hK => ?_)
          refine step_app rfl _ _ _ _ _ rfl rfl rfl rfl HP.out ?_
          refine hK.out _ _ (fun _ => ⟨m8, mvT.out _ UB⟩) ?_
          clear hK
          have y3 := BB.fz 3
          have hgs := grown_set wB bo 3 (.slice A9 (nf + 1) c9)
          have OF := Lib.hid (HPO.out.kept hgs BB.ty (by decide) (by decide) (by decide))
          have BF := BB.set 3 (.slice A9 (nf + 1) c9)
          have LF := UB.setCell (p := ⟨bo, 3, none⟩) hbo (.slice A9 (nf + 1) c9)
          have XF : Hid (Box (wB.setCell ⟨bo, 3, none⟩ (.slice A9 (nf + 1) c9)) bo m.guest ⟨A3, n3, c3, A2, ns + 1, c2, A9, nf + 1, c9, none, 0, 0⟩) := Lib.hid (by
            obtain ⟨f0, f1, f2, f3, f4⟩ := HXB.out
            dsimp only at f0 f1 f2 f3 f4
            refine ⟨?_, ?_, ?_, ?_, ?_⟩ <;> go_simp)
          clear hgs
          refine wpAnyZ_one (i := 9) (by kernel_rfl) rfl (fun K' hK => ?_)
          go_simp
          refine hK.out _ _ (fun _ => ⟨m8, mvT.out _ UB⟩) ?_
          clear hK
          refine wpAnyZ_one (i := 10) (by kernel_rfl) rfl (fun K' hK => ?_)
          go_simp
          refine hK.out _ _ (fun h => absurd h (by decide)) ?_
          clear hK
          refine wpAnyZ_done (by kernel_rfl) ?_ _
          clear mvT
          go_wp2_with fail
          go_roundw
          case rel => exact ⟨k + 1, ns + 1, nf + 1, A2, A9, c2, c9, tgB, _, by omega, by omega, by go_num, by omega, by omega, by omega, by rw [HK0.out, HR0.out]; unfold renS; rw [HF.out]; exact OF.out, XF.out, BF, LF⟩
          case measure => simp [intOf]; omega
      · have HKA := Lib.hid (show packK m.slots k = packS m.slots from packK_all (by have := HSN.out; omega))
        have HRA := Lib.hid (show packR (m.slots.take k) (m.refs.take k) = packR m.slots m.refs from by rw [List.take_of_length_le (by have := HSN.out; omega), List.take_of_length_le (by have := HRL.out; have := HSN.out; omega)])
        obtain rfl : k = sn := by omega
        rw [HKA.out, HRA.out] at HO
        clear HKA HRA
        go_wp2_with fail
        clear b0 b1 b2 b3 b4
        have HO1 := Lib.hid HO.out
        have HB1R := Lib.hid HBR.out
        go_loopw [6] (fun i wr => ∃ (l : Nat) (pA' : Option Addr) (pc' : Nat) (tg : Nat → Nat) (p : List PV), l ≤ pn ∧ i = .int .i64 l ∧ OwnI wr wa.heap.size tg ⟨A3, n3, c3, sA', ns, sc', fA', nf, fc', pA', l, pc'⟩ q p ⟨m.guest, m.root.map f, packS m.slots, packR m.slots m.refs, (m.snaps.take l).map (renP m.slots)⟩ ∧ Box wr bo m.guest ⟨A3, n3, c3, sA', ns, sc', fA', nf, fc', pA', l, pc'⟩ ∧ BoxB wr bo ∧ Below wa.heap.size wa wr) (fun i _ => pn - (intOf i).toNat)
        case atStart => exact ⟨0, none, 0, tg, [], Nat.zero_le _, rfl, HO1.out, HB1R.out, hBr, hbw⟩
        case round =>
          clear HO HBR hBr hbw TW HO1 HB1R
          obtain ⟨l, pA', pc', tg, p, hl, rfl, ho, hbx, hBr, hbw⟩ := hrel
          have HO := Lib.hid ho
          have HBR := Lib.hid hbx
          clear ho hbx
          have X := HXw.out.keep hbw (by omega)
          obtain ⟨b0, b1, b2, b3, b4⟩ := X
          dsimp only at b0 b1 b2 b3 b4
          have TW := HB1.trans (hbw.mono hzz)
          have hpn4 : pn ≤ 4 := Nat.le_trans (Nat.le_of_eq HPN.out.symm) h4
          by_cases hlt : l < pn
          · obtain ⟨b, o, s, tA, tn, tc, rfl, hb, hx, d0, d1, d2, hsv⟩ := HI.out.snaps.at_ (k := l) hlt
            have d0' := (TW.cell (p := ⟨b, o + l * 3, none⟩) hb).trans d0
            have d1' := (TW.cell (p := ⟨b, o + l * 3 + 1, none⟩) hb).trans d1
            have d2' := (TW.cell (p := ⟨b, o + l * 3 + 2, none⟩) hb).trans d2
            have HTK := Lib.hid (show (m.snaps.take (l + 1)).map (renP m.slots) = (m.snaps.take l).map (renP m.slots) ++ [⟨s.name, s.guest, s.root.map f⟩] from by rw [List.take_add_one, hx, List.map_append]; rw [← HF.out]; rfl)
            have hmem := List.mem_of_getElem? hx
            have ht4 : tn ≤ 4 := by have := HS.out.cbd.roots s hmem; have := hsv.root.len; omega
            have HSV := Lib.hid hsv
            have e0 : (0 : Int) ≤ (l : Int) := by omega
            have e1 : (l : Int) < (pn : Int) := by omega
            have hbol := hBr.ty.lt
            have W5 := below1 wr (.cells #[.string s.name, .int .i64 s.guest, .slice tA tn tc] 83)
            have KT := Lib.hid (KA.out tA tn tc s.root ht4 (fun y hy => valid_root HS.out (List.mem_cons_of_mem _ (List.mem_map_of_mem hmem)) hy) (wr.alloc (.cells #[.string s.name, .int .i64 s.guest, .slice tA tn tc] 83)) (below_next TW W5) ((Rd.next HSV.out.root TW).next W5))
            have G5 := heap_alloc_new wr (.cells #[.string s.name, .int .i64 s.guest, .slice tA tn tc] 83)
            have l5 : wr.heap.size < (wr.alloc (.cells #[.string s.name, .int .i64 s.guest, .slice tA tn tc] 83)).heap.size := by simp
            obtain ⟨a0, a1, a2, a3, a4⟩ := (HXw.out.keep hbw lw).keep W5 (Nat.lt_of_lt_of_le lw hbw.size)
            dsimp only at a0 a1 a2 a3 a4
            clear hx d0 d1 d2 hsv hmem
            go_upto_region 14 with fail
            generalize wr.alloc (.cells #[.string s.name, .int .i64 s.guest, .slice tA tn tc] 83) = w5 at *
            have v2 := cell_of_row _ _ 2 _ _ _ G5
            simp only [List.getElem?_toArray, List.getElem?_cons_zero, List.getElem?_cons_succ] at v2
            have HG5 := Lib.hid G5
            have HBW := Lib.hid hbw
            have HW5 := Lib.hid W5
            have HTW := Lib.hid TW
            clear b0 b1 b2 b3 b4 d0' d1' d2' G5 hbw W5 TW
            go_wp2_with fail
            have hbw := HBW.out
            have W5 := HW5.out
            have TW := HTW.out
            refine KT.out.mono ?_
            rintro e w7 ⟨A7, c7, rfl, r2, r3, r4, r5⟩
            clear KT a0 a1 a2 a3 a4 v2
            have TB7 := TabO.made (base := wa.heap.size) (tg := tg) (t := 2 * l + 5) (.inr r2) (by have := hbw.size; have := W5.size; omega) (by omega) r4 r5
            have O7 := ((HO.out.next W5).retag (tg' := fun g => if w5.heap.size ≤ g then 2 * l + 5 else tg g) (fun b' hb' => if_neg (by omega))).next r3
            generalize (fun g => if w5.heap.size ≤ g then 2 * l + 5 else tg g) = tg7 at *
            have W07 := below_next W5 r3
            have u0 := (r3.cell (p := ⟨wr.heap.size, 0, none⟩) l5).trans (cell_of_row _ _ 0 _ _ _ HG5.out)
            have u1 := (r3.cell (p := ⟨wr.heap.size, 1, none⟩) l5).trans (cell_of_row _ _ 1 _ _ _ HG5.out)
            have u2 := (r3.cell (p := ⟨wr.heap.size, 2, none⟩) l5).trans (cell_of_row _ _ 2 _ _ _ HG5.out)
            have x2 := (r3.frozen (p := ⟨wr.heap.size, 2, none⟩) l5).trans (frozen_of_row _ _ 2 _ _ HG5.out)
            have T5T : TypeB w7 wr.heap.size 83 := (show TypeB w5 wr.heap.size 83 from ⟨_, _, HG5.out⟩).next r3
            simp only [List.getElem?_toArray, List.getElem?_cons_zero, List.getElem?_cons_succ] at u0 u1 u2
            have hg8 := grown_set w7 wr.heap.size 2 (.slice A7 tn c7)
            have hsd : some wr.heap.size ≠ (Value.slice pA' l pc').ownBlock := fun e => by have := (HO.out.snaps.lt _ e.symm).2; omega
            have hsl : (Value.slice sA' ns sc').ownBlock ≠ some wr.heap.size := fun e => by have := (HO.out.slots.lt _ e).2; omega
            have O8 := O7.keptAt hg8 T5T (by decide) hsl (fun e => hsd e.symm)
            have TB8 := TB7.kept hg8 (fun b' e hl => .inl ⟨_, by injection e with e; subst e; exact T5T, by decide⟩)
            have L8 : Below wa.heap.size wa (w7.setCell ⟨wr.heap.size, 2, none⟩ (.slice A7 tn c7)) := (below_next hbw W07).setCell (p := ⟨wr.heap.size, 2, none⟩) hbw.size _
            obtain ⟨A2, c2, w9, q1, q2, q3, q4, q5, q6, _⟩ := app_one (P := Try.prog) (w7.setCell ⟨wr.heap.size, 2, none⟩ (.slice A7 tn c7)) wa.heap.size 25 25 83 ip0 _ 3 48 Try.underlying25 hip hpz0 hpz1 hpz2 rfl (by omega) _ _ _ O8.snaps #[.string s.name, .int .i64 s.guest, .slice A7 tn c7] rfl
              (by intro u hu; simp at hu; rcases hu with rfl | rfl | rfl <;> rfl) (by show (l + 1) * 48 ≤ _; omega) (by show l + 1 ≤ _; unfold maxLen; omega) L8.size
            dsimp only at q1
            simp only [World.size_setCell] at q1
            have HR := Lib.hid q1
            have W9 := below1 (w7.setCell ⟨wr.heap.size, 2, none⟩ (.slice A7 tn c7)) (.cells #[.string s.name, .int .i64 s.guest, .slice A7 tn c7] 83)
            have O9 := (O8.next W9).pushSnap (x := ⟨⟨s.name, s.guest, s.root.map f⟩, A7, tn, c7⟩) q2 q6 q4 q5 (by show l ≤ _; omega) HSV.out.name (TB8.next W9)
            have hbo8 : some bo ≠ (Value.slice pA' l pc').ownBlock := fun e => (hBr.ty.ne (own_block HO.out.snaps e.symm) (by decide)) rfl
            have hbo5 : some bo ≠ some wr.heap.size := fun e => by injection e; omega
            have BB9 := (((hBr.next W07).kept hg8 hbo5).next W9).kept q6 hbo8
            have hbol8 : bo < (w7.setCell ⟨wr.heap.size, 2, none⟩ (.slice A7 tn c7)).heap.size := ((hBr.next W07).kept hg8 hbo5).ty.lt
            have X8 := ((HBR.out.keep W07 hbol).kept hg8 hbo5)
            obtain ⟨f0, f1, f2, f3, f4⟩ := (X8.keep W9 hbol8).kept q6 hbo8
            obtain ⟨g0, g1, g2, g3, g4⟩ := X8
            dsimp only at f0 f1 f2 f3 f4 g0 g1 g2 g3 g4
            have y2 := BB9.fz 4
            have hgs := grown_set w9 bo 4 (.slice A2 (l + 1) c2)
            have OA := O9.kept hgs BB9.ty (by decide) (by decide) (by decide)
            have BXA : Box (w9.setCell ⟨bo, 4, none⟩ (.slice A2 (l + 1) c2)) bo m.guest ⟨A3, n3, c3, sA', ns, sc', fA', nf, fc', A2, l + 1, c2⟩ := by
              refine ⟨?_, ?_, ?_, ?_, ?_⟩ <;> go_simp
            have BBA := BB9.set 4 (.slice A2 (l + 1) c2)
            have LA := (L8.trans q3).setCell (p := ⟨bo, 4, none⟩) hbo (.slice A2 (l + 1) c2)
            have HOA := Lib.hid OA
            have HBA := Lib.hid BXA
            clear r2 TB7 O7 W07 hsd O8 TB8 q1 q2 O9 W9 hbo8 hbo5 hgs OA BXA hg8 W5 hsl r3 HG5 HBW HW5 HTW
            go_wp2_with (at_builtin; refine wpList_app rfl _ _ _ _ rfl rfl rfl rfl HR.out ?_)
            go_roundw
            case rel => exact ⟨l + 1, A2, c2, tg7, _, by omega, by go_num, by rw [HTK.out]; exact HOA.out, HBA.out, BBA, LA⟩
            case measure => simp [intOf]; omega
          · have hall : (m.snaps.take l).map (renP m.slots) = m.snaps.map (renP m.slots) := by rw [List.take_of_length_le (by have := HPN.out; omega)]
            rw [hall] at HO
            clear hall
            have hlt1 : w.heap.size + 1 < wa.heap.size := by omega
            have Z9 : ZB wr (w.heap.size + 1) := ⟨(hbw.block _ hlt1).trans HZA.out.heap⟩
            have h5 := five Z9.box.1 Z9.box.2 m.guest ⟨A3, n3, c3, sA', ns, sc', fA', nf, fc', pA', l, pc'⟩
            have hfin := Lib.hid ((HO.out.kept h5.2.2 Z9.box.1.ty (by decide) (by decide) (by decide)).lower hzz)
            have hbf := Lib.hid (TW.grown h5.2.2 TW.size (fun j e => by injection e with e; omega))
            have HK := Lib.hid h5.1
            obtain ⟨y0, y1, y2, y3, y4⟩ := Z9.cells
            obtain ⟨x0, x1, x2, x3, x4⟩ := Z9.froz
            obtain ⟨g0, g1, g2, g3, g4⟩ := HBR.out
            dsimp only at g0 g1 g2 g3 g4
            clear h5
            go_wp2_with fail
            obtain ⟨k0, k1, k2, k3, k4⟩ := HK.out
            refine bodyPost_ret (v := imgV (packM m) ⟨A3, n3, c3, sA', ns, sc', fA', nf, fc', pA', l, pc'⟩) ?_ rfl ⟨_, tg, q, p, rfl, by unfold packM; rw [HF.out]; exact hfin.out, hbf.out⟩
            simp [results, Try.results22, go_sem, imgV, packM, k0, k1, k2, k3, k4]
end Go.Proofs.Ytmdjoafbckphfaa
