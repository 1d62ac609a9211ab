/- append(x, make([]int, 16)...) at a row of the call's own; what Resize hands to turned. Conditions: the desk holds an image that is right. -/
import Derived.Test.YtpboapeoejdipaaWSet
import Derived.Lib.AppendZerosOnto
namespace Go.Proofs.Ytpboapeoejdipaa
open Go.RowKit Sl
theorem zeros16 : Builtin.zeroCells (Value.int .i64 0).cells 16 = (ints (List.replicate 16 0)).toArray := by kernel_rfl
theorem run_appZ (T : Prop) (w : World) (base : Nat) (A : Option Addr) (n c : Nat) (xs : List Int) (h : (n = 0 ∧ xs = [] ∧ c = 0) ∨ (w.ownsRow base 3 1 (.slice A n c) n (ints xs) ∧ T)) (hn : n ≤ 1000000) (hb : base ≤ w.heap.size) :
    ∃ g c' w', (Builtin.append_ #[22, 3] 22 #[.slice A n c, .int .i64 16]).run Try.prog w = .ok (.slice (some ⟨g, 0, none⟩) (n + 16) c') w' ∧
      w'.ownsRow base 3 1 (.slice (some ⟨g, 0, none⟩) (n + 16) c') (n + 16) (ints (xs ++ List.replicate 16 0)) ∧ n + 16 ≤ c' ∧ c' ≤ maxLen ∧
      ((g = w.heap.size ∧ w.grownBy w' none) ∨ (A = some ⟨g, 0, none⟩ ∧ g < w.heap.size ∧ w.grownBy w' (some g) ∧ w.ownsRow base 3 1 (.slice A n c) n (ints xs) ∧ T)) := by
  obtain ⟨i0, hi0, hz0, hz1, hz2⟩ := info_parts Try.infoInt
  have hgrow : ∀ (hc : c < n + 16) (hx : xs.length = n) (hold : (Builtin.firstCells 1 n (.slice A n c)).run Try.prog w.drew = .ok (ints xs).toArray w.drew),
      ∃ g c' w', (Builtin.append_ #[22, 3] 22 #[.slice A n c, .int .i64 16]).run Try.prog w = .ok (.slice (some ⟨g, 0, none⟩) (n + 16) c') w' ∧
      w'.ownsRow base 3 1 (.slice (some ⟨g, 0, none⟩) (n + 16) c') (n + 16) (ints (xs ++ List.replicate 16 0)) ∧ n + 16 ≤ c' ∧ c' ≤ maxLen ∧
      ((g = w.heap.size ∧ w.grownBy w' none) ∨ (A = some ⟨g, 0, none⟩ ∧ g < w.heap.size ∧ w.grownBy w' (some g) ∧ w.ownsRow base 3 1 (.slice A n c) n (ints xs) ∧ T)) := by
    intro hc hx hold
    have hr := Lib.run_append_grow_zeros (P := Try.prog) w 22 3 22 3 i0 _ .i64 _ Try.underlying22 Try.underlying3 hi0 hz0 A n c (ints xs) (by rw [hz1]; exact hold) 16 (by omega) (by omega) hc (by omega) (by omega) (by
      rw [hz2]; exact growslice_fits hc (by omega))
    rw [zeros16] at hr
    have hge := grownCap_ge w (n + 16) c 3
    have hcm := grownCap_le_maxLen w (n + 16) c 3 (by unfold maxLen; omega)
    refine ⟨w.heap.size, _, _, hr, ⟨by simp [ints, hx], .inr ⟨w.heap.size, _, _, rfl, hb, heap_alloc_new w.drew _, hge, hcm, ?_, ?_⟩⟩, hge, hcm, .inl ⟨rfl, ⟨rfl, rfl, rfl, by simp, fun k hk _ => heap_alloc_old w.drew _ hk⟩⟩⟩
    · simp only [Array.size_append, List.size_toArray, size_zeroCells, ints, List.length_map, hx, List.length_replicate]
      show n + 16 + _ * 1 = _
      omega
    · rw [show ints (xs ++ List.replicate 16 0) = ints xs ++ ints (List.replicate 16 0) from by simp [ints]]
      simp only [Array.toList_append]
      rw [show (n + 16) * 1 = (ints xs ++ ints (List.replicate 16 0)).length from by simp [ints, hx]]
      exact List.take_left
  rcases h with ⟨rfl, rfl, rfl⟩ | ⟨h, hT⟩
  · refine hgrow (by omega) rfl ?_
    cases A <;> simp [Builtin.firstCells, loadCells, loadCellsFrom, ints]
  · have hx : xs.length = n := by have := h.1; simpa [ints] using this
    rcases h.2 with ⟨hv, h0⟩ | ⟨g, cap, cur, hv, hbg, hg, hnc, hcm, hcs, htake⟩
    · simp only [Value.slice.injEq] at hv
      obtain ⟨rfl, _, rfl⟩ := hv
      subst h0
      obtain rfl : xs = [] := List.eq_nil_of_length_eq_zero hx
      exact hgrow (by omega) rfl (by simp [Builtin.firstCells, ints])
    · simp only [Value.slice.injEq] at hv
      obtain ⟨rfl, _, rfl⟩ := hv
      by_cases hroom : n + 16 ≤ c
      · have hst := run_storeCells_at Try.prog g n 3 (ints (List.replicate 16 0)) 0 cur w hg (by simp [ints]; omega) (one_ints _)
        simp only [Nat.add_zero] at hst
        have hrun : (Builtin.append_ #[22, 3] 22 #[.slice (some ⟨g, 0, none⟩) n c, .int .i64 16]).run Try.prog w = .ok (.slice (some ⟨g, 0, none⟩) (n + 16) c) (w.setRow g (cur.toList.take n ++ ints (List.replicate 16 0) ++ cur.toList.drop (n + (ints (List.replicate 16 0)).length)).toArray) := by
          have hw : IntKind.i64.wrap (16 : Int) = 16 := by decide
          have hz16 := zeros16
          generalize ints (List.replicate 16 0) = zs at *
          simp [Builtin.append_, run_underlying Try.underlying22, run_underlying Try.underlying3, sizeOf, typeInfo, zeroValue, hi0, hz0, hz1, hz2, asInt, asIntOf, hw, hroom, Addr.add_lit, hst, hz16]
        refine ⟨g, c, _, hrun, ⟨by simp [ints, hx], .inr ⟨g, c, _, rfl, hbg, setRow_heap w g cur _ _ _ hg, hroom, hcm, ?_, ?_⟩⟩, hroom, hcm, .inr ⟨rfl, (Array.getElem?_eq_some_iff.1 hg).1, ⟨rfl, rfl, rfl, by simp, fun k _ hk => setRow_other w g k _ (fun e => hk (by simp [e]))⟩, h, hT⟩⟩
        · simp only [List.size_toArray, List.length_append, List.length_take, List.length_drop, Array.length_toList, ints, List.length_map, List.length_replicate]
          omega
        · rw [show ints (xs ++ List.replicate 16 0) = ints xs ++ ints (List.replicate 16 0) from by simp [ints]]
          rw [Nat.mul_one] at htake
          rw [← htake, show (n + 16) * 1 = (cur.toList.take n ++ ints (List.replicate 16 0)).length from by simp [ints]; omega]
          exact List.take_left
      · have holds : ∀ j u, (ints xs)[j]? = some u → w.drew.cell? ((⟨g, 0, none⟩ : Addr).add j) = some u := h.cells (g := g) rfl
        exact hgrow (by omega) hx (run_firstCells_some (P := Try.prog) w.drew 1 n ⟨g, 0, none⟩ n c (ints xs) (by simp [ints, hx]) holds)
theorem own_take {w : World} {base g n c k : Nat} {xs : List Int} (h : w.ownsRow base 3 1 (.slice (some ⟨g, 0, none⟩) n c) n (ints xs)) (hk : k ≤ n) : w.ownsRow base 3 1 (.slice (some ⟨g, 0, none⟩) k c) k (ints (xs.take k)) := by
  have hx : xs.length = n := by have := h.1; simpa [ints] using this
  rcases h.2 with ⟨hv, _⟩ | ⟨g', cap, cur, hv, hbg, hg, hnc, hcm, hcs, htake⟩
  · simp at hv
  · simp only [Value.slice.injEq, Option.some.injEq, Addr.mk.injEq, and_true, true_and] at hv
    obtain ⟨rfl, rfl⟩ := hv
    refine ⟨by simp [ints]; omega, .inr ⟨g, c, cur, rfl, hbg, hg, by omega, hcm, hcs, ?_⟩⟩
    rw [show ints (xs.take k) = (ints xs).take k from by simp [ints, List.map_take], ← htake, List.take_take]
    congr 1
    omega
theorem ne_or {x : Option Nat} : x = none ∨ x ≠ none := by cases x <;> simp
section
variable {w w' : World} {base b : Nat} {tg : Nat → Nat} {v : IV} {q : List SV} {p : List PV} {m : Img}
theorem OwnI.newRoot {A : Option Addr} {n c : Nat} {cs : List Int} (h : OwnI w base tg v q p m) (ho : TabO w base tg 0 A n c cs) : OwnI w base tg { v with rA := A, rn := n, rc := c } q p { m with root := cs } :=
  ⟨ho, h.refs, h.slots, h.sle, h.scap, h.snaps, h.ple, h.pcap, h.hq, h.hp, h.tabs, h.roots⟩
theorem DeskAt.setHead {A : Option Addr} {n c : Nat} {cs : List Int} (ho : OwnI w base tg v q p m) (hx : Box w b m.guest v) (ht : BoxG w b 54) (hlo : base ≤ b) (hr : TabO w base tg 0 A n c cs) :
    DeskAt (w.setCell ⟨b, 1, none⟩ (.slice A n c)) base tg b { v with rA := A, rn := n, rc := c } q p { m with root := cs } := by
  refine ⟨(ho.newRoot hr).kept (grown_set w b 1 _) ht.ty (by decide) (by decide) (by decide), ?_, ht.set 1 _, hlo⟩
  obtain ⟨b0, b1, b2, b3, b4⟩ := hx
  refine ⟨?_, ?_, ?_, ?_, ?_⟩ <;> go_simp
theorem DeskAt.setGuest (h : DeskAt w base tg b v q p m) (g : Int) : DeskAt (w.setCell ⟨b, 0, none⟩ (.int .i64 g)) base tg b v q p { m with guest := g } := by
  refine ⟨(h.own.newGuest g).kept (grown_set w b 0 _) h.ty.ty (by decide) (by decide) (by decide), ?_, h.ty.set 0 _, h.lo⟩
  obtain ⟨b0, b1, b2, b3, b4⟩ := h.box
  refine ⟨?_, ?_, ?_, ?_, ?_⟩ <;> go_simp
theorem DeskAt.regrow (h : DeskAt w base tg b v q p m) (hn : v.rn ≤ 1000000) : ∃ g c' w', (Builtin.append_ #[22, 3] 22 #[.slice v.rA v.rn v.rc, .int .i64 16]).run Try.prog w = .ok (.slice (some ⟨g, 0, none⟩) (v.rn + 16) c') w' ∧ v.rn + 16 ≤ c' ∧ c' ≤ maxLen ∧
    Box w' b m.guest v ∧ BoxG w' b 54 ∧ w.grownBy w' (if g < w.heap.size then some g else none) ∧ base ≤ g ∧ Below base w w' ∧ (∀ k, k ≤ v.rn + 16 → ∃ tg', DeskAt (w'.setCell ⟨b, 1, none⟩ (.slice (some ⟨g, 0, none⟩) k c')) base tg' b { v with rA := some ⟨g, 0, none⟩, rn := k, rc := c' } q p { m with root := (m.root ++ List.replicate 16 0).take k }) := by
  have hbw : base ≤ w.heap.size := by have := h.ty.ty.lt; have := h.lo; omega
  obtain ⟨g, c', w', r1, r2, r3, r4, r5⟩ := run_appZ (∀ b, (Value.slice v.rA v.rn v.rc).ownBlock = some b → tg b = 0) w base v.rA v.rn v.rc m.root h.own.root.2.2 hn hbw
  have hm : c' ≤ 9223372036854775807 := by unfold maxLen at r4; omega
  have hbg : base ≤ g := (r2.lt g rfl).1
  rcases r5 with ⟨rfl, hg⟩ | ⟨hA, hgl, hg, hown, hT⟩
  · have hx := h.box.kept hg (by simp)
    have hB := h.ty.kept hg (by simp)
    have hret : ∀ j, j < w.heap.size → (fun j => if w.heap.size ≤ j then 0 else tg j) j = tg j := fun j hj => if_neg (by omega)
    have ho : OwnI w' base (fun j => if w.heap.size ≤ j then 0 else tg j) v q p m := by
      have h0 := h.own.retag (tg' := fun j => if w.heap.size ≤ j then 0 else tg j) hret
      exact ⟨h0.root.kept hg (by simp), h0.refs.kept hg (by simp), h0.slots.kept hg ne_or, h0.sle, h0.scap, h0.snaps.kept hg ne_or, h0.ple, h0.pcap, h0.hq, h0.hp, fun k x hx => ⟨(h0.tabs k x hx).1, (h0.tabs k x hx).2.kept hg (by simp)⟩, fun k x hx => ⟨(h0.roots k x hx).1, (h0.roots k x hx).2.kept hg (by simp)⟩⟩
    refine ⟨_, c', w', r1, r3, r4, hx, hB, by rw [if_neg (by omega)]; exact hg, hbg, (Below.refl _ _).grown hg hbw (by simp), fun k hk => ⟨_, DeskAt.setHead ho hx hB h.lo ⟨by omega, ⟨by omega, hm⟩, .inr ⟨own_take r2 hk, fun j e => ?_⟩⟩⟩⟩
    simp only [Value.ownBlock, Option.some.injEq] at e
    subst e
    exact if_pos (Nat.le_refl _)
  · have hty : TypeB w g 3 := own_block hown (by rw [hA]; rfl)
    have htg : tg g = 0 := hT g (by rw [hA]; rfl)
    have hne : some b ≠ some g := fun e => h.ty.ty.ne hty (by decide) (by injection e)
    have hx := h.box.kept hg hne
    have hB := h.ty.kept hg hne
    have ht : ∀ {t n c : Nat} {A : Option Addr} {xs : List Int}, TabO w base tg t A n c xs → t ≠ 0 → TabO w' base tg t A n c xs := fun hh hn => hh.kept hg fun b' e _ => by injection e with e; subst e; exact .inr (by omega)
    refine ⟨g, c', w', r1, r3, r4, hx, hB, by rw [if_pos hgl]; exact hg, hbg, (Below.refl _ _).grown hg hbw (fun k e => by injection e with e; subst e; exact hbg), fun k hk => ⟨tg, ?_⟩⟩
    have hr : TabO w' base tg 0 (some ⟨g, 0, none⟩) k c' ((m.root ++ List.replicate 16 0).take k) := ⟨by omega, ⟨by omega, hm⟩, .inr ⟨own_take r2 hk, fun j e => by simp only [Value.ownBlock, Option.some.injEq] at e; subst e; exact htg⟩⟩
    have ho : OwnI w' base tg { v with rA := some ⟨g, 0, none⟩, rn := k, rc := c' } q p { m with root := (m.root ++ List.replicate 16 0).take k } := ⟨hr, ht h.own.refs (by decide), h.own.slots.kept hg (own_far h.own.slots hty (by decide)), h.own.sle, h.own.scap, h.own.snaps.kept hg (own_far h.own.snaps hty (by decide)), h.own.ple, h.own.pcap, h.own.hq, h.own.hp,
      fun k x hx => ⟨(h.own.tabs k x hx).1, ht (h.own.tabs k x hx).2 (by omega)⟩, fun k x hx => ⟨(h.own.roots k x hx).1, ht (h.own.roots k x hx).2 (by omega)⟩⟩
    refine ⟨ho.kept (grown_set w' b 1 _) hB.ty (by decide) (by decide) (by decide), ?_, hB.set 1 _, h.lo⟩
    obtain ⟨b0, b1, b2, b3, b4⟩ := hx
    refine ⟨?_, ?_, ?_, ?_, ?_⟩ <;> go_simp
end
end Go.Proofs.Ytpboapeoejdipaa
