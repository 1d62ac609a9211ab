/- Texts of the proof of restImages_holds: AppE. Conditions: as each text says. -/
import Derived.Test.YtfilnnjanhjbeaaGreatRI19
namespace Go.Proofs.YtfilnnjanhjbeaaGreat
open Go.RowKit Sl
structure EB (W : World) (g : Nat) : Prop where
  heap : W.heap[g]? = some (.cells #[] 3 (0, 0))
theorem EB.new' {W : World} {g : Nat} (h : g = W.heap.size) : EB (W.alloc (.cells #[] 3)) g := by subst h; exact ⟨heap_alloc_new W _⟩
theorem EB.next {W W' : World} {g : Nat} (h : EB W g) (hb : Below W.heap.size W W') : EB W' g := ⟨(hb.block g (Array.getElem?_eq_some_iff.1 h.heap).1).trans h.heap⟩
theorem EB.nextH {W W' : World} {g : Nat} (hb : Below W.heap.size W W') (h : EB W g) : EB W' g := h.next hb
theorem EB.alloc {W : World} {g : Nat} {o : Obj} (h : EB W g) : EB (W.alloc o) g := h.next (below1 W o)
theorem EB.drew {W : World} {g : Nat} (h : EB W g) : EB W.drew g := ⟨h.heap⟩
theorem ZB.new' {W : World} {g : Nat} (h : g = W.heap.size) : ZB (W.alloc (.cells #[.int .i64 0, .slice none 0 0, .slice none 0 0, .slice none 0 0, .slice none 0 0] 26)) g := by subst h; exact ZB.new W
theorem ZB.alloc' {W : World} {g : Nat} {o : Obj} (h : ZB W g) : ZB (W.alloc o) g := h.next (below1 W o)
theorem ZB.drew' {W : World} {g : Nat} (h : ZB W g) : ZB W.drew g := ⟨h.heap⟩
theorem ZB.nextH {W W' : World} {g : Nat} (hb : Below W.heap.size W W') (h : ZB W g) : ZB W' g := h.next hb
theorem run_appE (W : World) (g : Nat) (he : EB W g) (A : Option Addr) (m c : Nat) (cs : List Int) (hr : Rd W W.heap.size 1 A m (ints cs)) (hm : m ≤ 1000000) :
    ∃ A' c' w', (Builtin.append_ #[22, 22] 22 #[.slice (some ⟨g, 0, none⟩) 0 0, .slice A m c]).run Tryz.prog W = .ok (.slice A' m c') w' ∧
      ((m = 0 ∧ cs = [] ∧ c' = 0) ∨ w'.ownsRow W.heap.size 3 1 (.slice A' m c') m (ints cs)) ∧ Below W.heap.size W w' ∧ m ≤ c' ∧ c' ≤ maxLen := by
  obtain ⟨i0, hi0, hz0, hz1, hz2⟩ := info_parts Tryz.infoInt
  have hown : W.ownsRow 0 3 1 (.slice (some ⟨g, 0, none⟩) 0 0) 0 [] := ⟨by simp, .inr ⟨g, 0, #[], rfl, Nat.zero_le _, he.heap, Nat.le_refl _, by simp, by simp, by simp⟩⟩
  rcases Nat.eq_zero_or_pos m with h0 | h0
  · subst h0
    have hcs : cs = [] := List.eq_nil_of_length_eq_zero hr.len
    subst hcs
    refine ⟨some ⟨g, 0, none⟩, 0, W, ?_, .inl ⟨rfl, rfl, rfl⟩, Below.refl _ _, Nat.le_refl _, by simp⟩
    cases A with
    | none => exact run_app_nil W 0 _ _ 3 i0 1 Tryz.underlying22 hi0 _ 0 [] hown c
    | some a => simp [Builtin.append_, run_underlying Tryz.underlying22, sizeOf, typeInfo, hi0, Builtin.lenOf, Builtin.firstCells, loadCells, loadCellsFrom, storeCells]
  · obtain ⟨b, o, rfl, hb, hc⟩ := hr.2 h0
    have hnews : ∀ j u, (ints cs)[j]? = some u → W.cell? ((⟨b, o, none⟩ : Addr).add j) = some u := by
      intro j u hu
      have := hc j u hu
      unfold Addr.add
      by_cases hj : j = 0
      · subst hj; simpa using this
      · rw [if_neg hj]; exact this
    have hlen : (ints cs).length = m * 1 := hr.1
    obtain ⟨v', w', q1, q2, q3, q4, q5⟩ := run_append_own_at (P := Tryz.prog) W 0 22 22 3 i0 _ 1 8 Tryz.underlying22 hi0 hz0 hz1 hz2 rfl (by omega) _ 0 [] hown ⟨b, o, none⟩ m c (ints cs) hlen hnews (one_ints cs) (by unfold maxLen; omega) (by omega) (Nat.zero_le _)
    have hgr := run_append_grow (P := Tryz.prog) W 22 22 3 i0 _ Tryz.underlying22 hi0 hz0 ⟨g, 0, none⟩ 0 0 [] (by simp) (fun j v h => by simp at h) ⟨b, o, none⟩ m c (ints cs) (by rw [hz1]; exact hlen) hnews (by omega) (by omega)
      (by rw [hz2]; have : Builtin.nextslicecap (0 + m) 0 ≤ 2 * m + 1000000 := by rw [Nat.zero_add, nextslicecap_zero h0]; omega
          omega)
    rw [hgr] at q1
    rw [Nat.zero_add] at q1 q2
    injection q1 with e1 e2
    subst e1
    subst e2
    obtain ⟨A', c', e, k1, k2⟩ := own_form q2
    rw [Nat.zero_add] at hgr
    refine ⟨_, _, _, hgr, .inr ?_, (Below.refl _ _).drew.trans ((below1 W.drew _)), ?_, ?_⟩
    · obtain ⟨r1, r2⟩ := q2
      refine ⟨r1, ?_⟩
      rcases r2 with ⟨hv, _⟩ | ⟨g', cap, cur, hv, hg', r3⟩
      · simp at hv
      · refine .inr ⟨g', cap, cur, hv, ?_, r3⟩
        simp only [Value.slice.injEq, Option.some.injEq, Addr.mk.injEq, and_true, true_and] at hv
        omega
    · injection e with _ _ e3; rw [e3]; exact k1
    · injection e with _ _ e3; rw [e3]; exact k2
theorem step_appE {W : World} {ops : Array Oper} {o : Oper} {a : Act} {K : Act → World → Prop} {Q : Exit → Act → World → Prop} {E : Prop} (hgd : o.guard = none) (s x : Operand)
    (ho : o.op = .call { callee := .builtin .append, args := #[s, x], argTypes := #[22, 22] }) (hty : o.type = 22)
    (g : Nat) (hs : a.eval s = .slice (some ⟨g, 0, none⟩) 0 0) (A : Option Addr) (m c : Nat) (hx : a.eval x = .slice A m c) (cs : List Int) (hr : Rd W W.heap.size 1 A m (ints cs)) (hm : m ≤ 1000000) (he : EB W g)
    (h : ∀ A' c' w', ((m = 0 ∧ cs = [] ∧ c' = 0) ∨ w'.ownsRow W.heap.size 3 1 (.slice A' m c') m (ints cs)) → Below W.heap.size W w' → m ≤ c' → c' ≤ maxLen → K (a.put o.dst (.slice A' m c')) w') :
    if Region.wanted o (yielded ops a.tmps) = true then Oper.wp Tryz.prog o a W K Q else E := by
  have hw : Region.wanted o (yielded ops a.tmps) = true := by simp [Region.wanted, hgd]
  rw [if_pos hw]
  obtain ⟨A', c', w', q1, q2, q3, q4, q5⟩ := run_appE W g he A m c cs hr hm
  unfold Oper.wp execOp
  simp only [ho, hty, resolve, invoke, builtin, Sem.run_bind, Sem.run_pure, Result.andThen_ok, List.map_toArray, List.map_cons, List.map_nil, hs, hx, q1]
  exact h A' c' w' q2 q3 q4 q5
theorem step_appEz {W : World} {ops : Array Oper} {o : Oper} {a : Act} {K : Act → World → Prop} {Q : Exit → Act → World → Prop} {E : Prop} (x3 : Operand) (bo : Nat) (_hp : a.eval x3 = .pointer (some ⟨bo, 0, none⟩)) (hgd : o.guard = none) (s x : Operand)
    (ho : o.op = .call { callee := .builtin .append, args := #[s, x], argTypes := #[22, 22] }) (hty : o.type = 22)
    (g : Nat) (hs : a.eval s = .slice (some ⟨g, 0, none⟩) 0 0) (A : Option Addr) (m c : Nat) (hx : a.eval x = .slice A m c) (hz : ZB W bo) (cs : List Int) (hr : Rd W W.heap.size 1 A m (ints cs)) (hm : m ≤ 1000000) (he : EB W g)
    (h : ∀ A' c' w', ((m = 0 ∧ cs = [] ∧ c' = 0) ∨ w'.ownsRow W.heap.size 3 1 (.slice A' m c') m (ints cs)) → Below W.heap.size W w' → m ≤ c' → c' ≤ maxLen → ZB w' bo → K (a.put o.dst (.slice A' m c')) w') :
    if Region.wanted o (yielded ops a.tmps) = true then Oper.wp Tryz.prog o a W K Q else E :=
  step_appE hgd s x ho hty g hs A m c hx cs hr hm he (fun A' c' w' h1 h2 h3 h4 => h A' c' w' h1 h2 h3 h4 (hz.next h2))
end Go.Proofs.YtfilnnjanhjbeaaGreat
