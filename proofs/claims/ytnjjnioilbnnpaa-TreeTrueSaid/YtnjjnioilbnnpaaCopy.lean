/- The builtin copy between slices, its run told. Conditions: the target's block is known whole. -/
import Derived.Test.YtnjjnioilbnnpaaOwn2
import Derived.Laws.CopyOwn
namespace Go.Proofs.Ytnjjnioilbnnpaa
open Go.RowKit Sl

/-- A copy whose run is known. -/
theorem wpList_cp {P : Program} {w : World} {ops : Array Oper} {rest : List Oper} {o : Oper} {a : Act} {Q : Exit → Act → World → Prop} (hgd : o.guard = none) (s x : Operand) (t t2 ty : TypeId)
    (ho : o.op = .call { callee := .builtin .copy, args := #[s, x], argTypes := #[t, t2] }) (hty : o.type = ty) {v y v' : Value} {w' : World} (hs : a.eval s = v) (hx : a.eval x = y)
    (hrun : (Builtin.copy_ #[t, t2] ty #[v, y]).run P w = .ok v' w') (h : wpList P ops Q rest (a.put o.dst v') w') : wpList P ops Q (o :: rest) a w :=
  wpList_plain hgd fun _ hK => by
    subst hty
    unfold Oper.wp execOp
    simp only [ho, resolve, invoke, builtin, Sem.run_bind, Sem.run_pure, Result.andThen_ok, List.map_toArray, List.map_cons, List.map_nil, hs, hx, hrun]
    exact hK _ _ h
theorem step_cp {P : Program} {w : World} {ops : Array Oper} {o : Oper} {a : Act} {K : Act → World → Prop} {Q : Exit → Act → World → Prop} {E : Prop} (hgd : o.guard = none) (s x : Operand) (t t2 ty : TypeId)
    (ho : o.op = .call { callee := .builtin .copy, args := #[s, x], argTypes := #[t, t2] }) (hty : o.type = ty) {v y v' : Value} {w' : World} (hs : a.eval s = v) (hx : a.eval x = y)
    (hrun : (Builtin.copy_ #[t, t2] ty #[v, y]).run P w = .ok v' w') (h : K (a.put o.dst v') w') : if Region.wanted o (yielded ops a.tmps) = true then Oper.wp P o a w K Q else E := by
  have hw : Region.wanted o (yielded ops a.tmps) = true := by simp [Region.wanted, hgd]
  rw [if_pos hw]
  subst hty
  unfold Oper.wp execOp
  simp only [ho, resolve, invoke, builtin, Sem.run_bind, Sem.run_pure, Result.andThen_ok, List.map_toArray, List.map_cons, List.map_nil, hs, hx, hrun]
  exact h

/-- Only block g has turned. -/
structure Wrote (w w' : World) (g : Nat) : Prop where
  os : w'.os = w.os
  tape : w'.tape = w.tape
  output : w'.output = w.output
  size : w'.heap.size = w.heap.size
  block : ∀ k, k ≠ g → w'.heap[k]? = w.heap[k]?
theorem Wrote.below {B g : Nat} {a w w' : World} (h : Wrote w w' g) (hb : Below B a w) (hg : B ≤ g) : Below B a w' :=
  hb.trans ⟨h.os, h.tape, h.output, by rw [h.size]; exact Nat.le_refl _, fun k hk => h.block k (by omega)⟩
theorem run_cp {P : Program} (w : World) (dT sT ty elem : TypeId) (hu : P.underlying dT = some (.slice elem)) (hsz : (P.info? elem).map (·.size) = some 1) (g o dLen dCap : Nat) (D : Option Addr) (A : Option Addr) (sLen sCap : Nat)
    (cur : Array Value) (t : TypeId) (hg : w.heap[g]? = some (.cells cur t (0, 0))) (B : Nat) (cs : List Value) (hr : Rd w B 1 A sLen cs) (hD : 0 < sLen → D = some ⟨g, o, none⟩) (hle : sLen ≤ dLen) (hfit : o + sLen ≤ cur.size) (h1 : ∀ v ∈ cs, v.oneCell' = true) :
    ∃ w', (Builtin.copy_ #[dT, sT] ty #[.slice D dLen dCap, .slice A sLen sCap]).run P w = .ok (goInt sLen) w' ∧ w'.heap[g]? = some (.cells (splice cur.toList o cs).toArray t (0, 0)) ∧ Wrote w w' g := by
  have hl : cs.length = sLen := by have := hr.1; omega
  by_cases h0 : sLen = 0
  · have hcs : cs = [] := List.eq_nil_of_length_eq_zero (by omega)
    subst hcs; subst h0
    refine ⟨w, run_copy_none (P := P) w dT sT ty elem D A dLen dCap 0 sCap hu hsz (by simp), ?_, ⟨rfl, rfl, rfl, rfl, fun _ _ => rfl⟩⟩
    simpa [splice] using hg
  · obtain ⟨b, off, rfl, _, hc⟩ := hr.2 (by omega)
    have hD' := hD (by omega)
    subst hD'
    have hrun := run_copy_row (P := P) w dT sT ty elem g o dLen dCap ⟨b, off, none⟩ sLen sCap cur t cs hu hsz hg (by rw [hl]; exact (Nat.min_eq_left hle).symm) (fun j v hj => by
      have := hc j v hj
      unfold Addr.add
      by_cases hj0 : j = 0
      · subst hj0; simpa using this
      · rw [if_neg hj0]; exact this) (by rw [hl]; exact hfit) h1
    rw [hl, List.append_assoc] at hrun
    refine ⟨_, hrun, ?_, ⟨rfl, rfl, rfl, by simp [World.setRow], fun k hk => setRow_other w g k _ hk⟩⟩
    have := setRow_heap w g cur (cur.toList.take o ++ (cs ++ cur.toList.drop (o + sLen))).toArray t (0, 0) hg
    rw [this]
    unfold splice
    rw [hl]
theorem own_of_block {w : World} {base g n : Nat} {e : TypeId} {cs : List Value} (hg : w.heap[g]? = some (.cells cs.toArray e (0, 0))) (hb : base ≤ g) (hn : cs.length = n) (hm : n ≤ maxLen) : w.ownsRow base e 1 (.slice (some ⟨g, 0, none⟩) n n) n cs :=
  ⟨by omega, Or.inr ⟨g, n, cs.toArray, rfl, hb, hg, Nat.le_refl _, hm, by simp [hn], by rw [List.take_of_length_le]; simp [hn]⟩⟩
end Go.Proofs.Ytnjjnioilbnnpaa
