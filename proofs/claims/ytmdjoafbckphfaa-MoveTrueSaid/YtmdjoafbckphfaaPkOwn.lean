/- Rows of an own image turned one by one; its slots cut and numbered anew. Conditions: as each says. -/
import Derived.Test.YtmdjoafbckphfaaPkMem
namespace Go.Proofs.Ytmdjoafbckphfaa
open Go.RowKit Sl
section
variable {w w' : World} {base : Nat} {tg : Nat → Nat} {v : IV} {q : List SV} {p : List PV} {m : Img} {row : Option Nat}
theorem own_row_hit {size n base' : Nat} {e T : TypeId} {u : Value} {xs : List Value} (h : w.ownsRow base' e size u n xs) (hr : ∀ b, row = some b → TypeB w b T) (hne : T ≠ e) : u.ownBlock = none ∨ u.ownBlock ≠ row := by
  cases row with
  | none => cases hu : u.ownBlock with
    | none => exact .inl rfl
    | some b => exact .inr (fun e => by cases e)
  | some b => exact own_far h (hr b rfl) hne
theorem TabO.miss {t t' n c : Nat} {A : Option Addr} {xs : List Int} (h : TabO w base tg t A n c xs) (hg : w.grownBy w' row) (hr : ∀ b, row = some b → tg b = t') (hne : t' ≠ t) : TabO w' base tg t A n c xs :=
  h.kept hg fun b e _ => .inr (by rw [hr b e]; exact hne)
theorem flat_same {α : Type} {f : α → List Value} {q : List α} {k : Nat} {x x' : α} (hx : q[k]? = some x) (h : f x' = f x) : (q.set k x').flatMap f = q.flatMap f := by
  rw [List.flatMap_def, List.flatMap_def, List.map_set, h]
  congr 1
  apply List.ext_getElem?
  intro j
  rw [List.getElem?_set]
  split
  · rename_i e
    subst e
    rw [List.getElem?_map, hx, List.length_map, if_pos (List.getElem?_eq_some_iff.1 hx).1]; rfl
  · rfl
theorem OwnI.putRoot {ys : List Int} (h : OwnI w base tg v q p m) (hg : w.grownBy w' row) (hr : ∀ b, row = some b → tg b = 0 ∧ TypeB w b 3) (ht : TabO w' base tg 0 v.rA v.rn v.rc ys) : OwnI w' base tg v q p { m with root := ys } :=
  ⟨ht, h.refs.miss hg (fun b e => (hr b e).1) (by decide), h.slots.kept hg (own_row_hit h.slots (fun b e => (hr b e).2) (by decide)), h.sle, h.scap, h.snaps.kept hg (own_row_hit h.snaps (fun b e => (hr b e).2) (by decide)), h.ple, h.pcap, h.hq, h.hp,
    fun j x hx => ⟨(h.tabs j x hx).1, (h.tabs j x hx).2.miss hg (fun b e => (hr b e).1) (by omega)⟩, fun j x hx => ⟨(h.roots j x hx).1, (h.roots j x hx).2.miss hg (fun b e => (hr b e).1) (by omega)⟩⟩
theorem OwnI.putTab {ys : List Int} {k : Nat} {x : SV} (h : OwnI w base tg v q p m) (hx : q[k]? = some x) (hg : w.grownBy w' row) (hr : ∀ b, row = some b → tg b = 2 * k + 4 ∧ TypeB w b 3) (ht : TabO w' base tg (2 * k + 4) x.A x.n x.c ys) :
    OwnI w' base tg v (q.set k ⟨{ x.s with table := ys }, x.A, x.n, x.c⟩) p { m with slots := m.slots.set k { x.s with table := ys } } := by
  refine ⟨h.root.miss hg (fun b e => (hr b e).1) (by omega), h.refs.miss hg (fun b e => (hr b e).1) (by omega), ?_, h.sle, h.scap, h.snaps.kept hg (own_row_hit h.snaps (fun b e => (hr b e).2) (by decide)), h.ple, h.pcap, ?_, h.hp, fun j y hy => ?_,
    fun j y hy => ⟨(h.roots j y hy).1, (h.roots j y hy).2.miss hg (fun b e => (hr b e).1) (by omega)⟩⟩
  · rw [flat_same (x' := ⟨{ x.s with table := ys }, x.A, x.n, x.c⟩) hx rfl]
    exact h.slots.kept hg (own_row_hit h.slots (fun b e => (hr b e).2) (by decide))
  · rw [List.map_set, h.hq]
  · rw [List.getElem?_set] at hy
    split at hy
    · rename_i e
      subst e
      rw [if_pos (List.getElem?_eq_some_iff.1 hx).1] at hy
      injection hy with hy
      subst hy
      exact ⟨(h.tabs k x hx).1, ht⟩
    · rename_i hne
      exact ⟨(h.tabs j y hy).1, (h.tabs j y hy).2.miss hg (fun b e => (hr b e).1) (by omega)⟩
theorem OwnI.putSnap {ys : List Int} {k : Nat} {x : PV} (h : OwnI w base tg v q p m) (hx : p[k]? = some x) (hg : w.grownBy w' row) (hr : ∀ b, row = some b → tg b = 2 * k + 5 ∧ TypeB w b 3) (ht : TabO w' base tg (2 * k + 5) x.A x.n x.c ys) :
    OwnI w' base tg v q (p.set k ⟨{ x.s with root := ys }, x.A, x.n, x.c⟩) { m with snaps := m.snaps.set k { x.s with root := ys } } := by
  refine ⟨h.root.miss hg (fun b e => (hr b e).1) (by omega), h.refs.miss hg (fun b e => (hr b e).1) (by omega), h.slots.kept hg (own_row_hit h.slots (fun b e => (hr b e).2) (by decide)), h.sle, h.scap, ?_, h.ple, h.pcap, h.hq, ?_,
    fun j y hy => ⟨(h.tabs j y hy).1, (h.tabs j y hy).2.miss hg (fun b e => (hr b e).1) (by omega)⟩, fun j y hy => ?_⟩
  · rw [flat_same (x' := ⟨{ x.s with root := ys }, x.A, x.n, x.c⟩) hx rfl]
    exact h.snaps.kept hg (own_row_hit h.snaps (fun b e => (hr b e).2) (by decide))
  · rw [List.map_set, h.hp]
  · rw [List.getElem?_set] at hy
    split at hy
    · rename_i e
      subst e
      rw [if_pos (List.getElem?_eq_some_iff.1 hx).1] at hy
      injection hy with hy
      subst hy
      exact ⟨(h.roots k x hx).1, ht⟩
    · rename_i hne
      exact ⟨(h.roots j y hy).1, (h.roots j y hy).2.miss hg (fun b e => (hr b e).1) (by omega)⟩
/-- A row cut behind k elements. -/
theorem own_cut {size n c k g : Nat} {e : TypeId} {xs : List Value} (h : w.ownsRow base e size (.slice (some ⟨g, 0, none⟩) n c) n xs) (hk : k ≤ n) : w.ownsRow base e size (.slice (some ⟨g, 0, none⟩) k c) k (xs.take (k * size)) := by
  have hx : xs.length = n * size := h.1
  have hks : k * size ≤ n * size := Nat.mul_le_mul_right _ hk
  rcases h.2 with ⟨hv, _⟩ | ⟨g', cap, cur, hv, hbg, hg, hnc, hcm, hcs, htake⟩
  · simp at hv
  · simp only [Value.slice.injEq, Option.some.injEq, Addr.mk.injEq, and_true, true_and] at hv
    obtain ⟨rfl, rfl⟩ := hv
    refine ⟨by rw [List.length_take, hx]; omega, .inr ⟨g, c, cur, rfl, hbg, hg, by omega, hcm, hcs, ?_⟩⟩
    rw [← htake, List.take_take, Nat.min_eq_left hks]
def keptV (x : SV) : Bool := keptS x.s
theorem filter_backV : ∀ (q : List SV) (j : Nat) (x : SV), (q.filter keptV)[j]? = some x → ∃ n, q[n]? = some x ∧ x.s.kind ≠ 0 ∧ used ((q.map (·.s)).take n) = j := by
  intro q
  induction q with
  | nil => intro j x h; simp at h
  | cons a q ih =>
    intro j x h
    by_cases ha : a.s.kind = 0
    · rw [List.filter_cons_of_neg (show ¬ keptV a = true by unfold keptV; rw [kept_no ha]; decide)] at h
      obtain ⟨n, h1, h2, h3⟩ := ih j x h
      exact ⟨n + 1, by simpa using h1, h2, by rw [List.map_cons, List.take_succ_cons]; simp [used, ha, h3]⟩
    · rw [List.filter_cons_of_pos (show keptV a = true from kept_yes ha)] at h
      cases j with
      | zero => simp at h; subst h; exact ⟨0, rfl, ha, rfl⟩
      | succ j =>
        obtain ⟨n, h1, h2, h3⟩ := ih j x (by simpa using h)
        exact ⟨n + 1, by simpa using h1, h2, by rw [List.map_cons, List.take_succ_cons]; simp [used, ha, h3]; omega⟩
theorem map_filterV (q : List SV) : (q.filter keptV).map (·.s) = (q.map (·.s)).filter keptS := by
  induction q with
  | nil => rfl
  | cons a q ih =>
    by_cases ha : keptS a.s = true
    · rw [List.filter_cons_of_pos (show keptV a = true from ha), List.map_cons, List.map_cons, List.filter_cons_of_pos ha, ih]
    · rw [List.filter_cons_of_neg (show ¬ keptV a = true from ha), List.map_cons, List.filter_cons_of_neg ha, ih]
/-- The tags of tables behind the cut. -/
def cutTag (l : List Slot) (t : Nat) : Nat := if t % 2 = 0 ∧ 4 < t then 2 * (used (l.take ((t - 4) / 2)) + 1) + 4 else t
theorem cut_tab (l : List Slot) {n : Nat} (h : 1 ≤ n) : cutTag l (2 * n + 4) = 2 * (used (l.take n) + 1) + 4 := by
  unfold cutTag
  rw [if_pos ⟨by omega, by omega⟩, show (2 * n + 4 - 4) / 2 = n from by omega]
theorem cut_odd (l : List Slot) (n : Nat) : cutTag l (2 * n + 5) = 2 * n + 5 := by unfold cutTag; rw [if_neg (by omega)]
theorem TabO.retagT {t n c : Nat} {A : Option Addr} {xs : List Int} (h : TabO w base tg t A n c xs) {f : Nat → Nat} {t' : Nat} (hf : f t = t') (h4 : 4 ≤ t → 4 ≤ t') : TabO w base (fun b => f (tg b)) t' A n c xs :=
  ⟨h.1, h.2.1, h.2.2.imp (fun ⟨a, b, c⟩ => ⟨a, b, c.imp h4 id⟩) fun ⟨ho, ht⟩ => ⟨ho, fun b e => by show f (tg b) = t'; rw [ht b e]; exact hf⟩⟩
/-- The slots that are used, moved to the front. -/
theorem OwnI.cut {w1 : World} {sb fb k : Nat} {q' : List SV} {f' : List Int} {x0 : SV} (h : OwnI w base tg v q p m) (hx0 : q[0]? = some x0) (h0 : x0.s = freeSlot)
    (hA : v.sA = some ⟨sb, 0, none⟩) (hF : v.fA = some ⟨fb, 0, none⟩) (hk : k = used m.slots + 1) (hkn : k ≤ v.sn) (hkf : k ≤ v.fn) (hl : q'.length = v.sn) (hf' : f'.length = v.fn)
    (hslots : w1.ownsRow base 80 3 (.slice v.sA v.sn v.sc) v.sn (q'.flatMap SV.cells)) (hrefs : w1.ownsRow base 3 1 (.slice v.fA v.fn v.fc) v.fn (ints f')) (hpre : q'.take k = x0 :: q.filter keptV) (hfr : f'.take k = packR m.slots m.refs)
    (hroot : TabO w1 base tg 0 v.rA v.rn v.rc m.root) (htag : ∀ b, (Value.slice v.fA v.fn v.fc).ownBlock = some b → tg b = 1) (hsnaps : w1.ownsRow base 83 3 (.slice v.pA v.pn v.pc) v.pn (p.flatMap PV.cells))
    (htabs : ∀ (k : Nat) (x : SV), q[k]? = some x → TabO w1 base tg (2 * k + 4) x.A x.n x.c x.s.table) (hroots : ∀ (k : Nat) (x : PV), p[k]? = some x → TabO w1 base tg (2 * k + 5) x.A x.n x.c x.s.root) :
    OwnI w1 base (fun b => cutTag m.slots (tg b)) { v with sn := k, fn := k } (x0 :: q.filter keptV) p { m with slots := freeSlot :: m.slots.filter keptS, refs := packR m.slots m.refs } := by
  have hq := h.hq
  have hcs := h.scap
  have hcr := h.refs.2.1
  have hle := h.sle
  have hre := h.refs.1
  rw [hA] at hslots
  rw [hF] at hrefs
  have s1 := own_cut hslots hkn
  have r1 := own_cut hrefs hkf
  have e1 : (q'.flatMap SV.cells).take (k * 3) = (x0 :: q.filter keptV).flatMap SV.cells := by
    rw [← hpre]
    have e := List.take_append_drop k q'
    conv => lhs; rw [← e]
    have hlen : ((q'.take k).flatMap SV.cells).length = k * 3 := by rw [flat3_len _ SV.cells_len, List.length_take]; omega
    rw [List.flatMap_append, ← hlen]
    exact List.take_left
  have e2 : (ints f').take (k * 1) = ints (packR m.slots m.refs) := by rw [← hfr, Nat.mul_one]; unfold ints; rw [List.map_take]
  rw [e1] at s1
  rw [e2] at r1
  refine ⟨hroot.retagT (by rfl) (fun h => absurd h (by decide)), ⟨by show k ≤ v.fc; omega, ⟨by show k ≤ _; omega, hcr.2⟩, .inr ⟨by rw [hF]; exact r1, fun b e => ?_⟩⟩, by rw [hA]; exact s1, by show k ≤ v.sc; omega, ⟨by show k ≤ _; omega, hcs.2⟩, hsnaps, h.ple, h.pcap, ?_, h.hp, fun j x hx => ?_, fun j x hx => ⟨(h.roots j x hx).1, (hroots j x hx).retagT (cut_odd _ _) (fun _ => by omega)⟩⟩
  · have e' : (Value.slice v.fA v.fn v.fc).ownBlock = some b := by rw [hF] at e ⊢; exact e
    show cutTag m.slots (tg b) = 1
    rw [htag b e']; rfl
  · rw [List.map_cons, h0, map_filterV, hq]
  · cases j with
    | zero =>
      have hx : x0 = x := by simpa using hx
      subst hx
      have ht := htabs 0 _ hx0
      refine ⟨(h.tabs 0 _ hx0).1, ht.retagT (by rfl) (fun _ => by omega)⟩
    | succ j =>
      have hx : (q.filter keptV)[j]? = some x := by simpa using hx
      obtain ⟨n, h1, h2, h3⟩ := filter_backV q j x hx
      have hn1 : 1 ≤ n := by
        rcases Nat.eq_zero_or_pos n with e | e
        · subst e
          rw [hx0] at h1
          injection h1 with h1
          subst h1
          rw [h0] at h2
          exact absurd rfl h2
        · exact e
      rw [hq] at h3
      refine ⟨(h.tabs n x h1).1, (htabs n x h1).retagT ?_ (fun _ => by omega)⟩
      rw [cut_tab _ hn1, h3]
end
end Go.Proofs.Ytmdjoafbckphfaa
