/- What Pack has gathered behind n slots. Conditions: as each says. -/
import Derived.Test.YtmdjoafbckphfaaPkFn
import Derived.Test.YtmdjoafbckphfaaWTurn
namespace Go.Proofs.Ytmdjoafbckphfaa
open Go.RowKit Sl
section
variable {w w' : World} {base b : Nat} {tg : Nat → Nat}
theorem own_keptC {size n : Nat} {e : TypeId} {u : Value} {xs : List Value} (h : w.ownsRow base e size u n xs) (hg : w.grownBy w' (some b)) (hC : ¬ TypeB w b e) : w'.ownsRow base e size u n xs :=
  h.kept hg (.inr fun e => hC (own_block h e))
theorem TabO.keptC {t n c : Nat} {A : Option Addr} {xs : List Int} (h : TabO w base tg t A n c xs) (hg : w.grownBy w' (some b)) (hC : TypeB w b 3 → tg b ≠ t) : TabO w' base tg t A n c xs :=
  ⟨h.1, h.2.1, h.2.2.imp id fun ⟨ho, ht⟩ => ⟨ho.kept hg (.inr fun e => hC (own_block ho e) (ht b e)), ht⟩⟩
end
/-- What Pack leaves alone while it gathers. -/
structure PkF (w3 wr : World) (base : Nat) (tg : Nat → Nat) (v : IV) (q : List SV) (p : List PV) (m : Img) (b5 nb mb : Nat) : Prop where
  root : TabO wr base tg 0 v.rA v.rn v.rc m.root
  snaps : wr.ownsRow base 83 3 (.slice v.pA v.pn v.pc) v.pn (p.flatMap PV.cells)
  tabs : ∀ (k : Nat) (x : SV), q[k]? = some x → TabO wr base tg (2 * k + 4) x.A x.n x.c x.s.table
  roots : ∀ (k : Nat) (x : PV), p[k]? = some x → TabO wr base tg (2 * k + 5) x.A x.n x.c x.s.root
  box : Box wr b5 m.guest v
  boxB : BoxB wr b5
  nbox : wr.cell? ⟨nb, 0, none⟩ = some (.map (some mb))
  nG : BoxG wr nb 78
  below : Below base w3 wr
section
variable {w3 wr wr' : World} {base b5 nb mb : Nat} {tg : Nat → Nat} {v : IV} {q : List SV} {p : List PV} {m : Img}
theorem PkF.next (h : PkF w3 wr base tg v q p m b5 nb mb) (hb : Below wr.heap.size wr wr') (hl : base ≤ w3.heap.size) : PkF w3 wr' base tg v q p m b5 nb mb :=
  ⟨h.root.next hb, own_below h.snaps hb, fun k x hx => (h.tabs k x hx).next hb, fun k x hx => (h.roots k x hx).next hb, h.box.keep hb h.boxB.ty.lt, h.boxB.next hb, (hb.cell (p := ⟨nb, 0, none⟩) h.nG.ty.lt).trans h.nbox, h.nG.next hb, h.below.trans (hb.mono (Nat.le_trans hl h.below.size))⟩
theorem PkF.kept (h : PkF w3 wr base tg v q p m b5 nb mb) {b : Nat} (hg : wr.grownBy wr' (some b)) (hl : base ≤ w3.heap.size) (hb : base ≤ b) (hC : ∀ T, TypeB wr b T → T = 80 ∨ (T = 3 ∧ tg b = 1)) : PkF w3 wr' base tg v q p m b5 nb mb := by
  have h1 : TypeB wr b 3 → tg b = 1 := fun hT => by
    rcases hC _ hT with e | ⟨_, e⟩
    · exact absurd e (by decide)
    · exact e
  have no : ∀ T, T ≠ 80 → T ≠ 3 → ¬ TypeB wr b T := fun T a c hT => by
    rcases hC _ hT with e | ⟨e, _⟩
    · exact a e
    · exact c e
  have e5 : some b5 ≠ some b := fun e => by injection e with e; subst e; exact no 27 (by decide) (by decide) h.boxB.ty
  have en : some nb ≠ some b := fun e => by injection e with e; subst e; exact no 78 (by decide) (by decide) h.nG.ty
  exact ⟨h.root.keptC hg (fun hT => by rw [h1 hT]; decide), own_keptC h.snaps hg (no _ (by decide) (by decide)), fun k x hx => (h.tabs k x hx).keptC hg (fun hT => by rw [h1 hT]; omega), fun k x hx => (h.roots k x hx).keptC hg (fun hT => by rw [h1 hT]; omega),
    h.box.kept hg e5, h.boxB.kept hg e5, hg.cell h.nbox en, h.nG.kept hg en, h.below.grown hg (Nat.le_trans hl h.below.size) (fun j e => by injection e with e; omega)⟩
end
/-- The names of the first n slots. -/
def ksl (l : List Slot) : Nat → List (Int × Int)
  | 0 => [(0, 0), (-1, -1)]
  | n + 1 => if kindN l n = 0 then ksl l n else ksl l n ++ [((n : Int), ((used (l.take n) + 1 : Nat) : Int))]
theorem ksl_lt (l : List Slot) : ∀ n, ∀ p ∈ ksl l n, p.1 < (n : Int) ∨ p.1 = 0 := by
  intro n
  induction n with
  | zero => intro p hp; simp [ksl] at hp; rcases hp with rfl | rfl <;> simp
  | succ n ih =>
    intro p hp
    unfold ksl at hp
    split at hp
    · rcases ih p hp with h | h
      · exact .inl (by omega)
      · exact .inr h
    · rcases List.mem_append.1 hp with hp | hp
      · rcases ih p hp with h | h
        · exact .inl (by omega)
        · exact .inr h
      · have : p = ((n : Int), ((used (l.take n) + 1 : Nat) : Int)) := by simpa using hp
        subst this
        exact .inl (by show (n : Int) < ((n + 1 : Nat) : Int); omega)
theorem ksl_find (l : List Slot) {k : Nat} (hk : 1 ≤ k) (hu : kindN l k ≠ 0) : ∀ n, k < n → (ksl l n).find? (fun p => p.1 == (k : Int)) = some ((k : Int), ren l k) := by
  intro n
  induction n with
  | zero => intro h; omega
  | succ n ih =>
    intro h
    unfold ksl
    by_cases hkn : k < n
    · split
      · exact ih hkn
      · rw [List.find?_append, ih hkn]; rfl
    · obtain rfl : k = n := by omega
      have hno : (ksl l k).find? (fun p => p.1 == (k : Int)) = none := by
        rw [List.find?_eq_none]
        intro p hp
        have := ksl_lt l k p hp
        simp only [beq_iff_eq]
        omega
      rw [if_neg hu, List.find?_append, hno, ren_nat hk]
      simp
theorem ksl_low (l : List Slot) {x : Int} (hx : x = 0 ∨ x = -1) : ∀ n, (ksl l n).find? (fun p => p.1 == x) = some (x, x) := by
  intro n
  induction n with
  | zero => rcases hx with rfl | rfl <;> rfl
  | succ n ih =>
    unfold ksl
    split
    · exact ih
    · rw [List.find?_append, ih]; rfl
theorem ksl_all {l : List Slot} {x : Int} (h : ValidE l x) (h1 : -1 ≤ x) : ∃ k', (ksl l l.length).find? (fun p => p.1 == x) = some (k', ren l x) := by
  rcases h with h | ⟨n, s, rfl, n1, hs, hk⟩
  · rw [ren_low h]; exact ⟨x, ksl_low l (by omega) _⟩
  · exact ⟨_, ksl_find l n1 (by rw [kindN_at hs]; exact hk) _ (List.getElem?_eq_some_iff.1 hs).1⟩
/-- What Pack has gathered behind n slots. -/
structure PkAt (w3 wr : World) (base : Nat) (tg : Nat → Nat) (v : IV) (q : List SV) (p : List PV) (m : Img) (x0 : SV) (b5 nb mb n : Nat) (q' : List SV) (f' : List Int) : Prop where
  frame : PkF w3 wr base tg v q p m b5 nb mb
  slots : wr.ownsRow base 80 3 (.slice v.sA v.sn v.sc) v.sn (q'.flatMap SV.cells)
  ql : q'.length = v.sn
  qpre : q'.take (used (m.slots.take n) + 1) = x0 :: (q.take n).filter keptV
  qrest : ∀ j, n ≤ j → q'[j]? = q[j]?
  refs : wr.ownsRow base 3 1 (.slice v.fA v.fn v.fc) v.fn (ints f')
  fl : f'.length = v.fn
  fpre : f'.take (used (m.slots.take n) + 1) = packR (m.slots.take n) (m.refs.take n)
  frest : ∀ j, n ≤ j → f'[j]? = m.refs[j]?
  map : MapAt wr mb (ksl m.slots n)
section
variable {w3 wr wr' : World} {base b5 nb mb n : Nat} {tg : Nat → Nat} {v : IV} {q : List SV} {p : List PV} {m : Img} {x0 : SV} {q' : List SV} {f' : List Int}
theorem PkAt.next (h : PkAt w3 wr base tg v q p m x0 b5 nb mb n q' f') (hb : Below wr.heap.size wr wr') (hl : base ≤ w3.heap.size) : PkAt w3 wr' base tg v q p m x0 b5 nb mb n q' f' :=
  ⟨h.frame.next hb hl, own_below h.slots hb, h.ql, h.qpre, h.qrest, own_below h.refs hb, h.fl, h.fpre, h.frest, h.map.next hb⟩
theorem zip_take_succ {l : List Slot} {f : List Int} {n : Nat} {s : Slot} {r : Int} (hs : l[n]? = some s) (hf : f[n]? = some r) : (l.take (n + 1)).zip (f.take (n + 1)) = (l.take n).zip (f.take n) ++ [(s, r)] := by
  have h1 := (List.getElem?_eq_some_iff.1 hs).1
  have h2 := (List.getElem?_eq_some_iff.1 hf).1
  rw [List.take_add_one, List.take_add_one, hs, hf, List.zip_append (by rw [List.length_take, List.length_take]; omega)]
  rfl
theorem packR_free {l : List Slot} {f : List Int} {n : Nat} {s : Slot} {r : Int} (hs : l[n]? = some s) (hf : f[n]? = some r) (hk : s.kind = 0) : packR (l.take (n + 1)) (f.take (n + 1)) = packR (l.take n) (f.take n) := by
  unfold packR
  rw [zip_take_succ hs hf, List.filter_append]
  simp [keptS, hk]
theorem packR_used {l : List Slot} {f : List Int} {n : Nat} {s : Slot} {r : Int} (hs : l[n]? = some s) (hf : f[n]? = some r) (hk : s.kind ≠ 0) : packR (l.take (n + 1)) (f.take (n + 1)) = packR (l.take n) (f.take n) ++ [r] := by
  unfold packR
  rw [zip_take_succ hs hf, List.filter_append]
  simp [keptS, hk]
theorem filt_succ {q : List SV} {n : Nat} {x : SV} (hx : q[n]? = some x) : (q.take (n + 1)).filter keptV = (q.take n).filter keptV ++ (if x.s.kind = 0 then [] else [x]) := by
  rw [List.take_add_one, hx, List.filter_append]
  by_cases hk : x.s.kind = 0
  · rw [if_pos hk]; simp [keptV, keptS, hk]
  · rw [if_neg hk]; simp [keptV, keptS, hk]
theorem take_set {α : Type} {l : List α} {k : Nat} {x : α} (h : k < l.length) : (l.set k x).take (k + 1) = l.take k ++ [x] := by
  rw [List.take_add_one, List.getElem?_set_self h, List.take_set_of_le (Nat.le_refl _)]; rfl
theorem PkAt.skip (h : PkAt w3 wr base tg v q p m x0 b5 nb mb n q' f') (hq : q.map (·.s) = m.slots) {x : SV} {r : Int} (hx : q[n]? = some x) (hr : m.refs[n]? = some r) (hk : x.s.kind = 0) : PkAt w3 wr base tg v q p m x0 b5 nb mb (n + 1) q' f' := by
  have hs : m.slots[n]? = some x.s := by rw [← hq, List.getElem?_map, hx]; rfl
  have hu := used_take_succ m.slots n x.s hs
  rw [if_pos hk, Nat.add_zero] at hu
  refine ⟨h.frame, h.slots, h.ql, ?_, fun j hj => h.qrest j (by omega), h.refs, h.fl, ?_, fun j hj => h.frest j (by omega), ?_⟩
  · rw [hu, filt_succ hx, if_pos hk, List.append_nil]; exact h.qpre
  · rw [hu, packR_free hs hr hk]; exact h.fpre
  · unfold ksl; rw [if_pos (by rw [kindN_at hs]; exact hk)]; exact h.map
theorem flat_put {q : List SV} {k : Nat} {x : SV} (hk : k < q.length) : (q.flatMap SV.cells).take (k * 3) ++ x.cells ++ (q.flatMap SV.cells).drop ((k + 1) * 3) = (q.set k x).flatMap SV.cells := by
  have e : q = q.take k ++ q[k] :: q.drop (k + 1) := by
    rw [← List.drop_eq_getElem_cons hk, List.take_append_drop]
  have h1 : ((q.take k).flatMap SV.cells).length = k * 3 := by rw [flat3_len _ SV.cells_len, List.length_take]; omega
  have e1 : (q.flatMap SV.cells).take (k * 3) = (q.take k).flatMap SV.cells := by
    conv => lhs; rw [e]
    rw [List.flatMap_append, ← h1, List.take_left]
  have e2 : (q.flatMap SV.cells).drop ((k + 1) * 3) = (q.drop (k + 1)).flatMap SV.cells := by
    have h2 : ((q.take (k + 1)).flatMap SV.cells).length = (k + 1) * 3 := by rw [flat3_len _ SV.cells_len, List.length_take]; omega
    conv => lhs; rw [← List.take_append_drop (k + 1) q]
    rw [List.flatMap_append, ← h2, List.drop_left]
  rw [e1, e2, List.set_eq_take_append_cons_drop, if_pos hk, List.flatMap_append, List.flatMap_cons, List.append_assoc]
theorem PkAt.take (h : PkAt w3 wr base tg v q p m x0 b5 nb mb n q' f') (hl : base ≤ w3.heap.size) (hq : q.map (·.s) = m.slots) {x : SV} {r : Int} (hx : q[n]? = some x) (hr : m.refs[n]? = some r) (hk : x.s.kind ≠ 0) (hn : n < v.sn) (hfn : v.fn = v.sn) (hu0 : used (m.slots.take n) + 1 ≤ n)
    {sb fb : Nat} (hA : v.sA = some ⟨sb, 0, none⟩) (hF : v.fA = some ⟨fb, 0, none⟩) (hmb : base ≤ mb) (htag : tg fb = 1)
    {w1 w2 w4 : World} (g1 : wr.grownBy w1 (some mb)) (hM : MapAt w1 mb (ksl m.slots n ++ [((n : Int), ((used (m.slots.take n) + 1 : Nat) : Int))]))
    {wa : World} (ba : Below w1.heap.size w1 wa) (g2 : wa.grownBy w2 (some sb)) (o2 : w2.ownsRow base 80 3 (.slice v.sA v.sn v.sc) v.sn ((q'.flatMap SV.cells).take ((used (m.slots.take n) + 1) * 3) ++ x.cells ++ (q'.flatMap SV.cells).drop ((used (m.slots.take n) + 1 + 1) * 3)))
    {wb : World} (bb : Below w2.heap.size w2 wb) (g4 : wb.grownBy w4 (some fb)) (o4 : w4.ownsRow base 3 1 (.slice v.fA v.fn v.fc) v.fn ((ints f').take ((used (m.slots.take n) + 1) * 1) ++ [.int .i64 r] ++ (ints f').drop ((used (m.slots.take n) + 1 + 1) * 1))) :
    PkAt w3 w4 base tg v q p m x0 b5 nb mb (n + 1) (q'.set (used (m.slots.take n) + 1) x) (f'.set (used (m.slots.take n) + 1) r) := by
  have hs : m.slots[n]? = some x.s := by rw [← hq, List.getElem?_map, hx]; rfl
  have hu := used_take_succ m.slots n x.s hs
  rw [if_neg hk] at hu
  generalize hkk : used (m.slots.take n) + 1 = k at *
  have hkq : k < q'.length := by rw [h.ql]; omega
  have hkf : k < f'.length := by rw [h.fl]; omega
  have f1 := h.frame.kept g1 hl hmb (fun T hT => by
    obtain ⟨es, c, e1, _⟩ := h.map
    obtain ⟨cur, fz, e2⟩ := hT
    rw [e1] at e2; cases e2)
  have s1 := own_keptC h.slots g1 (fun hT => map_not h.map hT)
  have r1 := own_keptC h.refs g1 (fun hT => map_not h.map hT)
  have f2 := f1.next ba hl
  have ra := own_below r1 ba
  have sa := own_below s1 ba
  have Ma := hM.next ba
  have hTs : TypeB wa sb 80 := own_block sa (by rw [hA]; rfl)
  have hbs : base ≤ sb := (sa.lt sb (by rw [hA]; rfl)).1
  have uniq : ∀ {W : World} {b : Nat} {T T' : TypeId}, TypeB W b T → TypeB W b T' → T' = T := fun h1 h2 => Classical.byContradiction fun hne => h1.ne h2 (fun e => hne e.symm) rfl
  have f3 := f2.kept g2 hl hbs (fun T hT => .inl (uniq hTs hT))
  have r3 := own_keptC ra g2 (fun hT => absurd (uniq hTs hT) (by decide))
  have M3 := Ma.kept g2 (fun e => by injection e with e; subst e; exact map_not Ma hTs)
  have f4 := f3.next bb hl
  have r4 := own_below r3 bb
  have s4 := own_below o2 bb
  have M4 := M3.next bb
  have hTf : TypeB wb fb 3 := own_block r4 (by rw [hF]; rfl)
  have hbf : base ≤ fb := (r4.lt fb (by rw [hF]; rfl)).1
  have f5 := f4.kept g4 hl hbf (fun T hT => .inr ⟨uniq hTf hT, htag⟩)
  have s5 := own_keptC s4 g4 (fun hT => absurd (uniq hTf hT) (by decide))
  have M5 := M4.kept g4 (fun e => by injection e with e; subst e; exact map_not M4 hTf)
  rw [flat_put hkq] at s5
  have ei : (ints f').take (k * 1) ++ [.int .i64 r] ++ (ints f').drop ((k + 1) * 1) = ints (f'.set k r) := by
    rw [Nat.mul_one, Nat.mul_one]
    unfold ints
    rw [List.map_set, List.set_eq_take_append_cons_drop, if_pos (by rw [List.length_map]; exact hkf), List.append_assoc]
    rfl
  rw [ei] at o4
  refine ⟨f5, s5, by rw [List.length_set]; exact h.ql, ?_, fun j hj => ?_, o4, by rw [List.length_set]; exact h.fl, ?_, fun j hj => ?_, ?_⟩
  · have e1 : used (m.slots.take (n + 1)) + 1 = k + 1 := by omega
    have hp := h.qpre
    rw [hkk] at hp
    rw [e1, take_set hkq, hp, filt_succ hx, if_neg hk]; rfl
  · rw [List.getElem?_set_ne (by omega)]; exact h.qrest j (by omega)
  · have e1 : used (m.slots.take (n + 1)) + 1 = k + 1 := by omega
    have hp := h.fpre
    rw [hkk] at hp
    rw [e1, take_set hkf, hp, packR_used hs hr hk]
  · rw [List.getElem?_set_ne (by omega)]; exact h.frest j (by omega)
  · unfold ksl
    rw [if_neg (by rw [kindN_at hs]; exact hk), hkk]
    exact M5
theorem PkAt.mid1 (h : PkAt w3 wr base tg v q p m x0 b5 nb mb n q' f') (hl : base ≤ w3.heap.size) (hmb : base ≤ mb) {w1 : World} (g1 : wr.grownBy w1 (some mb)) : PkF w3 w1 base tg v q p m b5 nb mb ∧ w1.ownsRow base 80 3 (.slice v.sA v.sn v.sc) v.sn (q'.flatMap SV.cells) ∧ w1.ownsRow base 3 1 (.slice v.fA v.fn v.fc) v.fn (ints f') :=
  ⟨h.frame.kept g1 hl hmb (fun _ hT => (map_not h.map hT).elim), own_keptC h.slots g1 (fun hT => map_not h.map hT), own_keptC h.refs g1 (fun hT => map_not h.map hT)⟩
theorem PkF.mid2 {wa w2 : World} {sb : Nat} (h : PkF w3 wa base tg v q p m b5 nb mb) (hl : base ≤ w3.heap.size) (s : wa.ownsRow base 80 3 (.slice v.sA v.sn v.sc) v.sn (q'.flatMap SV.cells)) (hA : v.sA = some ⟨sb, 0, none⟩) (r : wa.ownsRow base 3 1 (.slice v.fA v.fn v.fc) v.fn (ints f')) (g2 : wa.grownBy w2 (some sb)) :
    PkF w3 w2 base tg v q p m b5 nb mb ∧ w2.ownsRow base 3 1 (.slice v.fA v.fn v.fc) v.fn (ints f') := by
  have hTs : TypeB wa sb 80 := own_block s (by rw [hA]; rfl)
  have hbs : base ≤ sb := (s.lt sb (by rw [hA]; rfl)).1
  have uniq : ∀ {T' : TypeId}, TypeB wa sb T' → T' = 80 := fun h2 => Classical.byContradiction fun hne => hTs.ne h2 (fun e => hne e.symm) rfl
  exact ⟨h.kept g2 hl hbs (fun T hT => .inl (uniq hT)), own_keptC r g2 (fun hT => absurd (uniq hT) (by decide))⟩
end
/-- What Pack holds while it renames. -/
structure PkR (w3 wr : World) (base : Nat) (tg : Nat → Nat) (v : IV) (q : List SV) (p : List PV) (m : Img) (b5 nb mb : Nat) (ov : IV) (g : Int) (ks : List (Int × Int)) : Prop where
  own : OwnI wr base tg v q p m
  box : Box wr b5 g ov
  boxB : BoxB wr b5
  nbox : wr.cell? ⟨nb, 0, none⟩ = some (.map (some mb))
  nG : BoxG wr nb 78
  map : MapAt wr mb ks
  below : Below base w3 wr
section
variable {w3 wr wr' : World} {base b5 nb mb : Nat} {tg : Nat → Nat} {v ov : IV} {q : List SV} {p : List PV} {m : Img} {g : Int} {ks : List (Int × Int)}
theorem PkR.next (h : PkR w3 wr base tg v q p m b5 nb mb ov g ks) (hb : Below wr.heap.size wr wr') (hl : base ≤ w3.heap.size) : PkR w3 wr' base tg v q p m b5 nb mb ov g ks :=
  ⟨h.own.next hb, h.box.keep hb h.boxB.ty.lt, h.boxB.next hb, (hb.cell (p := ⟨nb, 0, none⟩) h.nG.ty.lt).trans h.nbox, h.nG.next hb, h.map.next hb, h.below.trans (hb.mono (Nat.le_trans hl h.below.size))⟩
theorem PkR.put {q' : List SV} {p' : List PV} {m' : Img} {row : Option Nat} (h : PkR w3 wr base tg v q p m b5 nb mb ov g ks) (hg : wr.grownBy wr' row) (hr : ∀ b, row = some b → TypeB wr b 3 ∧ base ≤ b) (hl : base ≤ w3.heap.size) (ho : OwnI wr' base tg v q' p' m') : PkR w3 wr' base tg v q' p' m' b5 nb mb ov g ks := by
  have e5 : some b5 ≠ row := fun e => h.boxB.ty.ne (hr b5 e.symm).1 (by decide) rfl
  have en : some nb ≠ row := fun e => h.nG.ty.ne (hr nb e.symm).1 (by decide) rfl
  have em : some mb ≠ row := fun e => map_not h.map (hr mb e.symm).1
  exact ⟨ho, h.box.kept hg e5, h.boxB.kept hg e5, hg.cell h.nbox en, h.nG.kept hg en, h.map.kept hg em, h.below.grown hg (Nat.le_trans hl h.below.size) (fun j e => (hr j e).2)⟩
end
section
variable {α : Type}
theorem renG_set {f : α → α} {xs : List α} {k : Nat} {x : α} (hx : xs[k]? = some x) : ((xs.take k).map f ++ xs.drop k).set k (f x) = (xs.take (k + 1)).map f ++ xs.drop (k + 1) := by
  have hk := (List.getElem?_eq_some_iff.1 hx).1
  have hd : xs.drop k = x :: xs.drop (k + 1) := by
    rw [List.drop_eq_getElem_cons hk]
    congr 1
    exact (List.getElem?_eq_some_iff.1 hx).2
  have hl : ((xs.take k).map f).length = k := by rw [List.length_map, List.length_take]; omega
  rw [hd, List.set_append_right _ _ (by omega), hl, Nat.sub_self, List.set_cons_zero, List.take_add_one, hx, List.map_append]
  simp
theorem renG_at {f : α → α} {xs : List α} {k : Nat} : ((xs.take k).map f ++ xs.drop k)[k]? = xs[k]? := by
  by_cases hk : k < xs.length
  · have hl : ((xs.take k).map f).length = k := by rw [List.length_map, List.length_take]; omega
    rw [List.getElem?_append_right (by omega), hl, Nat.sub_self, List.getElem?_drop, Nat.add_zero]
  · rw [List.getElem?_eq_none (by simp; omega), List.getElem?_eq_none (by omega)]
end
end Go.Proofs.Ytmdjoafbckphfaa
