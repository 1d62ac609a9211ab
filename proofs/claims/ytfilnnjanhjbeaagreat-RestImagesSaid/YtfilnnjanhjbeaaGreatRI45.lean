/- Texts of the proof of restImages_holds: RPackP, StkF. Conditions: as each text says. -/
import Derived.Test.YtfilnnjanhjbeaaGreatRI41
import Derived.Test.YtfilnnjanhjbeaaGreatRI42
import Derived.Test.YtfilnnjanhjbeaaGreatRI29
import Derived.Test.YtfilnnjanhjbeaaGreatRI11
namespace Go.Proofs.YtfilnnjanhjbeaaGreat
open Go.RowKit Sl
section
variable {w w' : World} {base : Nat} {tg : Nat → Nat} {v : IV} {q : List SV} {p : List PV} {m : Img}
set_option maxRecDepth 100000 in
theorem OwnI.pushRef (h : OwnI w base tg v q p m) (x : Int) (hb : base ≤ w.heap.size) (h1n : 1 ≤ v.fn) (hn : v.fn ≤ 1000000) : ∃ A' c' w' tg', (Builtin.append_ #[22, 22] 22 #[.slice v.fA v.fn v.fc, .slice (some ⟨w.heap.size, 0, none⟩) 1 1]).run Tryz.prog (w.alloc (.cells #[.int .i64 x] 3)) = .ok (.slice A' (v.fn + 1) c') w' ∧
    OwnI w' base tg' { v with fA := A', fn := v.fn + 1, fc := c' } q p { m with refs := m.refs ++ [x] } ∧ Below base w w' ∧ (w.alloc (.cells #[.int .i64 x] 3)).grownBy w' (Value.slice v.fA v.fn v.fc).ownBlock ∧ (∀ b, (Value.slice v.fA v.fn v.fc).ownBlock = some b → TypeB w b 3) := by
  obtain ⟨i0, hi0, hz0, hz1, hz2⟩ := info_parts Tryz.infoInt
  obtain ⟨ho, hT⟩ : w.ownsRow base 3 1 (.slice v.fA v.fn v.fc) v.fn (ints m.refs) ∧ ∀ b, (Value.slice v.fA v.fn v.fc).ownBlock = some b → tg b = 1 := by
    rcases h.refs.2.2 with ⟨h0, _⟩ | hh
    · omega
    · exact hh
  obtain ⟨A', c', w', q1, q2, q3, q4, q5, q6, q7⟩ := app_one (P := Tryz.prog) w base 22 22 3 i0 _ 1 8 Tryz.underlying22 hi0 hz0 hz1 hz2 rfl (by omega) (.slice v.fA v.fn v.fc) v.fn (ints m.refs) ho #[.int .i64 x] rfl (by intro u hu; simp at hu; subst hu; rfl) (by omega) (by unfold maxLen; omega) hb
  have hm : c' ≤ 9223372036854775807 := by unfold maxLen at q5; omega
  have hs1 : (w.alloc (.cells #[.int .i64 x] 3)).heap.size = w.heap.size + 1 := World.size_alloc _ _
  have hW := below1 w (.cells #[.int .i64 x] 3)
  have h1 := (h.next hW).retag (tg' := fun j => if w.heap.size + 1 ≤ j then 1 else tg j) fun j hj => if_neg (by omega)
  have r6 : ∀ b, (Value.slice v.fA v.fn v.fc).ownBlock = some b → base ≤ b ∧ TypeB w b 3 ∧ tg b = 1 := fun b e => ⟨(ho.lt b e).1, own_block ho e, hT b e⟩
  have hty : ∀ b, (Value.slice v.fA v.fn v.fc).ownBlock = some b → TypeB (w.alloc (.cells #[.int .i64 x] 3)) b 3 := fun b e => (r6 b e).2.1.next hW
  have ht : ∀ {t n c : Nat} {A : Option Addr} {xs : List Int}, TabO (w.alloc (.cells #[.int .i64 x] 3)) base (fun j => if w.heap.size + 1 ≤ j then 1 else tg j) t A n c xs → t ≠ 1 → TabO w' base (fun j => if w.heap.size + 1 ≤ j then 1 else tg j) t A n c xs := fun hh hn => hh.kept q6 fun b' e _ => .inr (by
    have := (r6 b' e).2.2
    have := (r6 b' e).2.1.lt
    rw [if_neg (by omega)]; omega)
  have hf : ∀ {e : TypeId} {size n : Nat} {x' : Value} {xs : List Value}, (w.alloc (.cells #[.int .i64 x] 3)).ownsRow base e size x' n xs → 3 ≠ e → w'.ownsRow base e size x' n xs := fun ho' hne => ho'.kept q6 (by
    cases hr : (Value.slice v.fA v.fn v.fc).ownBlock with
    | none => exact ne_or
    | some b => exact own_far ho' (hty b hr) hne)
  have hrt : TabO w' base (fun j => if w.heap.size + 1 ≤ j then 1 else tg j) 1 A' (v.fn + 1) c' (m.refs ++ [x]) := ⟨q4, ⟨by omega, hm⟩, .inr ⟨by simpa [ints] using q2, fun j e => by
    show (if _ then _ else _) = _
    rcases q7 with e2 | e2
    · rw [e2] at e
      have := (r6 j e).2.1.lt
      rw [if_neg (by omega)]; exact hT j e
    · rw [e2] at e
      injection e with e
      rw [if_pos (by omega)]⟩⟩
  refine ⟨A', c', w', _, q1, ⟨ht h1.root (by decide), hrt, hf h1.slots (by decide), h1.sle, h1.scap, hf h1.snaps (by decide), h1.ple, h1.pcap, h1.hq, h1.hp, fun k y hy => ⟨(h1.tabs k y hy).1, ht (h1.tabs k y hy).2 (by omega)⟩, fun k y hy => ⟨(h1.roots k y hy).1, ht (h1.roots k y hy).2 (by omega)⟩⟩,
    q3, q6, fun b e => (r6 b e).2.1⟩
end
def packK (l : List Slot) (k : Nat) : List Slot := freeSlot :: ((l.take k).filter keptS).map (renS l)
theorem packK_one {l : List Slot} (h0 : l.head? = some freeSlot) : packK l 1 = [freeSlot] := by
  cases l with
  | nil => cases h0
  | cons a t => have : a = freeSlot := by simpa using h0
                subst this; rfl
theorem packK_free {l : List Slot} {k : Nat} {s : Slot} (hs : l[k]? = some s) (hk : s.kind = 0) : packK l (k + 1) = packK l k := by
  unfold packK
  rw [List.take_add_one, hs, List.filter_append]
  have : [s].filter keptS = [] := by rw [List.filter_cons_of_neg (by rw [kept_no hk]; decide)]; rfl
  simp only [Option.toList]
  rw [this, List.append_nil]
theorem packK_used {l : List Slot} {k : Nat} {s : Slot} (hs : l[k]? = some s) (hk : s.kind ≠ 0) : packK l (k + 1) = packK l k ++ [renS l s] := by
  unfold packK
  rw [List.take_add_one, hs, List.filter_append]
  have : [s].filter keptS = [s] := by rw [List.filter_cons_of_pos (kept_yes hk)]; rfl
  simp only [Option.toList]
  rw [this, List.map_append]; rfl
theorem packK_all {l : List Slot} {k : Nat} (h : l.length ≤ k) : packK l k = packS l := by unfold packK packS; rw [List.take_of_length_le h]
theorem packR_one {l : List Slot} {f : List Int} (h0 : l.head? = some freeSlot) : packR (l.take 1) (f.take 1) = [0] := by
  cases l with
  | nil => cases h0
  | cons a t => have : a = freeSlot := by simpa using h0
                subst this
                cases f <;> rfl
end Go.Proofs.YtfilnnjanhjbeaaGreat
namespace Go.Proofs.YtfilnnjanhjbeaaGreat
open Go.RowKit Sl
def FreshB (W : World) (a b c n : Nat) : Prop :=
  W.heap[a]? = some (.cells (ints (List.replicate n 0)).toArray 3 (0, 0)) ∧ W.heap[b]? = some (.cells #[.int .i64 0, .string { data := #[] }, .slice none 0 0] 37 (0, 0)) ∧ W.heap[c]? = some (.cells #[.int .i64 0] 3 (0, 0))
theorem FreshB.imgR {W : World} {a b c n : Nat} {g : Int} (h : FreshB W a b c n) (hn : (wants g).toNat = n) (h4 : n ≤ 4) :
    ImgR W W.heap.size ⟨some ⟨a, 0, none⟩, n, n, some ⟨b, 0, none⟩, 1, 1, some ⟨c, 0, none⟩, 1, 1, none, 0, 0⟩ (freshI g) := by
  obtain ⟨h1, h2, h3⟩ := h
  have l1 := (Array.getElem?_eq_some_iff.1 h1).1
  have l2 := (Array.getElem?_eq_some_iff.1 h2).1
  have l3 := (Array.getElem?_eq_some_iff.1 h3).1
  refine ⟨?_, Nat.le_refl _, by dsimp only; omega, ?_, Nat.le_refl _, by dsimp only; decide, ?_, Nat.le_refl _, by dsimp only; decide, SnapsR.none_, Nat.le_refl _, by dsimp only; decide⟩
  · have := Rd.of_block (size := 1) (n := n) h1 l1 rfl (by simp [ints])
    simpa [freshI, hn] using this
  · refine ⟨rfl, fun _ => ⟨b, 0, rfl, l2, fun k s hs => ?_⟩⟩
    have hk : k = 0 := by have := (List.getElem?_eq_some_iff.1 hs).1; simp [freshI] at this; omega
    subst hk
    have hs : freeSlot = s := by simpa [freshI] using hs
    subst hs
    have c0 := cell_of_row W b 0 _ _ _ h2
    have c1 := cell_of_row W b 1 _ _ _ h2
    have c2 := cell_of_row W b 2 _ _ _ h2
    exact ⟨none, 0, 0, c0, c1, c2, by decide, Nat.le_refl _, by decide, Rd.none_⟩
  · have := Rd.of_block (size := 1) (n := 1) h3 l3 rfl (by simp)
    simpa [freshI, ints] using this
theorem own_blockG {w : World} {base g n size : Nat} {e : TypeId} {cs : List Value} (hg : w.heap[g]? = some (.cells cs.toArray e (0, 0))) (hb : base ≤ g) (hn : cs.length = n * size) (hm : n ≤ maxLen) : w.ownsRow base e size (.slice (some ⟨g, 0, none⟩) n n) n cs :=
  ⟨by omega, Or.inr ⟨g, n, cs.toArray, rfl, hb, hg, Nat.le_refl _, hm, by simp [hn], by rw [List.take_of_length_le]; simp [hn]⟩⟩
theorem FreshB.own {W : World} {base a b c n : Nat} {g : Int} (h : FreshB W a b c n) (hn : (wants g).toNat = n) (h4 : n ≤ 4) (ha : base ≤ a) (hb : base ≤ b) (hc : base ≤ c) (hac : a ≠ c) :
    Fresh W base ⟨some ⟨a, 0, none⟩, n, n, some ⟨b, 0, none⟩, 1, 1, some ⟨c, 0, none⟩, 1, 1, none, 0, 0⟩ (freshI g) := by
  obtain ⟨h1, h2, h3⟩ := h
  have o1 : W.ownsRow base 3 1 (.slice (some ⟨a, 0, none⟩) n n) n (ints (List.replicate n 0)) := own_blockG h1 ha (by simp [ints]) (by unfold maxLen; omega)
  have o3 : W.ownsRow base 3 1 (.slice (some ⟨c, 0, none⟩) 1 1) 1 (ints [0]) := own_blockG (cs := [.int .i64 0]) h3 hc rfl (by decide)
  have o2 : W.ownsRow base 37 3 (.slice (some ⟨b, 0, none⟩) 1 1) 1 ([freeSV].flatMap SV.cells) := own_blockG (cs := [.int .i64 0, .string { data := #[] }, .slice none 0 0]) h2 hb rfl (by decide)
  refine .inr ⟨base, fun x => if x = a then 0 else 1, [freeSV], [], Nat.le_refl _, ?_, ?_, o2, Nat.le_refl _, by dsimp only; decide, World.ownsRow_nil _ _ _ _, Nat.le_refl _, by dsimp only; decide, rfl, rfl, ?_, ?_⟩
  · refine ⟨Nat.le_refl _, by dsimp only; omega, .inr ⟨?_, fun x e => ?_⟩⟩
    · have e : (freshI g).root = List.replicate n 0 := by unfold freshI; rw [hn]
      rw [e]; exact o1
    · simp only [Value.ownBlock, Option.some.injEq] at e
      subst e; exact if_pos rfl
  · refine ⟨Nat.le_refl _, by dsimp only; decide, .inr ⟨o3, fun x e => ?_⟩⟩
    simp only [Value.ownBlock, Option.some.injEq] at e
    subst e; exact if_neg (fun e => hac e.symm)
  · intro k x hx
    have hk : k = 0 := by have := (List.getElem?_eq_some_iff.1 hx).1; simp at this; omega
    subst hk
    have hx : freeSV = x := by simpa using hx
    subst hx
    exact ⟨by decide, TabO.nil⟩
  · intro k x hx; simp at hx
theorem FreshB.kept {W W' : World} {a b c n : Nat} {bo : Nat} (h : FreshB W a b c n) (hg : W.grownBy W' (some bo)) (h1 : a ≠ bo) (h2 : b ≠ bo) (h3 : c ≠ bo) : FreshB W' a b c n :=
  ⟨(hg.block a (Array.getElem?_eq_some_iff.1 h.1).1 (fun e => h1 (by injection e))).trans h.1, (hg.block b (Array.getElem?_eq_some_iff.1 h.2.1).1 (fun e => h2 (by injection e))).trans h.2.1, (hg.block c (Array.getElem?_eq_some_iff.1 h.2.2).1 (fun e => h3 (by injection e))).trans h.2.2⟩
theorem make_slot1 (W : World) : (Instr.makeSlice 23 (.int .i64 1) (.int .i64 1)).run Tryz.prog W = .ok (.slice (some ⟨W.heap.size, 0, none⟩) 1 1) (W.alloc (.cells #[.int .i64 0, .string { data := #[] }, .slice none 0 0] 37)) := by
  obtain ⟨i0, hi0, hz0, hz1, hz2⟩ := info_parts Tryz.infoSlot
  have h := run_makeSlice (P := Tryz.prog) (w := W) 23 37 i0 _ Tryz.underlying23 hi0 hz0 .i64 .i64 1 1 (by omega) (Int.le_refl _) (by rw [hz1]; simp) (by rw [hz2]; decide) (by decide)
  rw [h, hz1]
  have e : madeCells (Value.agg #[Value.int IntKind.i64 0, Value.string { data := #[] }, Value.slice none 0 0]).cells (Int.toNat 1 * 3) = #[Value.int IntKind.i64 0, Value.string { data := #[] }, Value.slice none 0 0] := by kernel_rfl
  rw [e]; rfl
theorem make_int1 (W : World) : (Instr.makeSlice 22 (.int .i64 1) (.int .i64 1)).run Tryz.prog W = .ok (.slice (some ⟨W.heap.size, 0, none⟩) 1 1) (W.alloc (.cells #[.int .i64 0] 3)) := make_ints 1 (by omega) W
end Go.Proofs.YtfilnnjanhjbeaaGreat
