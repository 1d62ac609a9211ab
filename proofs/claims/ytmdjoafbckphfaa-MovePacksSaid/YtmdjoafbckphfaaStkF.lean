/- An image of so many pages and no table: Fresh, and the reference's. Conditions: a guest's bounds. -/
import Derived.Test.YtmdjoafbckphfaaStkP
import Derived.Test.YtmdjoafbckphfaaWTurned
import Derived.Test.YtmdjoafbckphfaaRCounts
namespace Go.Proofs.Ytmdjoafbckphfaa
open Go.RowKit Sl
/-- The three blocks of a fresh image. -/
def FreshB (W : World) (a b c n : Nat) : Prop :=
  W.heap[a]? = some (.cells (ints (List.replicate n 0)).toArray 3 (0, 0)) ∧ W.heap[b]? = some (.cells #[.int .i64 0, .string { data := #[] }, .slice none 0 0] 80 (0, 0)) ∧ W.heap[c]? = some (.cells #[.int .i64 0] 3 (0, 0))
theorem FreshB.imgR {W : World} {a b c n : Nat} {g : Int} (h : FreshB W a b c n) (hn : (wants g).toNat = n) (h4 : n ≤ 4) :
    ImgR W W.heap.size ⟨some ⟨a, 0, none⟩, n, n, some ⟨b, 0, none⟩, 1, 1, some ⟨c, 0, none⟩, 1, 1, none, 0, 0⟩ (freshI g) := by
  obtain ⟨h1, h2, h3⟩ := h
  have l1 := (Array.getElem?_eq_some_iff.1 h1).1
  have l2 := (Array.getElem?_eq_some_iff.1 h2).1
  have l3 := (Array.getElem?_eq_some_iff.1 h3).1
  refine ⟨?_, Nat.le_refl _, by dsimp only; omega, ?_, Nat.le_refl _, by dsimp only; decide, ?_, Nat.le_refl _, by dsimp only; decide, SnapsR.none_, Nat.le_refl _, by dsimp only; decide⟩
  · have := Rd.of_block (size := 1) (n := n) h1 l1 rfl (by simp [ints])
    simpa [freshI, hn] using this
  · refine ⟨rfl, fun _ => ⟨b, 0, rfl, l2, fun k s hs => ?_⟩⟩
    have hk : k = 0 := by have := (List.getElem?_eq_some_iff.1 hs).1; simp [freshI] at this; omega
    subst hk
    have hs : freeSlot = s := by simpa [freshI] using hs
    subst hs
    have c0 := cell_of_row W b 0 _ _ _ h2
    have c1 := cell_of_row W b 1 _ _ _ h2
    have c2 := cell_of_row W b 2 _ _ _ h2
    exact ⟨none, 0, 0, c0, c1, c2, by decide, Nat.le_refl _, by decide, Rd.none_⟩
  · have := Rd.of_block (size := 1) (n := 1) h3 l3 rfl (by simp)
    simpa [freshI, ints] using this
theorem own_blockG {w : World} {base g n size : Nat} {e : TypeId} {cs : List Value} (hg : w.heap[g]? = some (.cells cs.toArray e (0, 0))) (hb : base ≤ g) (hn : cs.length = n * size) (hm : n ≤ maxLen) : w.ownsRow base e size (.slice (some ⟨g, 0, none⟩) n n) n cs :=
  ⟨by omega, Or.inr ⟨g, n, cs.toArray, rfl, hb, hg, Nat.le_refl _, hm, by simp [hn], by rw [List.take_of_length_le]; simp [hn]⟩⟩
theorem FreshB.own {W : World} {base a b c n : Nat} {g : Int} (h : FreshB W a b c n) (hn : (wants g).toNat = n) (h4 : n ≤ 4) (ha : base ≤ a) (hb : base ≤ b) (hc : base ≤ c) (hac : a ≠ c) :
    Fresh W base ⟨some ⟨a, 0, none⟩, n, n, some ⟨b, 0, none⟩, 1, 1, some ⟨c, 0, none⟩, 1, 1, none, 0, 0⟩ (freshI g) := by
  obtain ⟨h1, h2, h3⟩ := h
  have o1 : W.ownsRow base 3 1 (.slice (some ⟨a, 0, none⟩) n n) n (ints (List.replicate n 0)) := own_blockG h1 ha (by simp [ints]) (by unfold maxLen; omega)
  have o3 : W.ownsRow base 3 1 (.slice (some ⟨c, 0, none⟩) 1 1) 1 (ints [0]) := own_blockG (cs := [.int .i64 0]) h3 hc rfl (by decide)
  have o2 : W.ownsRow base 80 3 (.slice (some ⟨b, 0, none⟩) 1 1) 1 ([freeSV].flatMap SV.cells) := own_blockG (cs := [.int .i64 0, .string { data := #[] }, .slice none 0 0]) h2 hb rfl (by decide)
  refine .inr ⟨base, fun x => if x = a then 0 else 1, [freeSV], [], Nat.le_refl _, ?_, ?_, o2, Nat.le_refl _, by dsimp only; decide, World.ownsRow_nil _ _ _ _, Nat.le_refl _, by dsimp only; decide, rfl, rfl, ?_, ?_⟩
  · refine ⟨Nat.le_refl _, by dsimp only; omega, .inr ⟨?_, fun x e => ?_⟩⟩
    · have e : (freshI g).root = List.replicate n 0 := by unfold freshI; rw [hn]
      rw [e]; exact o1
    · simp only [Value.ownBlock, Option.some.injEq] at e
      subst e; exact if_pos rfl
  · refine ⟨Nat.le_refl _, by dsimp only; decide, .inr ⟨o3, fun x e => ?_⟩⟩
    simp only [Value.ownBlock, Option.some.injEq] at e
    subst e; exact if_neg (fun e => hac e.symm)
  · intro k x hx
    have hk : k = 0 := by have := (List.getElem?_eq_some_iff.1 hx).1; simp at this; omega
    subst hk
    have hx : freeSV = x := by simpa using hx
    subst hx
    exact ⟨by decide, TabO.nil⟩
  · intro k x hx; simp at hx
theorem FreshB.kept {W W' : World} {a b c n : Nat} {bo : Nat} (h : FreshB W a b c n) (hg : W.grownBy W' (some bo)) (h1 : a ≠ bo) (h2 : b ≠ bo) (h3 : c ≠ bo) : FreshB W' a b c n :=
  ⟨(hg.block a (Array.getElem?_eq_some_iff.1 h.1).1 (fun e => h1 (by injection e))).trans h.1, (hg.block b (Array.getElem?_eq_some_iff.1 h.2.1).1 (fun e => h2 (by injection e))).trans h.2.1, (hg.block c (Array.getElem?_eq_some_iff.1 h.2.2).1 (fun e => h3 (by injection e))).trans h.2.2⟩
theorem three (W : World) (cX cY cZ : Array Value) (tX tY tZ : TypeId) : (((W.alloc (.cells cX tX)).alloc (.cells cY tY)).alloc (.cells cZ tZ)).drew.heap[W.heap.size]? = some (.cells cX tX (0, 0)) ∧
    (((W.alloc (.cells cX tX)).alloc (.cells cY tY)).alloc (.cells cZ tZ)).drew.heap[W.heap.size + 1]? = some (.cells cY tY (0, 0)) ∧ (((W.alloc (.cells cX tX)).alloc (.cells cY tY)).alloc (.cells cZ tZ)).drew.heap[W.heap.size + 1 + 1]? = some (.cells cZ tZ (0, 0)) ∧
    Below W.heap.size W (((W.alloc (.cells cX tX)).alloc (.cells cY tY)).alloc (.cells cZ tZ)).drew := by
  have s1 : (W.alloc (.cells cX tX)).heap.size = W.heap.size + 1 := World.size_alloc _ _
  have s2 : ((W.alloc (.cells cX tX)).alloc (.cells cY tY)).heap.size = W.heap.size + 1 + 1 := by rw [World.size_alloc, s1]
  have b1 := below1 W (.cells cX tX)
  have b2 := below1 (W.alloc (.cells cX tX)) (.cells cY tY)
  have b3 := below1 ((W.alloc (.cells cX tX)).alloc (.cells cY tY)) (.cells cZ tZ)
  refine ⟨?_, ?_, ?_, (below_next (below_next b1 b2) b3).drew⟩
  · exact (b3.block _ (by omega)).trans ((b2.block _ (by omega)).trans (heap_alloc_new W _))
  · rw [← s1]; exact (b3.block _ (by omega)).trans (heap_alloc_new _ _)
  · rw [← s2]; exact heap_alloc_new _ _
def w_fresh_abc (w wa : World) (g : Int) (n : Nat) : World := ((((((((wa.setCell ⟨w.heap.size, 0, none⟩ (.int .i64 g)).setCell ⟨w.heap.size, 1, none⟩ (.slice (some ⟨w.heap.size + 1, 0, none⟩) n n)).setCell ⟨w.heap.size, 2, none⟩ (.slice (some ⟨w.heap.size + 1 + 1, 0, none⟩) 1 1)).setCell ⟨w.heap.size, 3, none⟩ (.slice (some ⟨w.heap.size + 1 + 1 + 1, 0, none⟩) 1 1)).setCell ⟨w.heap.size, 4, none⟩ (.slice none 0 0)).alloc (.cells (ints (List.replicate n 0)).toArray 3)).alloc (.cells #[.int .i64 0, .string { data := #[] }, .slice none 0 0] 80)).alloc (.cells #[.int .i64 0] 3)).drew
theorem fresh_abc_is (w wa : World) (g : Int) (n : Nat) : ((((((((wa.setCell ⟨w.heap.size, 0, none⟩ (.int .i64 g)).setCell ⟨w.heap.size, 1, none⟩ (.slice (some ⟨w.heap.size + 1, 0, none⟩) n n)).setCell ⟨w.heap.size, 2, none⟩ (.slice (some ⟨w.heap.size + 1 + 1, 0, none⟩) 1 1)).setCell ⟨w.heap.size, 3, none⟩ (.slice (some ⟨w.heap.size + 1 + 1 + 1, 0, none⟩) 1 1)).setCell ⟨w.heap.size, 4, none⟩ (.slice none 0 0)).alloc (.cells (ints (List.replicate n 0)).toArray 3)).alloc (.cells #[.int .i64 0, .string { data := #[] }, .slice none 0 0] 80)).alloc (.cells #[.int .i64 0] 3)).drew = w_fresh_abc w wa g n := rfl
theorem fresh_abc {w wa : World} {g : Int} {n : Nat} (hz : ZB wa w.heap.size) (hb : Below w.heap.size w wa) (hs : wa.heap.size = w.heap.size + 1) (hn : (wants g).toNat = n) (h4 : n ≤ 4) :
    Box (w_fresh_abc w wa g n) w.heap.size g ⟨some ⟨w.heap.size + 1, 0, none⟩, n, n, some ⟨w.heap.size + 1 + 1, 0, none⟩, 1, 1, some ⟨w.heap.size + 1 + 1 + 1, 0, none⟩, 1, 1, none, 0, 0⟩ ∧ Fresh (w_fresh_abc w wa g n) w.heap.size ⟨some ⟨w.heap.size + 1, 0, none⟩, n, n, some ⟨w.heap.size + 1 + 1, 0, none⟩, 1, 1, some ⟨w.heap.size + 1 + 1 + 1, 0, none⟩, 1, 1, none, 0, 0⟩ (freshI g) ∧ Below w.heap.size w (w_fresh_abc w wa g n)   := by
  unfold w_fresh_abc
  have h5 := five hz.box.1 hz.box.2 g ⟨some ⟨w.heap.size + 1, 0, none⟩, n, n, some ⟨w.heap.size + 1 + 1, 0, none⟩, 1, 1, some ⟨w.heap.size + 1 + 1 + 1, 0, none⟩, 1, 1, none, 0, 0⟩
  dsimp only at h5
  have hs5 : (((((wa.setCell ⟨w.heap.size, 0, none⟩ (.int .i64 g)).setCell ⟨w.heap.size, 1, none⟩ (.slice (some ⟨w.heap.size + 1, 0, none⟩) n n)).setCell ⟨w.heap.size, 2, none⟩ (.slice (some ⟨w.heap.size + 1 + 1, 0, none⟩) 1 1)).setCell ⟨w.heap.size, 3, none⟩ (.slice (some ⟨w.heap.size + 1 + 1 + 1, 0, none⟩) 1 1)).setCell ⟨w.heap.size, 4, none⟩ (.slice none 0 0)).heap.size = wa.heap.size := by simp [World.setCell]
  have hb5 := hb.grown h5.2.2 (by omega) (fun j e => by injection e with e; omega)
  have hx := h5.1
  clear h5
  generalize (((((wa.setCell ⟨w.heap.size, 0, none⟩ (.int .i64 g)).setCell ⟨w.heap.size, 1, none⟩ (.slice (some ⟨w.heap.size + 1, 0, none⟩) n n)).setCell ⟨w.heap.size, 2, none⟩ (.slice (some ⟨w.heap.size + 1 + 1, 0, none⟩) 1 1)).setCell ⟨w.heap.size, 3, none⟩ (.slice (some ⟨w.heap.size + 1 + 1 + 1, 0, none⟩) 1 1)).setCell ⟨w.heap.size, 4, none⟩ (.slice none 0 0)) = W5 at *
  rw [hs] at hs5
  obtain ⟨t1, t2, t3, tb⟩ := three W5 (ints (List.replicate n 0)).toArray #[.int .i64 0, .string { data := #[] }, .slice none 0 0] #[.int .i64 0] 3 80 3
  rw [hs5] at t1 t2 t3
  exact ⟨hx.keep tb (by omega), (show FreshB _ (w.heap.size + 1) (w.heap.size + 1 + 1) (w.heap.size + 1 + 1 + 1) n from ⟨t1, t2, t3⟩).own hn h4 (by omega) (by omega) (by omega) (by omega), hb5.trans (tb.mono (by omega))⟩
def w_fresh_acb (w wa : World) (g : Int) (n : Nat) : World := ((((((((wa.setCell ⟨w.heap.size, 0, none⟩ (.int .i64 g)).setCell ⟨w.heap.size, 1, none⟩ (.slice (some ⟨w.heap.size + 1, 0, none⟩) n n)).setCell ⟨w.heap.size, 2, none⟩ (.slice (some ⟨w.heap.size + 1 + 1 + 1, 0, none⟩) 1 1)).setCell ⟨w.heap.size, 3, none⟩ (.slice (some ⟨w.heap.size + 1 + 1, 0, none⟩) 1 1)).setCell ⟨w.heap.size, 4, none⟩ (.slice none 0 0)).alloc (.cells (ints (List.replicate n 0)).toArray 3)).alloc (.cells #[.int .i64 0] 3)).alloc (.cells #[.int .i64 0, .string { data := #[] }, .slice none 0 0] 80)).drew
theorem fresh_acb_is (w wa : World) (g : Int) (n : Nat) : ((((((((wa.setCell ⟨w.heap.size, 0, none⟩ (.int .i64 g)).setCell ⟨w.heap.size, 1, none⟩ (.slice (some ⟨w.heap.size + 1, 0, none⟩) n n)).setCell ⟨w.heap.size, 2, none⟩ (.slice (some ⟨w.heap.size + 1 + 1 + 1, 0, none⟩) 1 1)).setCell ⟨w.heap.size, 3, none⟩ (.slice (some ⟨w.heap.size + 1 + 1, 0, none⟩) 1 1)).setCell ⟨w.heap.size, 4, none⟩ (.slice none 0 0)).alloc (.cells (ints (List.replicate n 0)).toArray 3)).alloc (.cells #[.int .i64 0] 3)).alloc (.cells #[.int .i64 0, .string { data := #[] }, .slice none 0 0] 80)).drew = w_fresh_acb w wa g n := rfl
theorem fresh_acb {w wa : World} {g : Int} {n : Nat} (hz : ZB wa w.heap.size) (hb : Below w.heap.size w wa) (hs : wa.heap.size = w.heap.size + 1) (hn : (wants g).toNat = n) (h4 : n ≤ 4) :
    Box (w_fresh_acb w wa g n) w.heap.size g ⟨some ⟨w.heap.size + 1, 0, none⟩, n, n, some ⟨w.heap.size + 1 + 1 + 1, 0, none⟩, 1, 1, some ⟨w.heap.size + 1 + 1, 0, none⟩, 1, 1, none, 0, 0⟩ ∧ Fresh (w_fresh_acb w wa g n) w.heap.size ⟨some ⟨w.heap.size + 1, 0, none⟩, n, n, some ⟨w.heap.size + 1 + 1 + 1, 0, none⟩, 1, 1, some ⟨w.heap.size + 1 + 1, 0, none⟩, 1, 1, none, 0, 0⟩ (freshI g) ∧ Below w.heap.size w (w_fresh_acb w wa g n)   := by
  unfold w_fresh_acb
  have h5 := five hz.box.1 hz.box.2 g ⟨some ⟨w.heap.size + 1, 0, none⟩, n, n, some ⟨w.heap.size + 1 + 1 + 1, 0, none⟩, 1, 1, some ⟨w.heap.size + 1 + 1, 0, none⟩, 1, 1, none, 0, 0⟩
  dsimp only at h5
  have hs5 : (((((wa.setCell ⟨w.heap.size, 0, none⟩ (.int .i64 g)).setCell ⟨w.heap.size, 1, none⟩ (.slice (some ⟨w.heap.size + 1, 0, none⟩) n n)).setCell ⟨w.heap.size, 2, none⟩ (.slice (some ⟨w.heap.size + 1 + 1 + 1, 0, none⟩) 1 1)).setCell ⟨w.heap.size, 3, none⟩ (.slice (some ⟨w.heap.size + 1 + 1, 0, none⟩) 1 1)).setCell ⟨w.heap.size, 4, none⟩ (.slice none 0 0)).heap.size = wa.heap.size := by simp [World.setCell]
  have hb5 := hb.grown h5.2.2 (by omega) (fun j e => by injection e with e; omega)
  have hx := h5.1
  clear h5
  generalize (((((wa.setCell ⟨w.heap.size, 0, none⟩ (.int .i64 g)).setCell ⟨w.heap.size, 1, none⟩ (.slice (some ⟨w.heap.size + 1, 0, none⟩) n n)).setCell ⟨w.heap.size, 2, none⟩ (.slice (some ⟨w.heap.size + 1 + 1 + 1, 0, none⟩) 1 1)).setCell ⟨w.heap.size, 3, none⟩ (.slice (some ⟨w.heap.size + 1 + 1, 0, none⟩) 1 1)).setCell ⟨w.heap.size, 4, none⟩ (.slice none 0 0)) = W5 at *
  rw [hs] at hs5
  obtain ⟨t1, t2, t3, tb⟩ := three W5 (ints (List.replicate n 0)).toArray #[.int .i64 0] #[.int .i64 0, .string { data := #[] }, .slice none 0 0] 3 3 80
  rw [hs5] at t1 t2 t3
  exact ⟨hx.keep tb (by omega), (show FreshB _ (w.heap.size + 1) (w.heap.size + 1 + 1 + 1) (w.heap.size + 1 + 1) n from ⟨t1, t3, t2⟩).own hn h4 (by omega) (by omega) (by omega) (by omega), hb5.trans (tb.mono (by omega))⟩
def w_fresh_bac (w wa : World) (g : Int) (n : Nat) : World := ((((((((wa.setCell ⟨w.heap.size, 0, none⟩ (.int .i64 g)).setCell ⟨w.heap.size, 1, none⟩ (.slice (some ⟨w.heap.size + 1 + 1, 0, none⟩) n n)).setCell ⟨w.heap.size, 2, none⟩ (.slice (some ⟨w.heap.size + 1, 0, none⟩) 1 1)).setCell ⟨w.heap.size, 3, none⟩ (.slice (some ⟨w.heap.size + 1 + 1 + 1, 0, none⟩) 1 1)).setCell ⟨w.heap.size, 4, none⟩ (.slice none 0 0)).alloc (.cells #[.int .i64 0, .string { data := #[] }, .slice none 0 0] 80)).alloc (.cells (ints (List.replicate n 0)).toArray 3)).alloc (.cells #[.int .i64 0] 3)).drew
theorem fresh_bac_is (w wa : World) (g : Int) (n : Nat) : ((((((((wa.setCell ⟨w.heap.size, 0, none⟩ (.int .i64 g)).setCell ⟨w.heap.size, 1, none⟩ (.slice (some ⟨w.heap.size + 1 + 1, 0, none⟩) n n)).setCell ⟨w.heap.size, 2, none⟩ (.slice (some ⟨w.heap.size + 1, 0, none⟩) 1 1)).setCell ⟨w.heap.size, 3, none⟩ (.slice (some ⟨w.heap.size + 1 + 1 + 1, 0, none⟩) 1 1)).setCell ⟨w.heap.size, 4, none⟩ (.slice none 0 0)).alloc (.cells #[.int .i64 0, .string { data := #[] }, .slice none 0 0] 80)).alloc (.cells (ints (List.replicate n 0)).toArray 3)).alloc (.cells #[.int .i64 0] 3)).drew = w_fresh_bac w wa g n := rfl
theorem fresh_bac {w wa : World} {g : Int} {n : Nat} (hz : ZB wa w.heap.size) (hb : Below w.heap.size w wa) (hs : wa.heap.size = w.heap.size + 1) (hn : (wants g).toNat = n) (h4 : n ≤ 4) :
    Box (w_fresh_bac w wa g n) w.heap.size g ⟨some ⟨w.heap.size + 1 + 1, 0, none⟩, n, n, some ⟨w.heap.size + 1, 0, none⟩, 1, 1, some ⟨w.heap.size + 1 + 1 + 1, 0, none⟩, 1, 1, none, 0, 0⟩ ∧ Fresh (w_fresh_bac w wa g n) w.heap.size ⟨some ⟨w.heap.size + 1 + 1, 0, none⟩, n, n, some ⟨w.heap.size + 1, 0, none⟩, 1, 1, some ⟨w.heap.size + 1 + 1 + 1, 0, none⟩, 1, 1, none, 0, 0⟩ (freshI g) ∧ Below w.heap.size w (w_fresh_bac w wa g n)   := by
  unfold w_fresh_bac
  have h5 := five hz.box.1 hz.box.2 g ⟨some ⟨w.heap.size + 1 + 1, 0, none⟩, n, n, some ⟨w.heap.size + 1, 0, none⟩, 1, 1, some ⟨w.heap.size + 1 + 1 + 1, 0, none⟩, 1, 1, none, 0, 0⟩
  dsimp only at h5
  have hs5 : (((((wa.setCell ⟨w.heap.size, 0, none⟩ (.int .i64 g)).setCell ⟨w.heap.size, 1, none⟩ (.slice (some ⟨w.heap.size + 1 + 1, 0, none⟩) n n)).setCell ⟨w.heap.size, 2, none⟩ (.slice (some ⟨w.heap.size + 1, 0, none⟩) 1 1)).setCell ⟨w.heap.size, 3, none⟩ (.slice (some ⟨w.heap.size + 1 + 1 + 1, 0, none⟩) 1 1)).setCell ⟨w.heap.size, 4, none⟩ (.slice none 0 0)).heap.size = wa.heap.size := by simp [World.setCell]
  have hb5 := hb.grown h5.2.2 (by omega) (fun j e => by injection e with e; omega)
  have hx := h5.1
  clear h5
  generalize (((((wa.setCell ⟨w.heap.size, 0, none⟩ (.int .i64 g)).setCell ⟨w.heap.size, 1, none⟩ (.slice (some ⟨w.heap.size + 1 + 1, 0, none⟩) n n)).setCell ⟨w.heap.size, 2, none⟩ (.slice (some ⟨w.heap.size + 1, 0, none⟩) 1 1)).setCell ⟨w.heap.size, 3, none⟩ (.slice (some ⟨w.heap.size + 1 + 1 + 1, 0, none⟩) 1 1)).setCell ⟨w.heap.size, 4, none⟩ (.slice none 0 0)) = W5 at *
  rw [hs] at hs5
  obtain ⟨t1, t2, t3, tb⟩ := three W5 #[.int .i64 0, .string { data := #[] }, .slice none 0 0] (ints (List.replicate n 0)).toArray #[.int .i64 0] 80 3 3
  rw [hs5] at t1 t2 t3
  exact ⟨hx.keep tb (by omega), (show FreshB _ (w.heap.size + 1 + 1) (w.heap.size + 1) (w.heap.size + 1 + 1 + 1) n from ⟨t2, t1, t3⟩).own hn h4 (by omega) (by omega) (by omega) (by omega), hb5.trans (tb.mono (by omega))⟩
def w_fresh_bca (w wa : World) (g : Int) (n : Nat) : World := ((((((((wa.setCell ⟨w.heap.size, 0, none⟩ (.int .i64 g)).setCell ⟨w.heap.size, 1, none⟩ (.slice (some ⟨w.heap.size + 1 + 1 + 1, 0, none⟩) n n)).setCell ⟨w.heap.size, 2, none⟩ (.slice (some ⟨w.heap.size + 1, 0, none⟩) 1 1)).setCell ⟨w.heap.size, 3, none⟩ (.slice (some ⟨w.heap.size + 1 + 1, 0, none⟩) 1 1)).setCell ⟨w.heap.size, 4, none⟩ (.slice none 0 0)).alloc (.cells #[.int .i64 0, .string { data := #[] }, .slice none 0 0] 80)).alloc (.cells #[.int .i64 0] 3)).alloc (.cells (ints (List.replicate n 0)).toArray 3)).drew
theorem fresh_bca_is (w wa : World) (g : Int) (n : Nat) : ((((((((wa.setCell ⟨w.heap.size, 0, none⟩ (.int .i64 g)).setCell ⟨w.heap.size, 1, none⟩ (.slice (some ⟨w.heap.size + 1 + 1 + 1, 0, none⟩) n n)).setCell ⟨w.heap.size, 2, none⟩ (.slice (some ⟨w.heap.size + 1, 0, none⟩) 1 1)).setCell ⟨w.heap.size, 3, none⟩ (.slice (some ⟨w.heap.size + 1 + 1, 0, none⟩) 1 1)).setCell ⟨w.heap.size, 4, none⟩ (.slice none 0 0)).alloc (.cells #[.int .i64 0, .string { data := #[] }, .slice none 0 0] 80)).alloc (.cells #[.int .i64 0] 3)).alloc (.cells (ints (List.replicate n 0)).toArray 3)).drew = w_fresh_bca w wa g n := rfl
theorem fresh_bca {w wa : World} {g : Int} {n : Nat} (hz : ZB wa w.heap.size) (hb : Below w.heap.size w wa) (hs : wa.heap.size = w.heap.size + 1) (hn : (wants g).toNat = n) (h4 : n ≤ 4) :
    Box (w_fresh_bca w wa g n) w.heap.size g ⟨some ⟨w.heap.size + 1 + 1 + 1, 0, none⟩, n, n, some ⟨w.heap.size + 1, 0, none⟩, 1, 1, some ⟨w.heap.size + 1 + 1, 0, none⟩, 1, 1, none, 0, 0⟩ ∧ Fresh (w_fresh_bca w wa g n) w.heap.size ⟨some ⟨w.heap.size + 1 + 1 + 1, 0, none⟩, n, n, some ⟨w.heap.size + 1, 0, none⟩, 1, 1, some ⟨w.heap.size + 1 + 1, 0, none⟩, 1, 1, none, 0, 0⟩ (freshI g) ∧ Below w.heap.size w (w_fresh_bca w wa g n)   := by
  unfold w_fresh_bca
  have h5 := five hz.box.1 hz.box.2 g ⟨some ⟨w.heap.size + 1 + 1 + 1, 0, none⟩, n, n, some ⟨w.heap.size + 1, 0, none⟩, 1, 1, some ⟨w.heap.size + 1 + 1, 0, none⟩, 1, 1, none, 0, 0⟩
  dsimp only at h5
  have hs5 : (((((wa.setCell ⟨w.heap.size, 0, none⟩ (.int .i64 g)).setCell ⟨w.heap.size, 1, none⟩ (.slice (some ⟨w.heap.size + 1 + 1 + 1, 0, none⟩) n n)).setCell ⟨w.heap.size, 2, none⟩ (.slice (some ⟨w.heap.size + 1, 0, none⟩) 1 1)).setCell ⟨w.heap.size, 3, none⟩ (.slice (some ⟨w.heap.size + 1 + 1, 0, none⟩) 1 1)).setCell ⟨w.heap.size, 4, none⟩ (.slice none 0 0)).heap.size = wa.heap.size := by simp [World.setCell]
  have hb5 := hb.grown h5.2.2 (by omega) (fun j e => by injection e with e; omega)
  have hx := h5.1
  clear h5
  generalize (((((wa.setCell ⟨w.heap.size, 0, none⟩ (.int .i64 g)).setCell ⟨w.heap.size, 1, none⟩ (.slice (some ⟨w.heap.size + 1 + 1 + 1, 0, none⟩) n n)).setCell ⟨w.heap.size, 2, none⟩ (.slice (some ⟨w.heap.size + 1, 0, none⟩) 1 1)).setCell ⟨w.heap.size, 3, none⟩ (.slice (some ⟨w.heap.size + 1 + 1, 0, none⟩) 1 1)).setCell ⟨w.heap.size, 4, none⟩ (.slice none 0 0)) = W5 at *
  rw [hs] at hs5
  obtain ⟨t1, t2, t3, tb⟩ := three W5 #[.int .i64 0, .string { data := #[] }, .slice none 0 0] #[.int .i64 0] (ints (List.replicate n 0)).toArray 80 3 3
  rw [hs5] at t1 t2 t3
  exact ⟨hx.keep tb (by omega), (show FreshB _ (w.heap.size + 1 + 1 + 1) (w.heap.size + 1) (w.heap.size + 1 + 1) n from ⟨t3, t1, t2⟩).own hn h4 (by omega) (by omega) (by omega) (by omega), hb5.trans (tb.mono (by omega))⟩
def w_fresh_cab (w wa : World) (g : Int) (n : Nat) : World := ((((((((wa.setCell ⟨w.heap.size, 0, none⟩ (.int .i64 g)).setCell ⟨w.heap.size, 1, none⟩ (.slice (some ⟨w.heap.size + 1 + 1, 0, none⟩) n n)).setCell ⟨w.heap.size, 2, none⟩ (.slice (some ⟨w.heap.size + 1 + 1 + 1, 0, none⟩) 1 1)).setCell ⟨w.heap.size, 3, none⟩ (.slice (some ⟨w.heap.size + 1, 0, none⟩) 1 1)).setCell ⟨w.heap.size, 4, none⟩ (.slice none 0 0)).alloc (.cells #[.int .i64 0] 3)).alloc (.cells (ints (List.replicate n 0)).toArray 3)).alloc (.cells #[.int .i64 0, .string { data := #[] }, .slice none 0 0] 80)).drew
theorem fresh_cab_is (w wa : World) (g : Int) (n : Nat) : ((((((((wa.setCell ⟨w.heap.size, 0, none⟩ (.int .i64 g)).setCell ⟨w.heap.size, 1, none⟩ (.slice (some ⟨w.heap.size + 1 + 1, 0, none⟩) n n)).setCell ⟨w.heap.size, 2, none⟩ (.slice (some ⟨w.heap.size + 1 + 1 + 1, 0, none⟩) 1 1)).setCell ⟨w.heap.size, 3, none⟩ (.slice (some ⟨w.heap.size + 1, 0, none⟩) 1 1)).setCell ⟨w.heap.size, 4, none⟩ (.slice none 0 0)).alloc (.cells #[.int .i64 0] 3)).alloc (.cells (ints (List.replicate n 0)).toArray 3)).alloc (.cells #[.int .i64 0, .string { data := #[] }, .slice none 0 0] 80)).drew = w_fresh_cab w wa g n := rfl
theorem fresh_cab {w wa : World} {g : Int} {n : Nat} (hz : ZB wa w.heap.size) (hb : Below w.heap.size w wa) (hs : wa.heap.size = w.heap.size + 1) (hn : (wants g).toNat = n) (h4 : n ≤ 4) :
    Box (w_fresh_cab w wa g n) w.heap.size g ⟨some ⟨w.heap.size + 1 + 1, 0, none⟩, n, n, some ⟨w.heap.size + 1 + 1 + 1, 0, none⟩, 1, 1, some ⟨w.heap.size + 1, 0, none⟩, 1, 1, none, 0, 0⟩ ∧ Fresh (w_fresh_cab w wa g n) w.heap.size ⟨some ⟨w.heap.size + 1 + 1, 0, none⟩, n, n, some ⟨w.heap.size + 1 + 1 + 1, 0, none⟩, 1, 1, some ⟨w.heap.size + 1, 0, none⟩, 1, 1, none, 0, 0⟩ (freshI g) ∧ Below w.heap.size w (w_fresh_cab w wa g n)   := by
  unfold w_fresh_cab
  have h5 := five hz.box.1 hz.box.2 g ⟨some ⟨w.heap.size + 1 + 1, 0, none⟩, n, n, some ⟨w.heap.size + 1 + 1 + 1, 0, none⟩, 1, 1, some ⟨w.heap.size + 1, 0, none⟩, 1, 1, none, 0, 0⟩
  dsimp only at h5
  have hs5 : (((((wa.setCell ⟨w.heap.size, 0, none⟩ (.int .i64 g)).setCell ⟨w.heap.size, 1, none⟩ (.slice (some ⟨w.heap.size + 1 + 1, 0, none⟩) n n)).setCell ⟨w.heap.size, 2, none⟩ (.slice (some ⟨w.heap.size + 1 + 1 + 1, 0, none⟩) 1 1)).setCell ⟨w.heap.size, 3, none⟩ (.slice (some ⟨w.heap.size + 1, 0, none⟩) 1 1)).setCell ⟨w.heap.size, 4, none⟩ (.slice none 0 0)).heap.size = wa.heap.size := by simp [World.setCell]
  have hb5 := hb.grown h5.2.2 (by omega) (fun j e => by injection e with e; omega)
  have hx := h5.1
  clear h5
  generalize (((((wa.setCell ⟨w.heap.size, 0, none⟩ (.int .i64 g)).setCell ⟨w.heap.size, 1, none⟩ (.slice (some ⟨w.heap.size + 1 + 1, 0, none⟩) n n)).setCell ⟨w.heap.size, 2, none⟩ (.slice (some ⟨w.heap.size + 1 + 1 + 1, 0, none⟩) 1 1)).setCell ⟨w.heap.size, 3, none⟩ (.slice (some ⟨w.heap.size + 1, 0, none⟩) 1 1)).setCell ⟨w.heap.size, 4, none⟩ (.slice none 0 0)) = W5 at *
  rw [hs] at hs5
  obtain ⟨t1, t2, t3, tb⟩ := three W5 #[.int .i64 0] (ints (List.replicate n 0)).toArray #[.int .i64 0, .string { data := #[] }, .slice none 0 0] 3 3 80
  rw [hs5] at t1 t2 t3
  exact ⟨hx.keep tb (by omega), (show FreshB _ (w.heap.size + 1 + 1) (w.heap.size + 1 + 1 + 1) (w.heap.size + 1) n from ⟨t2, t3, t1⟩).own hn h4 (by omega) (by omega) (by omega) (by omega), hb5.trans (tb.mono (by omega))⟩
def w_fresh_cba (w wa : World) (g : Int) (n : Nat) : World := ((((((((wa.setCell ⟨w.heap.size, 0, none⟩ (.int .i64 g)).setCell ⟨w.heap.size, 1, none⟩ (.slice (some ⟨w.heap.size + 1 + 1 + 1, 0, none⟩) n n)).setCell ⟨w.heap.size, 2, none⟩ (.slice (some ⟨w.heap.size + 1 + 1, 0, none⟩) 1 1)).setCell ⟨w.heap.size, 3, none⟩ (.slice (some ⟨w.heap.size + 1, 0, none⟩) 1 1)).setCell ⟨w.heap.size, 4, none⟩ (.slice none 0 0)).alloc (.cells #[.int .i64 0] 3)).alloc (.cells #[.int .i64 0, .string { data := #[] }, .slice none 0 0] 80)).alloc (.cells (ints (List.replicate n 0)).toArray 3)).drew
theorem fresh_cba_is (w wa : World) (g : Int) (n : Nat) : ((((((((wa.setCell ⟨w.heap.size, 0, none⟩ (.int .i64 g)).setCell ⟨w.heap.size, 1, none⟩ (.slice (some ⟨w.heap.size + 1 + 1 + 1, 0, none⟩) n n)).setCell ⟨w.heap.size, 2, none⟩ (.slice (some ⟨w.heap.size + 1 + 1, 0, none⟩) 1 1)).setCell ⟨w.heap.size, 3, none⟩ (.slice (some ⟨w.heap.size + 1, 0, none⟩) 1 1)).setCell ⟨w.heap.size, 4, none⟩ (.slice none 0 0)).alloc (.cells #[.int .i64 0] 3)).alloc (.cells #[.int .i64 0, .string { data := #[] }, .slice none 0 0] 80)).alloc (.cells (ints (List.replicate n 0)).toArray 3)).drew = w_fresh_cba w wa g n := rfl
theorem fresh_cba {w wa : World} {g : Int} {n : Nat} (hz : ZB wa w.heap.size) (hb : Below w.heap.size w wa) (hs : wa.heap.size = w.heap.size + 1) (hn : (wants g).toNat = n) (h4 : n ≤ 4) :
    Box (w_fresh_cba w wa g n) w.heap.size g ⟨some ⟨w.heap.size + 1 + 1 + 1, 0, none⟩, n, n, some ⟨w.heap.size + 1 + 1, 0, none⟩, 1, 1, some ⟨w.heap.size + 1, 0, none⟩, 1, 1, none, 0, 0⟩ ∧ Fresh (w_fresh_cba w wa g n) w.heap.size ⟨some ⟨w.heap.size + 1 + 1 + 1, 0, none⟩, n, n, some ⟨w.heap.size + 1 + 1, 0, none⟩, 1, 1, some ⟨w.heap.size + 1, 0, none⟩, 1, 1, none, 0, 0⟩ (freshI g) ∧ Below w.heap.size w (w_fresh_cba w wa g n)   := by
  unfold w_fresh_cba
  have h5 := five hz.box.1 hz.box.2 g ⟨some ⟨w.heap.size + 1 + 1 + 1, 0, none⟩, n, n, some ⟨w.heap.size + 1 + 1, 0, none⟩, 1, 1, some ⟨w.heap.size + 1, 0, none⟩, 1, 1, none, 0, 0⟩
  dsimp only at h5
  have hs5 : (((((wa.setCell ⟨w.heap.size, 0, none⟩ (.int .i64 g)).setCell ⟨w.heap.size, 1, none⟩ (.slice (some ⟨w.heap.size + 1 + 1 + 1, 0, none⟩) n n)).setCell ⟨w.heap.size, 2, none⟩ (.slice (some ⟨w.heap.size + 1 + 1, 0, none⟩) 1 1)).setCell ⟨w.heap.size, 3, none⟩ (.slice (some ⟨w.heap.size + 1, 0, none⟩) 1 1)).setCell ⟨w.heap.size, 4, none⟩ (.slice none 0 0)).heap.size = wa.heap.size := by simp [World.setCell]
  have hb5 := hb.grown h5.2.2 (by omega) (fun j e => by injection e with e; omega)
  have hx := h5.1
  clear h5
  generalize (((((wa.setCell ⟨w.heap.size, 0, none⟩ (.int .i64 g)).setCell ⟨w.heap.size, 1, none⟩ (.slice (some ⟨w.heap.size + 1 + 1 + 1, 0, none⟩) n n)).setCell ⟨w.heap.size, 2, none⟩ (.slice (some ⟨w.heap.size + 1 + 1, 0, none⟩) 1 1)).setCell ⟨w.heap.size, 3, none⟩ (.slice (some ⟨w.heap.size + 1, 0, none⟩) 1 1)).setCell ⟨w.heap.size, 4, none⟩ (.slice none 0 0)) = W5 at *
  rw [hs] at hs5
  obtain ⟨t1, t2, t3, tb⟩ := three W5 #[.int .i64 0] #[.int .i64 0, .string { data := #[] }, .slice none 0 0] (ints (List.replicate n 0)).toArray 3 80 3
  rw [hs5] at t1 t2 t3
  exact ⟨hx.keep tb (by omega), (show FreshB _ (w.heap.size + 1 + 1 + 1) (w.heap.size + 1 + 1) (w.heap.size + 1) n from ⟨t3, t2, t1⟩).own hn h4 (by omega) (by omega) (by omega) (by omega), hb5.trans (tb.mono (by omega))⟩
theorem make_slot1 (W : World) : (Instr.makeSlice 24 (.int .i64 1) (.int .i64 1)).run Try.prog W = .ok (.slice (some ⟨W.heap.size, 0, none⟩) 1 1) (W.alloc (.cells #[.int .i64 0, .string { data := #[] }, .slice none 0 0] 80)) := by
  obtain ⟨i0, hi0, hz0, hz1, hz2⟩ := info_parts Try.infoSlot
  have h := run_makeSlice (P := Try.prog) (w := W) 24 80 i0 _ Try.underlying24 hi0 hz0 .i64 .i64 1 1 (by omega) (Int.le_refl _) (by rw [hz1]; simp) (by rw [hz2]; decide) (by decide)
  rw [h, hz1]
  have e : madeCells (Value.agg #[Value.int IntKind.i64 0, Value.string { data := #[] }, Value.slice none 0 0]).cells (Int.toNat 1 * 3) = #[Value.int IntKind.i64 0, Value.string { data := #[] }, Value.slice none 0 0] := by kernel_rfl
  rw [e]; rfl
theorem make_int1 (W : World) : (Instr.makeSlice 23 (.int .i64 1) (.int .i64 1)).run Try.prog W = .ok (.slice (some ⟨W.heap.size, 0, none⟩) 1 1) (W.alloc (.cells #[.int .i64 0] 3)) := make_ints 1 (by omega) W
set_option maxRecDepth 100000 in
set_option maxHeartbeats 2000000 in
theorem fresh_any (g : Int) (w : World) (h0 : 0 ≤ g) (h16 : g ≤ 16) :
    Calls Try.prog 32 #[.int .i64 g] w fun e w' => ∃ v, e = .returned (imgV (freshI g) v) ∧ Fresh w' w.heap.size v (freshI g) ∧ Below w.heap.size w w' := by
  have KW := Lib.hid (fun W => wants_any g W h0 (by omega))
  obtain ⟨n, hn⟩ : ∃ n : Nat, wants g = (n : Nat) := ⟨(wants g).toNat, by unfold wants; omega⟩
  have h4 : n ≤ 4 := by unfold wants at hn; omega
  have hnt : (wants g).toNat = n := by rw [hn]; rfl
  have hmk := make_ints n (by omega)
  have hm1 := make_int1
  have hm2 := make_slot1
  rw [hn] at KW
  have hz := ZB.new w
  have hb := below1 w (.cells #[.int .i64 0, .slice none 0 0, .slice none 0 0, .slice none 0 0, .slice none 0 0] 27)
  have hs : (w.alloc (.cells #[.int .i64 0, .slice none 0 0, .slice none 0 0, .slice none 0 0, .slice none 0 0] 27)).heap.size = w.heap.size + 1 := World.size_alloc _ _
  go_enter Try.func32, Try.ntmps32
  go_upto_region 1 with fail
  generalize w.alloc (.cells #[.int .i64 0, .slice none 0 0, .slice none 0 0, .slice none 0 0, .slice none 0 0] 27) = wa at *
  have HBd : Hid (Below w.heap.size w wa.drew) := Lib.hid hb.drew
  have hs' : wa.drew.heap.size = w.heap.size + 1 := hs
  obtain ⟨y0, y1, y2, y3, y4⟩ := hz.cells
  obtain ⟨q0, q1, q2, q3, q4⟩ := hz.froz
  go_region_held3 (fun _ => True)
    (exact trivial)
    (first | (go_at_call 43; refine (KW.out _).mono ?_; rintro e w5 ⟨rfl, rfl⟩))
  all_goals
    go_wp2_with fail
  all_goals first
    | (rw [fresh_abc_is]; obtain ⟨⟨k0, k1, k2, k3, k4⟩, hF, hB⟩ := fresh_abc hz hb hs hnt h4; dsimp only at k0 k1 k2 k3 k4; refine bodyPost_ret (v := imgV (freshI g) ⟨some ⟨w.heap.size + 1, 0, none⟩, n, n, some ⟨w.heap.size + 1 + 1, 0, none⟩, 1, 1, some ⟨w.heap.size + 1 + 1 + 1, 0, none⟩, 1, 1, none, 0, 0⟩) ?_ rfl ⟨_, rfl, hF, hB⟩; simp [results, Try.results32, go_sem, imgV, freshI, k0, k1, k2, k3, k4]; done)
    | (rw [fresh_acb_is]; obtain ⟨⟨k0, k1, k2, k3, k4⟩, hF, hB⟩ := fresh_acb hz hb hs hnt h4; dsimp only at k0 k1 k2 k3 k4; refine bodyPost_ret (v := imgV (freshI g) ⟨some ⟨w.heap.size + 1, 0, none⟩, n, n, some ⟨w.heap.size + 1 + 1 + 1, 0, none⟩, 1, 1, some ⟨w.heap.size + 1 + 1, 0, none⟩, 1, 1, none, 0, 0⟩) ?_ rfl ⟨_, rfl, hF, hB⟩; simp [results, Try.results32, go_sem, imgV, freshI, k0, k1, k2, k3, k4]; done)
    | (rw [fresh_bac_is]; obtain ⟨⟨k0, k1, k2, k3, k4⟩, hF, hB⟩ := fresh_bac hz hb hs hnt h4; dsimp only at k0 k1 k2 k3 k4; refine bodyPost_ret (v := imgV (freshI g) ⟨some ⟨w.heap.size + 1 + 1, 0, none⟩, n, n, some ⟨w.heap.size + 1, 0, none⟩, 1, 1, some ⟨w.heap.size + 1 + 1 + 1, 0, none⟩, 1, 1, none, 0, 0⟩) ?_ rfl ⟨_, rfl, hF, hB⟩; simp [results, Try.results32, go_sem, imgV, freshI, k0, k1, k2, k3, k4]; done)
    | (rw [fresh_bca_is]; obtain ⟨⟨k0, k1, k2, k3, k4⟩, hF, hB⟩ := fresh_bca hz hb hs hnt h4; dsimp only at k0 k1 k2 k3 k4; refine bodyPost_ret (v := imgV (freshI g) ⟨some ⟨w.heap.size + 1 + 1 + 1, 0, none⟩, n, n, some ⟨w.heap.size + 1, 0, none⟩, 1, 1, some ⟨w.heap.size + 1 + 1, 0, none⟩, 1, 1, none, 0, 0⟩) ?_ rfl ⟨_, rfl, hF, hB⟩; simp [results, Try.results32, go_sem, imgV, freshI, k0, k1, k2, k3, k4]; done)
    | (rw [fresh_cab_is]; obtain ⟨⟨k0, k1, k2, k3, k4⟩, hF, hB⟩ := fresh_cab hz hb hs hnt h4; dsimp only at k0 k1 k2 k3 k4; refine bodyPost_ret (v := imgV (freshI g) ⟨some ⟨w.heap.size + 1 + 1, 0, none⟩, n, n, some ⟨w.heap.size + 1 + 1 + 1, 0, none⟩, 1, 1, some ⟨w.heap.size + 1, 0, none⟩, 1, 1, none, 0, 0⟩) ?_ rfl ⟨_, rfl, hF, hB⟩; simp [results, Try.results32, go_sem, imgV, freshI, k0, k1, k2, k3, k4]; done)
    | (rw [fresh_cba_is]; obtain ⟨⟨k0, k1, k2, k3, k4⟩, hF, hB⟩ := fresh_cba hz hb hs hnt h4; dsimp only at k0 k1 k2 k3 k4; refine bodyPost_ret (v := imgV (freshI g) ⟨some ⟨w.heap.size + 1 + 1 + 1, 0, none⟩, n, n, some ⟨w.heap.size + 1 + 1, 0, none⟩, 1, 1, some ⟨w.heap.size + 1, 0, none⟩, 1, 1, none, 0, 0⟩) ?_ rfl ⟨_, rfl, hF, hB⟩; simp [results, Try.results32, go_sem, imgV, freshI, k0, k1, k2, k3, k4]; done)
end Go.Proofs.Ytmdjoafbckphfaa
