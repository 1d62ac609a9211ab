/- The texts WBegun, PureX5 in one. Conditions: as each says. -/
import Derived.Test.YtmdjoafbckphfaaWApi
import Derived.Test.YtmdjoafbckphfaaPureX
import Derived.Test.YtmdjoafbckphfaaTreeBegun
-- WBegun: The laws' writesBegun. No conditions. (Printed by gen_wbegun.py.)
namespace Go.Proofs.Ytmdjoafbckphfaa
open Go.RowKit Sl
def Bg_a (z : Img) : Prop := z.slots.length = 5 ∧ (z.slots[3]?).map (·.data) = some { data := #[99, 99, 99, 99] }
theorem bg_a0 : Bg_a (writeI (pImg 6 [2, 4] [0, 2, 2, 1, 1] [3, 0, 0, 0]) 4 { data := #[99, 99, 99, 99] }) ∧ writeE (pImg 6 [2, 4] [0, 2, 2, 1, 1] [3, 0, 0, 0]) 4 { data := #[99, 99, 99, 99] } = 0 := by unfold Bg_a; decide +kernel
theorem bg_a (W : World) (h : Nat) (p : PairAt W h [2, 4] [0, 2, 2, 1, 1] [3, 0, 0, 0]) : Calls Try.prog 25 #[.agg #[.int .i64 6, .slice (some ⟨h + 1, 0, none⟩) 2 2, .slice (some ⟨h + 1 + 1 + 1 + 1, 0, none⟩) 5 5, .slice (some ⟨h + 1 + 1 + 1 + 1 + 1, 0, none⟩) 5 5, .slice (some ⟨h + 1 + 1 + 1 + 1 + 1 + 1 + 1, 0, none⟩) 1 1], .int .i64 4, .string { data := #[99, 99, 99, 99] }] W fun e w' => ∃ v z, e = .returned (.tuple #[imgV z v, .int .i64 0]) ∧ Bg_a z ∧ ImgR w' w'.heap.size v z ∧ Below W.heap.size W w' := by
  have := write_any (pV h) _ 4 { data := #[99, 99, 99, 99] } W (p.img 6 rfl rfl rfl) (fun x => write_hw x)
  rw [bg_a0.2] at this
  exact this.mono fun e w' ⟨v, h1, h2, h3⟩ => ⟨v, _, h1, bg_a0.1, h2.imgR, h3⟩
def Bg_b (z : Img) : Prop := z.slots.length = 7 ∧ z.root = [5, 4] ∧ (z.slots[5]?).map (·.table) = some [6, 0, -1, 1] ∧ z.refs = [0, 3, 1, 1, 1, 1, 1]
theorem bg_b0 : Bg_b (writeI (pImg 6 [2, 4] [0, 2, 2, 1, 1] [3, 0, 0, 0]) 0 { data := #[100, 100, 100, 100] }) ∧ writeE (pImg 6 [2, 4] [0, 2, 2, 1, 1] [3, 0, 0, 0]) 0 { data := #[100, 100, 100, 100] } = 0 := by unfold Bg_b; decide +kernel
theorem bg_b (W : World) (h : Nat) (p : PairAt W h [2, 4] [0, 2, 2, 1, 1] [3, 0, 0, 0]) : Calls Try.prog 25 #[.agg #[.int .i64 6, .slice (some ⟨h + 1, 0, none⟩) 2 2, .slice (some ⟨h + 1 + 1 + 1 + 1, 0, none⟩) 5 5, .slice (some ⟨h + 1 + 1 + 1 + 1 + 1, 0, none⟩) 5 5, .slice (some ⟨h + 1 + 1 + 1 + 1 + 1 + 1 + 1, 0, none⟩) 1 1], .int .i64 0, .string { data := #[100, 100, 100, 100] }] W fun e w' => ∃ v z, e = .returned (.tuple #[imgV z v, .int .i64 0]) ∧ Bg_b z ∧ ImgR w' w'.heap.size v z ∧ Below W.heap.size W w' := by
  have := write_any (pV h) _ 0 { data := #[100, 100, 100, 100] } W (p.img 6 rfl rfl rfl) (fun x => write_hw x)
  rw [bg_b0.2] at this
  exact this.mono fun e w' ⟨v, h1, h2, h3⟩ => ⟨v, _, h1, bg_b0.1, h2.imgR, h3⟩
def Bg_c (z : Img) : Prop := z.slots.length = 5 ∧ z.root = [2, 0] ∧ (z.slots[3]?).map (·.kind) = some 0
theorem bg_c0 : Bg_c (setI (pImg 6 [2, 4] [0, 2, 2, 1, 1] [3, 0, 0, 0]) 4 0) ∧ setE (pImg 6 [2, 4] [0, 2, 2, 1, 1] [3, 0, 0, 0]) 4 0 = 0 := by unfold Bg_c; decide +kernel
def Bg_d (z : Img) : Prop := z.slots.length = 5 ∧ (z.slots[4]?).map (·.table) = some [3, -1, 0, 0]
theorem bg_d0 : Bg_d (setI (pImg 6 [2, 4] [0, 2, 2, 1, 1] [3, 0, 0, 0]) 5 (-1)) ∧ setE (pImg 6 [2, 4] [0, 2, 2, 1, 1] [3, 0, 0, 0]) 5 (-1) = 0 := by unfold Bg_d; decide +kernel
def Bg_x (z : Img) : Prop := z.slots.length = 6 ∧ z.root = [5] ∧ (z.slots[5]?).map (·.table) = some [1, 0, -1, 0] ∧ (z.slots[4]?).map (·.kind) = some 0
theorem bg_x0 : Bg_x (resizeI (pImg 6 [2, 4] [0, 2, 2, 1, 1] [3, 0, 0, 0]) 3) ∧ resizeE (pImg 6 [2, 4] [0, 2, 2, 1, 1] [3, 0, 0, 0]) 3 = 0 := by unfold Bg_x; decide +kernel
theorem bg_x (W : World) (h : Nat) (p : PairAt W h [2, 4] [0, 2, 2, 1, 1] [3, 0, 0, 0]) : Calls Try.prog 18 #[.agg #[.int .i64 6, .slice (some ⟨h + 1, 0, none⟩) 2 2, .slice (some ⟨h + 1 + 1 + 1 + 1, 0, none⟩) 5 5, .slice (some ⟨h + 1 + 1 + 1 + 1 + 1, 0, none⟩) 5 5, .slice (some ⟨h + 1 + 1 + 1 + 1 + 1 + 1 + 1, 0, none⟩) 1 1], .int .i64 3] W fun e w' => ∃ v z, e = .returned (.tuple #[imgV z v, .int .i64 0]) ∧ Bg_x z ∧ ImgR w' w'.heap.size v z ∧ Below W.heap.size W w' := by
  have := resize_any (pV h) _ 3 W (p.img 6 rfl rfl rfl) (fun x => resize_hw x)
  rw [bg_x0.2] at this
  exact this.mono fun e w' ⟨v, h1, h2, h3⟩ => ⟨v, _, h1, bg_x0.1, h2.imgR, h3⟩
theorem slot_at {W : World} {v : IV} {z : Img} (h : ImgR W W.heap.size v z) {k : Nat} (hk : k < z.slots.length) : ∃ b o s tA tn tc, v.sA = some ⟨b, o, none⟩ ∧ b < W.heap.size ∧ z.slots[k]? = some s ∧ W.cell? ⟨b, o + k * 3, none⟩ = some (.int .i64 s.kind) ∧ W.cell? ⟨b, o + k * 3 + 1, none⟩ = some (.string s.data) ∧ W.cell? ⟨b, o + k * 3 + 2, none⟩ = some (.slice tA tn tc) ∧ Rd W W.heap.size 1 tA tn (ints s.table) := by
  obtain ⟨b, o, s, tA, tn, tc, hA, hb, hx, d0, d1, d2, hsv⟩ := h.slots.at_ (k := k) (by have := h.slen; omega)
  refine ⟨b, o, s, tA, tn, tc, hA, hb, hx, ?_, ?_, ?_, hsv.table⟩
  · exact d0
  · exact d1
  · exact d2
end Go.Proofs.Ytmdjoafbckphfaa
-- PureX5: What Write, Wipe, Punch and Resize answer, of a right image. No conditions.
namespace Go.Proofs.Ytmdjoafbckphfaa
open Sl
/-- Another image, that has the page pg at n; all else as it was. -/
structure WOk (m y : Img) (n : Nat) (pg : ByteArray) : Prop where
  right : checkErr y = 0
  guest : y.guest = m.guest
  snaps : y.snaps = m.snaps
  new : pageAt y y.root n = pg
  else_ : ∀ i, i ≠ n → pageAt y y.root i = pageAt m m.root i
  past : ∀ s ∈ m.snaps, ∀ i, pageAt y s.root i = pageAt m s.root i
theorem WEff.ok {m x : Img} {n : Nat} {pg : ByteArray} (h : WEff m x n pg) : WOk m (settled x) n pg := by
  have hr : (settled x).root = x.root := rfl
  refine ⟨settled_right h.sound, h.guest, h.snaps, ?_, fun i hi => ?_, fun s hs i => ?_⟩
  · rw [hr, settled_pages h.sound (mem_root x)]; exact h.new
  · rw [hr, settled_pages h.sound (mem_root x)]; exact h.else_ i hi
  · rw [settled_pages h.sound (mem_snap (by rw [h.snaps]; exact hs))]; exact h.past s hs i
theorem out_some {o : Option Img} (h : outE o = 0) : ∃ x, o = some x := by
  cases o with
  | none => exact absurd h (by decide)
  | some x => exact ⟨x, rfl⟩
theorem writes_ok {m : Img} {n : Int} {pg : ByteArray} (h : writeE m n pg = 0) : ∃ k : Nat, ∃ x, n = (k : Nat) ∧ (k : Int) < m.guest ∧ pg.size = 4 ∧ checkErr m = 0 ∧ writeM m k pg = some x ∧ writeI m n pg = settled x ∧ WOk m (settled x) k pg ∧ After x k ∧ Sound x ∧ (settled x).slots.length ≤ m.slots.length + 2 := by
  unfold writeE at h
  split at h
  · rename_i he
    split at h
    · rename_i hp
      obtain ⟨hm, h0, hn⟩ := look_is he
      obtain ⟨k, rfl⟩ := Int.eq_ofNat_of_zero_le h0
      obtain ⟨x, hx⟩ := out_some h
      rw [Int.toNat_natCast] at hx
      obtain ⟨⟨E, A⟩, hl⟩ := write_eff hm (page_in hm hn) hn hp hx
      exact ⟨k, x, rfl, hn, hp, hm, hx, by unfold writeI; rw [if_pos ⟨he, hp⟩, Int.toNat_natCast, hx]; rfl, E.ok, A, E.sound, by rw [settled_len]; exact hl⟩
    · omega
  · contradiction
theorem put_len {m x : Img} {k : Nat} {t : List Int} (h : putM m k t = some x) : x.slots.length ≤ m.slots.length + 1 := by
  unfold putM at h
  split at h
  · injection h with h; rw [← h]; omega
  · split at h
    · injection h with h; rw [← h]; exact Nat.le_succ _
    · split at h
      · injection h with h; rw [← h]; simp
      · split at h
        · cases h
        · injection h with h; rw [← h]; dsimp only; rw [laid_len']; split <;> omega
theorem sets_ok {m : Img} {n e : Int} (hf : fine e = true) (h0 : e ≤ 0) (h : setE m n e = 0) : ∃ k : Nat, ∃ x, n = (k : Nat) ∧ (k : Int) < m.guest ∧ checkErr m = 0 ∧ setM m k e = some x ∧ setI m n e = settled x ∧ WOk m (settled x) k zeroP ∧ Sound x ∧ (settled x).slots.length ≤ m.slots.length + 1 := by
  unfold setE at h
  split at h
  · rename_i he
    obtain ⟨hm, h1, hn⟩ := look_is he
    obtain ⟨k, rfl⟩ := Int.eq_ofNat_of_zero_le h1
    obtain ⟨x, hx⟩ := out_some h
    rw [Int.toNat_natCast] at hx
    have E := set_eff hm (page_in hm hn) hn hf h0 hx
    exact ⟨k, x, rfl, hn, hm, hx, by unfold setI; rw [if_pos he, Int.toNat_natCast, hx]; rfl, E.ok, E.sound, by rw [settled_len]; exact put_len hx⟩
  · contradiction
/-- Another image of g pages. -/
structure ROk (m y : Img) (g : Nat) : Prop where
  right : checkErr y = 0
  guest : y.guest = (g : Nat)
  snaps : y.snaps = m.snaps
  pages : ∀ i, i < g → pageAt y y.root i = pageAt m m.root i
  past : ∀ s ∈ m.snaps, ∀ i, pageAt y s.root i = pageAt m s.root i
theorem resizes_ok {m : Img} {g : Int} (h : resizeE m g = 0) : ∃ k : Nat, ∃ x, g = (k : Nat) ∧ k ≤ 16 ∧ checkErr m = 0 ∧ resizeM m k = some x ∧ resizeI m g = settled x ∧ ROk m (settled x) k ∧ Sound x := by
  unfold resizeE at h
  split at h
  · rename_i hm
    split at h
    · rename_i hg
      obtain ⟨k, rfl⟩ := Int.eq_ofNat_of_zero_le hg.1
      obtain ⟨x, hx⟩ := out_some h
      rw [Int.toNat_natCast] at hx
      have E := resize_eff hm (by omega) hx
      have hr : (settled x).root = x.root := rfl
      refine ⟨k, x, rfl, by omega, hm, hx, by unfold resizeI; rw [if_pos ⟨hm, hg⟩, Int.toNat_natCast, hx]; rfl, ⟨settled_right E.sound, E.guest, E.snaps, fun i hi => ?_, fun s hs i => ?_⟩, E.sound⟩
      · rw [hr, settled_pages E.sound (mem_root x)]; exact E.pages i hi
      · rw [settled_pages E.sound (mem_snap (by rw [E.snaps]; exact hs))]; exact E.past s hs i
    · omega
  · contradiction
theorem fa_right {m : Img} {n : Int} {pg : ByteArray} (h : writeE m n pg = 0) : checkErr (writeI m n pg) = 0 ∧ (writeI m n pg).slots.length ≤ m.slots.length + 2 := by
  obtain ⟨k, x, _, _, _, _, _, e, o, _, _, l⟩ := writes_ok h
  rw [e]; exact ⟨o.right, l⟩
theorem fs_right {m : Img} {n e : Int} (hf : fine e = true) (h0 : e ≤ 0) (h : setE m n e = 0) : checkErr (setI m n e) = 0 ∧ (setI m n e).slots.length ≤ m.slots.length + 1 := by
  obtain ⟨k, x, _, _, _, _, e', o, _, l⟩ := sets_ok hf h0 h
  rw [e']; exact ⟨o.right, l⟩
theorem fr_right {m : Img} {g : Int} (h : resizeE m g = 0) : checkErr (resizeI m g) = 0 ∧ (resizeI m g).guest = g := by
  obtain ⟨k, x, e0, _, _, _, e, o, _⟩ := resizes_ok h
  rw [e]; exact ⟨o.right, by rw [o.guest, e0]⟩
end Go.Proofs.Ytmdjoafbckphfaa
