/- tree.Entry, the reference's look, reads.page, pageOf. Conditions: the image is read below the heap's size; the entry is there. -/
import Derived.Test.YtnjjnioilbnnpaaTree1
namespace Go.Proofs.Ytnjjnioilbnnpaa
open Go.RowKit Sl

/-- Entry n is there. -/
structure EntOk (l : List Slot) (root : List Int) (n : Nat) : Prop where
  lt : n / 4 < root.length
  or : int root (n / 4) = 0 ∨ (1 ≤ int root (n / 4) ∧ int root (n / 4) < l.length ∧ n % 4 < (tableAt l (int root (n / 4))).length)
theorem tableAt_at {l : List Slot} {k : Nat} {s : Slot} (hs : l[k]? = some s) : tableAt l k = s.table := by unfold tableAt; rw [Int.toNat_natCast, hs]; rfl
theorem int_at {l : List Int} {k : Nat} {x : Int} (h : l[k]? = some x) : int l k = x := by unfold int; rw [List.getD_eq_getElem?_getD, h]; rfl
theorem entryOf_no {l : List Slot} {root : List Int} {n : Nat} (h : int root (n / 4) = 0) : entryOf l root n = 0 := by unfold entryOf; rw [h]; rfl
theorem entryOf_yes {l : List Slot} {root : List Int} {n t : Nat} {s : Slot} (h : int root (n / 4) = t) (ht : 1 ≤ t) (hs : l[t]? = some s) : entryOf l root n = int s.table (n % 4) := by
  unfold entryOf; rw [h, if_pos (by omega), tableAt_at hs]

set_option maxRecDepth 100000 in
set_option maxHeartbeats 400000 in
theorem entry_any (v : IV) (m : Img) (A : Option Addr) (n c : Nat) (root : List Int) (x : Nat) (w : World) (h : ImgR w w.heap.size v m) (hr : Rd w w.heap.size 1 A n (ints root)) (he : EntOk m.slots root x) (hn : n ≤ 4611686018427387903) :
    Calls Try.prog 54 #[.agg #[.int .i64 m.guest, .slice v.rA v.rn v.rc, .slice v.sA v.sn v.sc, .slice v.fA v.fn v.fc, .slice v.pA v.pn v.pc], .slice A n c, .int .i64 (x : Nat)] w fun e w' => e = .returned (.int .i64 (entryOf m.slots root x)) ∧ Below w.heap.size w w' := by
  obtain ⟨rA, rn, rc, sA, sn, sc, fA, fn, fc, pA, pn, pc⟩ := v
  dsimp only
  have hsl : m.slots.length = sn := h.slen
  have hlt := he.lt
  rw [hr.len] at hlt
  obtain ⟨b, o, t, rfl, hb, hx, hcell⟩ := hr.at1 hlt
  have hint := int_at hx
  have hcell' := ((below1 w (.cells #[.int .i64 m.guest, .slice rA rn rc, .slice sA sn sc, .slice fA fn fc, .slice pA pn pc] 26)).cell (p := ⟨b, o + x / 4, none⟩) hb).trans hcell
  have hor := he.or
  rw [hint] at hor
  have hltI : (x : Int) / 4 < n := by omega
  rcases hor with rfl | ⟨t1, t2, t3⟩
  · have R := Lib.hid (entryOf_no (l := m.slots) hint)
    clear h hr he hx hint hcell hsl
    go_enter Try.func54, Try.ntmps54
    go_wp2
    go_ret
    exact ⟨ret_int R.out, below1 _ _⟩
  · obtain ⟨k, rfl⟩ := Int.eq_ofNat_of_zero_le (a := t) (by omega)
    obtain ⟨b2, o2, s, tA, tn, tc, rfl, hb2, hx2, c0, c1, c2, hs⟩ := h.slots.at_ (k := k) (by dsimp only; omega)
    rw [tableAt_at hx2] at t3
    have R := Lib.hid (entryOf_yes hint (by omega) hx2)
    rw [hs.table.len] at t3
    obtain ⟨b3, o3, y, rfl, hb3, hx3, hcell3⟩ := hs.table.at1 t3
    have hy := int_at hx3
    rw [hy] at R
    have c2' := ((below1 w (.cells #[.int .i64 m.guest, .slice rA rn rc, .slice (some ⟨b2, o2, none⟩) sn sc, .slice fA fn fc, .slice pA pn pc] 26)).cell (p := ⟨b2, o2 + k * 3 + 2, none⟩) hb2).trans c2
    have c3' := ((below1 w (.cells #[.int .i64 m.guest, .slice rA rn rc, .slice (some ⟨b2, o2, none⟩) sn sc, .slice fA fn fc, .slice pA pn pc] 26)).cell (p := ⟨b3, o3 + x % 4, none⟩) hb3).trans hcell3
    have k1 : (0 : Int) < k := by omega
    have k2 : (k : Int) < sn := by omega
    have k3 : (x : Int) % 4 < tn := by omega
    clear h hr he hx hint hcell hsl hs hx2 hx3 hy c0 c1 c2 hcell3
    go_enter Try.func54, Try.ntmps54
    go_wp2
    go_ret
    exact ⟨ret_int R.out, below1 _ _⟩
set_option maxRecDepth 100000 in
set_option maxHeartbeats 400000 in
theorem look_any (v : IV) (m : Img) (A : Option Addr) (n c : Nat) (root : List Int) (x : Nat) (w : World) (h : ImgR w w.heap.size v m) (hr : Rd w w.heap.size 1 A n (ints root)) (he : EntOk m.slots root x) (hn : n ≤ 4611686018427387903) :
    Calls Try.prog 55 #[.agg #[.int .i64 m.guest, .slice v.rA v.rn v.rc, .slice v.sA v.sn v.sc, .slice v.fA v.fn v.fc, .slice v.pA v.pn v.pc], .slice A n c, .int .i64 (x : Nat)] w fun e w' => e = .returned (.int .i64 (entryOf m.slots root x)) ∧ Below w.heap.size w w' := by
  obtain ⟨rA, rn, rc, sA, sn, sc, fA, fn, fc, pA, pn, pc⟩ := v
  dsimp only
  have hsl : m.slots.length = sn := h.slen
  have hlt := he.lt
  rw [hr.len] at hlt
  obtain ⟨b, o, t, rfl, hb, hx, hcell⟩ := hr.at1 hlt
  have hint := int_at hx
  have hcell' := ((below1 w (.cells #[.int .i64 m.guest, .slice rA rn rc, .slice sA sn sc, .slice fA fn fc, .slice pA pn pc] 26)).cell (p := ⟨b, o + x / 4, none⟩) hb).trans hcell
  have hor := he.or
  rw [hint] at hor
  have hltI : (x : Int) / 4 < n := by omega
  rcases hor with rfl | ⟨t1, t2, t3⟩
  · have R := Lib.hid (entryOf_no (l := m.slots) hint)
    clear h hr he hx hint hcell hsl
    go_enter Try.func55, Try.ntmps55
    go_wp2
    go_ret
    exact ⟨ret_int R.out, below1 _ _⟩
  · obtain ⟨k, rfl⟩ := Int.eq_ofNat_of_zero_le (a := t) (by omega)
    obtain ⟨b2, o2, s, tA, tn, tc, rfl, hb2, hx2, c0, c1, c2, hs⟩ := h.slots.at_ (k := k) (by dsimp only; omega)
    rw [tableAt_at hx2] at t3
    have R := Lib.hid (entryOf_yes hint (by omega) hx2)
    rw [hs.table.len] at t3
    obtain ⟨b3, o3, y, rfl, hb3, hx3, hcell3⟩ := hs.table.at1 t3
    have hy := int_at hx3
    rw [hy] at R
    have c2' := ((below1 w (.cells #[.int .i64 m.guest, .slice rA rn rc, .slice (some ⟨b2, o2, none⟩) sn sc, .slice fA fn fc, .slice pA pn pc] 26)).cell (p := ⟨b2, o2 + k * 3 + 2, none⟩) hb2).trans c2
    have c3' := ((below1 w (.cells #[.int .i64 m.guest, .slice rA rn rc, .slice (some ⟨b2, o2, none⟩) sn sc, .slice fA fn fc, .slice pA pn pc] 26)).cell (p := ⟨b3, o3 + x % 4, none⟩) hb3).trans hcell3
    have k0 : ((k : Int) == 0) = false := by rw [beq_eq_false_iff_ne]; omega
    have k1 : (0 : Int) < k := by omega
    have k2 : (k : Int) < sn := by omega
    have k3 : (x : Int) % 4 < tn := by omega
    clear h hr he hx hint hcell hsl hs hx2 hx3 hy c0 c1 c2 hcell3
    go_enter Try.func55, Try.ntmps55
    go_wp2
    go_ret
    exact ⟨ret_int R.out, below1 _ _⟩
end Go.Proofs.Ytnjjnioilbnnpaa
