/- The laws FlatTells and FlatTrue, walked. No conditions beside the reading of the arguments. -/
import Derived.Test.YtiodlalfmeeemaaFlat2
import Derived.Test.YtiodlalfmeeemaaSame
namespace Go.Proofs.Ytiodlalfmeeemaa
open Go.RowKit Sl

/-- The slice is read as the texts l, wherever it lies. -/
def Got (w : World) (A : Option Addr) (n : Nat) (l : List ByteArray) : Prop := Rd w w.heap.size 1 A n (l.map Value.string)
theorem Got.next {w w' : World} {A : Option Addr} {n : Nat} {l : List ByteArray} (h : Got w A n l) (hb : Below w.heap.size w w') : Got w' A n l := (Rd.below h hb (Nat.le_refl _)).more hb.size
theorem Got.strs {w : World} {A : Option Addr} {n : Nat} {l : List ByteArray} (h : Got w A n l) (hs : ∀ s ∈ l, s.size ≤ 140737488351232) : StrsR w w.heap.size A n l := ⟨h, hs⟩

theorem flatWrite_is {l : List ByteArray} {n : Int} {p : ByteArray} (h : flatWriteE l n p = 0) : pagesErr l = 0 ∧ 0 ≤ n ∧ n < l.length ∧ p.size = 4 := by
  unfold flatWriteE at h
  split at h
  · rename_i h1
    obtain ⟨a, b, c⟩ := flatRead_is h1
    split at h
    · rename_i h2; exact ⟨a, b, c, h2⟩
    · omega
  · rename_i h1; exact absurd h h1
theorem flatWriteV_len (l : List ByteArray) (n : Int) (p : ByteArray) : (flatWriteV l n p).length ≤ 16 := by
  unfold flatWriteV
  split
  · rename_i h
    have := (pagesErr_len (flatWrite_is h).1).1
    rw [List.length_set]; exact this
  · simp
theorem flatResize_is {l : List ByteArray} {g : Int} (h : flatResizeE l g = 0) : pagesErr l = 0 ∧ 0 ≤ g ∧ g ≤ 16 := by
  unfold flatResizeE at h
  split at h
  · split at h
    · rename_i h1 h2; exact ⟨h1, h2.1, h2.2⟩
    · omega
  · rename_i h1; exact absurd h h1
theorem flatResizeV_len (l : List ByteArray) (g : Int) : (flatResizeV l g).length ≤ 32 := by
  unfold flatResizeV
  split
  · rename_i h
    obtain ⟨a, b, c⟩ := flatResize_is h
    have := (pagesErr_len a).1
    rw [List.length_append, List.length_take, List.length_replicate]; omega
  · simp
theorem all_set (l : List ByteArray) (k : Nat) (p : ByteArray) (h : l.all isPage = true) (hp : isPage p = true) : (l.set k p).all isPage = true := by
  rw [List.all_eq_true] at *
  intro x hx
  rcases List.mem_or_eq_of_mem_set hx with h1 | rfl
  · exact h x h1
  · exact hp
theorem pagesErr_set {l : List ByteArray} {k : Nat} {p : ByteArray} (h : pagesErr l = 0) (hp : p.size = 4) : pagesErr (l.set k p) = 0 := by
  obtain ⟨a, b⟩ := pagesErr_len h
  exact pagesErr_ok (by rw [List.length_set]; exact a) (all_set l k p b (by unfold isPage; simp [hp]))
theorem flatTrue_write {l : List ByteArray} {n k : Int} {p : ByteArray} (h : flatWriteE l n p = 0) :
    flatReadE (flatWriteV l n p) n = 0 ∧ flatReadV (flatWriteV l n p) n = p ∧ flatReadE (flatWriteV l n p) k = flatReadE l k ∧ (k ≠ n → flatReadV (flatWriteV l n p) k = flatReadV l k) := by
  obtain ⟨a, b, c, d⟩ := flatWrite_is h
  have hv : flatWriteV l n p = l.set n.toNat p := by unfold flatWriteV; rw [if_pos h]
  rw [hv]
  have e1 := pagesErr_set (k := n.toNat) a d
  have e2 : ∀ j : Int, flatReadE (l.set n.toNat p) j = flatReadE l j := by
    intro j; unfold flatReadE; rw [if_pos e1, if_pos a, List.length_set]
  have e3 : flatReadE l n = 0 := by unfold flatReadE; rw [if_pos a, if_pos ⟨b, c⟩]
  refine ⟨by rw [e2]; exact e3, ?_, e2 k, fun hk => ?_⟩
  · unfold flatReadV; rw [e2, if_pos e3, List.getD_eq_getElem?_getD, List.getElem?_set_self (by omega)]; rfl
  · unfold flatReadV; rw [e2]
    split
    · rename_i h0
      obtain ⟨_, q1, q2⟩ := flatRead_is h0
      rw [List.getD_eq_getElem?_getD, List.getD_eq_getElem?_getD, List.getElem?_set_ne (by omega)]
    · rfl
theorem flatTrue_resize {l : List ByteArray} {g : Int} (h : flatResizeE l g = 0) (hg : (l.length : Int) ≤ g) :
    flatResizeE (flatResizeV l g) (l.length : Nat) = 0 ∧ flatResizeV (flatResizeV l g) (l.length : Nat) = l := by
  obtain ⟨a, b, c⟩ := flatResize_is h
  obtain ⟨p1, p2⟩ := pagesErr_len a
  have hv : flatResizeV l g = l ++ List.replicate (g.toNat - l.length) zeroP := by
    unfold flatResizeV; rw [if_pos h, List.take_of_length_le (by omega)]
  have hp : pagesErr (flatResizeV l g) = 0 := by
    rw [hv]
    refine pagesErr_ok (by rw [List.length_append, List.length_replicate]; omega) ?_
    rw [List.all_append, p2, Bool.true_and, List.all_eq_true]
    intro x hx
    rw [(List.mem_replicate.1 hx).2]; decide
  obtain ⟨r1, r2⟩ := flatResize_ok (g := l.length) hp (by omega)
  refine ⟨r1, ?_⟩
  rw [r2, hv]
  simp

theorem pages_small {l : List ByteArray} (h : pagesErr l = 0) : ∀ s ∈ l, s.size ≤ 140737488351232 := by
  intro s hs
  have := List.all_eq_true.1 (pagesErr_len h).2 s hs
  unfold isPage at this
  rw [beq_iff_eq] at this
  omega
theorem flatWriteV_ok (l : List ByteArray) (n : Int) (p : ByteArray) : pagesErr (flatWriteV l n p) = 0 := by
  unfold flatWriteV
  split
  · rename_i h
    obtain ⟨a, _, _, d⟩ := flatWrite_is h
    exact pagesErr_set a d
  · rfl
theorem flatResizeV_ok (l : List ByteArray) (g : Int) : pagesErr (flatResizeV l g) = 0 := by
  unfold flatResizeV
  split
  · rename_i h
    obtain ⟨a, b, c⟩ := flatResize_is h
    obtain ⟨p1, p2⟩ := pagesErr_len a
    refine pagesErr_ok (by rw [List.length_append, List.length_take, List.length_replicate]; omega) ?_
    rw [List.all_append, Bool.and_eq_true, List.all_eq_true, List.all_eq_true]
    refine ⟨fun x hx => List.all_eq_true.1 p2 x (List.mem_of_mem_take hx), fun x hx => ?_⟩
    rw [(List.mem_replicate.1 hx).2]; decide
  · rfl

def pA : ByteArray := { data := #[97, 98, 99, 100] }
def pB : ByteArray := { data := #[101, 102, 103, 104] }
def pX : ByteArray := { data := #[120, 120, 120, 120] }
theorem fb1 (W : World) (T : TypeId) (b : Nat) (hb : W.heap.size = b) : Calls Try.prog 20 #[.slice (some ⟨b, 0, none⟩) 1 1, .int .i64 0] (W.alloc (.cells #[.string pA] T)) fun e w' => e = .returned (.tuple #[.string pA, .int .i64 0]) ∧ W.alloc (.cells #[.string pA] T) = w' := by
  subst hb
  have h := fread_any (some ⟨W.heap.size, 0, none⟩) 1 1 [pA] 0 (W.alloc (.cells #[.string pA] T)) ⟨Rd.of_block (heap_alloc_new W _) (by simp) rfl rfl, by decide⟩ (by omega)
  rwa [show flatReadV [pA] 0 = pA from by decide +kernel, show flatReadE [pA] 0 = 0 from by decide +kernel] at h
theorem fb2 (W : World) (T : TypeId) (b : Nat) (hb : W.heap.size = b) : Calls Try.prog 21 #[.slice (some ⟨b, 0, none⟩) 2 2, .int .i64 1, .string pX] (W.alloc (.cells #[.string pA, .string pB] T)) (OwnPair (b + 1) 9 1 ([pA, pX].map Value.string) 0 (W.alloc (.cells #[.string pA, .string pB] T))) := by
  subst hb
  have h := fwrite_any (some ⟨W.heap.size, 0, none⟩) 2 2 [pA, pB] 1 pX (W.alloc (.cells #[.string pA, .string pB] T)) ⟨Rd.of_block (heap_alloc_new W _) (by simp) rfl rfl, by decide⟩ (by omega)
  rwa [show flatWriteV [pA, pB] 1 pX = [pA, pX] from by decide +kernel, show flatWriteE [pA, pB] 1 pX = 0 from by decide +kernel, show (W.alloc (.cells #[.string pA, .string pB] T)).heap.size = W.heap.size + 1 from by simp] at h
theorem fb3 (W : World) (A : Option Addr) (c : Nat) (h : Got W A 2 [pA, pX]) (hc : 2 ≤ c) : Calls Try.prog 22 #[.slice A 2 c, .int .i64 3] W (OwnPair W.heap.size 9 1 ([pA, pX, zeroP].map Value.string) 0 W) := by
  have h := fresize_any A 2 c [pA, pX] 3 W (h.strs (by decide)) hc (by omega)
  rwa [show flatResizeV [pA, pX] 3 = [pA, pX, zeroP] from by decide +kernel, show flatResizeE [pA, pX] 3 = 0 from by decide +kernel] at h
theorem fb4 (W : World) : Calls Try.prog 20 #[.slice none 0 0, .int .i64 0] W fun e w' => e = .returned (.tuple #[.string noP, .int .i64 3]) ∧ W = w' := by
  have h := fread_any none 0 0 [] 0 W StrsR.none_ (by omega)
  rwa [show flatReadV [] 0 = noP from by decide +kernel, show flatReadE [] 0 = 3 from by decide +kernel] at h

set_option maxRecDepth 100000 in
set_option maxHeartbeats 400000 in
theorem flatBegun_any (w : World) : Calls Try.prog 26 #[] w fun e w' => e = .returned (.bool true) ∧ Below w.heap.size w w' := by
  go_enter Try.func26, Try.ntmps26
  go_wp2_with fail
  refine (fb1 _ _ _ (by simp)).mono ?_
  rintro e w1 ⟨rfl, rfl⟩
  unfold pA
  go_wp2_with fail
  refine (fb2 _ _ _ (by simp)).mono ?_
  rintro e w2 ⟨A2, n2, c2, rfl, ho2, hb2, hc2, hm2⟩
  have hn2 : n2 = 2 := by have := ho2.1; simp at this; omega
  subst hn2
  have hr2 : Got w2 A2 2 [pA, pX] := Rd.of_own ho2
  have HB2 := Lib.hid ((((Below.refl w.heap.size w).alloc (Nat.le_refl _) _).alloc (by simp) _).trans (hb2.mono (by omega)))
  clear ho2 hb2
  go_wp2_with fail
  refine (fb3 _ _ _ hr2 hc2).mono ?_
  rintro e w3 ⟨A3, n3, c3, rfl, ho3, hb3, hc3, hm3⟩
  have hn3 : n3 = 3 := by have := ho3.1; simp at this; omega
  subst hn3
  have hr3 : Got w3 A3 3 [pA, pX, zeroP] := Rd.of_own ho3
  have HB3 := Lib.hid (below_next HB2.out hb3)
  clear ho3 hb3 hr2
  go_wp2_with fail
  refine (fb4 _).mono ?_
  rintro e w4 ⟨rfl, rfl⟩
  have HS := Lib.hid (fun (cs : Array Value) T (hcs : cs.toList = [pA, pX, zeroP].map Value.string) => samePages_any A3 (some ⟨w3.heap.size, 0, none⟩) 3 3 c3 3 [pA, pX, zeroP] [pA, pX, zeroP] (w3.alloc (.cells cs T)) (hr3.next ((Below.refl _ _).alloc (Nat.le_refl _) _)) (Rd.of_block (heap_alloc_new w3 _) (by simp) hcs rfl) (by omega) (by omega))
  go_wp2_with fail
  refine (HS.out _ _ rfl).mono ?_
  rintro e w5 ⟨rfl, hb5⟩
  go_wp2_with fail
  go_ret
  exact ⟨rfl, HB3.out.trans (((Below.refl _ _).alloc (HB3.out.size) _).trans (hb5.mono (by have := HB3.out.size; simp; omega)))⟩

set_option maxRecDepth 100000 in
set_option maxHeartbeats 1000000 in
theorem law_flatTells (A : Option Addr) (n c : Nat) (l : List ByteArray) (x : Int) (p : ByteArray) (g : Int) (w : World) (h : StrsR w w.heap.size A n l) (hn : n ≤ c) (hc : n ≤ 4611686018427387903) :
    Calls Try.prog 5 #[.slice A n c, .int .i64 x, .string p, .int .i64 g] w fun e w' => e = .returned (.bool true) ∧ Below w.heap.size w w' := by
  have HB0 := Below.refl w.heap.size w
  have K1 := Lib.hid (fun W (hb : Below w.heap.size w W) => fread_any A n c l x W (h.next hb) hc)
  have K2 := Lib.hid (fun W (hb : Below w.heap.size w W) => fwrite_any A n c l x p W (h.next hb) hc)
  have K3 := Lib.hid (fun W (hb : Below w.heap.size w W) => fresize_any A n c l g W (h.next hb) hn hc)
  have K4 := Lib.hid (fun W (hb : Below w.heap.size w W) => rfread_any A n c l x W (h.next hb) hc)
  have K5 := Lib.hid (fun W (hb : Below w.heap.size w W) => rfwrite_any A n c l x p W (h.next hb) hc)
  have K6 := Lib.hid (fun W (hb : Below w.heap.size w W) => rfresize_any A n c l g W (h.next hb) hc)
  clear h hn
  generalize flatReadV l x = v1 at K1 K4
  generalize flatReadE l x = e1 at K1 K4
  generalize flatWriteE l x p = e2 at K2 K5
  generalize flatResizeE l g = e3 at K3 K6
  have z2 : (flatWriteV l x p).length ≤ 4611686018427387903 := by have := flatWriteV_len l x p; omega
  have z3 : (flatResizeV l g).length ≤ 4611686018427387903 := by have := flatResizeV_len l g; omega
  generalize flatWriteV l x p = v2 at K2 K5 z2
  generalize flatResizeV l g = v3 at K3 K6 z3
  go_enter Try.func5, Try.ntmps5
  go_wp2_with fail
  refine (K1.out _ HB0).mono ?_
  rintro e w1 ⟨rfl, rfl⟩
  go_wp2_with fail
  refine (K2.out _ HB0).mono ?_
  rintro e w2 ⟨A2, n2, c2, rfl, ho2, hb2, hc2, hm2⟩
  have r2 : Got w2 A2 n2 v2 := Rd.of_own ho2
  have l2 : n2 ≤ 4611686018427387903 := by have := ho2.1; simp at this; omega
  have HB2 := below_next HB0 hb2
  clear ho2 hb2
  go_wp2_with fail
  refine (K3.out _ HB2).mono ?_
  rintro e w3 ⟨A3, n3, c3, rfl, ho3, hb3, hc3, hm3⟩
  have r3 : Got w3 A3 n3 v3 := Rd.of_own ho3
  have l3 : n3 ≤ 4611686018427387903 := by have := ho3.1; simp at this; omega
  have HB3 := below_next HB2 hb3
  have r2 := r2.next hb3
  clear ho3 hb3 HB2
  go_wp2_with fail
  refine (K4.out _ HB3).mono ?_
  rintro e w4 ⟨rfl, rfl⟩
  go_wp2_with fail
  refine (K5.out _ HB3).mono ?_
  rintro e w5 ⟨A5, n5, c5, rfl, ho5, hb5, hc5, hm5⟩
  have r5 : Got w5 A5 n5 v2 := Rd.of_own ho5
  have l5 : n5 ≤ 4611686018427387903 := by have := ho5.1; simp at this; omega
  have HB5 := below_next HB3 hb5
  have r2 := r2.next hb5
  have r3 := r3.next hb5
  clear ho5 hb5 HB3
  go_wp2_with fail
  refine (K6.out _ HB5).mono ?_
  rintro e w6 ⟨A6, n6, c6, rfl, ho6, hb6, hc6, hm6⟩
  have r6 : Got w6 A6 n6 v3 := Rd.of_own ho6
  have l6 : n6 ≤ 4611686018427387903 := by have := ho6.1; simp at this; omega
  have HB6 := below_next HB5 hb6
  have r2 := r2.next hb6
  have r3 := r3.next hb6
  have r5 := r5.next hb6
  clear ho6 hb6 HB5 K1 K2 K3 K4 K5 K6 z2 z3
  go_wp2_with fail
  refine (flatBegun_any _).mono ?_
  rintro e w7 ⟨rfl, hb7⟩
  have HB7 := below_next HB6 hb7
  have r2 := r2.next hb7
  have r3 := r3.next hb7
  have r5 := r5.next hb7
  have r6 := r6.next hb7
  clear hb7 HB6
  go_wp2_with fail
  refine (samePages_any _ _ _ _ _ _ v2 v2 _ r2 r5 l2 l5).mono ?_
  rintro e w8 ⟨rfl, hb8⟩
  have HB8 := below_next HB7 hb8
  have r3 := r3.next hb8
  have r6 := r6.next hb8
  clear hb8 HB7
  go_wp2_with fail
  refine (samePages_any _ _ _ _ _ _ v3 v3 _ r3 r6 l3 l6).mono ?_
  rintro e w9 ⟨rfl, hb9⟩
  have HB9 := below_next HB8 hb9
  clear hb9 HB8
  go_wp2_with fail
  go_ret
  exact ⟨rfl, HB9⟩

set_option maxRecDepth 100000 in
set_option maxHeartbeats 2000000 in
theorem law_flatTrue (A : Option Addr) (n c : Nat) (l : List ByteArray) (x : Int) (p : ByteArray) (y g : Int) (w : World) (h : StrsR w w.heap.size A n l) (hn : n ≤ c) (hc : n ≤ 4611686018427387903) :
    Calls Try.prog 6 #[.slice A n c, .int .i64 x, .string p, .int .i64 y, .int .i64 g] w fun e w' => e = .returned (.bool true) ∧ Below w.heap.size w w' := by
  have HB0 := Below.refl w.heap.size w
  have hln := h.len
  have K1 := Lib.hid (fun W (hb : Below w.heap.size w W) => fread_any A n c l y W (h.next hb) hc)
  have K2 := Lib.hid (fun W (hb : Below w.heap.size w W) => fwrite_any A n c l x p W (h.next hb) hc)
  have K3 := Lib.hid (fun W (hb : Below w.heap.size w W) => fresize_any A n c l g W (h.next hb) hn hc)
  clear hn
  by_cases he : flatWriteE l x p = 0
  · have T := Lib.hid (flatTrue_write (k := y) he)
    have z2 := flatWriteV_len l x p
    have s2 := flatWriteV_ok l x p
    rw [he] at K2
    generalize flatWriteV l x p = v2 at K2 T z2 s2
    generalize flatReadE l y = e1 at K1 T
    clear he
    by_cases hxy : y = x
    · subst hxy
      have hyy : (y != y) = false := by simp
      go_enter Try.func6, Try.ntmps6
      go_wp2_with fail
      refine (K2.out _ HB0).mono ?_
      rintro e w2 ⟨A2, n2, c2, rfl, ho2, hb2, hc2, hm2⟩
      have r2 : Got w2 A2 n2 v2 := Rd.of_own ho2
      have l2 : n2 ≤ 4611686018427387903 := by have := ho2.1; simp at this; omega
      have HB2 := below_next HB0 hb2
      have K5 := fread_any A2 n2 c2 v2 y w2 (r2.strs (pages_small s2)) l2
      have K6 := fread_any A2 n2 c2 v2 y w2 (r2.strs (pages_small s2)) l2
      rw [T.out.1, T.out.2.1] at K5
      rw [T.out.2.2.1] at K6
      have H5 := Lib.hid K5
      have H6 := Lib.hid K6
      clear K5 K6 ho2 hb2 r2 s2 z2
      go_wp2_with fail
      refine H5.out.mono ?_
      rintro e w' ⟨rfl, rfl⟩
      go_wp2_with fail
      refine H6.out.mono ?_
      rintro e w' ⟨rfl, rfl⟩
      go_wp2_with fail
      refine (K1.out _ HB2).mono ?_
      rintro e w' ⟨rfl, rfl⟩
      by_cases hr : flatResizeE l g = 0 ∧ (l.length : Int) ≤ g
      · obtain ⟨hr1, hr2⟩ := hr
        obtain ⟨q1, q2⟩ := flatTrue_resize hr1 hr2
        have z3 := flatResizeV_len l g
        have s3 := flatResizeV_ok l g
        rw [hr1] at K3
        rw [hln] at hr2 q1 q2
        generalize flatResizeV l g = v3 at K3 q1 q2 z3 s3
        have Q1 := Lib.hid q1
        have Q2 := Lib.hid q2
        have LN := Lib.hid hln
        clear q1 q2 hr1 hln
        go_wp2_with fail
        refine (K3.out _ HB2).mono ?_
        rintro e w3 ⟨A3, n3, c3, rfl, ho3, hb3, hc3, hm3⟩
        have r3 : Got w3 A3 n3 v3 := Rd.of_own ho3
        have l3 : n3 ≤ 4611686018427387903 := by have := ho3.1; simp at this; omega
        have HB3 := below_next HB2 hb3
        have K7 := fresize_any A3 n3 c3 v3 (n : Nat) w3 (r3.strs (pages_small s3)) hc3 l3
        rw [Q1.out, Q2.out] at K7
        have H7 := Lib.hid K7
        clear ho3 hb3 K7 s3 z3 r3
        go_wp2_with fail
        refine H7.out.mono ?_
        rintro e w4 ⟨A4, n4, c4, rfl, ho4, hb4, hc4, hm4⟩
        have r4 : Got w4 A4 n4 l := Rd.of_own ho4
        have l4 : n4 ≤ 4611686018427387903 := by have := ho4.1; simp at this; have := LN.out; omega
        have HB4 := below_next HB3 hb4
        clear ho4 hb4
        go_wp2_with fail
        refine (flatBegun_any _).mono ?_
        rintro e w5 ⟨rfl, hb5⟩
        have HB5 := below_next HB4 hb5
        have r4 := r4.next hb5
        clear hb5
        go_wp2_with fail
        refine (samePages_any _ _ _ _ _ _ l l _ r4 (h.next HB5).1 l4 hc).mono ?_
        rintro e w6 ⟨rfl, hb6⟩
        have HB6 := below_next HB5 hb6
        clear hb6
        go_wp2_with fail
        go_ret
        exact ⟨rfl, HB6⟩
      · by_cases hr1 : flatResizeE l g = 0
        · have hr2 : g < (n : Int) := by rw [← hln]; omega
          rw [hr1] at K3
          clear hr hr1 hln
          go_wp2_with fail
          refine (K3.out _ HB2).mono ?_
          rintro e w3 ⟨A3, n3, c3, rfl, ho3, hb3, hc3, hm3⟩
          have HB3 := below_next HB2 hb3
          clear ho3 hb3
          go_wp2_with fail
          refine (flatBegun_any _).mono ?_
          rintro e w5 ⟨rfl, hb5⟩
          go_wp2_with fail
          go_ret
          exact ⟨rfl, below_next HB3 hb5⟩
        · have hr2 : (flatResizeE l g != 0) = true := by simpa using hr1
          clear hr hr1 hln
          go_wp2_with fail
          refine (K3.out _ HB2).mono ?_
          rintro e w3 ⟨A3, n3, c3, rfl, ho3, hb3, hc3, hm3⟩
          have HB3 := below_next HB2 hb3
          clear ho3 hb3
          go_wp2_with fail
          refine (flatBegun_any _).mono ?_
          rintro e w5 ⟨rfl, hb5⟩
          go_wp2_with fail
          go_ret
          exact ⟨rfl, below_next HB3 hb5⟩
    · have hyy : (y != x) = true := by simpa using hxy
      have T2 := Lib.hid (T.out.2.2.2 hxy)
      clear hxy
      go_enter Try.func6, Try.ntmps6
      go_wp2_with fail
      refine (K2.out _ HB0).mono ?_
      rintro e w2 ⟨A2, n2, c2, rfl, ho2, hb2, hc2, hm2⟩
      have r2 : Got w2 A2 n2 v2 := Rd.of_own ho2
      have l2 : n2 ≤ 4611686018427387903 := by have := ho2.1; simp at this; omega
      have HB2 := below_next HB0 hb2
      have K5 := fread_any A2 n2 c2 v2 x w2 (r2.strs (pages_small s2)) l2
      have K6 := fread_any A2 n2 c2 v2 y w2 (r2.strs (pages_small s2)) l2
      rw [T.out.1, T.out.2.1] at K5
      rw [T.out.2.2.1] at K6
      rw [T2.out] at K6
      have H5 := Lib.hid K5
      have H6 := Lib.hid K6
      clear K5 K6 ho2 hb2 r2 s2 z2
      go_wp2_with fail
      refine H5.out.mono ?_
      rintro e w' ⟨rfl, rfl⟩
      go_wp2_with fail
      refine H6.out.mono ?_
      rintro e w' ⟨rfl, rfl⟩
      go_wp2_with fail
      refine (K1.out _ HB2).mono ?_
      rintro e w' ⟨rfl, rfl⟩
      by_cases hr : flatResizeE l g = 0 ∧ (l.length : Int) ≤ g
      · obtain ⟨hr1, hr2⟩ := hr
        obtain ⟨q1, q2⟩ := flatTrue_resize hr1 hr2
        have z3 := flatResizeV_len l g
        have s3 := flatResizeV_ok l g
        rw [hr1] at K3
        rw [hln] at hr2 q1 q2
        generalize flatResizeV l g = v3 at K3 q1 q2 z3 s3
        have Q1 := Lib.hid q1
        have Q2 := Lib.hid q2
        have LN := Lib.hid hln
        clear q1 q2 hr1 hln
        go_wp2_with fail
        refine (K3.out _ HB2).mono ?_
        rintro e w3 ⟨A3, n3, c3, rfl, ho3, hb3, hc3, hm3⟩
        have r3 : Got w3 A3 n3 v3 := Rd.of_own ho3
        have l3 : n3 ≤ 4611686018427387903 := by have := ho3.1; simp at this; omega
        have HB3 := below_next HB2 hb3
        have K7 := fresize_any A3 n3 c3 v3 (n : Nat) w3 (r3.strs (pages_small s3)) hc3 l3
        rw [Q1.out, Q2.out] at K7
        have H7 := Lib.hid K7
        clear ho3 hb3 K7 s3 z3 r3
        go_wp2_with fail
        refine H7.out.mono ?_
        rintro e w4 ⟨A4, n4, c4, rfl, ho4, hb4, hc4, hm4⟩
        have r4 : Got w4 A4 n4 l := Rd.of_own ho4
        have l4 : n4 ≤ 4611686018427387903 := by have := ho4.1; simp at this; have := LN.out; omega
        have HB4 := below_next HB3 hb4
        clear ho4 hb4
        go_wp2_with fail
        refine (flatBegun_any _).mono ?_
        rintro e w5 ⟨rfl, hb5⟩
        have HB5 := below_next HB4 hb5
        have r4 := r4.next hb5
        clear hb5
        go_wp2_with fail
        refine (samePages_any _ _ _ _ _ _ l l _ r4 (h.next HB5).1 l4 hc).mono ?_
        rintro e w6 ⟨rfl, hb6⟩
        have HB6 := below_next HB5 hb6
        clear hb6
        go_wp2_with fail
        go_ret
        exact ⟨rfl, HB6⟩
      · by_cases hr1 : flatResizeE l g = 0
        · have hr2 : g < (n : Int) := by rw [← hln]; omega
          rw [hr1] at K3
          clear hr hr1 hln
          go_wp2_with fail
          refine (K3.out _ HB2).mono ?_
          rintro e w3 ⟨A3, n3, c3, rfl, ho3, hb3, hc3, hm3⟩
          have HB3 := below_next HB2 hb3
          clear ho3 hb3
          go_wp2_with fail
          refine (flatBegun_any _).mono ?_
          rintro e w5 ⟨rfl, hb5⟩
          go_wp2_with fail
          go_ret
          exact ⟨rfl, below_next HB3 hb5⟩
        · have hr2 : (flatResizeE l g != 0) = true := by simpa using hr1
          clear hr hr1 hln
          go_wp2_with fail
          refine (K3.out _ HB2).mono ?_
          rintro e w3 ⟨A3, n3, c3, rfl, ho3, hb3, hc3, hm3⟩
          have HB3 := below_next HB2 hb3
          clear ho3 hb3
          go_wp2_with fail
          refine (flatBegun_any _).mono ?_
          rintro e w5 ⟨rfl, hb5⟩
          go_wp2_with fail
          go_ret
          exact ⟨rfl, below_next HB3 hb5⟩
  · have he' : (flatWriteE l x p == 0) = false := by simpa using he
    clear he
    go_enter Try.func6, Try.ntmps6
    go_wp2_with fail
    refine (K2.out _ HB0).mono ?_
    rintro e w2 ⟨A2, n2, c2, rfl, ho2, hb2, hc2, hm2⟩
    have HB2 := below_next HB0 hb2
    clear ho2 hb2
    by_cases hr : flatResizeE l g = 0 ∧ (l.length : Int) ≤ g
    · obtain ⟨hr1, hr2⟩ := hr
      obtain ⟨q1, q2⟩ := flatTrue_resize hr1 hr2
      have z3 := flatResizeV_len l g
      have s3 := flatResizeV_ok l g
      rw [hr1] at K3
      rw [hln] at hr2 q1 q2
      generalize flatResizeV l g = v3 at K3 q1 q2 z3 s3
      have Q1 := Lib.hid q1
      have Q2 := Lib.hid q2
      have LN := Lib.hid hln
      clear q1 q2 hr1 hln
      go_wp2_with fail
      refine (K3.out _ HB2).mono ?_
      rintro e w3 ⟨A3, n3, c3, rfl, ho3, hb3, hc3, hm3⟩
      have r3 : Got w3 A3 n3 v3 := Rd.of_own ho3
      have l3 : n3 ≤ 4611686018427387903 := by have := ho3.1; simp at this; omega
      have HB3 := below_next HB2 hb3
      have K7 := fresize_any A3 n3 c3 v3 (n : Nat) w3 (r3.strs (pages_small s3)) hc3 l3
      rw [Q1.out, Q2.out] at K7
      have H7 := Lib.hid K7
      clear ho3 hb3 K7 s3 z3 r3
      go_wp2_with fail
      refine H7.out.mono ?_
      rintro e w4 ⟨A4, n4, c4, rfl, ho4, hb4, hc4, hm4⟩
      have r4 : Got w4 A4 n4 l := Rd.of_own ho4
      have l4 : n4 ≤ 4611686018427387903 := by have := ho4.1; simp at this; have := LN.out; omega
      have HB4 := below_next HB3 hb4
      clear ho4 hb4
      go_wp2_with fail
      refine (flatBegun_any _).mono ?_
      rintro e w5 ⟨rfl, hb5⟩
      have HB5 := below_next HB4 hb5
      have r4 := r4.next hb5
      clear hb5
      go_wp2_with fail
      refine (samePages_any _ _ _ _ _ _ l l _ r4 (h.next HB5).1 l4 hc).mono ?_
      rintro e w6 ⟨rfl, hb6⟩
      have HB6 := below_next HB5 hb6
      clear hb6
      go_wp2_with fail
      go_ret
      exact ⟨rfl, HB6⟩
    · by_cases hr1 : flatResizeE l g = 0
      · have hr2 : g < (n : Int) := by rw [← hln]; omega
        rw [hr1] at K3
        clear hr hr1 hln
        go_wp2_with fail
        refine (K3.out _ HB2).mono ?_
        rintro e w3 ⟨A3, n3, c3, rfl, ho3, hb3, hc3, hm3⟩
        have HB3 := below_next HB2 hb3
        clear ho3 hb3
        go_wp2_with fail
        refine (flatBegun_any _).mono ?_
        rintro e w5 ⟨rfl, hb5⟩
        go_wp2_with fail
        go_ret
        exact ⟨rfl, below_next HB3 hb5⟩
      · have hr2 : (flatResizeE l g != 0) = true := by simpa using hr1
        clear hr hr1 hln
        go_wp2_with fail
        refine (K3.out _ HB2).mono ?_
        rintro e w3 ⟨A3, n3, c3, rfl, ho3, hb3, hc3, hm3⟩
        have HB3 := below_next HB2 hb3
        clear ho3 hb3
        go_wp2_with fail
        refine (flatBegun_any _).mono ?_
        rintro e w5 ⟨rfl, hb5⟩
        go_wp2_with fail
        go_ret
        exact ⟨rfl, below_next HB3 hb5⟩
end Go.Proofs.Ytiodlalfmeeemaa
