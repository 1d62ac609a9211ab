/- reads.Read, All, Past; the reference's PastOf. Conditions: the image is read below the heap's size. -/
import Derived.Test.YtpboapeoejdipaaReads2
namespace Go.Proofs.Ytpboapeoejdipaa
open Go.RowKit Sl

theorem read_no {m : Img} {x : Int} (h : lookE m x ≠ 0) : readV m x = noP := by unfold readV; rw [if_neg h]
theorem read_ok {m : Img} {n : Nat} (h : lookE m (n : Nat) = 0) : readV m (n : Nat) = pageV m.slots (entryOf m.slots m.root n) := by unfold readV; rw [if_pos h, Int.toNat_natCast]
theorem allM_no {m : Img} (h : checkErr m ≠ 0) : allM m = [] := by unfold allM; rw [if_neg h]
theorem allM_ok {m : Img} (h : checkErr m = 0) : allM m = allV m.slots m.root m.guest.toNat := by unfold allM; rw [if_pos h]
theorem OwnRes.pair {base : Nat} {el : TypeId} {size n : Nat} {xs : List Value} {w w' : World} {A : Option Addr} {c : Nat} (ho : w'.ownsRow base el size (.slice A n c) n xs) (hb : Below base w w') (h1 : n ≤ c) (h2 : c ≤ maxLen) {xs' : List Value} {er er' : Int} (hx : xs = xs') (he : er = er') :
    OwnPair base el size xs' er w (.returned (.tuple #[.slice A n c, .int .i64 er'])) w' := by
  subst hx; subst he; exact ⟨A, n, c, rfl, ho, hb, h1, h2⟩
theorem own_base {w : World} {base base' size n : Nat} {e : TypeId} {v : Value} {xs : List Value} (h : w.ownsRow base e size v n xs) (hb : base' ≤ base) : w.ownsRow base' e size v n xs :=
  ⟨h.1, h.2.imp id fun ⟨g, cap, cur, h1, h2, h3⟩ => ⟨g, cap, cur, h1, by omega, h3⟩⟩

set_option maxRecDepth 100000 in
set_option maxHeartbeats 1000000 in
theorem tAll_any (v : IV) (m : Img) (w : World) (h : ImgR w w.heap.size v m) :
    Calls Try.prog 22 #[imgV m v] w (OwnPair w.heap.size 9 1 ((allM m).map Value.string) (checkErr m) w) := by
  have K1' := fun W (hb : Below w.heap.size w W) => tcheck_any v m W (h.next hb)
  by_cases he : checkErr m = 0
  · obtain ⟨g0, g16, hrf⟩ := own_facts he
    obtain ⟨g, hgm⟩ := Int.eq_ofNat_of_zero_le g0
    have R := Lib.hid (show allM m = allV m.slots m.root g from by rw [allM_ok he, hgm, Int.toNat_natCast])
    have K2 := Lib.hid (fun W (hb : Below w.heap.size w W) => tall_any v m g v.rA v.rn v.rc m.root W (h.next hb) (h.root.next hb) h.rcap.1 (by omega) (fun k hk => entOk_own he (by omega)) (fun k => entry_ok he m.root k))
    rw [he] at K1'
    have K1 := Lib.hid K1'
    have HE := Lib.hid he
    obtain ⟨rA, rn, rc, sA, sn, sc, fA, fn, fc, pA, pn, pc⟩ := v
    dsimp only [imgV] at K1 K2 ⊢
    rw [hgm] at K1 K2 ⊢
    have HB1 := below1 w (.cells #[.int .i64 (g : Nat), .slice rA rn rc, .slice sA sn sc, .slice fA fn fc, .slice pA pn pc] 26)
    have HX := Lib.hid (Box.new w (g : Nat) ⟨rA, rn, rc, sA, sn, sc, fA, fn, fc, pA, pn, pc⟩ 26)
    have hz : w.heap.size < (w.alloc (.cells #[.int .i64 (g : Nat), .slice rA rn rc, .slice sA sn sc, .slice fA fn fc, .slice pA pn pc] 26)).heap.size := by simp
    clear K1' h he g0 g16 hrf hgm
    go_enter Try.func22, Try.ntmps22
    go_wp2_with fail
    refine (K1.out _ HB1).mono ?_
    rintro e w1 ⟨rfl, hb1⟩
    have HB := below_next HB1 hb1
    obtain ⟨b0, b1, b2, b3, b4⟩ := HX.out.keep hb1 hz
    dsimp only at b0 b1 b2 b3 b4
    go_wp2_with fail
    refine (K2.out _ HB).mono ?_
    rintro e w2 ⟨A', c', rfl, ho, hb2, hc1, hc2⟩
    have HO := Lib.hid ho
    clear ho
    go_wp2_with fail
    go_ret2
    exact OwnRes.pair (own_base HO.out HB.size) (HB.trans (hb2.mono HB.size)) hc1 hc2 (by rw [R.out]) HE.out
  · have R := Lib.hid (allM_no he)
    have lz : (checkErr m != 0) = true := by simpa using he
    generalize checkErr m = er at *
    have K1 := Lib.hid K1'
    obtain ⟨rA, rn, rc, sA, sn, sc, fA, fn, fc, pA, pn, pc⟩ := v
    dsimp only [imgV] at K1 ⊢
    have HB1 := below1 w (.cells #[.int .i64 m.guest, .slice rA rn rc, .slice sA sn sc, .slice fA fn fc, .slice pA pn pc] 26)
    clear K1' h he
    go_enter Try.func22, Try.ntmps22
    go_wp2_with fail
    refine (K1.out _ HB1).mono ?_
    rintro e w1 ⟨rfl, hb1⟩
    go_wp2_with fail
    go_ret2
    exact OwnPair.mk_nil (by rw [R.out]; rfl) rfl (below_next HB1 hb1)

set_option maxRecDepth 100000 in
set_option maxHeartbeats 2000000 in
theorem tPast_any (v : IV) (m : Img) (name : ByteArray) (w : World) (h : ImgR w w.heap.size v m) :
    Calls Try.prog 29 #[imgV m v, .string name] w (OwnPair w.heap.size 9 1 ((pastV m name).map Value.string) (pastE m name) w) := by
  have K1' := fun W (hb : Below w.heap.size w W) => tcheck_any v m W (h.next hb)
  by_cases he : checkErr m = 0
  · rw [he] at K1'
    have K1 := Lib.hid K1'
    have K2 := Lib.hid (fun W (hb : Below w.heap.size w W) (hn : W.cell? ⟨w.heap.size + 1, 0, none⟩ = some (.string name)) => indexSnaps 64 (.pointer (some ⟨w.heap.size + 1, 0, none⟩)) (named name) v.pA v.pn v.pc m.snaps W (h.next hb).snaps h.pcap.1
      (fun vs W => by kernel_rfl) (fun s tA tn tc W' hb' => pastfn_any s tA tn tc (w.heap.size + 1) name W' ((hb'.cell (p := ⟨w.heap.size + 1, 0, none⟩) (by have := World.block_lt_of_cell? W _ hn; simpa using this)).trans hn)))
    cases hn : m.snaps.any (named name)
    · obtain ⟨r1, r2, r3⟩ := past_none he hn
      have R := Lib.hid (And.intro r1 r2)
      rw [r3] at K2
      obtain ⟨rA, rn, rc, sA, sn, sc, fA, fn, fc, pA, pn, pc⟩ := v
      dsimp only [imgV] at K1 K2 ⊢
      have HB1 := (below1 w (.cells #[.int .i64 m.guest, .slice rA rn rc, .slice sA sn sc, .slice fA fn fc, .slice pA pn pc] 26))
      have HB2 := below_next HB1 (below1 _ (.cells #[.string name] 9))
      have HX := Lib.hid ((Box.new w m.guest ⟨rA, rn, rc, sA, sn, sc, fA, fn, fc, pA, pn, pc⟩ 26).keep (below1 _ (.cells #[.string name] 9)) (by simp))
      have hz : w.heap.size < ((w.alloc (.cells #[.int .i64 m.guest, .slice rA rn rc, .slice sA sn sc, .slice fA fn fc, .slice pA pn pc] 26)).alloc (.cells #[.string name] 9)).heap.size := by simp; omega
      have hz2 : w.heap.size + 1 < ((w.alloc (.cells #[.int .i64 m.guest, .slice rA rn rc, .slice sA sn sc, .slice fA fn fc, .slice pA pn pc] 26)).alloc (.cells #[.string name] 9)).heap.size := by simp
      have HN := Lib.hid (cell_of_row ((w.alloc (.cells #[.int .i64 m.guest, .slice rA rn rc, .slice sA sn sc, .slice fA fn fc, .slice pA pn pc] 26)).alloc (.cells #[.string name] 9)) (w.heap.size + 1) 0 _ _ _ (by have := heap_alloc_new (w.alloc (.cells #[.int .i64 m.guest, .slice rA rn rc, .slice sA sn sc, .slice fA fn fc, .slice pA pn pc] 26)) (.cells #[.string name] 9); simpa using this))
      clear K1' h he hn r1 r2 r3
      go_enter Try.func29, Try.ntmps29
      go_wp2_with fail
      refine (K1.out _ HB2).mono ?_
      rintro e w1 ⟨rfl, hb1⟩
      have HB := below_next HB2 hb1
      have hn1 : w1.cell? ⟨w.heap.size + 1, 0, none⟩ = some (.string name) := (hb1.cell (p := ⟨w.heap.size + 1, 0, none⟩) hz2).trans HN.out
      obtain ⟨b0, b1, b2, b3, b4⟩ := HX.out.keep hb1 hz
      dsimp only at b0 b1 b2 b3 b4
      go_wp2_with fail
      refine (K2.out _ HB hn1).mono ?_
      rintro e w2 ⟨rfl, hb2⟩
      go_wp2_with fail
      go_ret2
      exact OwnPair.mk_nil (by rw [R.out.2]; rfl) R.out.1 (below_next HB hb2)
    · obtain ⟨k, s, hk, hs, _, r3, r1, r2⟩ := past_ok he hn
      obtain ⟨g0, g16, hrf⟩ := snap_facts he hs
      obtain ⟨g, hgm⟩ := Int.eq_ofNat_of_zero_le g0
      rw [hgm, Int.toNat_natCast] at r2
      have R := Lib.hid (And.intro r1 r2)
      rw [r3] at K2
      have HPL := h.plen
      have HI := Lib.hid h.snaps
      have K3 := Lib.hid (fun A n c W (hb : Below w.heap.size w W) (hr : Rd w w.heap.size 1 A n (ints s.root)) (hn : n ≤ 4611686018427387903) => tall_any v m g A n c s.root W (h.next hb) (hr.next hb) hn (by omega) (fun k hk => entOk_of he hrf (by omega)) (fun k => entry_ok he s.root k))
      obtain ⟨rA, rn, rc, sA, sn, sc, fA, fn, fc, pA, pn, pc⟩ := v
      dsimp only [imgV] at K1 K2 K3 HPL HI ⊢
      obtain ⟨b, o, s2, tA, tn, tc, rfl, hb, hx, d0, d1, d2, hsv⟩ := HI.out.at_ (k := k) (by omega)
      rw [hs] at hx
      injection hx with hx
      subst hx
      have hkl : k < pn := by omega
      have KT := Lib.hid (fun W (hb : Below w.heap.size w W) => K3.out tA tn tc W hb hsv.root hsv.cap.1)
      rw [hgm] at d1
      have HD1 := Lib.hid d1
      have HD2 := Lib.hid d2
      have HB1 := (below1 w (.cells #[.int .i64 m.guest, .slice rA rn rc, .slice sA sn sc, .slice fA fn fc, .slice (some ⟨b, o, none⟩) pn pc] 26))
      have HB2 := below_next HB1 (below1 _ (.cells #[.string name] 9))
      have HX := Lib.hid ((Box.new w m.guest ⟨rA, rn, rc, sA, sn, sc, fA, fn, fc, some ⟨b, o, none⟩, pn, pc⟩ 26).keep (below1 _ (.cells #[.string name] 9)) (by simp))
      have hz : w.heap.size < ((w.alloc (.cells #[.int .i64 m.guest, .slice rA rn rc, .slice sA sn sc, .slice fA fn fc, .slice (some ⟨b, o, none⟩) pn pc] 26)).alloc (.cells #[.string name] 9)).heap.size := by simp; omega
      have hz2 : w.heap.size + 1 < ((w.alloc (.cells #[.int .i64 m.guest, .slice rA rn rc, .slice sA sn sc, .slice fA fn fc, .slice (some ⟨b, o, none⟩) pn pc] 26)).alloc (.cells #[.string name] 9)).heap.size := by simp
      have HN := Lib.hid (cell_of_row ((w.alloc (.cells #[.int .i64 m.guest, .slice rA rn rc, .slice sA sn sc, .slice fA fn fc, .slice (some ⟨b, o, none⟩) pn pc] 26)).alloc (.cells #[.string name] 9)) (w.heap.size + 1) 0 _ _ _ (by have := heap_alloc_new (w.alloc (.cells #[.int .i64 m.guest, .slice rA rn rc, .slice sA sn sc, .slice fA fn fc, .slice (some ⟨b, o, none⟩) pn pc] 26)) (.cells #[.string name] 9); simpa using this))
      have e0 : (0 : Int) ≤ (k : Int) := by omega
      have e1 : (k : Int) < (pn : Int) := by omega
      clear K1' h he hn r1 r2 r3 hs K3 HI d0 d1 d2 hsv hrf g0 g16 hgm HPL hk
      go_enter Try.func29, Try.ntmps29
      go_wp2_with fail
      refine (K1.out _ HB2).mono ?_
      rintro e w1 ⟨rfl, hb1⟩
      have HB := below_next HB2 hb1
      have hn1 : w1.cell? ⟨w.heap.size + 1, 0, none⟩ = some (.string name) := (hb1.cell (p := ⟨w.heap.size + 1, 0, none⟩) hz2).trans HN.out
      have HX1 := HX.out.keep hb1 hz
      have hz1 : w.heap.size < w1.heap.size := by have := hb1.size; omega
      obtain ⟨b0, b1, b2, b3, b4⟩ := HX1
      dsimp only at b0 b1 b2 b3 b4
      have HX1' := Lib.hid (show Box w1 w.heap.size m.guest ⟨rA, rn, rc, sA, sn, sc, fA, fn, fc, some ⟨b, o, none⟩, pn, pc⟩ from ⟨b0, b1, b2, b3, b4⟩)
      go_wp2_with fail
      refine (K2.out _ HB hn1).mono ?_
      rintro e w2 ⟨rfl, hb2⟩
      have HBB := below_next HB hb2
      clear b0 b1 b2 b3 b4
      obtain ⟨b0, b1, b2, b3, b4⟩ := HX1'.out.keep hb2 hz1
      dsimp only at b0 b1 b2 b3 b4
      have d1' := (HBB.cell (p := ⟨b, o + k * 3 + 1, none⟩) hb).trans HD1.out
      have d2' := (HBB.cell (p := ⟨b, o + k * 3 + 2, none⟩) hb).trans HD2.out
      go_wp2_with fail
      go_still_tail 13, (by kernel_rfl)
      have HBD : Below w.heap.size w w2.drew := below_drewN HBB 1
      clear b0 b1 b2 b3 b4 d1' d2'
      go_wp2_with fail
      refine (KT.out _ HBD).mono ?_
      rintro e w3 ⟨A', c', rfl, ho, hb3, hc1, hc2⟩
      have HO := Lib.hid ho
      clear ho
      go_wp2_with fail
      go_ret2
      exact OwnRes.pair (own_base HO.out HBD.size) (HBD.trans (hb3.mono HBD.size)) hc1 hc2 (by rw [R.out.2]) R.out.1
  · obtain ⟨r1, r2⟩ := past_no (name := name) he
    have R := Lib.hid (And.intro r1 r2)
    have lz : (checkErr m != 0) = true := by simpa using he
    generalize checkErr m = er at *
    have K1 := Lib.hid K1'
    obtain ⟨rA, rn, rc, sA, sn, sc, fA, fn, fc, pA, pn, pc⟩ := v
    dsimp only [imgV] at K1 ⊢
    have HB1 := below_next (below1 w (.cells #[.int .i64 m.guest, .slice rA rn rc, .slice sA sn sc, .slice fA fn fc, .slice pA pn pc] 26)) (below1 _ (.cells #[.string name] 9))
    clear K1' h he r1 r2
    go_enter Try.func29, Try.ntmps29
    go_wp2_with fail
    refine (K1.out _ HB1).mono ?_
    rintro e w1 ⟨rfl, hb1⟩
    go_wp2_with fail
    go_ret2
    exact OwnPair.mk_nil (by rw [R.out.2]; rfl) R.out.1 (below_next HB1 hb1)
end Go.Proofs.Ytpboapeoejdipaa
