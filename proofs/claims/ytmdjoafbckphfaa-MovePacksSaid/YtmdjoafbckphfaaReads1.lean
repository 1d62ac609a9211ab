/- The texts Reads1, Reads2, Reads3, Reads4 in one. Conditions: as each says. -/
import Derived.Test.YtmdjoafbckphfaaCheck
import Derived.Test.YtmdjoafbckphfaaPureA
import Derived.Test.YtmdjoafbckphfaaPages
import Derived.Test.YtmdjoafbckphfaaMemA
import Derived.StillTailTactics
import Derived.Test.YtmdjoafbckphfaaFlat
import Derived.Test.YtmdjoafbckphfaaTreeBegun
-- Reads1: reads.page, reads.all, and the reference's pageOf, ReadOf, AllOf. Conditions: the image is read below the heap's size; entries are pages of it.
namespace Go.Proofs.Ytmdjoafbckphfaa
open Go.RowKit Sl

theorem ret_str {a b : ByteArray} (h : b = a) : Ending.returned (.string a) = .returned (.string b) := by rw [h]

set_option maxRecDepth 100000 in
set_option maxHeartbeats 400000 in
theorem page_any (v : IV) (m : Img) (e : Int) (w : World) (h : ImgR w w.heap.size v m) (he : PageOk m.slots e) :
    Calls Try.prog 35 #[.agg #[.int .i64 m.guest, .slice v.rA v.rn v.rc, .slice v.sA v.sn v.sc, .slice v.fA v.fn v.fc, .slice v.pA v.pn v.pc], .int .i64 e] w fun e' w' => e' = .returned (.string (pageV m.slots e)) ∧ Below w.heap.size w w' := by
  obtain ⟨rA, rn, rc, sA, sn, sc, fA, fn, fc, pA, pn, pc⟩ := v
  dsimp only
  have HB1 := below1 w (.cells #[.int .i64 m.guest, .slice rA rn rc, .slice sA sn sc, .slice fA fn fc, .slice pA pn pc] 27)
  by_cases h0 : e ≤ 0
  · have R := Lib.hid (pageV_no (l := m.slots) h0)
    clear h he
    go_enter Try.func35, Try.ntmps35
    go_wp2_with fail
    refine (zero_any _).mono ?_
    rintro e w1 ⟨rfl, hb1⟩
    go_wp2_with fail
    go_ret
    exact ⟨ret_str R.out, below_next HB1 hb1⟩
  · rcases he with he | ⟨k, s, rfl, hk, hs, _⟩
    · exact absurd he h0
    · have R := Lib.hid (pageV_at hs hk)
      have hkl : k < sn := by have := h.slen; have := (List.getElem?_eq_some_iff.1 hs).1; dsimp only at *; omega
      obtain ⟨b, o, s2, tA, tn, tc, rfl, hb, hx, d0, d1, d2, hsv⟩ := h.slots.at_ (k := k) hkl
      rw [hs] at hx
      injection hx with hx
      subst hx
      have d1' := (HB1.cell (p := ⟨b, o + k * 3 + 1, none⟩) hb).trans d1
      have e0 : (0 : Int) ≤ (k : Int) := by omega
      have e1 : (k : Int) < (sn : Int) := by omega
      have e2 : (0 : Int) < (k : Int) := by omega
      clear h hs d0 d1 d2 hsv h0
      go_enter Try.func35, Try.ntmps35
      go_wp2_with fail
      go_ret
      exact ⟨ret_str R.out, HB1⟩

set_option maxRecDepth 100000 in
set_option maxHeartbeats 1000000 in
theorem tall_any (v : IV) (m : Img) (g : Nat) (A : Option Addr) (n c : Nat) (root : List Int) (w : World) (h : ImgR w w.heap.size v m) (hr : Rd w w.heap.size 1 A n (ints root)) (hn : n ≤ 4611686018427387903) (hg : g ≤ 16)
    (hen : ∀ k, k < g → EntOk m.slots root k) (hp : ∀ k, PageOk m.slots (entryOf m.slots root k)) :
    Calls Try.prog 52 #[.agg #[.int .i64 m.guest, .slice v.rA v.rn v.rc, .slice v.sA v.sn v.sc, .slice v.fA v.fn v.fc, .slice v.pA v.pn v.pc], .int .i64 (g : Nat), .slice A n c] w (OwnRes w.heap.size 9 1 g ((allV m.slots root g).map Value.string) w) := by
  obtain ⟨i0, hi0, hz0, hz1, hz2⟩ := info_parts Try.infoStr
  have K1 := Lib.hid (fun k (hk : k < g) W (hb : Below w.heap.size w W) => entry_any v m A n c root k W (h.next hb) (hr.next hb) (hen k hk) hn)
  have K2 := Lib.hid (fun k W (hb : Below w.heap.size w W) => page_any v m _ W (h.next hb) (hp k))
  obtain ⟨rA, rn, rc, sA, sn, sc, fA, fn, fc, pA, pn, pc⟩ := v
  dsimp only at K1 K2 ⊢
  have HB1 := below1 w (.cells #[.int .i64 m.guest, .slice rA rn rc, .slice sA sn sc, .slice fA fn fc, .slice pA pn pc] 27)
  have HX := Lib.hid (Box.new w m.guest ⟨rA, rn, rc, sA, sn, sc, fA, fn, fc, pA, pn, pc⟩ 27)
  have hz : w.heap.size < (w.alloc (.cells #[.int .i64 m.guest, .slice rA rn rc, .slice sA sn sc, .slice fA fn fc, .slice pA pn pc] 27)).heap.size := by simp
  clear h hr hen hp
  go_enter Try.func52, Try.ntmps52
  go_wp2_with fail
  generalize hwa : w.alloc (.cells #[.int .i64 m.guest, .slice rA rn rc, .slice sA sn sc, .slice fA fn fc, .slice pA pn pc] 27) = wa at *
  have HWA := Lib.hid hwa
  clear hwa
  go_loopw [7, 10] (fun o i wr => ∃ (k c' : Nat) (A' : Option Addr), k ≤ g ∧ i = .int .i64 k ∧ o = .slice A' k c' ∧ wr.ownsRow wa.heap.size 9 1 (.slice A' k c') k ((allV m.slots root k).map Value.string) ∧ Below wa.heap.size wa wr ∧ k ≤ c' ∧ c' ≤ maxLen) (fun _ i _ => g - (intOf i).toNat)
  case atStart => exact ⟨0, 0, none, Nat.zero_le _, rfl, rfl, World.ownsRow_nil _ _ _ _, Below.refl _ _, Nat.le_refl _, by simp⟩
  case round =>
    obtain ⟨k, c', A', hkg, rfl, rfl, ho, hbw, hc1, hc2⟩ := hrel
    have HO := Lib.hid ho
    clear ho
    by_cases hlt : k < g
    · have HBr := below_next HB1 hbw
      obtain ⟨b0, b1, b2, b3, b4⟩ := HX.out.keep hbw hz
      dsimp only at b0 b1 b2 b3 b4
      have KE := Lib.hid (K1.out k hlt)
      have KP := Lib.hid (K2.out k)
      have HG := Lib.hid (allV_succ m.slots root k)
      generalize entryOf m.slots root k = en at KE KP HG
      generalize pageV m.slots en = pg at KP HG
      go_wp2_with fail
      have HOD : Hid (wr.drew.ownsRow wa.heap.size 9 1 (.slice A' k c') k ((allV m.slots root k).map Value.string)) := Lib.hid HO.out
      have HBd : Hid (Below wa.heap.size wa wr.drew) := Lib.hid hbw.drew
      have HBD : Hid (Below w.heap.size w wr.drew) := Lib.hid HBr.drew
      go_region_held3 (fun w' => w'.cell? ⟨w.heap.size, 0, none⟩ = some (.int .i64 m.guest) ∧ w'.cell? ⟨w.heap.size, 1, none⟩ = some (.slice rA rn rc) ∧ w'.cell? ⟨w.heap.size, 2, none⟩ = some (.slice sA sn sc) ∧ w'.cell? ⟨w.heap.size, 3, none⟩ = some (.slice fA fn fc) ∧ w'.cell? ⟨w.heap.size, 4, none⟩ = some (.slice pA pn pc) ∧ Below wa.heap.size wa w')
        (first | (refine ⟨?_, ?_, ?_, ?_, ?_, ?_⟩ <;> first | assumption | exact HBd.out) | (apply img_keepN hz hb6; apply img_keepN hz hb5; (refine ⟨?_, ?_, ?_, ?_, ?_, ?_⟩ <;> first | assumption | exact HBd.out)) | (apply img_keepA hz; apply img_keepN hz hb6; apply img_keepN hz hb5; (refine ⟨?_, ?_, ?_, ?_, ?_, ?_⟩ <;> first | assumption | exact HBd.out)) | (apply img_keepB hz q3; apply img_keepN hz hb6; apply img_keepN hz hb5; (refine ⟨?_, ?_, ?_, ?_, ?_, ?_⟩ <;> first | assumption | exact HBd.out)) | (apply img_keepN hz hb5; (refine ⟨?_, ?_, ?_, ?_, ?_, ?_⟩ <;> first | assumption | exact HBd.out)) | (apply img_keepA hz; apply img_keepN hz hb5; (refine ⟨?_, ?_, ?_, ?_, ?_, ?_⟩ <;> first | assumption | exact HBd.out)) | (apply img_keepB hz q3; apply img_keepN hz hb5; (refine ⟨?_, ?_, ?_, ?_, ?_, ?_⟩ <;> first | assumption | exact HBd.out)))
        (first | (go_at_call 36; refine (KE.out _ HBD.out).mono ?_; rintro e w5 ⟨rfl, hb5⟩) | (go_at_call 35; refine (KP.out _ (below_next HBD.out hb5)).mono ?_; rintro e w6 ⟨rfl, hb6⟩) | (refine step_app1 rfl _ _ _ _ rfl rfl wa.heap.size 9 i0 _ 1 16 Try.underlying22 hi0 hz0 hz1 hz2 rfl (by omega) _ _ _ rfl (own_below (own_below HOD.out hb5) hb6) #[.string pg] rfl rfl (by intro u hu; simp at hu; subst hu; rfl) (by omega) (by unfold maxLen; omega) (Nat.le_trans HBd.out.size (Nat.le_trans hb5.size hb6.size)) ?_; intro A2 c2 w4 q2 q3 q4 q5))
      have HO2 := Lib.hid q2
      have hbw4 := ((HBd.out.trans (hb5.mono HBd.out.size)).trans (hb6.mono (Nat.le_trans HBd.out.size hb5.size))).trans q3
      clear q2 hb5 hb6 q3 b0 b1 b2 b3 b4
      go_wp2_with fail
      go_roundw
      case rel => exact ⟨k + 1, c2, A2, by omega, by go_num, rfl, by rw [HG.out, List.map_append]; exact HO2.out, hbw4, q4, q5⟩
      case measure => simp [intOf]; omega
    · obtain rfl : k = g := by omega
      go_wp2_with fail
      go_ret
      exact ⟨A', c', rfl, ⟨HO.out.1, HO.out.2.imp id fun ⟨gg, cap, cur, h1, h2, h3⟩ => ⟨gg, cap, cur, h1, by omega, h3⟩⟩, below_next HB1 hbw, hc1, hc2⟩
end Go.Proofs.Ytmdjoafbckphfaa
-- Reads2: The reference's ReadOf, AllOf, snapAt, PastOf; reads.Read, All, Past. Conditions: the image is read below the heap's size.
namespace Go.Proofs.Ytmdjoafbckphfaa
open Go.RowKit Sl

/-- The image's five cells, as an argument. -/
abbrev imgV (m : Img) (v : IV) : Value := .agg #[.int .i64 m.guest, .slice v.rA v.rn v.rc, .slice v.sA v.sn v.sc, .slice v.fA v.fn v.fc, .slice v.pA v.pn v.pc]

set_option maxRecDepth 100000 in
set_option maxHeartbeats 400000 in
theorem pastfn_any (s : Snap) (tA : Option Addr) (tn tc : Nat) (Bn : Nat) (name : ByteArray) (w : World) (hc : w.cell? ⟨Bn, 0, none⟩ = some (.string name)) :
    Calls Try.prog 56 #[.agg #[.string s.name, .int .i64 s.guest, .slice tA tn tc], .pointer (some ⟨Bn, 0, none⟩)] w fun e' w' => e' = .returned (.bool (named name s)) ∧ Below w.heap.size w w' := by
  have HB1 := below1 w (.cells #[.string s.name, .int .i64 s.guest, .slice tA tn tc] 83)
  have hlt : Bn < w.heap.size := by have := World.block_lt_of_cell? w _ hc; simpa using this
  have hc' := (HB1.cell (p := ⟨Bn, 0, none⟩) hlt).trans hc
  go_enter Try.func56, Try.ntmps56
  go_wp2_with fail
  go_ret
  exact ⟨rfl, HB1⟩

set_option maxHeartbeats 400000 in
theorem indexSnaps (K : Nat) (q : Value) (p : Snap → Bool) (A : Option Addr) (n c : Nat) (l : List Snap) (w : World) (h : SnapsR w w.heap.size A n l) (hc : n ≤ 4611686018427387903)
    (hk : ∀ (vs : Array Value) (W : World), (callFunc K vs).run Try.prog W = .ok (.enter K vs) W)
    (hf : ∀ (s : Snap) (tA : Option Addr) (tn tc : Nat) (W : World), Below w.heap.size w W → Calls Try.prog K #[.agg #[.string s.name, .int .i64 s.guest, .slice tA tn tc], q] W fun e w' => e = .returned (.bool (p s)) ∧ Below W.heap.size W w') :
    Calls Try.prog 55 #[.slice A n c, .func (.func K) #[] #[q]] w
    fun e w' => e = .returned (.int .i64 (indexOf p l)) ∧ Below w.heap.size w w' := by
  have HF := Lib.hid hf
  clear hf
  go_enter Try.func55, Try.ntmps55
  go_wp2_with fail
  go_loopw [8, 5] (fun i _ wr => ∃ k : Nat, k ≤ n ∧ i = .int .i64 k ∧ (l.take k).all (fun y => !p y) = true ∧ Below w.heap.size w wr) (fun i _ _ => n - (intOf i).toNat)
  case atStart => exact ⟨0, Nat.zero_le _, rfl, by simp, Below.refl _ _⟩
  case round =>
    obtain ⟨k, hkn, rfl, ha, hbw⟩ := hrel
    have HA := Lib.hid ha
    clear ha
    by_cases hlt : k < n
    · obtain ⟨b, o, s, tA, tn, tc, rfl, hb, hx, h0, h1, h2, hs⟩ := (h.below hbw (Nat.le_refl _)).at_ hlt
      have HX := Lib.hid hx
      clear hx
      have hz := hbw.size
      cases hp : p s
      · go_wp2_with (refine (HF.out s tA tn tc _ hbw).mono ?_; rintro e w' ⟨rfl, hb'⟩)
        go_roundw
        case rel => exact ⟨k + 1, by omega, by go_num, by rw [all_take_succ _ l k s HX.out, HA.out, hp]; rfl, hbw.trans (hb'.mono hz)⟩
        case measure => simp [intOf]; omega
      · go_wp2_with (refine (HF.out s tA tn tc _ hbw).mono ?_; rintro e w' ⟨rfl, hb'⟩)
        go_ret
        exact ⟨ret_int (indexOf_hit p l k s HX.out hp HA.out), hbw.trans (hb'.mono hz)⟩
    · go_wp2_with fail
      go_ret
      exact ⟨ret_int (indexOf_none p l (all_done _ l k (by rw [h.1]; omega) HA.out)), hbw⟩
end Go.Proofs.Ytmdjoafbckphfaa
-- Reads3: reads.Read, All, Past; the reference's PastOf. Conditions: the image is read below the heap's size.
namespace Go.Proofs.Ytmdjoafbckphfaa
open Go.RowKit Sl

theorem read_no {m : Img} {x : Int} (h : lookE m x ≠ 0) : readV m x = noP := by unfold readV; rw [if_neg h]
theorem read_ok {m : Img} {n : Nat} (h : lookE m (n : Nat) = 0) : readV m (n : Nat) = pageV m.slots (entryOf m.slots m.root n) := by unfold readV; rw [if_pos h, Int.toNat_natCast]
theorem allM_no {m : Img} (h : checkErr m ≠ 0) : allM m = [] := by unfold allM; rw [if_neg h]
theorem allM_ok {m : Img} (h : checkErr m = 0) : allM m = allV m.slots m.root m.guest.toNat := by unfold allM; rw [if_pos h]
theorem OwnRes.pair {base : Nat} {el : TypeId} {size n : Nat} {xs : List Value} {w w' : World} {A : Option Addr} {c : Nat} (ho : w'.ownsRow base el size (.slice A n c) n xs) (hb : Below base w w') (h1 : n ≤ c) (h2 : c ≤ maxLen) {xs' : List Value} {er er' : Int} (hx : xs = xs') (he : er = er') :
    OwnPair base el size xs' er w (.returned (.tuple #[.slice A n c, .int .i64 er'])) w' := by
  subst hx; subst he; exact ⟨A, n, c, rfl, ho, hb, h1, h2⟩
theorem own_base {w : World} {base base' size n : Nat} {e : TypeId} {v : Value} {xs : List Value} (h : w.ownsRow base e size v n xs) (hb : base' ≤ base) : w.ownsRow base' e size v n xs :=
  ⟨h.1, h.2.imp id fun ⟨g, cap, cur, h1, h2, h3⟩ => ⟨g, cap, cur, h1, by omega, h3⟩⟩

set_option maxRecDepth 100000 in
set_option maxHeartbeats 1000000 in
theorem tread_any (v : IV) (m : Img) (x : Int) (w : World) (h : ImgR w w.heap.size v m) :
    Calls Try.prog 15 #[imgV m v, .int .i64 x] w fun e w' => e = .returned (.tuple #[.string (readV m x), .int .i64 (lookE m x)]) ∧ Below w.heap.size w w' := by
  have K1' := fun W (hb : Below w.heap.size w W) => tlook_any v m x W (h.next hb)
  by_cases he : lookE m x = 0
  · obtain ⟨hck, hx0, hx1⟩ := look_is he
    obtain ⟨n, rfl⟩ := Int.eq_ofNat_of_zero_le hx0
    have K2 := Lib.hid (fun W (hb : Below w.heap.size w W) => page_any v m _ W (h.next hb) (entry_ok hck m.root n))
    have R := Lib.hid (read_ok he)
    rw [(look_ok hck hx1).2, he] at K1'
    have K1 := Lib.hid K1'
    have HE := Lib.hid he
    obtain ⟨rA, rn, rc, sA, sn, sc, fA, fn, fc, pA, pn, pc⟩ := v
    dsimp only [imgV] at K1 K2 ⊢
    have HB1 := below1 w (.cells #[.int .i64 m.guest, .slice rA rn rc, .slice sA sn sc, .slice fA fn fc, .slice pA pn pc] 27)
    have HX := Lib.hid (Box.new w m.guest ⟨rA, rn, rc, sA, sn, sc, fA, fn, fc, pA, pn, pc⟩ 27)
    have hz : w.heap.size < (w.alloc (.cells #[.int .i64 m.guest, .slice rA rn rc, .slice sA sn sc, .slice fA fn fc, .slice pA pn pc] 27)).heap.size := by simp
    generalize entryOf m.slots m.root n = en at K1 K2 R
    clear K1' h he hck hx0 hx1
    go_enter Try.func15, Try.ntmps15
    go_wp2_with fail
    refine (K1.out _ HB1).mono ?_
    rintro e w1 ⟨rfl, hb1⟩
    have HB := below_next HB1 hb1
    obtain ⟨b0, b1, b2, b3, b4⟩ := HX.out.keep hb1 hz
    dsimp only at b0 b1 b2 b3 b4
    go_wp2_with fail
    refine (K2.out _ HB).mono ?_
    rintro e w2 ⟨rfl, hb2⟩
    go_wp2_with fail
    go_ret2
    exact ⟨ret_si R.out HE.out, below_next HB hb2⟩
  · have R := Lib.hid (read_no he)
    obtain ⟨ln, lz⟩ : lookN m x = 0 ∧ (lookE m x != 0) = true := ⟨by unfold lookN; rw [if_neg he], by simpa using he⟩
    rw [ln] at K1'
    generalize lookE m x = er at *
    have K1 := Lib.hid K1'
    obtain ⟨rA, rn, rc, sA, sn, sc, fA, fn, fc, pA, pn, pc⟩ := v
    dsimp only [imgV] at K1 ⊢
    have HB1 := below1 w (.cells #[.int .i64 m.guest, .slice rA rn rc, .slice sA sn sc, .slice fA fn fc, .slice pA pn pc] 27)
    clear K1' h he ln
    go_enter Try.func15, Try.ntmps15
    go_wp2_with fail
    refine (K1.out _ HB1).mono ?_
    rintro e w1 ⟨rfl, hb1⟩
    go_wp2_with fail
    go_ret2
    exact ⟨ret_si R.out rfl, below_next HB1 hb1⟩

set_option maxRecDepth 100000 in
set_option maxHeartbeats 1000000 in
theorem tAll_any (v : IV) (m : Img) (w : World) (h : ImgR w w.heap.size v m) :
    Calls Try.prog 26 #[imgV m v] w (OwnPair w.heap.size 9 1 ((allM m).map Value.string) (checkErr m) w) := by
  have K1' := fun W (hb : Below w.heap.size w W) => tcheck_any v m W (h.next hb)
  by_cases he : checkErr m = 0
  · obtain ⟨g0, g16, hrf⟩ := own_facts he
    obtain ⟨g, hgm⟩ := Int.eq_ofNat_of_zero_le g0
    have R := Lib.hid (show allM m = allV m.slots m.root g from by rw [allM_ok he, hgm, Int.toNat_natCast])
    have K2 := Lib.hid (fun W (hb : Below w.heap.size w W) => tall_any v m g v.rA v.rn v.rc m.root W (h.next hb) (h.root.next hb) h.rcap.1 (by omega) (fun k hk => entOk_own he (by omega)) (fun k => entry_ok he m.root k))
    rw [he] at K1'
    have K1 := Lib.hid K1'
    have HE := Lib.hid he
    obtain ⟨rA, rn, rc, sA, sn, sc, fA, fn, fc, pA, pn, pc⟩ := v
    dsimp only [imgV] at K1 K2 ⊢
    rw [hgm] at K1 K2 ⊢
    have HB1 := below1 w (.cells #[.int .i64 (g : Nat), .slice rA rn rc, .slice sA sn sc, .slice fA fn fc, .slice pA pn pc] 27)
    have HX := Lib.hid (Box.new w (g : Nat) ⟨rA, rn, rc, sA, sn, sc, fA, fn, fc, pA, pn, pc⟩ 27)
    have hz : w.heap.size < (w.alloc (.cells #[.int .i64 (g : Nat), .slice rA rn rc, .slice sA sn sc, .slice fA fn fc, .slice pA pn pc] 27)).heap.size := by simp
    clear K1' h he g0 g16 hrf hgm
    go_enter Try.func26, Try.ntmps26
    go_wp2_with fail
    refine (K1.out _ HB1).mono ?_
    rintro e w1 ⟨rfl, hb1⟩
    have HB := below_next HB1 hb1
    obtain ⟨b0, b1, b2, b3, b4⟩ := HX.out.keep hb1 hz
    dsimp only at b0 b1 b2 b3 b4
    go_wp2_with fail
    refine (K2.out _ HB).mono ?_
    rintro e w2 ⟨A', c', rfl, ho, hb2, hc1, hc2⟩
    have HO := Lib.hid ho
    clear ho
    go_wp2_with fail
    go_ret2
    exact OwnRes.pair (own_base HO.out HB.size) (HB.trans (hb2.mono HB.size)) hc1 hc2 (by rw [R.out]) HE.out
  · have R := Lib.hid (allM_no he)
    have lz : (checkErr m != 0) = true := by simpa using he
    generalize checkErr m = er at *
    have K1 := Lib.hid K1'
    obtain ⟨rA, rn, rc, sA, sn, sc, fA, fn, fc, pA, pn, pc⟩ := v
    dsimp only [imgV] at K1 ⊢
    have HB1 := below1 w (.cells #[.int .i64 m.guest, .slice rA rn rc, .slice sA sn sc, .slice fA fn fc, .slice pA pn pc] 27)
    clear K1' h he
    go_enter Try.func26, Try.ntmps26
    go_wp2_with fail
    refine (K1.out _ HB1).mono ?_
    rintro e w1 ⟨rfl, hb1⟩
    go_wp2_with fail
    go_ret2
    exact OwnPair.mk_nil (by rw [R.out]; rfl) rfl (below_next HB1 hb1)

set_option maxRecDepth 100000 in
set_option maxHeartbeats 2000000 in
theorem tPast_any (v : IV) (m : Img) (name : ByteArray) (w : World) (h : ImgR w w.heap.size v m) :
    Calls Try.prog 29 #[imgV m v, .string name] w (OwnPair w.heap.size 9 1 ((pastV m name).map Value.string) (pastE m name) w) := by
  have K1' := fun W (hb : Below w.heap.size w W) => tcheck_any v m W (h.next hb)
  by_cases he : checkErr m = 0
  · rw [he] at K1'
    have K1 := Lib.hid K1'
    have K2 := Lib.hid (fun W (hb : Below w.heap.size w W) (hn : W.cell? ⟨w.heap.size + 1, 0, none⟩ = some (.string name)) => indexSnaps 56 (.pointer (some ⟨w.heap.size + 1, 0, none⟩)) (named name) v.pA v.pn v.pc m.snaps W (h.next hb).snaps h.pcap.1
      (fun vs W => by kernel_rfl) (fun s tA tn tc W' hb' => pastfn_any s tA tn tc (w.heap.size + 1) name W' ((hb'.cell (p := ⟨w.heap.size + 1, 0, none⟩) (by have := World.block_lt_of_cell? W _ hn; simpa using this)).trans hn)))
    cases hn : m.snaps.any (named name)
    · obtain ⟨r1, r2, r3⟩ := past_none he hn
      have R := Lib.hid (And.intro r1 r2)
      rw [r3] at K2
      obtain ⟨rA, rn, rc, sA, sn, sc, fA, fn, fc, pA, pn, pc⟩ := v
      dsimp only [imgV] at K1 K2 ⊢
      have HB1 := (below1 w (.cells #[.int .i64 m.guest, .slice rA rn rc, .slice sA sn sc, .slice fA fn fc, .slice pA pn pc] 27))
      have HB2 := below_next HB1 (below1 _ (.cells #[.string name] 9))
      have HX := Lib.hid ((Box.new w m.guest ⟨rA, rn, rc, sA, sn, sc, fA, fn, fc, pA, pn, pc⟩ 27).keep (below1 _ (.cells #[.string name] 9)) (by simp))
      have hz : w.heap.size < ((w.alloc (.cells #[.int .i64 m.guest, .slice rA rn rc, .slice sA sn sc, .slice fA fn fc, .slice pA pn pc] 27)).alloc (.cells #[.string name] 9)).heap.size := by simp; omega
      have hz2 : w.heap.size + 1 < ((w.alloc (.cells #[.int .i64 m.guest, .slice rA rn rc, .slice sA sn sc, .slice fA fn fc, .slice pA pn pc] 27)).alloc (.cells #[.string name] 9)).heap.size := by simp
      have HN := Lib.hid (cell_of_row ((w.alloc (.cells #[.int .i64 m.guest, .slice rA rn rc, .slice sA sn sc, .slice fA fn fc, .slice pA pn pc] 27)).alloc (.cells #[.string name] 9)) (w.heap.size + 1) 0 _ _ _ (by have := heap_alloc_new (w.alloc (.cells #[.int .i64 m.guest, .slice rA rn rc, .slice sA sn sc, .slice fA fn fc, .slice pA pn pc] 27)) (.cells #[.string name] 9); simpa using this))
      clear K1' h he hn r1 r2 r3
      go_enter Try.func29, Try.ntmps29
      go_wp2_with fail
      refine (K1.out _ HB2).mono ?_
      rintro e w1 ⟨rfl, hb1⟩
      have HB := below_next HB2 hb1
      have hn1 : w1.cell? ⟨w.heap.size + 1, 0, none⟩ = some (.string name) := (hb1.cell (p := ⟨w.heap.size + 1, 0, none⟩) hz2).trans HN.out
      obtain ⟨b0, b1, b2, b3, b4⟩ := HX.out.keep hb1 hz
      dsimp only at b0 b1 b2 b3 b4
      go_wp2_with fail
      refine (K2.out _ HB hn1).mono ?_
      rintro e w2 ⟨rfl, hb2⟩
      go_wp2_with fail
      go_ret2
      exact OwnPair.mk_nil (by rw [R.out.2]; rfl) R.out.1 (below_next HB hb2)
    · obtain ⟨k, s, hk, hs, _, r3, r1, r2⟩ := past_ok he hn
      obtain ⟨g0, g16, hrf⟩ := snap_facts he hs
      obtain ⟨g, hgm⟩ := Int.eq_ofNat_of_zero_le g0
      rw [hgm, Int.toNat_natCast] at r2
      have R := Lib.hid (And.intro r1 r2)
      rw [r3] at K2
      have HPL := h.plen
      have HI := Lib.hid h.snaps
      have K3 := Lib.hid (fun A n c W (hb : Below w.heap.size w W) (hr : Rd w w.heap.size 1 A n (ints s.root)) (hn : n ≤ 4611686018427387903) => tall_any v m g A n c s.root W (h.next hb) (hr.next hb) hn (by omega) (fun k hk => entOk_of he hrf (by omega)) (fun k => entry_ok he s.root k))
      obtain ⟨rA, rn, rc, sA, sn, sc, fA, fn, fc, pA, pn, pc⟩ := v
      dsimp only [imgV] at K1 K2 K3 HPL HI ⊢
      obtain ⟨b, o, s2, tA, tn, tc, rfl, hb, hx, d0, d1, d2, hsv⟩ := HI.out.at_ (k := k) (by omega)
      rw [hs] at hx
      injection hx with hx
      subst hx
      have hkl : k < pn := by omega
      have KT := Lib.hid (fun W (hb : Below w.heap.size w W) => K3.out tA tn tc W hb hsv.root hsv.cap.1)
      rw [hgm] at d1
      have HD1 := Lib.hid d1
      have HD2 := Lib.hid d2
      have HB1 := (below1 w (.cells #[.int .i64 m.guest, .slice rA rn rc, .slice sA sn sc, .slice fA fn fc, .slice (some ⟨b, o, none⟩) pn pc] 27))
      have HB2 := below_next HB1 (below1 _ (.cells #[.string name] 9))
      have HX := Lib.hid ((Box.new w m.guest ⟨rA, rn, rc, sA, sn, sc, fA, fn, fc, some ⟨b, o, none⟩, pn, pc⟩ 27).keep (below1 _ (.cells #[.string name] 9)) (by simp))
      have hz : w.heap.size < ((w.alloc (.cells #[.int .i64 m.guest, .slice rA rn rc, .slice sA sn sc, .slice fA fn fc, .slice (some ⟨b, o, none⟩) pn pc] 27)).alloc (.cells #[.string name] 9)).heap.size := by simp; omega
      have hz2 : w.heap.size + 1 < ((w.alloc (.cells #[.int .i64 m.guest, .slice rA rn rc, .slice sA sn sc, .slice fA fn fc, .slice (some ⟨b, o, none⟩) pn pc] 27)).alloc (.cells #[.string name] 9)).heap.size := by simp
      have HN := Lib.hid (cell_of_row ((w.alloc (.cells #[.int .i64 m.guest, .slice rA rn rc, .slice sA sn sc, .slice fA fn fc, .slice (some ⟨b, o, none⟩) pn pc] 27)).alloc (.cells #[.string name] 9)) (w.heap.size + 1) 0 _ _ _ (by have := heap_alloc_new (w.alloc (.cells #[.int .i64 m.guest, .slice rA rn rc, .slice sA sn sc, .slice fA fn fc, .slice (some ⟨b, o, none⟩) pn pc] 27)) (.cells #[.string name] 9); simpa using this))
      have e0 : (0 : Int) ≤ (k : Int) := by omega
      have e1 : (k : Int) < (pn : Int) := by omega
      clear K1' h he hn r1 r2 r3 hs K3 HI d0 d1 d2 hsv hrf g0 g16 hgm HPL hk
      go_enter Try.func29, Try.ntmps29
      go_wp2_with fail
      refine (K1.out _ HB2).mono ?_
      rintro e w1 ⟨rfl, hb1⟩
      have HB := below_next HB2 hb1
      have hn1 : w1.cell? ⟨w.heap.size + 1, 0, none⟩ = some (.string name) := (hb1.cell (p := ⟨w.heap.size + 1, 0, none⟩) hz2).trans HN.out
      have HX1 := HX.out.keep hb1 hz
      have hz1 : w.heap.size < w1.heap.size := by have := hb1.size; omega
      obtain ⟨b0, b1, b2, b3, b4⟩ := HX1
      dsimp only at b0 b1 b2 b3 b4
      have HX1' := Lib.hid (show Box w1 w.heap.size m.guest ⟨rA, rn, rc, sA, sn, sc, fA, fn, fc, some ⟨b, o, none⟩, pn, pc⟩ from ⟨b0, b1, b2, b3, b4⟩)
      go_wp2_with fail
      refine (K2.out _ HB hn1).mono ?_
      rintro e w2 ⟨rfl, hb2⟩
      have HBB := below_next HB hb2
      clear b0 b1 b2 b3 b4
      obtain ⟨b0, b1, b2, b3, b4⟩ := HX1'.out.keep hb2 hz1
      dsimp only at b0 b1 b2 b3 b4
      have d1' := (HBB.cell (p := ⟨b, o + k * 3 + 1, none⟩) hb).trans HD1.out
      have d2' := (HBB.cell (p := ⟨b, o + k * 3 + 2, none⟩) hb).trans HD2.out
      go_wp2_with fail
      go_still_tail 13, (by kernel_rfl)
      have HBD : Below w.heap.size w w2.drew := below_drewN HBB 1
      clear b0 b1 b2 b3 b4 d1' d2'
      go_wp2_with fail
      refine (KT.out _ HBD).mono ?_
      rintro e w3 ⟨A', c', rfl, ho, hb3, hc1, hc2⟩
      have HO := Lib.hid ho
      clear ho
      go_wp2_with fail
      go_ret2
      exact OwnRes.pair (own_base HO.out HBD.size) (HBD.trans (hb3.mono HBD.size)) hc1 hc2 (by rw [R.out.2]) R.out.1
  · obtain ⟨r1, r2⟩ := past_no (name := name) he
    have R := Lib.hid (And.intro r1 r2)
    have lz : (checkErr m != 0) = true := by simpa using he
    generalize checkErr m = er at *
    have K1 := Lib.hid K1'
    obtain ⟨rA, rn, rc, sA, sn, sc, fA, fn, fc, pA, pn, pc⟩ := v
    dsimp only [imgV] at K1 ⊢
    have HB1 := below_next (below1 w (.cells #[.int .i64 m.guest, .slice rA rn rc, .slice sA sn sc, .slice fA fn fc, .slice pA pn pc] 27)) (below1 _ (.cells #[.string name] 9))
    clear K1' h he r1 r2
    go_enter Try.func29, Try.ntmps29
    go_wp2_with fail
    refine (K1.out _ HB1).mono ?_
    rintro e w1 ⟨rfl, hb1⟩
    go_wp2_with fail
    go_ret2
    exact OwnPair.mk_nil (by rw [R.out.2]; rfl) R.out.1 (below_next HB1 hb1)
end Go.Proofs.Ytmdjoafbckphfaa
-- Reads4: The reference's PastOf; the laws' readsBegun. Conditions: the image is read below the heap's size.
namespace Go.Proofs.Ytmdjoafbckphfaa
open Go.RowKit Sl

section
variable {wa W W' : World} {k b o o' : Nat} {a b' c d f u : Value}
theorem img_keep7 (hlt : k < wa.heap.size) (hb' : b < wa.heap.size) (hb : Below wa.heap.size W W')
    (h : W.cell? ⟨k, 0, none⟩ = some a ∧ W.cell? ⟨k, 1, none⟩ = some b' ∧ W.cell? ⟨k, 2, none⟩ = some c ∧ W.cell? ⟨k, 3, none⟩ = some d ∧ W.cell? ⟨k, 4, none⟩ = some f ∧ W.cell? ⟨b, o, none⟩ = some u ∧ Below wa.heap.size wa W) :
    W'.cell? ⟨k, 0, none⟩ = some a ∧ W'.cell? ⟨k, 1, none⟩ = some b' ∧ W'.cell? ⟨k, 2, none⟩ = some c ∧ W'.cell? ⟨k, 3, none⟩ = some d ∧ W'.cell? ⟨k, 4, none⟩ = some f ∧ W'.cell? ⟨b, o, none⟩ = some u ∧ Below wa.heap.size wa W' := by
  obtain ⟨h0, h1, h2, h3, h4, h5, h6⟩ := h
  exact ⟨(hb.cell (by simp; omega)).trans h0, (hb.cell (by simp; omega)).trans h1, (hb.cell (by simp; omega)).trans h2, (hb.cell (by simp; omega)).trans h3, (hb.cell (by simp; omega)).trans h4, (hb.cell (by simp; omega)).trans h5, h6.trans hb⟩
theorem img_keep7N (hlt : k < wa.heap.size) (hb' : b < wa.heap.size) (hb : Below W.heap.size W W')
    (h : W.cell? ⟨k, 0, none⟩ = some a ∧ W.cell? ⟨k, 1, none⟩ = some b' ∧ W.cell? ⟨k, 2, none⟩ = some c ∧ W.cell? ⟨k, 3, none⟩ = some d ∧ W.cell? ⟨k, 4, none⟩ = some f ∧ W.cell? ⟨b, o, none⟩ = some u ∧ Below wa.heap.size wa W) :
    W'.cell? ⟨k, 0, none⟩ = some a ∧ W'.cell? ⟨k, 1, none⟩ = some b' ∧ W'.cell? ⟨k, 2, none⟩ = some c ∧ W'.cell? ⟨k, 3, none⟩ = some d ∧ W'.cell? ⟨k, 4, none⟩ = some f ∧ W'.cell? ⟨b, o, none⟩ = some u ∧ Below wa.heap.size wa W' :=
  img_keep7 hlt hb' (hb.mono h.2.2.2.2.2.2.size) h
theorem img_keep7A (hlt : k < wa.heap.size) (hb' : b < wa.heap.size) (ob : Obj)
    (h : W.cell? ⟨k, 0, none⟩ = some a ∧ W.cell? ⟨k, 1, none⟩ = some b' ∧ W.cell? ⟨k, 2, none⟩ = some c ∧ W.cell? ⟨k, 3, none⟩ = some d ∧ W.cell? ⟨k, 4, none⟩ = some f ∧ W.cell? ⟨b, o, none⟩ = some u ∧ Below wa.heap.size wa W) :
    (W.alloc ob).cell? ⟨k, 0, none⟩ = some a ∧ (W.alloc ob).cell? ⟨k, 1, none⟩ = some b' ∧ (W.alloc ob).cell? ⟨k, 2, none⟩ = some c ∧ (W.alloc ob).cell? ⟨k, 3, none⟩ = some d ∧ (W.alloc ob).cell? ⟨k, 4, none⟩ = some f ∧ (W.alloc ob).cell? ⟨b, o, none⟩ = some u ∧ Below wa.heap.size wa (W.alloc ob) :=
  img_keep7N hlt hb' (below1 W ob) h
end

end Go.Proofs.Ytmdjoafbckphfaa
