/- Texts of the proof of restImages_holds: SnFind. Conditions: as each text says. -/
import Derived.Test.YtfilnnjanhjbeaaGreatRI13
import Derived.Test.YtfilnnjanhjbeaaGreatRI15
namespace Go.Proofs.YtfilnnjanhjbeaaGreat
open Go.RowKit Sl
def cmpS (s t : ByteArray) : Int := if strLt s t = true then -1 else if strLt t s = true then 1 else 0
theorem cmpS_lt (s t : ByteArray) : decide (cmpS s t < 0) = strLt s t := by
  unfold cmpS
  cases h : strLt s t
  · cases h2 : strLt t s <;> simp
  · simp
theorem cmpS_eq {s t : ByteArray} (h : strLt s t = false) : (cmpS s t == 0) = (s.toList == t.toList) := by
  have h2 := lexLt_total s.toList t.toList
  unfold cmpS
  unfold strLt at h ⊢
  rw [h, Bool.false_or] at h2
  rw [h2, h]
  cases h3 : lexLt t.toList s.toList <;> simp
set_option maxRecDepth 100000 in
set_option maxHeartbeats 400000 in
theorem isNaN_any (s : ByteArray) (w : World) : Calls Tryz.prog 89 #[.string s] w fun e w' => e = .returned (.bool false) ∧ w' = w := by
  go_enter Tryz.func89, Tryz.ntmps89
  go_wp2_with fail
  go_ret
  exact ⟨by simp, rfl⟩
set_option maxRecDepth 100000 in
set_option maxHeartbeats 1000000 in
theorem cmp_any (s t : ByteArray) (w : World) : Calls Tryz.prog 63 #[.string s, .string t] w fun e w' => e = .returned (.int .i64 (cmpS s t)) ∧ w' = w := by
  have K := fun s W => isNaN_any s W
  cases h1 : strLt s t
  · cases h2 : strLt t s
    · have R := Lib.hid (show cmpS s t = 0 from by unfold cmpS; rw [h1, h2]; rfl)
      have h3 : (s.toList == t.toList) = !strLt t s := by have := lexLt_total s.toList t.toList; unfold strLt at h1 ⊢; rw [h1, Bool.false_or] at this; exact this
      rw [h2] at h3
      rw [show (!(false : Bool)) = true from rfl] at h3
      rw [← less_str] at h1 h2
      go_enter Tryz.func63, Tryz.ntmps63
      go_wp2_with (first | (refine (K _ _).mono ?_; rintro e w' ⟨rfl, rfl⟩))
      go_ret
      exact ⟨ret_int R.out, rfl⟩
    · have R := Lib.hid (show cmpS s t = 1 from by unfold cmpS; rw [h1, h2]; rfl)
      have h3 : (s.toList == t.toList) = !strLt t s := by have := lexLt_total s.toList t.toList; unfold strLt at h1 ⊢; rw [h1, Bool.false_or] at this; exact this
      rw [h2] at h3
      rw [show (!(true : Bool)) = false from rfl] at h3
      rw [← less_str] at h1 h2
      go_enter Tryz.func63, Tryz.ntmps63
      go_wp2_with (first | (refine (K _ _).mono ?_; rintro e w' ⟨rfl, rfl⟩))
      go_ret
      exact ⟨ret_int R.out, rfl⟩
  · have R := Lib.hid (show cmpS s t = -1 from by unfold cmpS; rw [h1]; rfl)
    rw [← less_str] at h1
    go_enter Tryz.func63, Tryz.ntmps63
    go_wp2_with (first | (refine (K _ _).mono ?_; rintro e w' ⟨rfl, rfl⟩))
    go_ret
    exact ⟨ret_int R.out, rfl⟩
set_option maxRecDepth 100000 in
set_option maxHeartbeats 400000 in
theorem findfn_any (s : Snap) (tA : Option Addr) (tn tc : Nat) (name : ByteArray) (w : World) :
    Calls Tryz.prog 62 #[.agg #[.string s.name, .int .i64 s.guest, .slice tA tn tc], .string name] w fun e' w' => e' = .returned (.int .i64 (cmpS s.name name)) ∧ Below w.heap.size w w' := by
  have HB1 := below1 w (.cells #[.string s.name, .int .i64 s.guest, .slice tA tn tc] 39)
  have K := fun W => cmp_any s.name name W
  go_enter Tryz.func62, Tryz.ntmps62
  go_wp2_with fail
  refine (K _).mono ?_
  rintro e w1 ⟨rfl, rfl⟩
  go_wp2_with fail
  go_ret
  exact ⟨rfl, HB1⟩
set_option maxRecDepth 100000 in
set_option maxHeartbeats 1000000 in
theorem bsearch_any (A : Option Addr) (n c : Nat) (l : List Snap) (name : ByteArray) (w : World) (h : SnapsR w w.heap.size A n l) (hc : n ≤ 1000000) (S : Sorted l)
    (hk : ∀ (vs : Array Value) (W : World), (callFunc 62 vs).run Tryz.prog W = .ok (.enter 62 vs) W) :
    Calls Tryz.prog 61 #[.slice A n c, .string name, .func (.func 62) #[] #[]] w
    fun e w' => e = .returned (.tuple #[.int .i64 (insK l name : Nat), .bool (l.any (named name))]) ∧ Below w.heap.size w w' := by
  have HS := Lib.hid S
  have hin : insK l name ≤ n := by rw [← h.1]; exact insK_le _ _
  have HL := Lib.hid h.1
  have HF := Lib.hid (fun (s : Snap) (tA : Option Addr) (tn tc : Nat) W => findfn_any s tA tn tc name W)
  have HI1 := Lib.hid (fun (j : Nat) (s : Snap) (hx : l[j]? = some s) (hs : strLt s.name name = true) => show j < insK l name from by
    rcases Nat.lt_or_ge j (insK l name) with h | h
    · exact h
    · have := ins_after S h hx; rw [this] at hs; cases hs)
  have HI2 := Lib.hid (fun (j : Nat) (s : Snap) (hx : l[j]? = some s) (hs : strLt s.name name = false) => show insK l name ≤ j from by
    rcases Nat.lt_or_ge j (insK l name) with h | h
    · have := ins_before h hx; rw [this] at hs; cases hs
    · exact h)
  have HA := Lib.hid (find_any (name := name) S)
  clear S
  generalize hK : insK l name = kk at *
  have HK := Lib.hid hK
  clear hK
  generalize hR : l.any (named name) = rb at *
  go_enter Tryz.func61, Tryz.ntmps61
  go_wp2_with fail
  go_loopw [9, 10] (fun i j wr => ∃ lo hi : Nat, i = .int .i64 lo ∧ j = .int .i64 hi ∧ lo ≤ hi ∧ hi ≤ n ∧ lo ≤ kk ∧ kk ≤ hi ∧ Below w.heap.size w wr) (fun i j _ => (intOf j).toNat - (intOf i).toNat)
  case atStart => exact ⟨0, n, rfl, rfl, Nat.zero_le _, Nat.le_refl _, Nat.zero_le _, hin, Below.refl _ _⟩
  case round =>
    obtain ⟨lo, hi, rfl, rfl, hlh, hhn, hlk, hkh, hbw⟩ := hrel
    by_cases hlt : lo < hi
    · obtain ⟨b, o, s, tA, tn, tc, rfl, hb, hx, h0, h1, h2, hs⟩ := (h.below hbw (Nat.le_refl _)).at_ (k := (lo + hi) / 2) (by omega)
      have HX := Lib.hid hx
      have hz := hbw.size
      clear hx hs
      have e1 : ((lo : Int) + (hi : Int)) / 2 = (((lo + hi) / 2 : Nat) : Int) := by omega
      have J1 := Lib.hid (HI1.out _ s HX.out)
      have J2 := Lib.hid (HI2.out _ s HX.out)
      have hm1 : lo ≤ (lo + hi) / 2 := by omega
      have hm2 : (lo + hi) / 2 < hi := by omega
      generalize (lo + hi) / 2 = mid at *
      cases hp : strLt s.name name
      · have hq : decide (cmpS s.name name < 0) = false := (cmpS_lt _ _).trans hp
        go_wp2_with (refine (HF.out s tA tn tc _).mono ?_; rintro e w' ⟨rfl, hb'⟩)
        go_roundw
        case rel => exact ⟨lo, mid, by go_num, by go_num, by omega, by omega, hlk, J2.out hp, hbw.trans (hb'.mono hz)⟩
        case measure => simp [intOf]; omega
      · have hq : decide (cmpS s.name name < 0) = true := (cmpS_lt _ _).trans hp
        go_wp2_with (refine (HF.out s tA tn tc _).mono ?_; rintro e w' ⟨rfl, hb'⟩)
        go_roundw
        case rel => exact ⟨mid + 1, hi, by go_num, by go_num, by omega, by omega, J1.out hp, hkh, hbw.trans (hb'.mono hz)⟩
        case measure => simp [intOf]; omega
    · obtain rfl : lo = hi := by omega
      obtain rfl : lo = kk := by omega
      by_cases hkn : lo < n
      · obtain ⟨b, o, s, tA, tn, tc, rfl, hb, hx, h0, h1, h2, hs⟩ := (h.below hbw (Nat.le_refl _)).at_ (k := lo) hkn
        have hz := hbw.size
        have hpf : strLt s.name name = false := by
          cases hp : strLt s.name name
          · rfl
          · have := HI1.out _ s hx hp; omega
        have R := Lib.hid (show (cmpS s.name name == 0) = rb from by
          rw [cmpS_eq hpf, Bool.eq_iff_iff, HA.out]
          exact ⟨fun hh => ⟨s, hx, hh⟩, fun ⟨t, ht, hh⟩ => by rw [hx] at ht; injection ht with ht; rw [ht]; exact hh⟩)
        clear hx hs hR
        go_wp2_with (refine (HF.out s tA tn tc _).mono ?_; rintro e w' ⟨rfl, hb'⟩)
        go_ret2
        exact ⟨by rw [R.out]; rfl, hbw.trans (hb'.mono hz)⟩
      · have R := Lib.hid (show rb = false from by
          cases hh : rb
          · rfl
          · obtain ⟨s, hs, _⟩ := HA.out.1 hh
            have := (List.getElem?_eq_some_iff.1 hs).1
            rw [HL.out] at this; omega)
        clear hR
        go_wp2_with fail
        go_ret2
        exact ⟨by rw [R.out]; rfl, hbw⟩
theorem callFind (vs : Array Value) (W : World) : (callFunc 62 vs).run Tryz.prog W = .ok (.enter 62 vs) W := by kernel_rfl
set_option maxRecDepth 100000 in
set_option maxHeartbeats 1000000 in
theorem find_any2 (v : IV) (m : Img) (name : ByteArray) (w : World) (h : ImgR w w.heap.size v m) (S : Sorted m.snaps) (hp : v.pn ≤ 1000) :
    Calls Tryz.prog 29 #[imgV m v, .string name] w fun e w' => e = .returned (.tuple #[.int .i64 (insK m.snaps name : Nat), .bool (m.snaps.any (named name))]) ∧ Below w.heap.size w w' := by
  have K := Lib.hid (fun W (hb : Below w.heap.size w W) => bsearch_any v.pA v.pn v.pc m.snaps name W (h.next hb).snaps (by omega) S callFind)
  generalize insK m.snaps name = kk at *
  generalize m.snaps.any (named name) = rb at *
  obtain ⟨rA, rn, rc, sA, sn, sc, fA, fn, fc, pA, pn, pc⟩ := v
  dsimp only [imgV] at *
  have HB1 := below1 w (.cells #[.int .i64 m.guest, .slice rA rn rc, .slice sA sn sc, .slice fA fn fc, .slice pA pn pc] 26)
  clear h S
  go_enter Tryz.func29, Tryz.ntmps29
  go_wp2_with fail
  refine (K.out _ HB1).mono ?_
  rintro e w1 ⟨rfl, hb1⟩
  go_wp2_with fail
  go_ret2
  exact ⟨rfl, below_next HB1 hb1⟩
end Go.Proofs.YtfilnnjanhjbeaaGreat
