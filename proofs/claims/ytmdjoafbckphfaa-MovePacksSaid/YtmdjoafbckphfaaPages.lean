/- pages.Check, Zero, and the reference's. Conditions: the pages are read in blocks below the heap's size. -/
import Derived.Test.YtmdjoafbckphfaaMemA
import Derived.Test.YtmdjoafbckphfaaPureA
import Derived.Test.YtmdjoafbckphfaaShelf
import Derived.Test.YtmdjoafbckphfaaSlotsA
namespace Go.Proofs.Ytmdjoafbckphfaa
open Go.RowKit Sl

set_option maxRecDepth 100000 in
set_option maxHeartbeats 400000 in
theorem pcheck_any (A : Option Addr) (n c : Nat) (l : List ByteArray) (w : World) (h : StrsR w w.heap.size A n l) (hc : n ≤ 4611686018427387903) :
    Calls Try.prog 34 #[.slice A n c] w fun e w' => e = .returned (.int .i64 (pagesErr l)) ∧ w = w' := by
  by_cases h16 : 16 < n
  · have HV := Lib.hid (pagesErr_many (l := l) (by rw [h.len]; exact h16))
    clear h
    go_enter Try.func34, Try.ntmps34
    go_wp2_with fail
    go_ret
    exact ⟨ret_int HV.out, rfl⟩
  · go_enter Try.func34, Try.ntmps34
    go_wp2_with fail
    go_loop [10, 4] (fun i _ => ∃ k : Nat, k ≤ n ∧ i = .int .i64 k ∧ (l.take k).all isPage = true) (fun i _ => n - (intOf i).toNat)
    case atStart => exact ⟨0, Nat.zero_le _, rfl, by simp⟩
    case round =>
      obtain ⟨k, hkn, rfl, ha⟩ := hrel
      have HA := Lib.hid ha
      clear ha
      by_cases hlt : k < n
      · obtain ⟨b, o, s, rfl, hb, hx, hcell, hs⟩ := h.at_ hlt
        have HX := Lib.hid hx
        clear hx
        cases hp : ((s.size : Int) != 4)
        · go_wp2_with fail
          go_round
          case rel => exact ⟨k + 1, by omega, by go_num, by rw [all_take_succ _ l k s HX.out, HA.out, Bool.true_and]; unfold isPage; rw [bne_eq_false_iff_eq] at hp; rw [beq_iff_eq]; omega⟩
          case measure => simp [intOf]; omega
        · go_wp2_with fail
          go_ret
          exact ⟨ret_int (pagesErr_bad (by rw [h.len]; omega) (all_false _ l k s HX.out (by unfold isPage; rw [bne_iff_ne] at hp; rw [beq_eq_false_iff_ne]; omega))), rfl⟩
      · go_wp2_with fail
        go_ret
        exact ⟨ret_int (pagesErr_ok (by rw [h.len]; omega) (all_done _ l k (by rw [h.len]; omega) HA.out)), rfl⟩

theorem zero_any (w : World) : Calls Try.prog 37 #[] w fun e w' => e = .returned (.string zeroP) ∧ Below w.heap.size w w' := by
  have hr := Try.strings_Repeat_main { data := #[0] } 4 w (by decide) (by decide) (by decide) (by decide)
  have e1 : (⟨(Lib.repeatL ({ data := #[0] } : ByteArray).data.toList 4).toArray⟩ : ByteArray) = zeroP := by decide +kernel
  rw [e1] at hr
  have HR := Lib.hid hr
  clear hr e1
  go_enter Try.func37, Try.ntmps37
  go_wp2_with (go_at_call 59; refine HR.out.mono ?_; rintro e w' ⟨rfl, hb⟩)
  go_ret
  exact ⟨rfl, hb⟩

theorem flatRead_no {l : List ByteArray} {n : Int} (h : pagesErr l ≠ 0) : flatReadE l n = pagesErr l ∧ flatReadV l n = noP := by
  have : flatReadE l n = pagesErr l := by unfold flatReadE; rw [if_neg h]
  exact ⟨this, by unfold flatReadV; rw [this, if_neg h]⟩
theorem flatRead_out {l : List ByteArray} {n : Int} (h : pagesErr l = 0) (hn : ¬ (0 ≤ n ∧ n < l.length)) : flatReadE l n = 3 ∧ flatReadV l n = noP := by
  have : flatReadE l n = 3 := by unfold flatReadE; rw [if_pos h, if_neg hn]
  exact ⟨this, by unfold flatReadV; rw [this, if_neg (by decide)]⟩
theorem flatRead_ok {l : List ByteArray} {k : Nat} {s : ByteArray} (h : pagesErr l = 0) (hs : l[k]? = some s) : flatReadE l k = 0 ∧ flatReadV l k = s := by
  have hk : k < l.length := (List.getElem?_eq_some_iff.1 hs).1
  have : flatReadE l k = 0 := by unfold flatReadE; rw [if_pos h, if_pos (by omega)]
  exact ⟨this, by unfold flatReadV; rw [this, if_pos rfl, Int.toNat_natCast, List.getD_eq_getElem?_getD, hs]; rfl⟩

set_option maxRecDepth 100000 in
set_option maxHeartbeats 400000 in
theorem fread_any (A : Option Addr) (n c : Nat) (l : List ByteArray) (x : Int) (w : World) (h : StrsR w w.heap.size A n l) (hc : n ≤ 4611686018427387903) :
    Calls Try.prog 19 #[.slice A n c, .int .i64 x] w fun e w' => e = .returned (.tuple #[.string (flatReadV l x), .int .i64 (flatReadE l x)]) ∧ w = w' := by
  have HK := Lib.hid (pcheck_any A n c l w h hc)
  by_cases he : pagesErr l = 0
  · rw [he] at HK
    have hln := h.len
    by_cases h0 : x < 0
    · have R := Lib.hid (flatRead_out (n := x) he (by omega))
      clear h he hln
      go_enter Try.func19, Try.ntmps19
      go_wp2_with (go_at_call 34; refine HK.out.mono ?_; rintro e w1 ⟨rfl, rfl⟩)
      go_ret2
      exact ⟨ret_si R.out.2 R.out.1, rfl⟩
    · obtain ⟨k, rfl⟩ := Int.eq_ofNat_of_zero_le (by omega : 0 ≤ x)
      by_cases hk : k < n
      · obtain ⟨b, o, s, rfl, hb, hx, hcell, hs⟩ := h.at_ hk
        have R := Lib.hid (flatRead_ok he hx)
        clear h he hln hx
        go_enter Try.func19, Try.ntmps19
        go_wp2_with (go_at_call 34; refine HK.out.mono ?_; rintro e w1 ⟨rfl, rfl⟩)
        go_ret2
        exact ⟨ret_si R.out.2 R.out.1, rfl⟩
      · have R := Lib.hid (flatRead_out (n := (k : Int)) he (by omega))
        clear h he hln
        go_enter Try.func19, Try.ntmps19
        go_wp2_with (go_at_call 34; refine HK.out.mono ?_; rintro e w1 ⟨rfl, rfl⟩)
        go_ret2
        exact ⟨ret_si R.out.2 R.out.1, rfl⟩
  · have R := Lib.hid (flatRead_no (n := x) he)
    have he' : (pagesErr l != 0) = true := by simpa using he
    clear h he
    go_enter Try.func19, Try.ntmps19
    go_wp2_with (go_at_call 34; refine HK.out.mono ?_; rintro e w1 ⟨rfl, rfl⟩)
    go_ret2
    exact ⟨ret_si R.out.2 R.out.1, rfl⟩

end Go.Proofs.Ytmdjoafbckphfaa
