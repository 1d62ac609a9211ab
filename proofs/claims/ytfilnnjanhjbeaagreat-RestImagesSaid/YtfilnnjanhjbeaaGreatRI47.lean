/- Texts of the proof of restImages_holds: Slots5. Conditions: as each text says. -/
import Derived.Test.YtfilnnjanhjbeaaGreatRI4
namespace Go.Proofs.YtfilnnjanhjbeaaGreat
open Go.RowKit Sl
theorem grab_at {l : List Slot} (k : Nat) (s : Slot) (h1 : 1 ≤ k) (hs : l[k]? = some s) (h0 : s.kind = 0) (ha : ((l.drop 1).take (k - 1)).all (fun y => !(y.kind == 0)) = true) : grab l = k := by
  have hx : (l.drop 1)[k - 1]? = some s := by rw [List.getElem?_drop, show 1 + (k - 1) = k from by omega]; exact hs
  have hf := firstAt_hit (fun s : Slot => s.kind == 0) (l.drop 1) (k - 1) s hx (by simp [h0]) ha
  have hl : k < l.length := (List.getElem?_eq_some_iff.1 hs).1
  unfold grab freeAt
  rw [hf, if_pos (by rw [List.length_drop]; omega)]
  omega
theorem grab_end {l : List Slot} (ha : (l.drop 1).all (fun y => !(y.kind == 0)) = true) : grab l = if l.length < 40 then l.length else 0 := by
  have hf := firstAt_none (fun s : Slot => s.kind == 0) (l.drop 1) ha
  unfold grab freeAt
  rw [hf, if_neg (by omega)]
set_option maxRecDepth 100000 in
set_option maxHeartbeats 400000 in
theorem rgrab_any (A : Option Addr) (n c : Nat) (l : List Slot) (w : World) (h : SlotsR w w.heap.size A n l) (h1 : 1 ≤ n) (hc : n ≤ 4611686018427387903) :
    Calls Tryz.prog 40 #[.slice A n c] w fun e w' => e = .returned (.int .i64 (grab l)) ∧ w = w' := by
  go_enter Tryz.func40, Tryz.ntmps40
  go_wp2_with fail
  go_loop [3] (fun i => ∃ k : Nat, 1 ≤ k ∧ k ≤ n ∧ i = .int .i64 k ∧ ((l.drop 1).take (k - 1)).all (fun y => !(y.kind == 0)) = true) (fun i => n - (intOf i).toNat)
  case atStart => exact ⟨1, Nat.le_refl _, h1, rfl, by simp⟩
  case round =>
    obtain ⟨k, hk1, hkn, rfl, ha⟩ := hrel
    have HA := Lib.hid ha
    clear ha
    by_cases hlt : k < n
    · obtain ⟨b, o, s, tA, tn, tc, rfl, hb, hx, c0, _, _, _⟩ := h.at_ hlt
      have HX := Lib.hid hx
      clear hx
      cases hp : (s.kind == 0)
      · go_wp2_with fail
        go_round
        case rel => exact ⟨k + 1, by omega, by omega, by go_num, by
          rw [show k + 1 - 1 = (k - 1) + 1 from by omega, all_take_succ _ (l.drop 1) (k - 1) s (by rw [List.getElem?_drop, show 1 + (k - 1) = k from by omega]; exact HX.out), HA.out, hp]; rfl⟩
        case measure => simp [intOf]; omega
      · go_wp2_with fail
        go_ret
        exact ⟨ret_int (by rw [grab_at k s hk1 HX.out (by simpa using hp) HA.out]), rfl⟩
    · have hg := grab_end (l := l) (all_done _ (l.drop 1) (k - 1) (by rw [List.length_drop, h.1]; omega) HA.out)
      rw [h.1] at hg
      have HG := Lib.hid hg
      clear hg
      by_cases h40 : n < 40
      · go_wp2_with fail
        go_ret
        exact ⟨ret_int (by rw [HG.out, if_pos h40]), rfl⟩
      · go_wp2_with fail
        go_ret
        exact ⟨ret_int (by rw [HG.out, if_neg h40]; rfl), rfl⟩
end Go.Proofs.YtfilnnjanhjbeaaGreat
