/- The reference's ReadOf, AllOf, snapAt, PastOf; reads.Read, All, Past. Conditions: the image is read below the heap's size. -/
import Derived.Test.YtpboapeoejdipaaReads1
import Derived.Test.YtpboapeoejdipaaFlat
namespace Go.Proofs.Ytpboapeoejdipaa
open Go.RowKit Sl

/-- The image's five cells, as an argument. -/
abbrev imgV (m : Img) (v : IV) : Value := .agg #[.int .i64 m.guest, .slice v.rA v.rn v.rc, .slice v.sA v.sn v.sc, .slice v.fA v.fn v.fc, .slice v.pA v.pn v.pc]

set_option maxRecDepth 100000 in
set_option maxHeartbeats 400000 in
theorem pastfn_any (s : Snap) (tA : Option Addr) (tn tc : Nat) (Bn : Nat) (name : ByteArray) (w : World) (hc : w.cell? ⟨Bn, 0, none⟩ = some (.string name)) :
    Calls Try.prog 64 #[.agg #[.string s.name, .int .i64 s.guest, .slice tA tn tc], .pointer (some ⟨Bn, 0, none⟩)] w fun e' w' => e' = .returned (.bool (named name s)) ∧ Below w.heap.size w w' := by
  have HB1 := below1 w (.cells #[.string s.name, .int .i64 s.guest, .slice tA tn tc] 68)
  have hlt : Bn < w.heap.size := by have := World.block_lt_of_cell? w _ hc; simpa using this
  have hc' := (HB1.cell (p := ⟨Bn, 0, none⟩) hlt).trans hc
  go_enter Try.func64, Try.ntmps64
  go_wp2_with fail
  go_ret
  exact ⟨rfl, HB1⟩

set_option maxHeartbeats 400000 in
theorem indexSnaps (K : Nat) (q : Value) (p : Snap → Bool) (A : Option Addr) (n c : Nat) (l : List Snap) (w : World) (h : SnapsR w w.heap.size A n l) (hc : n ≤ 4611686018427387903)
    (hk : ∀ (vs : Array Value) (W : World), (callFunc K vs).run Try.prog W = .ok (.enter K vs) W)
    (hf : ∀ (s : Snap) (tA : Option Addr) (tn tc : Nat) (W : World), Below w.heap.size w W → Calls Try.prog K #[.agg #[.string s.name, .int .i64 s.guest, .slice tA tn tc], q] W fun e w' => e = .returned (.bool (p s)) ∧ Below W.heap.size W w') :
    Calls Try.prog 63 #[.slice A n c, .func (.func K) #[] #[q]] w
    fun e w' => e = .returned (.int .i64 (indexOf p l)) ∧ Below w.heap.size w w' := by
  have HF := Lib.hid hf
  clear hf
  go_enter Try.func63, Try.ntmps63
  go_wp2_with fail
  go_loopw [8, 5] (fun i _ wr => ∃ k : Nat, k ≤ n ∧ i = .int .i64 k ∧ (l.take k).all (fun y => !p y) = true ∧ Below w.heap.size w wr) (fun i _ _ => n - (intOf i).toNat)
  case atStart => exact ⟨0, Nat.zero_le _, rfl, by simp, Below.refl _ _⟩
  case round =>
    obtain ⟨k, hkn, rfl, ha, hbw⟩ := hrel
    have HA := Lib.hid ha
    clear ha
    by_cases hlt : k < n
    · obtain ⟨b, o, s, tA, tn, tc, rfl, hb, hx, h0, h1, h2, hs⟩ := (h.below hbw (Nat.le_refl _)).at_ hlt
      have HX := Lib.hid hx
      clear hx
      have hz := hbw.size
      cases hp : p s
      · go_wp2_with (refine (HF.out s tA tn tc _ hbw).mono ?_; rintro e w' ⟨rfl, hb'⟩)
        go_roundw
        case rel => exact ⟨k + 1, by omega, by go_num, by rw [all_take_succ _ l k s HX.out, HA.out, hp]; rfl, hbw.trans (hb'.mono hz)⟩
        case measure => simp [intOf]; omega
      · go_wp2_with (refine (HF.out s tA tn tc _ hbw).mono ?_; rintro e w' ⟨rfl, hb'⟩)
        go_ret
        exact ⟨ret_int (indexOf_hit p l k s HX.out hp HA.out), hbw.trans (hb'.mono hz)⟩
    · go_wp2_with fail
      go_ret
      exact ⟨ret_int (indexOf_none p l (all_done _ l k (by rw [h.1]; omega) HA.out)), hbw⟩
end Go.Proofs.Ytpboapeoejdipaa
