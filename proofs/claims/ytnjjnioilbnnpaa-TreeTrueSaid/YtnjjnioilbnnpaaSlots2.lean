/- slots.check, Grab, Used, and the reference's SlotFine, SlotsError, GrabOf, UsedOf. Conditions: the slots are read in blocks below B. -/
import Derived.Test.YtnjjnioilbnnpaaSlots
namespace Go.Proofs.Ytnjjnioilbnnpaa
open Go.RowKit Sl

theorem sfree_any (k : Int) (d t : Value) (w : World) : Calls Try.prog 61 #[.agg #[.int .i64 k, d, t]] w fun e w' => e = .returned (.bool (k == 0)) ∧ Below w.heap.size w w' := by
  go_enter Try.func61, Try.ntmps61
  go_wp2
  go_ret
  exact ⟨rfl, (Below.refl _ _).alloc (Nat.le_refl _) _⟩
theorem scheckfn_any (B : Nat) (s : Slot) (A : Option Addr) (n c : Nat) (w : World) (hB : B ≤ w.heap.size) (h : SlotV w B s A n c) :
    Calls Try.prog 80 #[.agg #[.int .i64 s.kind, .string s.data, .slice A n c]] w fun e w' => e = .returned (.bool (!slotFine s)) ∧ Below w.heap.size w w' := by
  have h' : SlotV (w.alloc (.cells #[.int .i64 s.kind, .string s.data, .slice A n c] 41)) (w.heap.size + 1) s A n c := (h.below ((Below.refl _ _).alloc (Nat.le_refl _) _) hB).more (by omega)
  have HC := Lib.hid (scheck_any s A n c (w.alloc (.cells #[.int .i64 s.kind, .string s.data, .slice A n c] 41)) (h'.table.more (by simp)) (Nat.le_trans h.len h.cap) h.data)
  cases hp : slotFine s
  all_goals
    rw [hp] at HC
    unfold errOf at HC
    clear h h'
    go_enter Try.func80, Try.ntmps80
    go_wp2_with (go_at_call 81; refine HC.out.mono ?_; rintro e w' ⟨rfl, hb'⟩)
    go_ret
    exact ⟨rfl, ((Below.refl _ _).alloc (Nat.le_refl _) _).trans (hb'.mono (by simp))⟩

set_option maxRecDepth 100000 in
theorem containsSlots (K : Nat) (p : Slot → Bool) (A : Option Addr) (n c B : Nat) (l : List Slot) (w : World) (h : SlotsR w B A n l) (hB : B ≤ w.heap.size) (hc : n ≤ 4611686018427387903)
    (hk : ∀ (vs : Array Value) (W : World), (callFunc K vs).run Try.prog W = .ok (.enter K vs) W)
    (hf : ∀ (s : Slot) (tA : Option Addr) (tn tc : Nat) (W : World), B ≤ W.heap.size → SlotV W B s tA tn tc → Calls Try.prog K #[.agg #[.int .i64 s.kind, .string s.data, .slice tA tn tc]] W fun e w' => e = .returned (.bool (p s)) ∧ Below W.heap.size W w') :
    Calls Try.prog 79 #[.slice A n c, .func (.func K) #[] #[]] w
    fun e w' => e = .returned (.bool (l.any p)) ∧ Below w.heap.size w w' := by
  have HI := Lib.hid (indexSlots K p A n c B l w h hB hc hk hf)
  clear hf hk h hB
  go_enter Try.func79, Try.ntmps79
  go_wp2_with (go_at_call 87; refine HI.out.mono ?_; rintro e w' ⟨rfl, hb'⟩)
  go_ret
  exact ⟨ret_bool (indexOf_any p l).symm, hb'⟩

theorem slotsErr_many {l : List Slot} (h : l.length < 1 ∨ 40 < l.length) : slotsErr l = 2 := by unfold slotsErr; rw [if_pos h]
theorem slotsErr_bad {l : List Slot} (h : 1 ≤ l.length) (h' : l.length ≤ 40) (hp : l.all slotFine = false) : slotsErr l = 1 := by
  unfold slotsErr; rw [if_neg (by omega), hp]; rfl
theorem slotsErr_first {l : List Slot} (h : 1 ≤ l.length) (h' : l.length ≤ 40) (hp : kind0 l ≠ 0) : slotsErr l = 1 := by
  unfold slotsErr; rw [if_neg (by omega), if_neg hp]; split <;> rfl
theorem slotsErr_ok {l : List Slot} (h : 1 ≤ l.length) (h' : l.length ≤ 40) (hp : l.all slotFine = true) (h0 : kind0 l = 0) : slotsErr l = 0 := by
  unfold slotsErr; rw [if_neg (by omega), hp, h0]; rfl
theorem kind0_at {l : List Slot} {s : Slot} (h : l[0]? = some s) : kind0 l = s.kind := by
  cases l with
  | nil => simp at h
  | cons a l => simp at h; subst h; rfl

set_option maxRecDepth 100000 in
set_option maxHeartbeats 400000 in
theorem scheckall_any (A : Option Addr) (n c : Nat) (l : List Slot) (w : World) (h : SlotsR w w.heap.size A n l) (hc : n ≤ 4611686018427387903) :
    Calls Try.prog 60 #[.slice A n c] w fun e w' => e = .returned (.int .i64 (slotsErr l)) ∧ Below w.heap.size w w' := by
  by_cases h1 : n < 1
  · have HV := Lib.hid (slotsErr_many (l := l) (by rw [h.1]; exact .inl h1))
    have g1 : decide ((n : Int) < 1) = true := by simp; omega
    go_enter Try.func60, Try.ntmps60
    go_wp2_with fail
    go_ret
    exact ⟨ret_int HV.out, Below.refl _ _⟩
  · by_cases h2 : 40 < n
    · have HV := Lib.hid (slotsErr_many (l := l) (by rw [h.1]; exact .inr h2))
      go_enter Try.func60, Try.ntmps60
      go_wp2_with fail
      go_ret
      exact ⟨ret_int HV.out, Below.refl _ _⟩
    · have h1' : 1 ≤ n := by omega
      have h2' : n ≤ 40 := by omega
      have hl := h.1
      have hcon := containsSlots 80 (fun s => !slotFine s) A n c w.heap.size l w h (Nat.le_refl _) hc (fun _ _ => by kernel_rfl) (fun s tA tn tc W hW hs => scheckfn_any _ s tA tn tc W hW hs)
      rw [any_not] at hcon
      have HC := Lib.hid hcon
      obtain ⟨b, o, s, tA, tn, tc, rfl, hb, hx, c0, c1, c2, hs⟩ := h.at_ (k := 0) (by omega)
      have hk0 := kind0_at hx
      rw [Nat.zero_mul, Nat.add_zero] at c0
      cases hz : (s.kind != 0)
      · cases hp : l.all slotFine
        · have HV := Lib.hid (slotsErr_bad (by omega) (by omega) hp)
          rw [hp] at HC
          clear hk0 hp hx hs c1 c2 hcon hl h
          go_enter Try.func60, Try.ntmps60
          go_wp2_with (go_at_call 79; refine HC.out.mono ?_; rintro e w' ⟨rfl, hb'⟩)
          go_ret
          exact ⟨ret_int HV.out, hb'⟩
        · have HV := Lib.hid (slotsErr_ok (by omega) (by omega) hp (by rw [hk0]; simpa using hz))
          rw [hp] at HC
          clear hk0 hp hx hs c1 c2 hcon hl h
          go_enter Try.func60, Try.ntmps60
          go_wp2_with (go_at_call 79; refine HC.out.mono ?_; rintro e w' ⟨rfl, hb'⟩)
          go_ret
          exact ⟨ret_int HV.out, hb'⟩
      · have HV := Lib.hid (slotsErr_first (l := l) (by omega) (by omega) (by rw [hk0]; simpa using hz))
        clear hk0 hx hs c1 c2 hcon hl h
        go_enter Try.func60, Try.ntmps60
        go_wp2_with fail
        go_ret
        exact ⟨ret_int HV.out, Below.refl _ _⟩
end Go.Proofs.Ytnjjnioilbnnpaa
