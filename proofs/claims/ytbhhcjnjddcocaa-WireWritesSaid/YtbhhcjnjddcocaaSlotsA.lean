/- The walks of entries and slots. Conditions: as each text says. -/
import Derived.Test.YtbhhcjnjddcocaaBase
-- Entry: The walks of package entry's checks and the reference's. Conditions: the slice is read in a block below B.
namespace Go.Proofs.Ytbhhcjnjddcocaa
open Go.RowKit Sl

theorem within_any (n lo hi : Int) (w : World) : Calls Try.prog 32 #[.int .i64 n, .int .i64 lo, .int .i64 hi] w
    fun e w' => e = .returned (.bool (decide (lo ≤ n) && decide (n ≤ hi))) ∧ w = w' := by
  by_cases h1 : lo ≤ n
  · by_cases h2 : n ≤ hi
    all_goals
      go_enter Try.func32, Try.ntmps32
      go_wp2
      go_ret
      exact ⟨by simp [h1, h2], rfl⟩
  · go_enter Try.func32, Try.ntmps32
    go_wp2
    go_ret
    exact ⟨by rw [decide_eq_false (by omega : ¬ lo ≤ n)]; rfl, rfl⟩

theorem fine_any (n : Int) (w : World) : Calls Try.prog 71 #[.int .i64 n] w
    fun e w' => e = .returned (.bool (fine n)) ∧ w = w' := by
  by_cases h1 : -1 ≤ n
  · by_cases h2 : n < 40
    all_goals
      go_enter Try.func71, Try.ntmps71
      go_wp2
      go_ret
      exact ⟨by simp [h1, h2, fine], rfl⟩
  · go_enter Try.func71, Try.ntmps71
    go_wp2
    go_ret
    exact ⟨by unfold fine; rw [decide_eq_false (by omega : ¬ -1 ≤ n)]; rfl, rfl⟩

theorem rentry_any (n : Int) (w : World) : Calls Try.prog 61 #[.int .i64 n] w
    fun e w' => e = .returned (.bool (fine n)) ∧ w = w' := by
  by_cases h0 : n = 0
  · subst h0
    go_enter Try.func61, Try.ntmps61
    go_wp2
    go_ret
    exact ⟨by simp [fine], rfl⟩
  · by_cases h1 : n = -1
    · subst h1
      go_enter Try.func61, Try.ntmps61
      go_wp2
      go_ret
      exact ⟨by simp [fine], rfl⟩
    · go_enter Try.func61, Try.ntmps61
      go_wp2_with (go_at_call 32; refine (within_any _ _ _ _).mono ?_; rintro e w' ⟨rfl, rfl⟩)
      go_ret
      refine ⟨?_, rfl⟩
      have e1 : decide (-1 ≤ n) = decide (1 ≤ n) := by rw [decide_eq_decide]; omega
      have e2 : decide (n < 40) = decide (n ≤ 39) := by rw [decide_eq_decide]; omega
      unfold fine
      rw [e1, e2]
      simp [h0, h1]

set_option maxHeartbeats 400000 in
theorem rbare_any (A : Option Addr) (n c B : Nat) (xs : List Int) (w : World) (h : Rd w B 1 A n (ints xs)) (hc : n ≤ maxLen) : Calls Try.prog 56 #[.slice A n c] w
    fun e w' => e = .returned (.bool (bare xs)) ∧ w = w' := by
  unfold maxLen at hc
  go_enter Try.func56, Try.ntmps56
  go_wp2
  go_loop [3] (fun i => ∃ k : Nat, k ≤ n ∧ i = .int .i64 k ∧ (xs.take k).all (· == 0) = true) (fun i => n - (intOf i).toNat)
  case atStart => exact ⟨0, Nat.zero_le _, rfl, by simp⟩
  case round =>
    obtain ⟨k, hk, rfl, ha⟩ := hrel
    have HA := Lib.hid ha
    clear ha
    by_cases hlt : k < n
    · obtain ⟨b, o, x, rfl, hb, hx, hcell⟩ := h.at1 hlt
      have HX := Lib.hid hx
      clear hx
      cases hp : (x != 0)
      · go_wp2
        go_round
        case rel => exact ⟨k + 1, by omega, by go_num, by rw [all_take_succ _ xs k x HX.out, HA.out]; simpa using hp⟩
        case measure => simp [intOf]; omega
      · go_wp2
        go_ret
        exact ⟨ret_bool (all_false _ xs k x HX.out (by simpa using hp)), rfl⟩
    · go_wp2
      go_ret
      exact ⟨ret_bool (all_done _ xs k (by rw [h.len]; omega) HA.out), rfl⟩

theorem entriesErr_ne {t : List Int} (h : t.length ≠ 4) : entriesErr t = 1 := by unfold entriesErr; rw [if_neg h]
theorem entriesErr_bad {t : List Int} (h : t.all fine = false) : entriesErr t = 1 := by unfold entriesErr; rw [h]; split <;> rfl
theorem entriesErr_ok {t : List Int} (h : t.length = 4) (h' : t.all fine = true) : entriesErr t = 0 := by unfold entriesErr; rw [if_pos h, h']; rfl

set_option maxHeartbeats 400000 in
theorem rcheck_any (A : Option Addr) (n c B : Nat) (xs : List Int) (w : World) (h : Rd w B 1 A n (ints xs)) (hc : n ≤ maxLen) : Calls Try.prog 55 #[.slice A n c] w
    fun e w' => e = .returned (.int .i64 (entriesErr xs)) ∧ w = w' := by
  unfold maxLen at hc
  by_cases h4 : n = 4
  · have g4 : ((n : Int) != 4) = false := by simp [h4]
    have hl : xs.length = 4 := by rw [h.len, h4]
    have HL := Lib.hid hl
    clear hl h4
    go_enter Try.func55, Try.ntmps55
    go_wp2_with fail
    go_loop [3] (fun i => ∃ k : Nat, k ≤ n ∧ i = .int .i64 k ∧ (xs.take k).all fine = true) (fun i => n - (intOf i).toNat)
    case atStart => exact ⟨0, Nat.zero_le _, rfl, by simp⟩
    case round =>
      obtain ⟨k, hk, rfl, ha⟩ := hrel
      have HA := Lib.hid ha
      clear ha
      by_cases hlt : k < n
      · obtain ⟨b, o, x, rfl, hb, hx, hcell⟩ := h.at1 hlt
        have HX := Lib.hid hx
        clear hx
        cases hp : fine x
        · go_wp2_with (go_at_call 61; refine (rentry_any _ _).mono ?_; rintro e w' ⟨rfl, rfl⟩)
          go_ret
          exact ⟨ret_int (entriesErr_bad (all_false _ xs k x HX.out hp)), rfl⟩
        · go_wp2_with (go_at_call 61; refine (rentry_any _ _).mono ?_; rintro e w' ⟨rfl, rfl⟩)
          go_round
          case rel => exact ⟨k + 1, by omega, by go_num, by rw [all_take_succ _ xs k x HX.out, HA.out, hp]; rfl⟩
          case measure => simp [intOf]; omega
      · go_wp2_with fail
        go_ret
        exact ⟨ret_int (entriesErr_ok HL.out (all_done _ xs k (by rw [h.len]; omega) HA.out)), rfl⟩
  · have g4 : ((n : Int) != 4) = true := by simp; omega
    go_enter Try.func55, Try.ntmps55
    go_wp2_with fail
    go_ret
    exact ⟨ret_int (entriesErr_ne (by rw [h.len]; exact h4)), rfl⟩
end Go.Proofs.Ytbhhcjnjddcocaa
-- Find: slices.IndexFunc and slices.ContainsFunc over []int, at a function value that leaves the world alone. Conditions: the slice is read in a block below B; the function answers p.
namespace Go.Proofs.Ytbhhcjnjddcocaa
open Go.RowKit Sl

set_option maxHeartbeats 400000 in
theorem indexInts (K : Nat) (p : Int → Bool) (A : Option Addr) (n c B : Nat) (xs : List Int) (w : World) (h : Rd w B 1 A n (ints xs)) (hc : n ≤ maxLen)
    (hk : ∀ (vs : Array Value) (W : World), (callFunc K vs).run Try.prog W = .ok (.enter K vs) W)
    (hf : ∀ x, Calls Try.prog K #[.int .i64 x] w fun e w' => e = .returned (.bool (p x)) ∧ w = w') :
    Calls Try.prog 53 #[.slice A n c, .func (.func K) #[] #[]] w
    fun e w' => e = .returned (.int .i64 (indexOf p xs)) ∧ w = w' := by
  unfold maxLen at hc
  have HF := Lib.hid hf
  clear hf
  go_enter Try.func53, Try.ntmps53
  go_wp2_with fail
  go_loop [8, 5] (fun i _ => ∃ k : Nat, k ≤ n ∧ i = .int .i64 k ∧ (xs.take k).all (fun y => !p y) = true) (fun i _ => n - (intOf i).toNat)
  case atStart => exact ⟨0, Nat.zero_le _, rfl, by simp⟩
  case round =>
    obtain ⟨k, hkn, rfl, ha⟩ := hrel
    have HA := Lib.hid ha
    clear ha
    by_cases hlt : k < n
    · obtain ⟨b, o, x, rfl, hb, hx, hcell⟩ := h.at1 hlt
      have HX := Lib.hid hx
      clear hx
      cases hp : p x
      · go_wp2_with (refine (HF.out _).mono ?_; rintro e w' ⟨rfl, rfl⟩)
        go_round
        case rel => exact ⟨k + 1, by omega, by go_num, by rw [all_take_succ _ xs k x HX.out, HA.out, hp]; rfl⟩
        case measure => simp [intOf]; omega
      · go_wp2_with (refine (HF.out _).mono ?_; rintro e w' ⟨rfl, rfl⟩)
        go_ret
        exact ⟨ret_int (indexOf_hit p xs k x HX.out hp HA.out), rfl⟩
    · go_wp2_with fail
      go_ret
      exact ⟨ret_int (indexOf_none p xs (all_done _ xs k (by rw [h.len]; omega) HA.out)), rfl⟩

set_option maxHeartbeats 400000 in
theorem containsInts (K : Nat) (p : Int → Bool) (A : Option Addr) (n c B : Nat) (xs : List Int) (w : World) (h : Rd w B 1 A n (ints xs)) (hc : n ≤ maxLen)
    (hk : ∀ (vs : Array Value) (W : World), (callFunc K vs).run Try.prog W = .ok (.enter K vs) W)
    (hf : ∀ x, Calls Try.prog K #[.int .i64 x] w fun e w' => e = .returned (.bool (p x)) ∧ w = w') :
    Calls Try.prog 43 #[.slice A n c, .func (.func K) #[] #[]] w
    fun e w' => e = .returned (.bool (xs.any p)) ∧ w = w' := by
  have HI := Lib.hid (indexInts K p A n c B xs w h hc hk hf)
  clear hf hk
  go_enter Try.func43, Try.ntmps43
  go_wp2_with (go_at_call 53; refine HI.out.mono ?_; rintro e w' ⟨rfl, rfl⟩)
  go_ret
  exact ⟨ret_bool (indexOf_any p xs).symm, rfl⟩

set_option maxRecDepth 100000 in
set_option maxHeartbeats 400000 in
theorem indexSlots (K : Nat) (p : Slot → Bool) (A : Option Addr) (n c B : Nat) (l : List Slot) (w : World) (h : SlotsR w B A n l) (hB : B ≤ w.heap.size) (hc : n ≤ 4611686018427387903)
    (hk : ∀ (vs : Array Value) (W : World), (callFunc K vs).run Try.prog W = .ok (.enter K vs) W)
    (hf : ∀ (s : Slot) (tA : Option Addr) (tn tc : Nat) (W : World), B ≤ W.heap.size → SlotV W B s tA tn tc → Calls Try.prog K #[.agg #[.int .i64 s.kind, .string s.data, .slice tA tn tc]] W fun e w' => e = .returned (.bool (p s)) ∧ Below W.heap.size W w') :
    Calls Try.prog 62 #[.slice A n c, .func (.func K) #[] #[]] w
    fun e w' => e = .returned (.int .i64 (indexOf p l)) ∧ Below w.heap.size w w' := by
  have HF := Lib.hid hf
  clear hf
  go_enter Try.func62, Try.ntmps62
  go_wp2_with fail
  go_loopw [8, 5] (fun i _ wr => ∃ k : Nat, k ≤ n ∧ i = .int .i64 k ∧ (l.take k).all (fun y => !p y) = true ∧ Below w.heap.size w wr) (fun i _ _ => n - (intOf i).toNat)
  case atStart => exact ⟨0, Nat.zero_le _, rfl, by simp, Below.refl _ _⟩
  case round =>
    obtain ⟨k, hkn, rfl, ha, hbw⟩ := hrel
    have HA := Lib.hid ha
    clear ha
    by_cases hlt : k < n
    · obtain ⟨b, o, s, tA, tn, tc, rfl, hb, hx, h0, h1, h2, hs⟩ := (h.below hbw hB).at_ hlt
      have HX := Lib.hid hx
      clear hx
      have hz := hbw.size
      cases hp : p s
      · go_wp2_with (refine (HF.out s tA tn tc _ (by omega) hs).mono ?_; rintro e w' ⟨rfl, hb'⟩)
        go_roundw
        case rel => exact ⟨k + 1, by omega, by go_num, by rw [all_take_succ _ l k s HX.out, HA.out, hp]; rfl, hbw.trans (hb'.mono hz)⟩
        case measure => simp [intOf]; omega
      · go_wp2_with (refine (HF.out s tA tn tc _ (by omega) hs).mono ?_; rintro e w' ⟨rfl, hb'⟩)
        go_ret
        exact ⟨ret_int (indexOf_hit p l k s HX.out hp HA.out), hbw.trans (hb'.mono hz)⟩
    · go_wp2_with fail
      go_ret
      exact ⟨ret_int (indexOf_none p l (all_done _ l k (by rw [h.1]; omega) HA.out)), hbw⟩
end Go.Proofs.Ytbhhcjnjddcocaa
-- Entry2: entry.Check and entry.Bare. Conditions: the slice is read in a block below B.
namespace Go.Proofs.Ytbhhcjnjddcocaa
open Go.RowKit Sl

theorem checkfn_any (n : Int) (w : World) : Calls Try.prog 70 #[.int .i64 n] w fun e w' => e = .returned (.bool (!fine n)) ∧ w = w' := by
  go_enter Try.func70, Try.ntmps70
  go_wp2_with (go_at_call 71; refine (fine_any _ _).mono ?_; rintro e w' ⟨rfl, rfl⟩)
  go_ret
  exact ⟨rfl, rfl⟩
theorem barefn_any (n : Int) (w : World) : Calls Try.prog 69 #[.int .i64 n] w fun e w' => e = .returned (.bool (n != 0)) ∧ w = w' := by
  go_enter Try.func69, Try.ntmps69
  go_wp2
  go_ret
  exact ⟨rfl, rfl⟩

theorem any_not {α : Type} (p : α → Bool) (l : List α) : l.any (fun x => !p x) = !l.all p := by
  induction l with
  | nil => rfl
  | cons x l ih => simp [ih]

set_option maxHeartbeats 400000 in
theorem echeck_any (A : Option Addr) (n c B : Nat) (xs : List Int) (w : World) (h : Rd w B 1 A n (ints xs)) (hc : n ≤ maxLen) : Calls Try.prog 68 #[.slice A n c] w
    fun e w' => e = .returned (.int .i64 (entriesErr xs)) ∧ w = w' := by
  have HC := Lib.hid (containsInts 70 (fun x => !fine x) A n c B xs w h hc (fun _ _ => by kernel_rfl) (fun x => checkfn_any x w))
  by_cases h4 : n = 4
  · have g4 : ((n : Int) != 4) = false := by simp [h4]
    have hl : xs.length = 4 := by rw [h.len, h4]
    have HL := Lib.hid hl
    clear hl h4
    cases hp : xs.all fine
    · have hq : xs.any (fun x => !fine x) = true := by rw [any_not, hp]; rfl
      go_enter Try.func68, Try.ntmps68
      go_wp2_with (go_at_call 43; refine HC.out.mono ?_; rintro e w' ⟨rfl, rfl⟩)
      go_ret
      exact ⟨ret_int (entriesErr_bad hp), rfl⟩
    · have hq : xs.any (fun x => !fine x) = false := by rw [any_not, hp]; rfl
      go_enter Try.func68, Try.ntmps68
      go_wp2_with (go_at_call 43; refine HC.out.mono ?_; rintro e w' ⟨rfl, rfl⟩)
      go_ret
      exact ⟨ret_int (entriesErr_ok HL.out hp), rfl⟩
  · have g4 : ((n : Int) != 4) = true := by simp; omega
    go_enter Try.func68, Try.ntmps68
    go_wp2_with fail
    go_ret
    exact ⟨ret_int (entriesErr_ne (by rw [h.len]; exact h4)), rfl⟩

def bareAns (t : List Int) : Bool := entriesErr t == 0 && bare t
set_option maxHeartbeats 400000 in
theorem ebare_any (A : Option Addr) (n c B : Nat) (xs : List Int) (w : World) (h : Rd w B 1 A n (ints xs)) (hc : n ≤ maxLen) : Calls Try.prog 66 #[.slice A n c] w
    fun e w' => e = .returned (.tuple #[.bool (bareAns xs), .int .i64 (entriesErr xs)]) ∧ w = w' := by
  have HC := Lib.hid (containsInts 69 (fun x => x != 0) A n c B xs w h hc (fun _ _ => by kernel_rfl) (fun x => barefn_any x w))
  have HK := Lib.hid (echeck_any A n c B xs w h hc)
  have hb : (xs.any fun x => x != 0) = !bare xs := by
    unfold bare; rw [← any_not]; rfl
  have HB := Lib.hid hb
  clear hb
  cases he : (entriesErr xs == 0)
  · have he' : (entriesErr xs != 0) = true := by simpa using he
    have hv : bareAns xs = false := by unfold bareAns; rw [he]; rfl
    have HV := Lib.hid hv
    clear hv
    go_enter Try.func66, Try.ntmps66
    go_wp2_with (go_at_call 68; refine HK.out.mono ?_; rintro e w' ⟨rfl, rfl⟩)
    go_ret2
    exact ⟨ret_bi HV.out rfl, rfl⟩
  · have he' : (entriesErr xs != 0) = false := by simpa using he
    have h0 : entriesErr xs = 0 := by simpa using he
    have hv : bareAns xs = bare xs := by unfold bareAns; rw [he]; rfl
    have HV := Lib.hid hv
    have H0 := Lib.hid h0
    clear hv h0
    go_enter Try.func66, Try.ntmps66
    go_wp2_with (first | (go_at_call 68; refine HK.out.mono ?_; rintro e w' ⟨rfl, rfl⟩) | (go_at_call 43; refine HC.out.mono ?_; rintro e w' ⟨rfl, rfl⟩))
    go_ret2
    exact ⟨ret_bi (by rw [HV.out, HB.out]; simp) H0.out, rfl⟩
end Go.Proofs.Ytbhhcjnjddcocaa
-- MapLit: A map literal keyed by int, whose entries are all known: its stores and its look-ups. Conditions: the block is known whole.
namespace Go.Proofs.Ytbhhcjnjddcocaa
open Go.RowKit Sl

theorem setIn_alloc (W : World) (o o' : Obj) : ({ W.alloc o with heap := (W.alloc o).heap.setIfInBounds W.heap.size o' } : World) = W.alloc o' := by
  show ({ W with heap := (W.heap.push o).setIfInBounds W.heap.size o' } : World) = { W with heap := W.heap.push o' }
  congr 1
  apply Array.ext_getElem?
  intro i
  rw [Array.getElem?_setIfInBounds, Array.getElem?_push, Array.getElem?_push]
  by_cases h : i = W.heap.size
  · subst h; simp
  · rw [if_neg (fun e => h e.symm)]
    simp [h]

theorem findNow_none (k : Int) : ∀ (es : List MapEntry) (i : Nat), (∀ e ∈ es, ∃ k', e.key = .int .i64 k' ∧ k' ≠ k) → Instr.findNow (.int .i64) (.int .i64 k) es i = some none
  | [], _, _ => rfl
  | e :: es, i, h => by
    obtain ⟨k', he, hne⟩ := h e (by simp)
    have hb : (k == k') = false := by simp; exact fun e => hne e.symm
    simp only [Instr.findNow, Instr.sameNow, he, if_true, hb]
    exact findNow_none k es (i + 1) (fun e he => h e (by simp [he]))

section
variable {P : Program} {T K E : TypeId}
theorem run_checkKey_int (hk : P.underlying K = some (.int .i64)) (b : Bool) (k : Int) (w : World) : (Instr.checkKey b 10000 K (.int .i64 k)).run P w = .ok () w := by
  have h : ∀ n : Nat, (Instr.checkKey b (n + 1) K (.int .i64 k)).run P w = .ok () w := fun n => by simp [Instr.checkKey, run_underlying hk]
  exact h 9999
theorem run_put_lit (ht : P.underlying T = some (.map K E)) (hk : P.underlying K = some (.int .i64)) (W : World) (b : Nat) (hb : W.heap.size = b) (es : Array MapEntry) (c : Nat) (k : Int) (v : Value)
    (hn : ∀ e ∈ es.toList, ∃ k', e.key = .int .i64 k' ∧ k' ≠ k) :
    (Instr.mapUpdate T (.map (some b)) (.int .i64 k) v).run P (W.alloc (.map es c)) = .ok () (W.alloc (.map (es.push ⟨.int .i64 k, v, c⟩) (c + 1))) := by
  subst hb
  have hg : (W.alloc (.map es c)).heap[W.heap.size]? = some (.map es c) := heap_alloc_new W _
  have hf : (Instr.findKey K (.int .i64 k) es.toList).run P (W.alloc (.map es c)) = .ok none (W.alloc (.map es c)) := by
    simp [Instr.findKey, run_underlying hk, findNow_none k es.toList 0 hn]
  simp [Instr.mapUpdate, run_underlying ht, MapKept.run_getObj_map hg, run_checkKey_int hk, hf, MapKept.run_setObj_map _ hg]
  exact setIn_alloc W _ _
theorem run_look_lit (ht : P.underlying T = some (.map K E)) (hk : P.underlying K = some (.int .i64)) (w : World) (b : Nat) (es : Array MapEntry) (c : Nat) (hb : w.heap[b]? = some (.map es c)) (k : Int) (i : Nat) (v : Value)
    (hf : Instr.findNow (.int .i64) (.int .i64 k) es.toList 0 = some (some (i, v))) :
    (Instr.lookup T (.map (some b)) (.int .i64 k) true).run P w = .ok (.tuple #[v, .bool true]) w := by
  have hf' : (Instr.findKey K (.int .i64 k) es.toList).run P w = .ok (some (i, v)) w := by
    simp [Instr.findKey, run_underlying hk, hf]
  simp [Instr.lookup, run_underlying ht, MapKept.run_getObj_map hb, run_checkKey_int hk, hf']
theorem run_miss_lit (ht : P.underlying T = some (.map K E)) (hk : P.underlying K = some (.int .i64)) (w : World) (b : Nat) (es : Array MapEntry) (c : Nat) (hb : w.heap[b]? = some (.map es c)) (k : Int) (z : Value)
    (hz : (zeroValue E).run P w = .ok z w) (hn : ∀ e ∈ es.toList, ∃ k', e.key = .int .i64 k' ∧ k' ≠ k) :
    (Instr.lookup T (.map (some b)) (.int .i64 k) true).run P w = .ok (.tuple #[z, .bool false]) w := by
  have hf' : (Instr.findKey K (.int .i64 k) es.toList).run P w = .ok none w := by
    simp [Instr.findKey, run_underlying hk, findNow_none k es.toList 0 hn]
  simp [Instr.lookup, run_underlying ht, MapKept.run_getObj_map hb, run_checkKey_int hk, hf', hz]
end
end Go.Proofs.Ytbhhcjnjddcocaa
-- Slots: slots.Check. Conditions: the table is read in a block below B; the sizes are those of values that are read.
namespace Go.Proofs.Ytbhhcjnjddcocaa
open Go.RowKit Sl

theorem rule0_any (b o : Nat) (d : ByteArray) (A : Option Addr) (n c : Nat) (w : World) (h1 : w.cell? ⟨b, o + 1, none⟩ = some (.string d)) (h2 : w.cell? ⟨b, o + 2, none⟩ = some (.slice A n c)) (hd : d.size ≤ 4611686018427387903) (hn : n ≤ 4611686018427387903) :
    Calls Try.prog 63 #[.pointer (some ⟨b, o, none⟩)] w fun e w' => e = .returned (.bool (d.size == 0 && n == 0)) ∧ w = w' := by
  go_enter Try.func63, Try.ntmps63
  go_wp2
  go_ret
  refine ⟨ret_bool ?_, rfl⟩
  rw [Bool.eq_iff_iff]; simp only [Bool.and_eq_true, beq_iff_eq]; omega
theorem rule1_any (b o : Nat) (d : ByteArray) (A : Option Addr) (n c : Nat) (w : World) (h1 : w.cell? ⟨b, o + 1, none⟩ = some (.string d)) (h2 : w.cell? ⟨b, o + 2, none⟩ = some (.slice A n c)) :
    Calls Try.prog 64 #[.pointer (some ⟨b, o, none⟩)] w fun e w' => e = .returned (.bool (d.size == 4 && n == 0)) ∧ w = w' := by
  cases h4 : ((d.size : Int) == 4)
  · go_enter Try.func64, Try.ntmps64
    go_wp2
    go_ret
    refine ⟨ret_bool ?_, rfl⟩
    have : (d.size == 4) = false := by rw [beq_eq_false_iff_ne] at h4 ⊢; omega
    rw [this]; rfl
  · go_enter Try.func64, Try.ntmps64
    go_wp2
    go_ret
    refine ⟨ret_bool ?_, rfl⟩
    rw [beq_iff_eq] at h4
    rw [Bool.eq_iff_iff]; simp only [Bool.and_eq_true, beq_iff_eq]; omega
theorem size_empty (d : ByteArray) : d.toList.isEmpty = (d.size == 0) := by
  rw [Bool.eq_iff_iff]
  rw [List.isEmpty_iff, beq_iff_eq, ← List.length_eq_zero_iff, ByteArray.toList_eq]
  rfl
theorem rule2_any (b o B : Nat) (d : ByteArray) (A : Option Addr) (n c : Nat) (xs : List Int) (w : World) (h : Rd w B 1 A n (ints xs)) (h1 : w.cell? ⟨b, o + 1, none⟩ = some (.string d)) (h2 : w.cell? ⟨b, o + 2, none⟩ = some (.slice A n c)) (hn : n ≤ maxLen) :
    Calls Try.prog 65 #[.pointer (some ⟨b, o, none⟩)] w fun e w' => e = .returned (.bool (d.size == 0 && entriesErr xs == 0 && !bare xs)) ∧ w = w' := by
  have HK := Lib.hid (ebare_any A n c B xs w h hn)
  clear hn h
  have HE := Lib.hid (size_empty d)
  cases hd : d.toList.isEmpty
  · go_enter Try.func65, Try.ntmps65
    go_wp2_with (go_at_call 66; refine HK.out.mono ?_; rintro e w' ⟨rfl, rfl⟩)
    go_ret
    exact ⟨ret_bool (by rw [← HE.out, hd]; rfl), rfl⟩
  · have HD : d.size == 0 := by rw [← HE.out, hd]
    clear HE
    cases he : (entriesErr xs == 0)
    · go_enter Try.func65, Try.ntmps65
      go_wp2_with (go_at_call 66; refine HK.out.mono ?_; rintro e w' ⟨rfl, rfl⟩)
      go_ret
      exact ⟨ret_bool (by rw [HD]; rfl), rfl⟩
    · have HV : bareAns xs = bare xs := by unfold bareAns; rw [he]; rfl
      cases hb : bare xs
      all_goals
        rw [hb] at HV
        go_enter Try.func65, Try.ntmps65
        go_wp2_with (go_at_call 66; refine HK.out.mono ?_; rintro e w' ⟨rfl, rfl⟩)
        go_ret
        exact ⟨ret_bool (by rw [HD]; rfl), rfl⟩

theorem zero_func (W : World) : (zeroValue 34).run Try.prog W = .ok .nilFunc W := by kernel_rfl
section
variable (W : World) (b : Nat) (hb : W.heap.size = b) (v v0 v1 v2 : Value)
include hb
theorem rules0 : (Instr.mapUpdate 93 (.map (some b)) (.int .i64 0) v).run Try.prog (W.alloc (.map #[] 0)) = .ok () (W.alloc (.map #[⟨.int .i64 0, v, 0⟩] 1)) :=
  run_put_lit (P := Try.prog) Try.underlying93 Try.underlying3 W b hb #[] 0 0 v (by simp)
theorem rules1 : (Instr.mapUpdate 93 (.map (some b)) (.int .i64 1) v).run Try.prog (W.alloc (.map #[⟨.int .i64 0, v0, 0⟩] 1)) = .ok () (W.alloc (.map #[⟨.int .i64 0, v0, 0⟩, ⟨.int .i64 1, v, 1⟩] 2)) :=
  run_put_lit (P := Try.prog) Try.underlying93 Try.underlying3 W b hb #[⟨.int .i64 0, v0, 0⟩] 1 1 v (by simp)
theorem rules2 : (Instr.mapUpdate 93 (.map (some b)) (.int .i64 2) v).run Try.prog (W.alloc (.map #[⟨.int .i64 0, v0, 0⟩, ⟨.int .i64 1, v1, 1⟩] 2)) =
    .ok () (W.alloc (.map #[⟨.int .i64 0, v0, 0⟩, ⟨.int .i64 1, v1, 1⟩, ⟨.int .i64 2, v, 2⟩] 3)) :=
  run_put_lit (P := Try.prog) Try.underlying93 Try.underlying3 W b hb #[⟨.int .i64 0, v0, 0⟩, ⟨.int .i64 1, v1, 1⟩] 2 2 v (by simp)
theorem rules_at (k : Int) (i : Nat) (hf : Instr.findNow (.int .i64) (.int .i64 k) [⟨.int .i64 0, v0, 0⟩, ⟨.int .i64 1, v1, 1⟩, ⟨.int .i64 2, v2, 2⟩] 0 = some (some (i, v))) :
    (Instr.lookup 93 (.map (some b)) (.int .i64 k) true).run Try.prog (W.alloc (.map #[⟨.int .i64 0, v0, 0⟩, ⟨.int .i64 1, v1, 1⟩, ⟨.int .i64 2, v2, 2⟩] 3)) =
    .ok (.tuple #[v, .bool true]) (W.alloc (.map #[⟨.int .i64 0, v0, 0⟩, ⟨.int .i64 1, v1, 1⟩, ⟨.int .i64 2, v2, 2⟩] 3)) :=
  run_look_lit (P := Try.prog) Try.underlying93 Try.underlying3 _ b _ _ (by rw [← hb]; exact heap_alloc_new W _) k i v hf
theorem rules_no (k : Int) (h0 : k ≠ 0) (h1 : k ≠ 1) (h2 : k ≠ 2) :
    (Instr.lookup 93 (.map (some b)) (.int .i64 k) true).run Try.prog (W.alloc (.map #[⟨.int .i64 0, v0, 0⟩, ⟨.int .i64 1, v1, 1⟩, ⟨.int .i64 2, v2, 2⟩] 3)) =
    .ok (.tuple #[.nilFunc, .bool false]) (W.alloc (.map #[⟨.int .i64 0, v0, 0⟩, ⟨.int .i64 1, v1, 1⟩, ⟨.int .i64 2, v2, 2⟩] 3)) :=
  run_miss_lit (P := Try.prog) Try.underlying93 Try.underlying3 _ b _ _ (by rw [← hb]; exact heap_alloc_new W _) k .nilFunc (zero_func _) (by simp; omega)
end

set_option maxRecDepth 100000 in
set_option maxHeartbeats 400000 in
theorem scheck_no (kind : Int) (data : ByteArray) (A : Option Addr) (n c : Nat) (w : World) (h0 : kind ≠ 0) (h1 : kind ≠ 1) (h2 : kind ≠ 2) :
    Calls Try.prog 59 #[.agg #[.int .i64 kind, .string data, .slice A n c]] w
    fun e w' => e = .returned (.int .i64 1) ∧ Below w.heap.size w w' := by
  have hmm := fun W => run_makeMap (P := Try.prog) 93 W
  have u1 := rules0; have u2 := rules1; have u3 := rules2
  have u4 := fun W b hb v0 v1 v2 => rules_no W b hb v0 v1 v2 kind h0 h1 h2
  clear h0 h1 h2
  go_enter Try.func59, Try.ntmps59
  go_wp2_with fail
  go_ret
  exact ⟨rfl, ((Below.refl _ _).alloc (Nat.le_refl _) _).alloc (by simp) _⟩

theorem find0 (v0 v1 v2 : Value) : Instr.findNow (.int .i64) (.int .i64 0) [⟨.int .i64 0, v0, 0⟩, ⟨.int .i64 1, v1, 1⟩, ⟨.int .i64 2, v2, 2⟩] 0 = some (some (0, v0)) := rfl
theorem find1 (v0 v1 v2 : Value) : Instr.findNow (.int .i64) (.int .i64 1) [⟨.int .i64 0, v0, 0⟩, ⟨.int .i64 1, v1, 1⟩, ⟨.int .i64 2, v2, 2⟩] 0 = some (some (1, v1)) := rfl
theorem find2 (v0 v1 v2 : Value) : Instr.findNow (.int .i64) (.int .i64 2) [⟨.int .i64 0, v0, 0⟩, ⟨.int .i64 1, v1, 1⟩, ⟨.int .i64 2, v2, 2⟩] 0 = some (some (2, v2)) := rfl
/-- The error of a check. -/
def errOf (b : Bool) : Int := if b then 0 else 1

theorem cell_box2 (w : World) (cs : Array Value) (T : TypeId) (o : Obj) (j : Nat) : ((w.alloc (.cells cs T)).alloc o).cell? ⟨w.heap.size, j, none⟩ = cs[j]? := by
  rw [World.cell?_alloc_lt _ _ _ (by simp)]
  exact cell_of_row _ _ j cs T (0, 0) (heap_alloc_new w _)
theorem below2 (w : World) (o o' : Obj) : Below w.heap.size w ((w.alloc o).alloc o') := ((Below.refl _ _).alloc (Nat.le_refl _) _).alloc (by simp) _

set_option maxRecDepth 100000 in
set_option maxHeartbeats 400000 in
theorem scheck_0 (data : ByteArray) (A : Option Addr) (n c : Nat) (w : World) (hc : n ≤ 4611686018427387903) (hd : data.size ≤ 4611686018427387903) :
    Calls Try.prog 59 #[.agg #[.int .i64 0, .string data, .slice A n c]] w
    fun e w' => e = .returned (.int .i64 (errOf (data.size == 0 && n == 0))) ∧ Below w.heap.size w w' := by
  have hmm := fun W => run_makeMap (P := Try.prog) 93 W
  have u1 := rules0; have u2 := rules1; have u3 := rules2
  have u4 := fun W b hb v0 v1 v2 => rules_at W b hb v0 v0 v1 v2 0 0 (find0 v0 v1 v2)
  cases hv : (data.size == 0 && n == 0)
  all_goals
    have HC := fun cs T o (h1 : cs[0 + 1]? = some (.string data)) (h2 : cs[0 + 2]? = some (.slice A n c)) => Lib.hid (rule0_any w.heap.size 0 data A n c ((w.alloc (.cells cs T)).alloc o) (by rw [cell_box2]; exact h1) (by rw [cell_box2]; exact h2) hd hc)
    rw [hv] at HC
    clear hv
    go_enter Try.func59, Try.ntmps59
    go_wp2_with (go_at_call 63; refine (HC _ _ _ rfl rfl).out.mono ?_; rintro e w' ⟨rfl, rfl⟩)
    go_ret
    exact ⟨rfl, below2 _ _ _⟩

set_option maxRecDepth 100000 in
set_option maxHeartbeats 400000 in
theorem scheck_1 (data : ByteArray) (A : Option Addr) (n c : Nat) (w : World) :
    Calls Try.prog 59 #[.agg #[.int .i64 1, .string data, .slice A n c]] w
    fun e w' => e = .returned (.int .i64 (errOf (data.size == 4 && n == 0))) ∧ Below w.heap.size w w' := by
  have hmm := fun W => run_makeMap (P := Try.prog) 93 W
  have u1 := rules0; have u2 := rules1; have u3 := rules2
  have u4 := fun W b hb v0 v1 v2 => rules_at W b hb v1 v0 v1 v2 1 1 (find1 v0 v1 v2)
  cases hv : (data.size == 4 && n == 0)
  all_goals
    have HC := fun cs T o (h1 : cs[0 + 1]? = some (.string data)) (h2 : cs[0 + 2]? = some (.slice A n c)) => Lib.hid (rule1_any w.heap.size 0 data A n c ((w.alloc (.cells cs T)).alloc o) (by rw [cell_box2]; exact h1) (by rw [cell_box2]; exact h2))
    rw [hv] at HC
    clear hv
    go_enter Try.func59, Try.ntmps59
    go_wp2_with (go_at_call 64; refine (HC _ _ _ rfl rfl).out.mono ?_; rintro e w' ⟨rfl, rfl⟩)
    go_ret
    exact ⟨rfl, below2 _ _ _⟩

set_option maxRecDepth 100000 in
set_option maxHeartbeats 400000 in
theorem scheck_2 (data : ByteArray) (A : Option Addr) (n c : Nat) (xs : List Int) (w : World) (h : Rd w w.heap.size 1 A n (ints xs)) (hn : n ≤ maxLen) :
    Calls Try.prog 59 #[.agg #[.int .i64 2, .string data, .slice A n c]] w
    fun e w' => e = .returned (.int .i64 (errOf (data.size == 0 && entriesErr xs == 0 && !bare xs))) ∧ Below w.heap.size w w' := by
  have hmm := fun W => run_makeMap (P := Try.prog) 93 W
  have u1 := rules0; have u2 := rules1; have u3 := rules2
  have u4 := fun W b hb v0 v1 v2 => rules_at W b hb v2 v0 v1 v2 2 2 (find2 v0 v1 v2)
  cases hv : (data.size == 0 && entriesErr xs == 0 && !bare xs)
  all_goals
    have HC := fun cs T o (h1 : cs[0 + 1]? = some (.string data)) (h2 : cs[0 + 2]? = some (.slice A n c)) => Lib.hid (rule2_any w.heap.size 0 _ data A n c xs ((w.alloc (.cells cs T)).alloc o) (h.below (below2 _ _ _) (Nat.le_refl _)) (by rw [cell_box2]; exact h1) (by rw [cell_box2]; exact h2) hn)
    rw [hv] at HC
    clear hv h hn
    go_enter Try.func59, Try.ntmps59
    go_wp2_with (go_at_call 65; refine (HC _ _ _ rfl rfl).out.mono ?_; rintro e w' ⟨rfl, rfl⟩)
    go_ret
    exact ⟨rfl, below2 _ _ _⟩

/-- slots.Check: whatever slot it is handed. -/
theorem scheck_any (s : Slot) (A : Option Addr) (n c : Nat) (w : World) (h : Rd w w.heap.size 1 A n (ints s.table)) (hn : n ≤ 4611686018427387903) (hd : s.data.size ≤ 4611686018427387903) :
    Calls Try.prog 59 #[.agg #[.int .i64 s.kind, .string s.data, .slice A n c]] w
    fun e w' => e = .returned (.int .i64 (errOf (slotFine s))) ∧ Below w.heap.size w w' := by
  obtain ⟨k, d, t⟩ := s
  have hl : t.length = n := h.len
  unfold slotFine
  dsimp only at *
  by_cases h0 : k = 0
  · subst h0
    rw [if_pos rfl, hl]
    exact scheck_0 d A n c w hn hd
  · rw [if_neg h0]
    by_cases h1 : k = 1
    · subst h1
      rw [if_pos rfl, hl]
      exact scheck_1 d A n c w
    · rw [if_neg h1]
      by_cases h2 : k = 2
      · subst h2
        rw [if_pos rfl]
        exact scheck_2 d A n c t w h (by unfold maxLen; omega)
      · rw [if_neg h2]
        exact scheck_no k d A n c w h0 h1 h2
end Go.Proofs.Ytbhhcjnjddcocaa
-- Slots2: slots.check, Grab, Used, and the reference's SlotFine, SlotsError, GrabOf, UsedOf. Conditions: the slots are read in blocks below B.
namespace Go.Proofs.Ytbhhcjnjddcocaa
open Go.RowKit Sl

theorem sfree_any (k : Int) (d t : Value) (w : World) : Calls Try.prog 49 #[.agg #[.int .i64 k, d, t]] w fun e w' => e = .returned (.bool (k == 0)) ∧ Below w.heap.size w w' := by
  go_enter Try.func49, Try.ntmps49
  go_wp2
  go_ret
  exact ⟨rfl, (Below.refl _ _).alloc (Nat.le_refl _) _⟩
theorem scheckfn_any (B : Nat) (s : Slot) (A : Option Addr) (n c : Nat) (w : World) (hB : B ≤ w.heap.size) (h : SlotV w B s A n c) :
    Calls Try.prog 58 #[.agg #[.int .i64 s.kind, .string s.data, .slice A n c]] w fun e w' => e = .returned (.bool (!slotFine s)) ∧ Below w.heap.size w w' := by
  have h' : SlotV (w.alloc (.cells #[.int .i64 s.kind, .string s.data, .slice A n c] 45)) (w.heap.size + 1) s A n c := (h.below ((Below.refl _ _).alloc (Nat.le_refl _) _) hB).more (by omega)
  have HC := Lib.hid (scheck_any s A n c (w.alloc (.cells #[.int .i64 s.kind, .string s.data, .slice A n c] 45)) (h'.table.more (by simp)) (h.cap.1) h.data)
  cases hp : slotFine s
  all_goals
    rw [hp] at HC
    unfold errOf at HC
    clear h h'
    go_enter Try.func58, Try.ntmps58
    go_wp2_with (go_at_call 59; refine HC.out.mono ?_; rintro e w' ⟨rfl, hb'⟩)
    go_ret
    exact ⟨rfl, ((Below.refl _ _).alloc (Nat.le_refl _) _).trans (hb'.mono (by simp))⟩

set_option maxRecDepth 100000 in
theorem containsSlots (K : Nat) (p : Slot → Bool) (A : Option Addr) (n c B : Nat) (l : List Slot) (w : World) (h : SlotsR w B A n l) (hB : B ≤ w.heap.size) (hc : n ≤ 4611686018427387903)
    (hk : ∀ (vs : Array Value) (W : World), (callFunc K vs).run Try.prog W = .ok (.enter K vs) W)
    (hf : ∀ (s : Slot) (tA : Option Addr) (tn tc : Nat) (W : World), B ≤ W.heap.size → SlotV W B s tA tn tc → Calls Try.prog K #[.agg #[.int .i64 s.kind, .string s.data, .slice tA tn tc]] W fun e w' => e = .returned (.bool (p s)) ∧ Below W.heap.size W w') :
    Calls Try.prog 57 #[.slice A n c, .func (.func K) #[] #[]] w
    fun e w' => e = .returned (.bool (l.any p)) ∧ Below w.heap.size w w' := by
  have HI := Lib.hid (indexSlots K p A n c B l w h hB hc hk hf)
  clear hf hk h hB
  go_enter Try.func57, Try.ntmps57
  go_wp2_with (go_at_call 62; refine HI.out.mono ?_; rintro e w' ⟨rfl, hb'⟩)
  go_ret
  exact ⟨ret_bool (indexOf_any p l).symm, hb'⟩

theorem slotsErr_many {l : List Slot} (h : l.length < 1 ∨ 40 < l.length) : slotsErr l = 2 := by unfold slotsErr; rw [if_pos h]
theorem slotsErr_bad {l : List Slot} (h : 1 ≤ l.length) (h' : l.length ≤ 40) (hp : l.all slotFine = false) : slotsErr l = 1 := by
  unfold slotsErr; rw [if_neg (by omega), hp]; rfl
theorem slotsErr_first {l : List Slot} (h : 1 ≤ l.length) (h' : l.length ≤ 40) (hp : kind0 l ≠ 0) : slotsErr l = 1 := by
  unfold slotsErr; rw [if_neg (by omega), if_neg hp]; split <;> rfl
theorem slotsErr_ok {l : List Slot} (h : 1 ≤ l.length) (h' : l.length ≤ 40) (hp : l.all slotFine = true) (h0 : kind0 l = 0) : slotsErr l = 0 := by
  unfold slotsErr; rw [if_neg (by omega), hp, h0]; rfl
theorem kind0_at {l : List Slot} {s : Slot} (h : l[0]? = some s) : kind0 l = s.kind := by
  cases l with
  | nil => simp at h
  | cons a l => simp at h; subst h; rfl

set_option maxRecDepth 100000 in
set_option maxHeartbeats 400000 in
theorem scheckall_any (A : Option Addr) (n c : Nat) (l : List Slot) (w : World) (h : SlotsR w w.heap.size A n l) (hc : n ≤ 4611686018427387903) :
    Calls Try.prog 48 #[.slice A n c] w fun e w' => e = .returned (.int .i64 (slotsErr l)) ∧ Below w.heap.size w w' := by
  by_cases h1 : n < 1
  · have HV := Lib.hid (slotsErr_many (l := l) (by rw [h.1]; exact .inl h1))
    have g1 : decide ((n : Int) < 1) = true := by simp; omega
    go_enter Try.func48, Try.ntmps48
    go_wp2_with fail
    go_ret
    exact ⟨ret_int HV.out, Below.refl _ _⟩
  · by_cases h2 : 40 < n
    · have HV := Lib.hid (slotsErr_many (l := l) (by rw [h.1]; exact .inr h2))
      go_enter Try.func48, Try.ntmps48
      go_wp2_with fail
      go_ret
      exact ⟨ret_int HV.out, Below.refl _ _⟩
    · have h1' : 1 ≤ n := by omega
      have h2' : n ≤ 40 := by omega
      have hl := h.1
      have hcon := containsSlots 58 (fun s => !slotFine s) A n c w.heap.size l w h (Nat.le_refl _) hc (fun _ _ => by kernel_rfl) (fun s tA tn tc W hW hs => scheckfn_any _ s tA tn tc W hW hs)
      rw [any_not] at hcon
      have HC := Lib.hid hcon
      obtain ⟨b, o, s, tA, tn, tc, rfl, hb, hx, c0, c1, c2, hs⟩ := h.at_ (k := 0) (by omega)
      have hk0 := kind0_at hx
      rw [Nat.zero_mul, Nat.add_zero] at c0
      cases hz : (s.kind != 0)
      · cases hp : l.all slotFine
        · have HV := Lib.hid (slotsErr_bad (by omega) (by omega) hp)
          rw [hp] at HC
          clear hk0 hp hx hs c1 c2 hcon hl h
          go_enter Try.func48, Try.ntmps48
          go_wp2_with (go_at_call 57; refine HC.out.mono ?_; rintro e w' ⟨rfl, hb'⟩)
          go_ret
          exact ⟨ret_int HV.out, hb'⟩
        · have HV := Lib.hid (slotsErr_ok (by omega) (by omega) hp (by rw [hk0]; simpa using hz))
          rw [hp] at HC
          clear hk0 hp hx hs c1 c2 hcon hl h
          go_enter Try.func48, Try.ntmps48
          go_wp2_with (go_at_call 57; refine HC.out.mono ?_; rintro e w' ⟨rfl, hb'⟩)
          go_ret
          exact ⟨ret_int HV.out, hb'⟩
      · have HV := Lib.hid (slotsErr_first (l := l) (by omega) (by omega) (by rw [hk0]; simpa using hz))
        clear hk0 hx hs c1 c2 hcon hl h
        go_enter Try.func48, Try.ntmps48
        go_wp2_with fail
        go_ret
        exact ⟨ret_int HV.out, Below.refl _ _⟩
end Go.Proofs.Ytbhhcjnjddcocaa
-- Slots3: slots.Grab, slots.Used. Conditions: the slots are read in blocks below the heap's size.
namespace Go.Proofs.Ytbhhcjnjddcocaa
open Go.RowKit Sl

theorem freefn_any (B : Nat) (s : Slot) (A : Option Addr) (n c : Nat) (w : World) (_ : B ≤ w.heap.size) (_ : SlotV w B s A n c) :
    Calls Try.prog 49 #[.agg #[.int .i64 s.kind, .string s.data, .slice A n c]] w fun e w' => e = .returned (.bool (s.kind == 0)) ∧ Below w.heap.size w w' := sfree_any _ _ _ w

theorem grab_bad {l : List Slot} (h : slotsErr l ≠ 0) : grabN l = 0 ∧ grabE l = slotsErr l := by unfold grabN grabE; rw [if_neg h, if_neg h]; exact ⟨rfl, rfl⟩
theorem grab_hit {l : List Slot} (h : slotsErr l = 0) (i : Int) (hi : indexOf (fun s => s.kind == 0) (l.drop 1) = i) (h0 : 0 ≤ i) : grabN l = i + 1 ∧ grabE l = 0 := by
  unfold indexOf at hi
  have hg : freeAt (l.drop 1) < (l.drop 1).length := by
    unfold freeAt
    rcases Nat.lt_or_ge (firstAt (fun s : Slot => s.kind == 0) (l.drop 1)) (l.drop 1).length with h | h
    · exact h
    · rw [if_neg (by omega)] at hi; omega
  have hi' : (freeAt (l.drop 1) : Int) = i := by unfold freeAt at *; rw [if_pos hg] at hi; exact hi
  unfold grabN grabE grab
  rw [if_pos h, if_pos h, if_pos hg, if_neg (by omega)]
  exact ⟨by omega, rfl⟩
theorem grab_miss {l : List Slot} (h : slotsErr l = 0) (hi : indexOf (fun s => s.kind == 0) (l.drop 1) < 0) : (l.length = 40 → grabN l = 0 ∧ grabE l = 7) ∧ (l.length ≠ 40 → grabN l = l.length ∧ grabE l = 0) := by
  unfold indexOf at hi
  have hg : ¬ freeAt (l.drop 1) < (l.drop 1).length := by
    intro hg
    unfold freeAt at hg
    rw [if_pos hg] at hi; omega
  have hl : 1 ≤ l.length ∧ l.length ≤ 40 := by
    unfold slotsErr at h
    split at h
    · omega
    · omega
  unfold grabN grabE grab
  rw [if_pos h, if_pos h, if_neg hg]
  refine ⟨fun e => ?_, fun e => ?_⟩
  · rw [if_neg (by omega)]; exact ⟨rfl, rfl⟩
  · rw [if_pos (by omega), if_neg (by omega)]; exact ⟨rfl, rfl⟩
theorem indexOf_cases {α : Type} (p : α → Bool) (l : List α) : indexOf p l = -1 ∨ (0 ≤ indexOf p l ∧ indexOf p l < l.length) := by
  unfold indexOf; split
  · right; omega
  · left; rfl
theorem slotsErr_len {l : List Slot} (h : slotsErr l = 0) : 1 ≤ l.length ∧ l.length ≤ 40 := by
  unfold slotsErr at h
  split at h
  · omega
  · omega

end Go.Proofs.Ytbhhcjnjddcocaa
-- Slots4: slots.Used and the reference's SlotFine, SlotsError, GrabOf, UsedOf. Conditions: the slots are read in blocks below the heap's size.
namespace Go.Proofs.Ytbhhcjnjddcocaa
open Go.RowKit Sl

theorem used_bad {l : List Slot} (h : slotsErr l ≠ 0) : usedN l = 0 := by unfold usedN; rw [if_neg h]
theorem used_ok {l : List Slot} (h : slotsErr l = 0) : usedN l = used l := by unfold usedN; rw [if_pos h]
theorem used_all {l : List Slot} {k : Nat} (h : l.length ≤ k) : used (l.take k) = used l := by rw [List.take_of_length_le h]

set_option maxRecDepth 100000 in
set_option maxHeartbeats 400000 in
theorem used_any (A : Option Addr) (n c : Nat) (l : List Slot) (w : World) (h : SlotsR w w.heap.size A n l) (hc : n ≤ 4611686018427387903) :
    Calls Try.prog 40 #[.slice A n c] w fun e w' => e = .returned (.tuple #[.int .i64 (usedN l), .int .i64 (slotsErr l)]) ∧ Below w.heap.size w w' := by
  have HK := Lib.hid (scheckall_any A n c l w h (by omega))
  by_cases he : slotsErr l = 0
  · obtain ⟨l1, l2⟩ := slotsErr_len he
    have hln := h.1
    have R := Lib.hid (used_ok he)
    rw [he] at HK ⊢
    have n40 : n ≤ 40 := by omega
    clear he hln
    go_enter Try.func40, Try.ntmps40
    go_wp2_with (go_at_call 48; refine HK.out.mono ?_; rintro e w1 ⟨rfl, hb1⟩)
    go_loopw [15, 5, 7] (fun i u _ wr => ∃ k : Nat, k ≤ n ∧ i = .int .i64 k ∧ u = .int .i64 (used (l.take k) : Nat) ∧ Below w.heap.size w wr) (fun i _ _ _ => n - (intOf i).toNat)
    case atStart => exact ⟨0, Nat.zero_le _, rfl, rfl, hb1⟩
    case round =>
      obtain ⟨k, hkn, rfl, rfl, hbw⟩ := hrel
      have hu := used_le (l.take k)
      rw [List.length_take] at hu
      have hu' : used (l.take k) ≤ 40 := by omega
      clear hu
      by_cases hlt : k < n
      · obtain ⟨b, o, s, tA, tn, tc, rfl, hb, hx, h0, h1, h2, hs⟩ := (h.below hbw (Nat.le_refl _)).at_ hlt
        have HU := Lib.hid (used_take_succ l k s hx)
        have hz := hbw.size
        clear hx hs
        cases hp : (s.kind == 0)
        · go_wp2_with (go_at_call 49; refine (sfree_any _ _ _ _).mono ?_; rintro e w2 ⟨rfl, hb2⟩)
          go_roundw
          case rel => exact ⟨k + 1, by omega, by go_num, by rw [HU.out, if_neg (by simpa using hp)]; go_num, (hbw.alloc (by omega) _).trans (hb2.mono (by simp; omega))⟩
          case measure => simp [intOf]; omega
        · go_wp2_with (go_at_call 49; refine (sfree_any _ _ _ _).mono ?_; rintro e w2 ⟨rfl, hb2⟩)
          go_roundw
          case rel => exact ⟨k + 1, by omega, by go_num, by rw [HU.out, if_pos (by simpa using hp)]; rfl, (hbw.alloc (by omega) _).trans (hb2.mono (by simp; omega))⟩
          case measure => simp [intOf]; omega
      · go_wp2_with fail
        go_ret2
        exact ⟨ret_ii (by rw [R.out, used_all (by rw [h.1]; omega)]) rfl, hbw⟩
  · have R := Lib.hid (used_bad he)
    have he' : (slotsErr l != 0) = true := by simpa using he
    clear h he
    go_enter Try.func40, Try.ntmps40
    go_wp2_with (go_at_call 48; refine HK.out.mono ?_; rintro e w' ⟨rfl, hb'⟩)
    go_ret2
    exact ⟨ret_ii R.out rfl, hb'⟩

theorem rfine_0 (data : ByteArray) (A : Option Addr) (n c : Nat) (w : World) :
    Calls Try.prog 47 #[.agg #[.int .i64 0, .string data, .slice A n c]] w fun e w' => e = .returned (.bool (data.size == 0 && n == 0)) ∧ Below w.heap.size w w' := by
  have HE := Lib.hid (size_empty data)
  cases hd : data.toList.isEmpty
  · go_enter Try.func47, Try.ntmps47
    go_wp2_with fail
    go_ret
    exact ⟨ret_bool (by rw [← HE.out, hd]; rfl), (Below.refl _ _).alloc (Nat.le_refl _) _⟩
  · go_enter Try.func47, Try.ntmps47
    go_wp2_with fail
    go_ret
    refine ⟨ret_bool ?_, (Below.refl _ _).alloc (Nat.le_refl _) _⟩
    rw [← HE.out, hd, Bool.true_and, Bool.eq_iff_iff]; simp only [beq_iff_eq]; omega
theorem rfine_1 (data : ByteArray) (A : Option Addr) (n c : Nat) (w : World) :
    Calls Try.prog 47 #[.agg #[.int .i64 1, .string data, .slice A n c]] w fun e w' => e = .returned (.bool (data.size == 4 && n == 0)) ∧ Below w.heap.size w w' := by
  cases h4 : ((data.size : Int) == 4)
  · go_enter Try.func47, Try.ntmps47
    go_wp2_with fail
    go_ret
    refine ⟨ret_bool ?_, (Below.refl _ _).alloc (Nat.le_refl _) _⟩
    have : (data.size == 4) = false := by rw [beq_eq_false_iff_ne] at h4 ⊢; omega
    rw [this]; rfl
  · go_enter Try.func47, Try.ntmps47
    go_wp2_with fail
    go_ret
    refine ⟨ret_bool ?_, (Below.refl _ _).alloc (Nat.le_refl _) _⟩
    rw [beq_iff_eq] at h4
    rw [Bool.eq_iff_iff]; simp only [Bool.and_eq_true, beq_iff_eq]; omega
set_option maxHeartbeats 400000 in
theorem rfine_2 (data : ByteArray) (A : Option Addr) (n c : Nat) (xs : List Int) (w : World) (h : Rd w w.heap.size 1 A n (ints xs)) (hn : n ≤ maxLen) :
    Calls Try.prog 47 #[.agg #[.int .i64 2, .string data, .slice A n c]] w fun e w' => e = .returned (.bool (data.size == 0 && entriesErr xs == 0 && !bare xs)) ∧ Below w.heap.size w w' := by
  have HE := Lib.hid (size_empty data)
  have HK := fun o => Lib.hid (rcheck_any A n c w.heap.size xs (w.alloc o) (h.below ((Below.refl _ _).alloc (Nat.le_refl _) _) (Nat.le_refl _)) hn)
  have HB := fun o => Lib.hid (rbare_any A n c w.heap.size xs (w.alloc o) (h.below ((Below.refl _ _).alloc (Nat.le_refl _) _) (Nat.le_refl _)) hn)
  clear h hn
  cases hd : data.toList.isEmpty
  · go_enter Try.func47, Try.ntmps47
    go_wp2_with fail
    go_ret
    exact ⟨ret_bool (by rw [← HE.out, hd]; rfl), (Below.refl _ _).alloc (Nat.le_refl _) _⟩
  · have HD : data.size == 0 := by rw [← HE.out, hd]
    clear HE
    cases he : (entriesErr xs == 0)
    · go_enter Try.func47, Try.ntmps47
      go_wp2_with (go_at_call 55; refine (HK _).out.mono ?_; rintro e w' ⟨rfl, rfl⟩)
      go_ret
      exact ⟨ret_bool (by rw [HD]; rfl), (Below.refl _ _).alloc (Nat.le_refl _) _⟩
    · go_enter Try.func47, Try.ntmps47
      go_wp2_with (first | (go_at_call 55; refine (HK _).out.mono ?_; rintro e w' ⟨rfl, rfl⟩) | (go_at_call 56; refine (HB _).out.mono ?_; rintro e w' ⟨rfl, rfl⟩))
      go_ret
      exact ⟨ret_bool (by rw [HD]; rfl), (Below.refl _ _).alloc (Nat.le_refl _) _⟩
theorem rfine_no (kind : Int) (data : ByteArray) (A : Option Addr) (n c : Nat) (w : World) (h0 : kind ≠ 0) (h1 : kind ≠ 1) (h2 : kind ≠ 2) :
    Calls Try.prog 47 #[.agg #[.int .i64 kind, .string data, .slice A n c]] w fun e w' => e = .returned (.bool false) ∧ Below w.heap.size w w' := by
  go_enter Try.func47, Try.ntmps47
  go_wp2_with fail
  go_ret
  exact ⟨rfl, (Below.refl _ _).alloc (Nat.le_refl _) _⟩
/-- slipsheetref.SlotFine: whatever slot it is handed. -/
theorem rfine_any (s : Slot) (A : Option Addr) (n c : Nat) (w : World) (h : Rd w w.heap.size 1 A n (ints s.table)) (hn : n ≤ 4611686018427387903) :
    Calls Try.prog 47 #[.agg #[.int .i64 s.kind, .string s.data, .slice A n c]] w
    fun e w' => e = .returned (.bool (slotFine s)) ∧ Below w.heap.size w w' := by
  obtain ⟨k, d, t⟩ := s
  have hl : t.length = n := h.len
  unfold slotFine
  dsimp only at *
  by_cases h0 : k = 0
  · subst h0
    rw [if_pos rfl, hl]
    exact rfine_0 d A n c w
  · rw [if_neg h0]
    by_cases h1 : k = 1
    · subst h1
      rw [if_pos rfl, hl]
      exact rfine_1 d A n c w
    · rw [if_neg h1]
      by_cases h2 : k = 2
      · subst h2
        rw [if_pos rfl]
        exact rfine_2 d A n c t w h (by unfold maxLen; omega)
      · rw [if_neg h2]
        exact rfine_no k d A n c w h0 h1 h2

set_option maxRecDepth 100000 in
set_option maxHeartbeats 400000 in
theorem rslots_any (A : Option Addr) (n c : Nat) (l : List Slot) (w : World) (h : SlotsR w w.heap.size A n l) (hc : n ≤ 4611686018427387903) :
    Calls Try.prog 33 #[.slice A n c] w fun e w' => e = .returned (.int .i64 (slotsErr l)) ∧ Below w.heap.size w w' := by
  have hln := h.1
  by_cases h1 : 1 ≤ n ∧ n ≤ 40
  · have g1 : (decide (1 ≤ (n : Int)) && decide ((n : Int) ≤ 40)) = true := by simp; omega
    obtain ⟨h1, h2⟩ := h1
    obtain ⟨b0, o0, s0, tA0, tn0, tc0, rfl, hb0, hx0, c00, c01, c02, hs0⟩ := h.at_ (k := 0) (by omega)
    have hk0 := kind0_at hx0
    rw [Nat.zero_mul, Nat.add_zero] at c00
    clear c01 c02 hs0 hx0
    have HK0 := Lib.hid hk0
    have HC := Lib.hid c00
    clear hk0 c00 hln
    go_enter Try.func33, Try.ntmps33
    go_wp2_with (go_at_call 32; refine (within_any _ _ _ _).mono ?_; rintro e w1 ⟨rfl, rfl⟩)
    go_loopw [3] (fun i wr => ∃ k : Nat, k ≤ n ∧ i = .int .i64 k ∧ (l.take k).all slotFine = true ∧ Below w.heap.size w wr) (fun i _ => n - (intOf i).toNat)
    case atStart => exact ⟨0, Nat.zero_le _, rfl, by simp, Below.refl _ _⟩
    case round =>
      obtain ⟨k, hkn, rfl, ha, hbw⟩ := hrel
      have HA := Lib.hid ha
      clear ha
      by_cases hlt : k < n
      · obtain ⟨b, o, s, tA, tn, tc, ho, hb, hx, c0, c1, c2, hs⟩ := (h.below hbw (Nat.le_refl _)).at_ hlt
        simp only [Option.some.injEq, Addr.mk.injEq, and_true] at ho
        obtain ⟨rfl, rfl⟩ := ho
        have HX := Lib.hid hx
        clear hx
        have hz := hbw.size
        have HF := Lib.hid (rfine_any s tA tn tc _ (hs.table.more hz) (hs.cap.1))
        cases hp : slotFine s
        · rw [hp] at HF
          go_wp2_with (go_at_call 47; refine HF.out.mono ?_; rintro e w2 ⟨rfl, hb2⟩)
          go_ret
          exact ⟨ret_int (slotsErr_bad (by rw [h.1]; omega) (by rw [h.1]; omega) (all_false _ l k s HX.out hp)), hbw.trans (hb2.mono hz)⟩
        · rw [hp] at HF
          go_wp2_with (go_at_call 47; refine HF.out.mono ?_; rintro e w2 ⟨rfl, hb2⟩)
          go_roundw
          case rel => exact ⟨k + 1, by omega, by go_num, by rw [all_take_succ _ l k s HX.out, HA.out, hp]; rfl, hbw.trans (hb2.mono hz)⟩
          case measure => simp [intOf]; omega
      · have c0 := (hbw.cell (p := ⟨b0, o0, none⟩) hb0).trans HC.out
        cases hz : (s0.kind != 0)
        · go_wp2_with fail
          go_ret
          exact ⟨ret_int (slotsErr_ok (by rw [h.1]; omega) (by rw [h.1]; omega) (all_done _ l k (by rw [h.1]; omega) HA.out) (by rw [HK0.out]; simpa using hz)), hbw⟩
        · go_wp2_with fail
          go_ret
          exact ⟨ret_int (slotsErr_first (by rw [h.1]; omega) (by rw [h.1]; omega) (by rw [HK0.out]; simpa using hz)), hbw⟩
  · have g1 : (decide (1 ≤ (n : Int)) && decide ((n : Int) ≤ 40)) = false := by
      rw [Bool.eq_false_iff]; simp; omega
    have HV := Lib.hid (slotsErr_many (l := l) (by omega))
    clear h hln
    go_enter Try.func33, Try.ntmps33
    go_wp2_with (go_at_call 32; refine (within_any _ _ _ _).mono ?_; rintro e w1 ⟨rfl, rfl⟩)
    go_ret
    exact ⟨ret_int HV.out, Below.refl _ _⟩
end Go.Proofs.Ytbhhcjnjddcocaa
