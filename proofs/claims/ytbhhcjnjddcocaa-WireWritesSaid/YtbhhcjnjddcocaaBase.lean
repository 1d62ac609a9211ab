/- Words for memory and small lemmas that all walks of this seat share. No conditions. -/
import Derived.Test.YtbhhcjnjddcocaaRows
import Derived.Test.YtbhhcjnjddcocaaPureA
import Derived.WalkKit
import Derived.WalkSpells
import Derived.WalkLawsBesides
import Derived.Lib.Hide
import Derived.BigQuiet
import Derived.Deep.QuietTactic
import Derived.Deep.RegionWith
import Derived.Deep.RegionHeld3
namespace Go.Proofs.Ytbhhcjnjddcocaa
open Go.RowKit Sl

theorem block_add (a : Addr) (n : Nat) : (a.add n).block = a.block := by unfold Addr.add; split <;> rfl
theorem add_add (a : Addr) (i j : Nat) : (a.add i).add j = a.add (i + j) := by
  unfold Addr.add
  by_cases hi : i = 0 <;> by_cases hj : j = 0 <;> simp [hi, hj, Nat.add_assoc]

theorem below_next {w W W' : World} (h : Below w.heap.size w W) (h' : Below W.heap.size W W') : Below w.heap.size w W' := h.trans (h'.mono h.size)

/-- The slice value '.slice A n c' holds the cells cs (size cells an element), in a block below B. -/
def Rd (w : World) (B size : Nat) (A : Option Addr) (n : Nat) (cs : List Value) : Prop :=
  cs.length = n * size ∧ (0 < n → ∃ b o, A = some ⟨b, o, none⟩ ∧ b < B ∧ ∀ j u, cs[j]? = some u → w.cell? ⟨b, o + j, none⟩ = some u)

def ints (xs : List Int) : List Value := xs.map (Value.int .i64)
theorem ints_length (xs : List Int) : (ints xs).length = xs.length := by simp [ints]

section
variable {w w' : World} {B B' size n c k : Nat} {A : Option Addr} {cs : List Value} {xs : List Int}
theorem Rd.keep (h : Rd w B size A n cs) (hk : ∀ p : Addr, p.block < B → w'.cell? p = w.cell? p) : Rd w' B size A n cs :=
  ⟨h.1, fun hn => by
    obtain ⟨b, o, e, hb, hc⟩ := h.2 hn
    exact ⟨b, o, e, hb, fun j u hu => (hk _ hb).trans (hc j u hu)⟩⟩
theorem Rd.more (h : Rd w B size A n cs) (hB : B ≤ B') : Rd w B' size A n cs :=
  ⟨h.1, fun hn => by
    obtain ⟨b, o, e, hb, hc⟩ := h.2 hn
    exact ⟨b, o, e, by omega, hc⟩⟩
theorem Rd.below {M : Nat} (h : Rd w B size A n cs) (hb : Below M w w') (hM : B ≤ M) : Rd w' B size A n cs := h.keep fun _ hp => hb.cell (by omega)
theorem Rd.none_ : Rd w B size A 0 [] := ⟨by simp, fun h => absurd h (by omega)⟩
theorem Rd.len (h : Rd w B 1 A n (ints xs)) : xs.length = n := by have := h.1; simp [ints] at this; omega
theorem Rd.at1 (h : Rd w B 1 A n (ints xs)) (hk : k < n) :
    ∃ b o x, A = some ⟨b, o, none⟩ ∧ b < B ∧ xs[k]? = some x ∧ w.cell? ⟨b, o + k, none⟩ = some (.int .i64 x) := by
  obtain ⟨b, o, e, hb, hc⟩ := h.2 (by omega)
  have hl : k < xs.length := by rw [h.len]; exact hk
  exact ⟨b, o, xs[k], e, hb, List.getElem?_eq_getElem hl, hc k _ (by simp [ints, hl])⟩
end

/-- The slot s as a value: its table is read from '.slice A n c'. -/
structure SlotV (w : World) (B : Nat) (s : Slot) (A : Option Addr) (n c : Nat) : Prop where
  data : s.data.size ≤ 4611686018427387903
  len : n ≤ c
  cap : n ≤ 4611686018427387903 ∧ c ≤ 9223372036854775807
  table : Rd w B 1 A n (ints s.table)
/-- The cells of a slot. -/
def slotCells (s : Slot) (A : Option Addr) (n c : Nat) : List Value := [.int .i64 s.kind, .string s.data, .slice A n c]
/-- At the place ⟨b, o⟩ lies the slot s: its three cells, and its table elsewhere. -/
def SlotAt (w : World) (B b o : Nat) (s : Slot) : Prop :=
  ∃ A n c, w.cell? ⟨b, o, none⟩ = some (.int .i64 s.kind) ∧ w.cell? ⟨b, o + 1, none⟩ = some (.string s.data) ∧ w.cell? ⟨b, o + 2, none⟩ = some (.slice A n c) ∧ SlotV w B s A n c
/-- The slice value '.slice A n c' holds the slots l. -/
def SlotsR (w : World) (B : Nat) (A : Option Addr) (n : Nat) (l : List Slot) : Prop :=
  l.length = n ∧ (0 < n → ∃ b o, A = some ⟨b, o, none⟩ ∧ b < B ∧ ∀ k s, l[k]? = some s → SlotAt w B b (o + k * 3) s)

section
variable {w w' : World} {B B' M n c k b o : Nat} {A : Option Addr} {l : List Slot} {s : Slot}
theorem SlotV.keep (h : SlotV w B s A n c) (hk : ∀ p : Addr, p.block < B → w'.cell? p = w.cell? p) : SlotV w' B s A n c := ⟨h.data, h.len, h.cap, h.table.keep hk⟩
theorem SlotV.more (h : SlotV w B s A n c) (hB : B ≤ B') : SlotV w B' s A n c := ⟨h.data, h.len, h.cap, h.table.more hB⟩
theorem SlotV.below (h : SlotV w B s A n c) (hb : Below M w w') (hM : B ≤ M) : SlotV w' B s A n c := ⟨h.data, h.len, h.cap, h.table.below hb hM⟩
theorem SlotAt.keep (h : SlotAt w B b o s) (ha : b < B) (hk : ∀ p : Addr, p.block < B → w'.cell? p = w.cell? p) : SlotAt w' B b o s := by
  obtain ⟨A, n, c, h0, h1, h2, hr⟩ := h
  exact ⟨A, n, c, by rw [hk _ ha]; exact h0, by rw [hk _ ha]; exact h1, by rw [hk _ ha]; exact h2, hr.keep hk⟩
theorem SlotAt.more (h : SlotAt w B b o s) (hB : B ≤ B') : SlotAt w B' b o s := by
  obtain ⟨A, n, c, h0, h1, h2, hr⟩ := h
  exact ⟨A, n, c, h0, h1, h2, hr.more hB⟩
theorem SlotsR.keep (h : SlotsR w B A n l) (hk : ∀ p : Addr, p.block < B → w'.cell? p = w.cell? p) : SlotsR w' B A n l :=
  ⟨h.1, fun hn => by
    obtain ⟨b, o, e, hb, hc⟩ := h.2 hn
    exact ⟨b, o, e, hb, fun j u hu => (hc j u hu).keep hb hk⟩⟩
theorem SlotsR.more (h : SlotsR w B A n l) (hB : B ≤ B') : SlotsR w B' A n l :=
  ⟨h.1, fun hn => by
    obtain ⟨b, o, e, hb, hc⟩ := h.2 hn
    exact ⟨b, o, e, by omega, fun j u hu => (hc j u hu).more hB⟩⟩
theorem SlotsR.below (h : SlotsR w B A n l) (hb : Below M w w') (hM : B ≤ M) : SlotsR w' B A n l := h.keep fun _ hp => hb.cell (by omega)
theorem SlotsR.at_ (h : SlotsR w B A n l) (hk : k < n) :
    ∃ b o s tA tn tc, A = some ⟨b, o, none⟩ ∧ b < B ∧ l[k]? = some s ∧ w.cell? ⟨b, o + k * 3, none⟩ = some (.int .i64 s.kind) ∧ w.cell? ⟨b, o + k * 3 + 1, none⟩ = some (.string s.data) ∧
      w.cell? ⟨b, o + k * 3 + 2, none⟩ = some (.slice tA tn tc) ∧ SlotV w B s tA tn tc := by
  obtain ⟨b, o, e, hb, hc⟩ := h.2 (by omega)
  have hl : k < l.length := by rw [h.1]; exact hk
  obtain ⟨tA, tn, tc, h0, h1, h2, h3⟩ := hc k _ (List.getElem?_eq_getElem hl)
  exact ⟨b, o, l[k], tA, tn, tc, e, hb, List.getElem?_eq_getElem hl, h0, h1, h2, h3⟩
end

theorem SlotsR.take {w : World} {B n k : Nat} {A : Option Addr} {l : List Slot} (h : SlotsR w B A n l) (hk : k ≤ n) : SlotsR w B A k (l.take k) := by
  refine ⟨by rw [List.length_take, h.1]; omega, fun hp => ?_⟩
  obtain ⟨b, o, e, hb, hc⟩ := h.2 (by omega)
  exact ⟨b, o, e, hb, fun j s hs => hc j s (by rw [List.getElem?_take] at hs; split at hs <;> simp_all)⟩
theorem Rd.take {w : World} {B size n k : Nat} {A : Option Addr} {cs : List Value} (h : Rd w B size A n cs) (hk : k ≤ n) : Rd w B size A k (cs.take (k * size)) := by
  refine ⟨by rw [List.length_take, h.1]; have := Nat.mul_le_mul_right size hk; omega, fun hp => ?_⟩
  obtain ⟨b, o, e, hb, hc⟩ := h.2 (by omega)
  exact ⟨b, o, e, hb, fun j s hs => hc j s (by rw [List.getElem?_take] at hs; split at hs <;> simp_all)⟩
theorem Rd.of_block {w : World} {B size n b : Nat} {cs : List Value} {arr : Array Value} {T : TypeId} {fz : Nat × Nat} (hb : w.heap[b]? = some (.cells arr T fz)) (hB : b < B) (harr : arr.toList = cs) (hl : cs.length = n * size) : Rd w B size (some ⟨b, 0, none⟩) n cs := by
  refine ⟨hl, fun _ => ⟨b, 0, rfl, hB, fun j u hu => ?_⟩⟩
  rw [cell_of_row _ _ _ _ _ _ hb, Nat.zero_add, ← Array.getElem?_toList, harr]
  exact hu
/-- A slot and the slice value of its table. -/
structure SV where
  s : Slot
  A : Option Addr
  n : Nat
  c : Nat
def SV.cells (x : SV) : List Value := slotCells x.s x.A x.n x.c
theorem svcells_at (q : List SV) (k : Nat) (x : SV) (hx : q[k]? = some x) (j : Nat) (hj : j < 3) : (q.flatMap SV.cells)[k * 3 + j]? = x.cells[j]? := by
  induction q generalizing k with
  | nil => simp at hx
  | cons a q ih =>
    have hl : a.cells.length = 3 := rfl
    rw [List.flatMap_cons]
    cases k with
    | zero => simp at hx; subst hx; rw [List.getElem?_append_left (by omega)]; simp
    | succ k =>
      rw [List.getElem?_append_right (by omega), hl, show (k + 1) * 3 + j - 3 = k * 3 + j from by omega]
      exact ih k (by simpa using hx)
theorem SlotsR.of_block {w : World} {B b n : Nat} {arr : Array Value} {T : TypeId} {fz : Nat × Nat} (q : List SV) (l : List Slot) (hb : w.heap[b]? = some (.cells arr T fz)) (hB : b < B) (harr : arr.toList = q.flatMap SV.cells)
    (hq : q.map (·.s) = l) (hn : l.length = n) (hv : ∀ x ∈ q, SlotV w B x.s x.A x.n x.c) : SlotsR w B (some ⟨b, 0, none⟩) n l := by
  subst hq
  refine ⟨hn, fun _ => ⟨b, 0, rfl, hB, fun k s hs => ?_⟩⟩
  rw [List.getElem?_map] at hs
  cases hx : q[k]? with
  | none => rw [hx] at hs; simp at hs
  | some x =>
    rw [hx] at hs
    simp only [Option.map_some, Option.some.injEq] at hs
    subst hs
    have h0 := svcells_at q k x hx 0 (by omega)
    have h1 := svcells_at q k x hx 1 (by omega)
    have h2 := svcells_at q k x hx 2 (by omega)
    rw [← harr, Array.getElem?_toList] at h0 h1 h2
    refine ⟨x.A, x.n, x.c, ?_, ?_, ?_, hv x (List.mem_of_getElem? hx)⟩
    · rw [cell_of_row _ _ _ _ _ _ hb, Nat.zero_add]; exact h0
    · rw [cell_of_row _ _ _ _ _ _ hb, Nat.zero_add]; exact h1
    · rw [cell_of_row _ _ _ _ _ _ hb, Nat.zero_add]; exact h2
theorem SlotsR.none_ {w : World} {B : Nat} {A : Option Addr} : SlotsR w B A 0 [] := ⟨rfl, fun h => absurd h (by omega)⟩

/-- Where 's[k:]' begins. -/
def cutA (A : Option Addr) (c k size : Nat) : Option Addr := if c = k then A else A.map (·.add (k * size))
theorem run_from {P : Program} (T E : TypeId) (size : Nat) (hT : P.underlying T = some (.slice E)) (hs : ∀ W : World, (sizeOf E).run P W = .ok size W) (A : Option Addr) (n c k : Nat) (hk : k ≤ n) (W : World) :
    (Instr.slice T (.slice A n c) (some (.int .i64 (k : Int))) none none).run P W = .ok (.slice (cutA A c k size) (n - k) (c - k)) W := by
  have hE : P.elem T = E := by simp [Program.elem, hT]
  rw [run_slice_l (P := P) (w := W) T A n c (by rw [hE]; exact hT) .i64 k (by omega) (by omega), hE, hs]
  simp [sliced, cutA, Result.andThen]
theorem Rd.cut {w : World} {B size n c k : Nat} {A : Option Addr} {cs : List Value} (h : Rd w B size A n cs) (hk : k ≤ n) (hn : n ≤ c) : Rd w B size (cutA A c k size) (n - k) (cs.drop (k * size)) := by
  refine ⟨by rw [List.length_drop, h.1, Nat.sub_mul], fun hp => ?_⟩
  obtain ⟨b, o, rfl, hb, hc⟩ := h.2 (by omega)
  refine ⟨b, o + k * size, ?_, hb, fun j u hu => ?_⟩
  · unfold cutA; rw [if_neg (by omega)]
    unfold Addr.add
    by_cases h0 : k * size = 0 <;> simp [h0]
  · rw [List.getElem?_drop] at hu
    rw [Nat.add_assoc]; exact hc _ u hu
theorem SlotsR.cut {w : World} {B n c k : Nat} {A : Option Addr} {l : List Slot} (h : SlotsR w B A n l) (hk : k ≤ n) (hn : n ≤ c) : SlotsR w B (cutA A c k 3) (n - k) (l.drop k) := by
  refine ⟨by rw [List.length_drop, h.1], fun hp => ?_⟩
  obtain ⟨b, o, rfl, hb, hc⟩ := h.2 (by omega)
  refine ⟨b, o + k * 3, ?_, hb, fun j u hu => ?_⟩
  · unfold cutA; rw [if_neg (by omega)]
    unfold Addr.add
    by_cases h0 : k * 3 = 0 <;> simp [h0]
  · rw [List.getElem?_drop] at hu
    have := hc _ u hu
    rwa [show o + (k + j) * 3 = o + k * 3 + j * 3 from by omega] at this

theorem ret_bool {a b : Bool} (h : b = a) : Ending.returned (.bool a) = .returned (.bool b) := by rw [h]
theorem ret_int {k : IntKind} {a b : Int} (h : b = a) : Ending.returned (.int k a) = .returned (.int k b) := by rw [h]

theorem ret_bi {a b : Bool} {x y : Int} (h : b = a) (h' : y = x) : Ending.returned (.tuple #[.bool a, .int .i64 x]) = .returned (.tuple #[.bool b, .int .i64 y]) := by rw [h, h']
theorem ret_ii {a b : Int} {x y : Int} (h : b = a) (h' : y = x) : Ending.returned (.tuple #[.int .i64 a, .int .i64 x]) = .returned (.tuple #[.int .i64 b, .int .i64 y]) := by rw [h, h']
theorem ret_si {a b : ByteArray} {x y : Int} (h : b = a) (h' : y = x) : Ending.returned (.tuple #[.string a, .int .i64 x]) = .returned (.tuple #[.string b, .int .i64 y]) := by rw [h, h']

theorem all_take_succ {α : Type} (p : α → Bool) (l : List α) (k : Nat) (x : α) (hx : l[k]? = some x) : (l.take (k + 1)).all p = ((l.take k).all p && p x) := by
  rw [List.take_add_one, hx]
  simp
theorem all_false {α : Type} (p : α → Bool) (l : List α) (k : Nat) (x : α) (hx : l[k]? = some x) (hp : p x = false) : l.all p = false := by
  rw [List.all_eq_false]
  exact ⟨x, List.mem_of_getElem? hx, by simp [hp]⟩
theorem all_done {α : Type} (p : α → Bool) (l : List α) (k : Nat) (hk : l.length ≤ k) (h : (l.take k).all p = true) : l.all p = true := by
  rwa [List.take_of_length_le hk] at h

end Go.Proofs.Ytbhhcjnjddcocaa
