/- A map literal keyed by int, whose entries are all known: its stores and its look-ups. Conditions: the block is known whole. -/
import Derived.Test.YtnjjnioilbnnpaaBase
namespace Go.Proofs.Ytnjjnioilbnnpaa
open Go.RowKit Sl

theorem setIn_alloc (W : World) (o o' : Obj) : ({ W.alloc o with heap := (W.alloc o).heap.setIfInBounds W.heap.size o' } : World) = W.alloc o' := by
  show ({ W with heap := (W.heap.push o).setIfInBounds W.heap.size o' } : World) = { W with heap := W.heap.push o' }
  congr 1
  apply Array.ext_getElem?
  intro i
  rw [Array.getElem?_setIfInBounds, Array.getElem?_push, Array.getElem?_push]
  by_cases h : i = W.heap.size
  · subst h; simp
  · rw [if_neg (fun e => h e.symm)]
    simp [h]

theorem findNow_none (k : Int) : ∀ (es : List MapEntry) (i : Nat), (∀ e ∈ es, ∃ k', e.key = .int .i64 k' ∧ k' ≠ k) → Instr.findNow (.int .i64) (.int .i64 k) es i = some none
  | [], _, _ => rfl
  | e :: es, i, h => by
    obtain ⟨k', he, hne⟩ := h e (by simp)
    have hb : (k == k') = false := by simp; exact fun e => hne e.symm
    simp only [Instr.findNow, Instr.sameNow, he, if_true, hb]
    exact findNow_none k es (i + 1) (fun e he => h e (by simp [he]))

section
variable {P : Program} {T K E : TypeId}
theorem run_checkKey_int (hk : P.underlying K = some (.int .i64)) (b : Bool) (k : Int) (w : World) : (Instr.checkKey b 10000 K (.int .i64 k)).run P w = .ok () w := by
  have h : ∀ n : Nat, (Instr.checkKey b (n + 1) K (.int .i64 k)).run P w = .ok () w := fun n => by simp [Instr.checkKey, run_underlying hk]
  exact h 9999
theorem run_put_lit (ht : P.underlying T = some (.map K E)) (hk : P.underlying K = some (.int .i64)) (W : World) (b : Nat) (hb : W.heap.size = b) (es : Array MapEntry) (c : Nat) (k : Int) (v : Value)
    (hn : ∀ e ∈ es.toList, ∃ k', e.key = .int .i64 k' ∧ k' ≠ k) :
    (Instr.mapUpdate T (.map (some b)) (.int .i64 k) v).run P (W.alloc (.map es c)) = .ok () (W.alloc (.map (es.push ⟨.int .i64 k, v, c⟩) (c + 1))) := by
  subst hb
  have hg : (W.alloc (.map es c)).heap[W.heap.size]? = some (.map es c) := heap_alloc_new W _
  have hf : (Instr.findKey K (.int .i64 k) es.toList).run P (W.alloc (.map es c)) = .ok none (W.alloc (.map es c)) := by
    simp [Instr.findKey, run_underlying hk, findNow_none k es.toList 0 hn]
  simp [Instr.mapUpdate, run_underlying ht, MapKept.run_getObj_map hg, run_checkKey_int hk, hf, MapKept.run_setObj_map _ hg]
  exact setIn_alloc W _ _
theorem run_look_lit (ht : P.underlying T = some (.map K E)) (hk : P.underlying K = some (.int .i64)) (w : World) (b : Nat) (es : Array MapEntry) (c : Nat) (hb : w.heap[b]? = some (.map es c)) (k : Int) (i : Nat) (v : Value)
    (hf : Instr.findNow (.int .i64) (.int .i64 k) es.toList 0 = some (some (i, v))) :
    (Instr.lookup T (.map (some b)) (.int .i64 k) true).run P w = .ok (.tuple #[v, .bool true]) w := by
  have hf' : (Instr.findKey K (.int .i64 k) es.toList).run P w = .ok (some (i, v)) w := by
    simp [Instr.findKey, run_underlying hk, hf]
  simp [Instr.lookup, run_underlying ht, MapKept.run_getObj_map hb, run_checkKey_int hk, hf']
theorem run_miss_lit (ht : P.underlying T = some (.map K E)) (hk : P.underlying K = some (.int .i64)) (w : World) (b : Nat) (es : Array MapEntry) (c : Nat) (hb : w.heap[b]? = some (.map es c)) (k : Int) (z : Value)
    (hz : (zeroValue E).run P w = .ok z w) (hn : ∀ e ∈ es.toList, ∃ k', e.key = .int .i64 k' ∧ k' ≠ k) :
    (Instr.lookup T (.map (some b)) (.int .i64 k) true).run P w = .ok (.tuple #[z, .bool false]) w := by
  have hf' : (Instr.findKey K (.int .i64 k) es.toList).run P w = .ok none w := by
    simp [Instr.findKey, run_underlying hk, findNow_none k es.toList 0 hn]
  simp [Instr.lookup, run_underlying ht, MapKept.run_getObj_map hb, run_checkKey_int hk, hf', hz]
end
end Go.Proofs.Ytnjjnioilbnnpaa
