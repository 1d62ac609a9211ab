/- One number more behind an own image's Refs; what is packed of the slots so far. Conditions: as each says. -/
import Derived.Test.YtmdjoafbckphfaaPkMem
namespace Go.Proofs.Ytmdjoafbckphfaa
open Go.RowKit Sl
section
variable {w w' : World} {base : Nat} {tg : Nat → Nat} {v : IV} {q : List SV} {p : List PV} {m : Img}
set_option maxRecDepth 100000 in
theorem OwnI.pushRef (h : OwnI w base tg v q p m) (x : Int) (hb : base ≤ w.heap.size) (h1n : 1 ≤ v.fn) (hn : v.fn ≤ 1000000) : ∃ A' c' w' tg', (Builtin.append_ #[23, 23] 23 #[.slice v.fA v.fn v.fc, .slice (some ⟨w.heap.size, 0, none⟩) 1 1]).run Try.prog (w.alloc (.cells #[.int .i64 x] 3)) = .ok (.slice A' (v.fn + 1) c') w' ∧
    OwnI w' base tg' { v with fA := A', fn := v.fn + 1, fc := c' } q p { m with refs := m.refs ++ [x] } ∧ Below base w w' ∧ (w.alloc (.cells #[.int .i64 x] 3)).grownBy w' (Value.slice v.fA v.fn v.fc).ownBlock ∧ (∀ b, (Value.slice v.fA v.fn v.fc).ownBlock = some b → TypeB w b 3) := by
  obtain ⟨i0, hi0, hz0, hz1, hz2⟩ := info_parts Try.infoInt
  obtain ⟨ho, hT⟩ : w.ownsRow base 3 1 (.slice v.fA v.fn v.fc) v.fn (ints m.refs) ∧ ∀ b, (Value.slice v.fA v.fn v.fc).ownBlock = some b → tg b = 1 := by
    rcases h.refs.2.2 with ⟨h0, _⟩ | hh
    · omega
    · exact hh
  obtain ⟨A', c', w', q1, q2, q3, q4, q5, q6, q7⟩ := app_one (P := Try.prog) w base 23 23 3 i0 _ 1 8 Try.underlying23 hi0 hz0 hz1 hz2 rfl (by omega) (.slice v.fA v.fn v.fc) v.fn (ints m.refs) ho #[.int .i64 x] rfl (by intro u hu; simp at hu; subst hu; rfl) (by omega) (by unfold maxLen; omega) hb
  have hm : c' ≤ 9223372036854775807 := by unfold maxLen at q5; omega
  have hs1 : (w.alloc (.cells #[.int .i64 x] 3)).heap.size = w.heap.size + 1 := World.size_alloc _ _
  have hW := below1 w (.cells #[.int .i64 x] 3)
  have h1 := (h.next hW).retag (tg' := fun j => if w.heap.size + 1 ≤ j then 1 else tg j) fun j hj => if_neg (by omega)
  have r6 : ∀ b, (Value.slice v.fA v.fn v.fc).ownBlock = some b → base ≤ b ∧ TypeB w b 3 ∧ tg b = 1 := fun b e => ⟨(ho.lt b e).1, own_block ho e, hT b e⟩
  have hty : ∀ b, (Value.slice v.fA v.fn v.fc).ownBlock = some b → TypeB (w.alloc (.cells #[.int .i64 x] 3)) b 3 := fun b e => (r6 b e).2.1.next hW
  have ht : ∀ {t n c : Nat} {A : Option Addr} {xs : List Int}, TabO (w.alloc (.cells #[.int .i64 x] 3)) base (fun j => if w.heap.size + 1 ≤ j then 1 else tg j) t A n c xs → t ≠ 1 → TabO w' base (fun j => if w.heap.size + 1 ≤ j then 1 else tg j) t A n c xs := fun hh hn => hh.kept q6 fun b' e _ => .inr (by
    have := (r6 b' e).2.2
    have := (r6 b' e).2.1.lt
    rw [if_neg (by omega)]; omega)
  have hf : ∀ {e : TypeId} {size n : Nat} {x' : Value} {xs : List Value}, (w.alloc (.cells #[.int .i64 x] 3)).ownsRow base e size x' n xs → 3 ≠ e → w'.ownsRow base e size x' n xs := fun ho' hne => ho'.kept q6 (by
    cases hr : (Value.slice v.fA v.fn v.fc).ownBlock with
    | none => exact ne_or
    | some b => exact own_far ho' (hty b hr) hne)
  have hrt : TabO w' base (fun j => if w.heap.size + 1 ≤ j then 1 else tg j) 1 A' (v.fn + 1) c' (m.refs ++ [x]) := ⟨q4, ⟨by omega, hm⟩, .inr ⟨by simpa [ints] using q2, fun j e => by
    show (if _ then _ else _) = _
    rcases q7 with e2 | e2
    · rw [e2] at e
      have := (r6 j e).2.1.lt
      rw [if_neg (by omega)]; exact hT j e
    · rw [e2] at e
      injection e with e
      rw [if_pos (by omega)]⟩⟩
  refine ⟨A', c', w', _, q1, ⟨ht h1.root (by decide), hrt, hf h1.slots (by decide), h1.sle, h1.scap, hf h1.snaps (by decide), h1.ple, h1.pcap, h1.hq, h1.hp, fun k y hy => ⟨(h1.tabs k y hy).1, ht (h1.tabs k y hy).2 (by omega)⟩, fun k y hy => ⟨(h1.roots k y hy).1, ht (h1.roots k y hy).2 (by omega)⟩⟩,
    q3, q6, fun b e => (r6 b e).2.1⟩
end
/-- The first k slots, packed. -/
def packK (l : List Slot) (k : Nat) : List Slot := freeSlot :: ((l.take k).filter keptS).map (renS l)
theorem packK_one {l : List Slot} (h0 : l.head? = some freeSlot) : packK l 1 = [freeSlot] := by
  cases l with
  | nil => cases h0
  | cons a t => have : a = freeSlot := by simpa using h0
                subst this; rfl
theorem packK_free {l : List Slot} {k : Nat} {s : Slot} (hs : l[k]? = some s) (hk : s.kind = 0) : packK l (k + 1) = packK l k := by
  unfold packK
  rw [List.take_add_one, hs, List.filter_append]
  have : [s].filter keptS = [] := by rw [List.filter_cons_of_neg (by rw [kept_no hk]; decide)]; rfl
  simp only [Option.toList]
  rw [this, List.append_nil]
theorem packK_used {l : List Slot} {k : Nat} {s : Slot} (hs : l[k]? = some s) (hk : s.kind ≠ 0) : packK l (k + 1) = packK l k ++ [renS l s] := by
  unfold packK
  rw [List.take_add_one, hs, List.filter_append]
  have : [s].filter keptS = [s] := by rw [List.filter_cons_of_pos (kept_yes hk)]; rfl
  simp only [Option.toList]
  rw [this, List.map_append]; rfl
theorem packK_all {l : List Slot} {k : Nat} (h : l.length ≤ k) : packK l k = packS l := by unfold packK packS; rw [List.take_of_length_le h]
theorem packR_one {l : List Slot} {f : List Int} (h0 : l.head? = some freeSlot) : packR (l.take 1) (f.take 1) = [0] := by
  cases l with
  | nil => cases h0
  | cons a t => have : a = freeSlot := by simpa using h0
                subst this
                cases f <;> rfl
end Go.Proofs.Ytmdjoafbckphfaa
