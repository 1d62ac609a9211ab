/- An image's box; small facts of the shape's walks. No conditions. -/
import Derived.Test.YtnjjnioilbnnpaaTree4
import Derived.Test.YtnjjnioilbnnpaaName
import Derived.Test.YtnjjnioilbnnpaaPureT2
namespace Go.Proofs.Ytnjjnioilbnnpaa
open Go.RowKit Sl

/-- The block b holds an image's five cells. -/
def Box (W : World) (b : Nat) (g : Int) (v : IV) : Prop :=
  W.cell? ⟨b, 0, none⟩ = some (.int .i64 g) ∧ W.cell? ⟨b, 1, none⟩ = some (.slice v.rA v.rn v.rc) ∧ W.cell? ⟨b, 2, none⟩ = some (.slice v.sA v.sn v.sc) ∧ W.cell? ⟨b, 3, none⟩ = some (.slice v.fA v.fn v.fc) ∧ W.cell? ⟨b, 4, none⟩ = some (.slice v.pA v.pn v.pc)
theorem Box.new (w : World) (g : Int) (v : IV) (T : TypeId) : Box (w.alloc (.cells #[.int .i64 g, .slice v.rA v.rn v.rc, .slice v.sA v.sn v.sc, .slice v.fA v.fn v.fc, .slice v.pA v.pn v.pc] T)) w.heap.size g v := by
  have h := fun j => cell_of_row (w.alloc (.cells #[.int .i64 g, .slice v.rA v.rn v.rc, .slice v.sA v.sn v.sc, .slice v.fA v.fn v.fc, .slice v.pA v.pn v.pc] T)) w.heap.size j _ _ _ (heap_alloc_new w _)
  exact ⟨h 0, h 1, h 2, h 3, h 4⟩
theorem Box.keep {W W' : World} {b M : Nat} {g : Int} {v : IV} (h : Box W b g v) (hb : Below M W W') (hM : b < M) : Box W' b g v :=
  ⟨(hb.cell (p := ⟨b, 0, none⟩) hM).trans h.1, (hb.cell (p := ⟨b, 1, none⟩) hM).trans h.2.1, (hb.cell (p := ⟨b, 2, none⟩) hM).trans h.2.2.1, (hb.cell (p := ⟨b, 3, none⟩) hM).trans h.2.2.2.1, (hb.cell (p := ⟨b, 4, none⟩) hM).trans h.2.2.2.2⟩

theorem quiet_same {P : Program} {f : FuncId} {args : Array Value} {w : World} {n : Nat} {v : Value} (h : Calls P f args (w.drewN n) fun e w' => e = .returned v ∧ w.drewN n = w') : Calls P f args (w.drewN n) fun e w'' => e = .returned v ∧ ∃ m, w'' = w.drewN m :=
  h.mono fun _ _ ⟨he, hm⟩ => ⟨he, n, hm.symm⟩
theorem bytesLess_lex (s t : List UInt8) : Op.bytesLess s t = lexLt s t := by
  induction s generalizing t with
  | nil => cases t <;> rfl
  | cons a s ih =>
    cases t with
    | nil => rfl
    | cons b t =>
      simp only [Op.bytesLess, lexLt, ih]
      rfl
theorem less_str (s t : ByteArray) : Op.bytesLess s.toList t.toList = strLt s t := bytesLess_lex _ _
theorem leq_str (s t : ByteArray) : (Op.bytesLess s.toList t.toList || s.toList == t.toList) = !strLt t s := by rw [bytesLess_lex, lexLt_total]; rfl
theorem nameAt_0 {l : List Snap} {s : Snap} (h : l[0]? = some s) : nameAt l 0 = isName s.name := by unfold nameAt; rw [snapAt_at h]; simp
theorem nameAt_succ {l : List Snap} {k : Nat} {s p : Snap} (h : l[k]? = some s) (hp : l[k - 1]? = some p) (hk : 1 ≤ k) : nameAt l k = (isName s.name && strLt p.name s.name) := by
  unfold nameAt; rw [snapAt_at h, snapAt_at hp, show (k == 0) = false from by rw [beq_eq_false_iff_ne]; omega, Bool.false_or]
theorem guestOk_int (g : Int) : guestOk g = (decide (0 ≤ g) && decide (g ≤ 16)) := rfl
theorem entryOk_lo {l : List Slot} {e : Int} (h : e ≤ 0) : entryOk l e = true := by unfold entryOk; rw [decide_eq_true h]; rfl
theorem entryOk_hi {l : List Slot} {e : Int} (h : 0 < e) : entryOk l e = (kindOf l e == 1) := by unfold entryOk; rw [decide_eq_false (by omega)]; rfl
end Go.Proofs.Ytnjjnioilbnnpaa
