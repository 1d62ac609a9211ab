/- pages.Patch, and the reference's. No conditions beside the sizes of texts that are read. -/
import Derived.Test.YtiodlalfmeeemaaJoin
import Derived.Test.YtiodlalfmeeemaaOpen
import Derived.Laws.IdiomCopy
namespace Go.Proofs.Ytiodlalfmeeemaa
open Go.RowKit Sl

/-- A copy whose run is known. -/
theorem wpList_cpy {P : Program} {w : World} {ops : Array Oper} {rest : List Oper} {o : Oper} {a : Act} {Q : Exit → Act → World → Prop} (hgd : o.guard = none) (s x : Operand) (t t2 ty : TypeId)
    (ho : o.op = .call { callee := .builtin .copy, args := #[s, x], argTypes := #[t, t2] }) (hty : o.type = ty) {v y v' : Value} {w' : World} (hs : a.eval s = v) (hx : a.eval x = y)
    (hrun : (Builtin.copy_ #[t, t2] ty #[v, y]).run P w = .ok v' w') (h : wpList P ops Q rest (a.put o.dst v') w') : wpList P ops Q (o :: rest) a w :=
  wpList_plain hgd fun _ hK => by
    subst hty
    unfold Oper.wp execOp
    simp only [ho, resolve, invoke, builtin, Sem.run_bind, Sem.run_pure, Result.andThen_ok, List.map_toArray, List.map_cons, List.map_nil, hs, hx, hrun]
    exact hK _ _ h

theorem patch_form {p : ByteArray} {x : Int} {s : ByteArray} (h : p.size ≠ 4) : patchE p x s = 1 ∧ patchV p x s = noP := by
  have : patchE p x s = 1 := by unfold patchE; rw [if_neg h]
  exact ⟨this, by unfold patchV; rw [this, if_neg (by decide)]⟩
theorem patch_out {p : ByteArray} {x : Int} {s : ByteArray} (h : p.size = 4) (hx : ¬ (0 ≤ x ∧ x ≤ 4 ∧ (s.size : Int) ≤ 4 - x)) : patchE p x s = 3 ∧ patchV p x s = noP := by
  have : patchE p x s = 3 := by unfold patchE; rw [if_pos h, if_neg hx]
  exact ⟨this, by unfold patchV; rw [this, if_neg (by decide)]⟩
theorem patch_ok {p : ByteArray} {k : Nat} {s : ByteArray} (h : p.size = 4) (hx : k + s.size ≤ 4) : patchE p k s = 0 ∧ patchV p k s = ofL ((toL p).take k ++ toL s ++ (toL p).drop (k + s.size)) := by
  have : patchE p k s = 0 := by unfold patchE; rw [if_pos h, if_pos (by omega)]
  exact ⟨this, by unfold patchV; rw [this, if_pos rfl, Int.toNat_natCast]⟩

def bs (l : List UInt8) : List Value := l.map fun x => Value.int .u8 (x.toNat : Int)
/-- Behind the copy the block reads as the patched page. -/
theorem patched_at (w : World) (g : Nat) (p : List UInt8) (k : Nat) (s : List UInt8) (hk : k + s.length ≤ p.length) (hc : ∀ j u, p[j]? = some u → w.cell? ⟨g, j, none⟩ = some (.int .u8 (u.toNat : Int))) :
    ∀ j (hj : j < (p.take k ++ s ++ p.drop (k + s.length)).length), (w.setCells g k (bs s)).cell? ⟨g, j, none⟩ = some (.int .u8 ((p.take k ++ s ++ p.drop (k + s.length))[j].toNat : Int)) := by
  intro j hj
  have hlen : (bs s).length = s.length := by simp [bs]
  have hget : (p.take k ++ s ++ p.drop (k + s.length))[j]? = some (p.take k ++ s ++ p.drop (k + s.length))[j] := List.getElem?_eq_getElem hj
  generalize (p.take k ++ s ++ p.drop (k + s.length))[j] = u at hget
  have htk : (p.take k).length = k := by rw [List.length_take]; omega
  rw [List.append_assoc, List.getElem?_append, htk] at hget
  split at hget
  · rename_i h1
    rw [World.cell?_setCells_out g _ _ _ _ (fun _ _ => Or.inl h1)]
    rw [List.getElem?_take, if_pos h1] at hget
    exact hc j u hget
  · rename_i h1
    rw [List.getElem?_append] at hget
    split at hget
    · rename_i h2
      have hin := World.cell?_setCells_in g (bs s) k w (fun i hi => by
        have hi' : k + i < p.length := by rw [hlen] at hi; omega
        rw [hc (k + i) p[k + i] (List.getElem?_eq_getElem hi')]; rfl) (j - k) (by rw [hlen]; exact h2)
      rw [show k + (j - k) = j from by omega] at hin
      rw [hin]
      have h3 : (bs s)[j - k]? = some (.int .u8 (u.toNat : Int)) := by unfold bs; rw [List.getElem?_map, hget]; rfl
      rw [List.getElem?_eq_getElem (by rw [hlen]; exact h2)] at h3
      exact h3
    · rename_i h2
      rw [World.cell?_setCells_out g _ _ _ _ (fun _ _ => Or.inr (by rw [hlen]; show k + s.length ≤ j; omega))]
      rw [List.getElem?_drop, show k + s.length + (j - k - s.length) = j from by omega] at hget
      exact hc j u hget

theorem below_setCells {B : Nat} {a : World} (g : Nat) (hg : B ≤ g) : ∀ (vs : List Value) (o : Nat) (w : World), Below B a w → Below B a (w.setCells g o vs)
  | [], _, _, h => h
  | v :: r, o, _, h => below_setCells g hg r (o + 1) _ (h.setCell (p := ⟨g, o, none⟩) hg v)

theorem run_copy_none {P : Program} (w : World) (dT sT ty elem : TypeId) (d : Option Addr) (n c : Nat) (t : ByteArray) (hu : P.underlying dT = some (.slice elem)) (hz : ∀ w, (Go.sizeOf elem).run P w = .ok 1 w) (ht : t.size = 0) :
    (Builtin.copy_ #[dT, sT] ty #[.slice d n c, .string t]).run P w = .ok (goInt t.size) w := by
  cases d <;> simp [Builtin.copy_, run_underlying hu, Builtin.lenOf, Builtin.firstCells, hz, ht, storeCells]

set_option maxRecDepth 100000 in
set_option maxHeartbeats 1000000 in
theorem patch_any (p : ByteArray) (x : Int) (s : ByteArray) (w : World) (hs : s.size ≤ 4611686018427387903) (hx : I64 x) :
    Calls Try.prog 37 #[.string p, .int .i64 x, .string s] w fun e w' => e = .returned (.tuple #[.string (patchV p x s), .int .i64 (patchE p x s)]) ∧ Below w.heap.size w w' := by
  by_cases h4 : p.size = 4
  · have g4 : ((p.size : Int) != 4) = false := by simp [h4]
    by_cases hr : 0 ≤ x ∧ x ≤ 4 ∧ (s.size : Int) ≤ 4 - x
    · obtain ⟨k, rfl⟩ := Int.eq_ofNat_of_zero_le hr.1
      have hk : k + s.size ≤ 4 := by omega
      have R := Lib.hid (patch_ok h4 hk)
      have P4 := Lib.hid h4
      have hk4 : k ≤ 4 := by omega
      have hks : (s.size : Int) ≤ 4 - k := by omega
      have hcv := run_bytes_of_string (P := Try.prog) w 9 72 5 p Try.underlying9 Try.underlying72 Try.underlying5
      have hcap := grownCap_ge w p.size 0 5
      generalize grownCap w p.size 0 5 = cap at hcv hcap
      have hsl := fun W => run_from (P := Try.prog) 72 5 1 Try.underlying72 (fun W => by kernel_rfl) (some ⟨w.heap.size, 0, none⟩) p.size cap k (by omega) W
      have hrow := bytesRow_at p cap
      have hrsz : (bytesRow p cap).size = cap := by simp [bytesRow, h4]; omega
      generalize hW : w.drew.alloc (.cells (bytesRow p cap) 5 ((bytesRow p cap).size, (bytesRow p cap).size + 1)) = W1 at hcv
      have hblk : W1.heap[w.heap.size]? = some (.cells (bytesRow p cap) 5 ((bytesRow p cap).size, (bytesRow p cap).size + 1)) := by rw [← hW]; exact heap_alloc_new w.drew _
      have hbw : Below w.heap.size w W1 := by rw [← hW]; exact (Below.refl w.heap.size w).drew.alloc (Nat.le_refl _) _
      have hcell : ∀ j u, (toL p)[j]? = some u → W1.cell? ⟨w.heap.size, j, none⟩ = some (.int .u8 (u.toNat : Int)) := by
        intro j u hu
        rw [cell_of_row _ _ _ _ _ _ hblk]
        have hj : j < p.data.size := by
          have := (List.getElem?_eq_some_iff.1 hu).1
          rwa [toL_len] at this
        rw [hrow j hj]
        have : p.data[j] = u := by
          have h3 := (List.getElem?_eq_some_iff.1 hu).2
          simpa [toL] using h3
        rw [this]
      have hcopy : (Builtin.copy_ #[72, 9] 3 #[.slice (cutA (some ⟨w.heap.size, 0, none⟩) cap k 1) (p.size - k) (cap - k), .string s]).run Try.prog W1 = .ok (goInt s.size) (W1.setCells w.heap.size k (bs (toL s))) := by
        by_cases hs0 : s.size = 0
        · have : toL s = [] := List.eq_nil_of_length_eq_zero (by rw [toL_len, hs0])
          rw [this]
          exact run_copy_none W1 72 9 3 5 _ _ _ s Try.underlying72 (fun W => by kernel_rfl) hs0
        · have hA : cutA (some ⟨w.heap.size, 0, none⟩) cap k 1 = some ⟨w.heap.size, k, none⟩ := by
            unfold cutA; rw [if_neg (by omega)]
            unfold Addr.add
            by_cases hk0 : k = 0 <;> simp [hk0]
          rw [hA]
          exact run_copy_string W1 72 9 3 5 w.heap.size k (p.size - k) (cap - k) s Try.underlying72 (fun W => by kernel_rfl) (by omega)
            (fun j hj => by
              have hjl : k + j < (toL p).length := by rw [toL_len]; omega
              rw [hcell (k + j) _ (List.getElem?_eq_getElem hjl)]; rfl)
            (fun j hj => by
              simp [World.frozen?, hblk, hrsz]; omega)
      have hlen : ((toL p).take k ++ toL s ++ (toL p).drop (k + (toL s).length)).length = p.size := by
        rw [List.length_append, List.length_append, List.length_take, List.length_drop, toL_len, toL_len]; omega
      have hback := run_convert_bytes_back (P := Try.prog) (W1.setCells w.heap.size k (bs (toL s))) 72 9 5 ⟨w.heap.size, 0, none⟩ cap ((toL p).take k ++ toL s ++ (toL p).drop (k + (toL s).length)) Try.underlying72 Try.underlying5 Try.underlying9
        (fun j hj => by
          have := patched_at W1 w.heap.size (toL p) k (toL s) (by rw [toL_len, toL_len]; omega) hcell j hj
          rw [add_form, Nat.zero_add]; exact this)
      rw [hlen, toL_len] at hback
      have hbw2 := below_setCells w.heap.size (Nat.le_refl _) (bs (toL s)) k W1 hbw
      generalize W1.setCells w.heap.size k (bs (toL s)) = W2 at hcopy hback hbw2
      generalize cutA (some ⟨w.heap.size, 0, none⟩) cap k 1 = A' at hsl hcopy
      have HC := Lib.hid hcopy
      have HB := Lib.hid hbw2
      rw [show (⟨((toL p).take k ++ toL s ++ (toL p).drop (k + s.size)).toArray⟩ : ByteArray) = ofL ((toL p).take k ++ toL s ++ (toL p).drop (k + s.size)) from rfl, ← R.out.2] at hback
      clear hcopy hbw hcell hrow hrsz hblk hlen hbw2 h4 hr hk hW
      go_enter Try.func37, Try.ntmps37
      go_wp2_with (refine wpList_cpy rfl _ _ _ _ _ rfl rfl rfl rfl HC.out ?_)
      go_ret2
      exact ⟨ret_si rfl R.out.1, HB.out⟩
    · have R := Lib.hid (patch_out (x := x) (s := s) h4 hr)
      have hr' : x < 0 ∨ (0 ≤ x ∧ 4 < x) ∨ (0 ≤ x ∧ x ≤ 4 ∧ 4 - x < (s.size : Int)) := by omega
      clear h4 hr
      rcases hr' with h1 | ⟨h1, h2⟩ | ⟨h1, h2, h3⟩
      all_goals
        go_enter Try.func37, Try.ntmps37
        go_wp2_with fail
        go_ret2
        exact ⟨ret_si R.out.2 R.out.1, Below.refl _ _⟩
  · have g4 : ((p.size : Int) != 4) = true := by simp; omega
    have R := Lib.hid (patch_form (x := x) (s := s) h4)
    clear h4
    go_enter Try.func37, Try.ntmps37
    go_wp2_with fail
    go_ret2
    exact ⟨ret_si R.out.2 R.out.1, Below.refl _ _⟩
end Go.Proofs.Ytiodlalfmeeemaa
