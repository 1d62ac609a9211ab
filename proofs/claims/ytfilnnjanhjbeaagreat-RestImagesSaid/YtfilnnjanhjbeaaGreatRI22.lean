/- Texts of the proof of restImages_holds: InsD. Conditions: as each text says. -/
import Derived.Test.YtfilnnjanhjbeaaGreatRI3
import Derived.Lib.Overlaps
import Derived.Lib.SliceRun
import Derived.Lib.AppendZerosOnto
import Derived.Laws.IdiomCopy
import Derived.Laws.CopyRow
import Derived.Laws.Externs
import Derived.Deep.RegionLaw
import Derived.StillTailTactics
import Derived.Laws.NewBlocks
namespace Go.Proofs.YtfilnnjanhjbeaaGreat
open Go.RowKit Sl
theorem Tryz.infoSnapI : (Tryz.prog.info? 39).map (fun i => (i.zero, i.size, i.bytes)) = some (some (.agg #[.string { data := #[] }, .int .i64 0, .slice none 0 0]), 3, 48) := by kernel_rfl
theorem one_pvI (q : List PV) : ∀ u ∈ q.flatMap PV.cells, u.oneCell' = true := by
  intro u hu
  obtain ⟨x, _, hx⟩ := List.mem_flatMap.1 hu
  simp [PV.cells] at hx
  rcases hx with rfl | rfl | rfl <;> rfl
theorem heap_setCellsI {T : TypeId} (g : Nat) : ∀ (vs : List Value) (o : Nat) (w : World) (cur : Array Value), w.heap[g]? = some (.cells cur T (0, 0)) → o + vs.length ≤ cur.size →
    (w.setCells g o vs).heap[g]? = some (.cells (cur.toList.take o ++ vs ++ cur.toList.drop (o + vs.length)).toArray T (0, 0))
  | [], o, w, cur, h, _ => by simp [World.setCells, h]
  | v :: r, o, w, cur, h, hl => by
    have h1 := heap_setCell_same w g o cur T v h
    have ih := heap_setCellsI g r (o + 1) (w.setCell ⟨g, o, none⟩ v) (cur.setIfInBounds o v) h1 (by simp at hl ⊢; omega)
    rw [World.setCells, ih]
    have e := list_seg_step cur.toList o v r (by simp at hl ⊢; omega)
    congr 2
    simpa [Array.toList_setIfInBounds, Nat.add_assoc] using e
theorem grown_setCellsI (g : Nat) : ∀ (vs : List Value) (o : Nat) (w : World), w.grownBy (w.setCells g o vs) (some g)
  | [], _, w => World.grownBy.refl w _
  | v :: r, o, w => by
    rw [World.setCells]
    have h1 : w.grownBy (w.setCell ⟨g, o, none⟩ v) (some g) := ⟨rfl, rfl, rfl, by simp [World.setCell], fun j _ hk => heap_setCell_other w ⟨g, o, none⟩ j v (fun e => hk (by simp [e]))⟩
    exact h1.trans (grown_setCellsI g r (o + 1) _)
section
variable {P : Program}
theorem run_copyN (w : World) (dT sT ty elem : TypeId) (size b o dLen dCap : Nat) (a : Addr) (sLen sCap : Nat) (cs : List Value)
    (hu : P.underlying dT = some (.slice elem)) (hs : (P.info? elem).map (·.size) = some size) (hn : cs.length = Nat.min sLen dLen * size)
    (hsrc : ∀ j v, cs[j]? = some v → w.cell? (a.add j) = some v) (hc : ∀ j, j < cs.length → (w.cell? ⟨b, o + j, none⟩).isSome = true) (hf : ∀ j, j < cs.length → w.frozen? ⟨b, o + j, none⟩ = false) (h1 : ∀ v ∈ cs, v.oneCell' = true) :
    (Builtin.copy_ #[dT, sT] ty #[.slice (some ⟨b, o, none⟩) dLen dCap, .slice (some a) sLen sCap]).run P w = .ok (goInt (Nat.min sLen dLen)) (w.setCells b o cs) := by
  have hl := run_loadCells_list (P := P) w a cs hsrc
  have hst := run_storeCells_cells (P := P) b o cs 0 w (by simpa using hc) (by simpa using hf) h1
  cases hq : P.info? elem with
  | none => simp [hq] at hs
  | some i =>
    have hi : i.size = size := by simpa [hq] using hs
    rw [hn] at hl
    simp [Builtin.copy_, run_underlying hu, Builtin.lenOf, Builtin.firstCells, sizeOf, typeInfo, hq, hi, hl, hst]
theorem wpList_cpyI {w : World} {ops : Array Oper} {rest : List Oper} {o : Oper} {a : Act} {Q : Exit → Act → World → Prop} (hgd : o.guard = none) (s x : Operand) (t t2 ty : TypeId)
    (ho : o.op = .call { callee := .builtin .copy, args := #[s, x], argTypes := #[t, t2] }) (hty : o.type = ty) {v y v' : Value} {w' : World} (hs : a.eval s = v) (hx : a.eval x = y)
    (hrun : (Builtin.copy_ #[t, t2] ty #[v, y]).run P w = .ok v' w') (h : wpList P ops Q rest (a.put o.dst v') w') : wpList P ops Q (o :: rest) a w :=
  wpList_plain hgd fun _ hK => by
    subst hty
    unfold Oper.wp execOp
    simp only [ho, resolve, invoke, builtin, Sem.run_bind, Sem.run_pure, Result.andThen_ok, List.map_toArray, List.map_cons, List.map_nil, hs, hx, hrun]
    exact hK _ _ h
theorem step_cpyI {ops : Array Oper} {o : Oper} {a : Act} {w : World} {K : Act → World → Prop} {Q : Exit → Act → World → Prop} {E : Prop}
    (hg : o.guard = none) (d x : Operand) (dT sT : TypeId) (hop : o.op = Op.call { callee := Callee.builtin Builtin.copy, args := #[d, x], argTypes := #[dT, sT] })
    (v u : Value) (hd : a.eval d = v) (hx : a.eval x = u) {v' : Value} {w' : World} (hr : (Builtin.copy_ #[dT, sT] o.type #[v, u]).run P w = .ok v' w') (hK : K (a.put o.dst v') w') :
    if Region.wanted o (yielded ops a.tmps) = true then Oper.wp P o a w K Q else E := by
  have hw : Region.wanted o (yielded ops a.tmps) = true := by simp [Region.wanted, hg]
  rw [if_pos hw]
  unfold Oper.wp
  simp [execOp, hop, resolve, invoke, builtin, hd, hx, hr, Result.andThen]
  exact hK
end
theorem own_partsI {w : World} {base n c : Nat} {A : Option Addr} {xs : List Value} {T : TypeId} (h : w.ownsRow base T 3 (.slice A n c) n xs) (hn : 0 < n) :
    ∃ g cur, A = some ⟨g, 0, none⟩ ∧ base ≤ g ∧ w.heap[g]? = some (.cells cur T (0, 0)) ∧ n ≤ c ∧ c ≤ maxLen ∧ cur.size = c * 3 ∧ cur.toList.take (n * 3) = xs := by
  rcases h.2 with ⟨hv, h0⟩ | ⟨g, cap, cur, hv, h1, h2, h3, h4, h5, h6⟩
  · omega
  · simp only [Value.slice.injEq] at hv
    obtain ⟨rfl, _, rfl⟩ := hv
    exact ⟨g, cur, rfl, h1, h2, h3, h4, h5, h6⟩
theorem flat_takeI (p : List PV) (k : Nat) : (p.flatMap PV.cells).take (k * 3) = (p.take k).flatMap PV.cells := by
  induction p generalizing k with
  | nil => simp
  | cons a p ih =>
    cases k with
    | zero => simp
    | succ k =>
      rw [List.flatMap_cons, List.take_succ_cons, List.flatMap_cons, show (k + 1) * 3 = a.cells.length + k * 3 from by rw [PV.cells_len]; omega, List.take_length_add_append, ih]
theorem flat_dropI (p : List PV) (k : Nat) : (p.flatMap PV.cells).drop (k * 3) = (p.drop k).flatMap PV.cells := by
  induction p generalizing k with
  | nil => simp
  | cons a p ih =>
    cases k with
    | zero => simp
    | succ k =>
      rw [List.flatMap_cons, List.drop_succ_cons, show (k + 1) * 3 = a.cells.length + k * 3 from by rw [PV.cells_len]; omega, List.drop_length_add_append, ih]
theorem overI (w : World) (vb b o lb cb : Nat) (cells : Array Value) (cur : Array Value) (hvb : vb ≠ b) (hv : w.heap[vb]? = some (.cells cells 39 (0, 0))) (hb : w.heap[b]? = some (.cells cur 39 (0, 0))) (hk : cur.size ≠ 0) :
    (callFunc 68 #[.slice (some ⟨vb, 0, none⟩) 1 1, .slice (some ⟨b, o, none⟩) lb cb]).run Tryz.prog w = .ok (.value (.bool false)) w := by
  obtain ⟨ip0, hip, hpz0, hpz1, hpz2⟩ := info_parts Tryz.infoSnapI
  rw [run_callFunc_extern Tryz.func68 (by kernel_rfl) (by kernel_rfl) (by kernel_rfl) (e := Extern.SlicesOverlaps.overlaps #[24, 24] #[4]) (by kernel_rfl),
    Lib.run_overlaps_apart w 24 4 39 Tryz.underlying24 3 (fun W => by simp [sizeOf, typeInfo, hip, hpz1]) ⟨vb, 0, none⟩ ⟨b, o, none⟩ 1 1 lb cb hvb 39 39 cells.size cur.size (by simp [World.shape?, hv]) (by simp [World.shape?, hb]) hk (by simp [World.frozen?, hv]) (by simp [World.frozen?, hv])]
  rfl
end Go.Proofs.YtfilnnjanhjbeaaGreat
namespace Go.Proofs.YtfilnnjanhjbeaaGreat
open Go.RowKit Sl
theorem ins_cellsI (C : List Value) (p : List PV) (x : PV) (k n : Nat) (hp : p.length = n) (hk : k ≤ n) (hC : (n + 1) * 3 ≤ C.length) (ht : C.take (n * 3) = p.flatMap PV.cells) (C1 C2 : List Value)
    (h1 : C1 = C.take ((k + 1) * 3) ++ (p.drop k).flatMap PV.cells ++ C.drop ((k + 1) * 3 + ((p.drop k).flatMap PV.cells).length)) (h2 : C2 = C1.take (k * 3) ++ x.cells ++ C1.drop (k * 3 + x.cells.length)) :
    C1.length = C.length ∧ C2.length = C.length ∧ C2.take ((n + 1) * 3) = (p.take k ++ x :: p.drop k).flatMap PV.cells := by
  have hd : ((p.drop k).flatMap PV.cells).length = (n - k) * 3 := by rw [flat3_len _ PV.cells_len, List.length_drop, hp]
  have hx : x.cells.length = 3 := rfl
  have l1 : C1.length = C.length := by rw [h1]; simp only [List.length_append, List.length_take, List.length_drop, hd]; omega
  have l2 : C2.length = C.length := by rw [h2]; simp only [List.length_append, List.length_take, List.length_drop, hx]; omega
  refine ⟨l1, l2, ?_⟩
  have e1 : C1.take (k * 3) = (p.take k).flatMap PV.cells := by
    rw [h1, List.append_assoc, List.take_append_of_le_length (by rw [List.length_take]; omega), List.take_take, ← flat_takeI, ← ht, List.take_take]
    congr 1; omega
  have e2 : C1.drop (k * 3 + x.cells.length) = (p.drop k).flatMap PV.cells ++ C.drop ((k + 1) * 3 + ((p.drop k).flatMap PV.cells).length) := by
    have hl : (C.take ((k + 1) * 3)).length = k * 3 + x.cells.length := by rw [List.length_take, hx]; omega
    rw [h1, List.append_assoc, ← hl, List.drop_left]
  rw [h2, e1, e2, List.flatMap_append, List.flatMap_cons, ← List.append_assoc, ← List.append_assoc]
  rw [show (n + 1) * 3 = ((p.take k).flatMap PV.cells ++ x.cells ++ (p.drop k).flatMap PV.cells).length from by
    simp only [List.length_append, flat3_len _ PV.cells_len, List.length_take, List.length_drop, hp, hx]; omega]
  exact List.take_left
theorem grow_cellsI (C : List Value) (p : List PV) (x : PV) (k n : Nat) (hp : p.length = n) (hk : k ≤ n) (hC : (n + 1) * 3 ≤ C.length) (ht : C.take (k * 3) = (p.take k).flatMap PV.cells) (C1 C2 : List Value)
    (h1 : C1 = C.take (k * 3) ++ x.cells ++ C.drop (k * 3 + x.cells.length)) (h2 : C2 = C1.take ((k + 1) * 3) ++ (p.drop k).flatMap PV.cells ++ C1.drop ((k + 1) * 3 + ((p.drop k).flatMap PV.cells).length)) :
    C1.length = C.length ∧ C2.length = C.length ∧ C2.take ((n + 1) * 3) = (p.take k ++ x :: p.drop k).flatMap PV.cells := by
  have hd : ((p.drop k).flatMap PV.cells).length = (n - k) * 3 := by rw [flat3_len _ PV.cells_len, List.length_drop, hp]
  have hx : x.cells.length = 3 := rfl
  have l1 : C1.length = C.length := by rw [h1]; simp only [List.length_append, List.length_take, List.length_drop, hx]; omega
  have l2 : C2.length = C.length := by rw [h2]; simp only [List.length_append, List.length_take, List.length_drop, hd]; omega
  refine ⟨l1, l2, ?_⟩
  have e1 : C1.take ((k + 1) * 3) = (p.take k).flatMap PV.cells ++ x.cells := by
    rw [h1, ht]
    rw [show (k + 1) * 3 = ((p.take k).flatMap PV.cells ++ x.cells).length from by simp only [List.length_append, flat3_len _ PV.cells_len, List.length_take, hx]; omega]
    exact List.take_left
  rw [h2, e1, List.flatMap_append, List.flatMap_cons, ← List.append_assoc]
  rw [show (n + 1) * 3 = ((p.take k).flatMap PV.cells ++ x.cells ++ (p.drop k).flatMap PV.cells).length from by
    simp only [List.length_append, flat3_len _ PV.cells_len, List.length_take, List.length_drop, hp, hx]; omega]
  exact List.take_left
theorem cell_isI {w : World} {g j : Nat} {cur : Array Value} {T : TypeId} (hg : w.heap[g]? = some (.cells cur T (0, 0))) (hj : j < cur.size) : (w.cell? ⟨g, j, none⟩).isSome = true ∧ w.frozen? ⟨g, j, none⟩ = false :=
  ⟨by rw [cell_of_row _ _ _ _ _ _ hg, Array.getElem?_eq_getElem hj]; rfl, frozen_of_row _ _ _ _ _ hg⟩
def InsOut (base n : Nat) (A : Option Addr) (c : Nat) (p' : List PV) (w : World) (e : Ending) (w' : World) : Prop :=
  ∃ A' c', e = .returned (.slice A' (n + 1) c') ∧ w'.ownsRow base 39 3 (.slice A' (n + 1) c') (n + 1) (p'.flatMap PV.cells) ∧ w.grownBy w' (Value.slice A n c).ownBlock ∧ n + 1 ≤ c' ∧ c' ≤ maxLen
set_option maxRecDepth 100000 in
set_option maxHeartbeats 1000000 in
theorem insert_end (base n c vb : Nat) (A : Option Addr) (p : List PV) (x : PV) (w : World) (ho : w.ownsRow base 39 3 (.slice A n c) n (p.flatMap PV.cells)) (hn : n ≤ 1000) (hnc : n ≤ c) (hb : base ≤ w.heap.size)
    (hv : w.heap[vb]? = some (.cells x.cells.toArray 39 (0, 0))) :
    Calls Tryz.prog 32 #[.slice A n c, .int .i64 (n : Nat), .slice (some ⟨vb, 0, none⟩) 1 1] w (InsOut base n A c (p ++ [x]) w) := by
  obtain ⟨ip0, hip, hpz0, hpz1, hpz2⟩ := info_parts Tryz.infoSnapI
  have hr : Rd w w.heap.size 3 (some ⟨vb, 0, none⟩) 1 x.cells := Rd.of_block hv (Array.getElem?_eq_some_iff.1 hv).1 rfl rfl
  obtain ⟨A', c', w', q1, q2, q3, q4, q5, q6, q7⟩ := run_app (P := Tryz.prog) w base 24 24 39 ip0 _ 3 48 Tryz.underlying24 hip hpz0 hpz1 hpz2 rfl (by omega) _ _ _ ho w.heap.size (some ⟨vb, 0, none⟩) 1 1 x.cells hr
    (fun u hu => one_pvI [x] u (by simpa using hu)) (by omega) (by unfold maxLen; omega) hb
  have HR := Lib.hid q1
  have hcm : n ≤ 1000 := hn
  clear q1 hr
  go_enter Tryz.func32, Tryz.ntmps32
  by_cases hcn : c = n
  · subst hcn
    go_wp2_with (at_builtin; refine wpList_app rfl _ _ _ _ rfl rfl rfl rfl HR.out ?_)
    go_ret
    exact ⟨A', c', rfl, by rw [List.flatMap_append, show [x].flatMap PV.cells = x.cells from by simp]; exact q2, q6, q4, q5⟩
  · go_wp2_with (at_builtin; refine wpList_app rfl _ _ _ _ rfl rfl rfl rfl HR.out ?_)
    go_ret
    exact ⟨A', c', rfl, by rw [List.flatMap_append, show [x].flatMap PV.cells = x.cells from by simp]; exact q2, q6, q4, q5⟩
set_option maxRecDepth 100000 in
set_option maxHeartbeats 2000000 in
theorem insert_room (base n c k vb g : Nat) (p : List PV) (x : PV) (w : World) (cur : Array Value) (hbg : base ≤ g) (hg : w.heap[g]? = some (.cells cur 39 (0, 0))) (hcs : cur.size = c * 3) (hcm : c ≤ maxLen) (ht : cur.toList.take (n * 3) = p.flatMap PV.cells)
    (hp : p.length = n) (hn : n ≤ 1000) (hk : k < n) (hroom : n + 1 ≤ c) (hv : w.heap[vb]? = some (.cells x.cells.toArray 39 (0, 0))) (hne : vb ≠ g) :
    Calls Tryz.prog 32 #[.slice (some ⟨g, 0, none⟩) n c, .int .i64 (k : Nat), .slice (some ⟨vb, 0, none⟩) 1 1] w (InsOut base n (some ⟨g, 0, none⟩) c (p.take k ++ x :: p.drop k) w) := by
  obtain ⟨ip0, hip, hpz0, hpz1, hpz2⟩ := info_parts Tryz.infoSnapI
  have hsz : (Tryz.prog.info? 39).map (·.size) = some 3 := by rw [hip]; simp [hpz1]
  have hd : ((p.drop k).flatMap PV.cells).length = (n - k) * 3 := by rw [flat3_len _ PV.cells_len, List.length_drop, hp]
  have hcl : cur.toList.length = c * 3 := by rw [Array.length_toList, hcs]
  have hov : ∀ o lb cb, (callFunc 68 #[.slice (some ⟨vb, 0, none⟩) 1 1, .slice (some ⟨g, o, none⟩) lb cb]).run Tryz.prog w = .ok (.value (.bool false)) w := fun o lb cb => overI w vb g o lb cb _ cur hne hv hg (by omega)
  have hcp1 : ∀ ty dc sc, (Builtin.copy_ #[24, 24] ty #[.slice (some ⟨g, (k + 1) * 3, none⟩) (n - k) dc, .slice (some ⟨g, k * 3, none⟩) (n + 1 - k) sc]).run Tryz.prog w.drew = .ok (goInt (Nat.min (n + 1 - k) (n - k))) (w.drew.setCells g ((k + 1) * 3) ((p.drop k).flatMap PV.cells)) := fun ty dc sc =>
    run_copyN w.drew _ _ ty 39 3 g ((k + 1) * 3) _ dc ⟨g, k * 3, none⟩ _ sc _ Tryz.underlying24 hsz (by rw [hd]; simp only [Nat.min_def]; split <;> omega)
      (fun j v hj => by
        rw [Addr.add_lit, show w.drew.cell? ⟨g, k * 3 + j, none⟩ = w.cell? ⟨g, k * 3 + j, none⟩ from rfl, cell_of_row _ _ _ _ _ _ hg, ← Array.getElem?_toList]
        have hj' : ((p.flatMap PV.cells).drop (k * 3))[j]? = some v := by rw [flat_dropI]; exact hj
        rw [← ht, List.getElem?_drop, List.getElem?_take] at hj'
        split at hj'
        · exact hj'
        · cases hj')
      (fun j hj => (cell_isI (w := w) hg (by rw [hcs]; omega)).1) (fun j hj => (cell_isI (w := w) hg (by rw [hcs]; omega)).2) (one_pvI _)
  have hg1 := heap_setCellsI g ((p.drop k).flatMap PV.cells) ((k + 1) * 3) w.drew cur hg (by rw [hd, hcs]; omega)
  have hgr1 := grown_setCellsI g ((p.drop k).flatMap PV.cells) ((k + 1) * 3) w.drew
  have hv1 : (w.drew.setCells g ((k + 1) * 3) ((p.drop k).flatMap PV.cells)).heap[vb]? = some (.cells x.cells.toArray 39 (0, 0)) := (hgr1.block vb (Array.getElem?_eq_some_iff.1 hv).1 (by simpa using hne)).trans hv
  generalize hW1 : w.drew.setCells g ((k + 1) * 3) ((p.drop k).flatMap PV.cells) = W1 at *
  obtain ⟨C1, hC1⟩ : ∃ C1, C1 = cur.toList.take ((k + 1) * 3) ++ (p.drop k).flatMap PV.cells ++ cur.toList.drop ((k + 1) * 3 + ((p.drop k).flatMap PV.cells).length) := ⟨_, rfl⟩
  obtain ⟨C2, hC2⟩ : ∃ C2, C2 = C1.take (k * 3) ++ x.cells ++ C1.drop (k * 3 + x.cells.length) := ⟨_, rfl⟩
  obtain ⟨l1, l2, l3⟩ := ins_cellsI cur.toList p x k n hp (by omega) (by rw [hcl]; omega) ht C1 C2 hC1 hC2
  rw [← hC1] at hg1
  have hcp2 : ∀ ty dc, (Builtin.copy_ #[24, 24] ty #[.slice (some ⟨g, k * 3, none⟩) (n + 1 - k) dc, .slice (some ⟨vb, 0, none⟩) 1 1]).run Tryz.prog W1 = .ok (goInt (Nat.min 1 (n + 1 - k))) (W1.setCells g (k * 3) x.cells) := fun ty dc =>
    run_copyN W1 _ _ ty 39 3 g (k * 3) _ dc ⟨vb, 0, none⟩ 1 1 x.cells Tryz.underlying24 hsz (by rw [PV.cells_len]; simp only [Nat.min_def]; split <;> omega)
      (fun j v hj => by rw [Addr.add_lit, Nat.zero_add, cell_of_row _ _ _ _ _ _ hv1, List.getElem?_toArray]; exact hj)
      (fun j hj => (cell_isI hg1 (by rw [List.size_toArray, l1, hcl]; rw [PV.cells_len] at hj; omega)).1) (fun j hj => (cell_isI hg1 (by rw [List.size_toArray, l1, hcl]; rw [PV.cells_len] at hj; omega)).2) (fun u hu => one_pvI [x] u (by simpa using hu))
  have hg2 := heap_setCellsI g x.cells (k * 3) W1 C1.toArray hg1 (by rw [List.size_toArray, l1, hcl, PV.cells_len]; omega)
  have hgr2 := grown_setCellsI g x.cells (k * 3) W1
  dsimp only at hg2
  rw [← hC2] at hg2
  have hgr : w.grownBy (W1.setCells g (k * 3) x.cells) (some g) := World.grownBy.trans (show w.grownBy W1 (some g) from ⟨hgr1.os, hgr1.tape, hgr1.output, hgr1.size, hgr1.block⟩) hgr2
  generalize W1.setCells g (k * 3) x.cells = W2 at *
  have HO := Lib.hid (show InsOut base n (some ⟨g, 0, none⟩) c (p.take k ++ x :: p.drop k) w (.returned (.slice (some ⟨g, 0, none⟩) (n + 1) c)) W2 from
    ⟨some ⟨g, 0, none⟩, c, rfl, ⟨by rw [flat3_len _ PV.cells_len]; simp; omega, .inr ⟨g, c, C2.toArray, rfl, hbg, hg2, hroom, hcm, by rw [List.size_toArray, l2, hcl], l3⟩⟩, hgr, hroom, hcm⟩)
  have hc63 : c ≤ 9223372036854775807 := by unfold maxLen at hcm; exact hcm
  have hw1 : IntKind.i64.wrap ((k : Int) + 1) = (k : Int) + 1 := by rw [IntKind.wrap_i64]; omega
  have hb1 : (0 : Int) ≤ (k : Int) + 1 := by omega
  have hin : k ≤ n := by omega
  have htn : ((k : Int) + 1).toNat = k + 1 := by omega
  have hb2 : ¬ (c = k + 1) := by omega
  have hb3 : (k : Int) ≤ (n : Int) := by omega
  have hb4 : ¬ (c = k) := by omega
  have hb5 : (k : Int) ≤ (n : Int) + 1 := by omega
  have hkn : ¬ ((k : Int) = (n : Int)) := by omega
  clear hg hg1 hg2 hv hv1 hgr1 hgr2 hgr l1 l2 l3 hC1 hC2 ht hd hcl hbg hW1 hne hcm hcs
  go_enter Tryz.func32, Tryz.ntmps32
  go_wp2_with (simp only [hov])
  go_region_law (refine step_cpyI rfl _ _ 24 24 rfl _ _ (by simp [Act.eval, Act.put]) (by simp [Act.eval, Act.put]) (hcp1 _ _ _) ?_)
  go_wp2_with (at_builtin; refine wpList_cpyI rfl _ _ 24 24 _ rfl rfl rfl rfl (hcp2 _ _) ?_)
  go_ret
  exact HO.out
end Go.Proofs.YtfilnnjanhjbeaaGreat
namespace Go.Proofs.YtfilnnjanhjbeaaGreat
open Go.RowKit Sl
theorem wpList_app2 {P : Program} {w : World} {ops : Array Oper} {rest : List Oper} {o : Oper} {a : Act} {Q : Exit → Act → World → Prop} (hgd : o.guard = none) (s x : Operand) (t t2 ty : TypeId)
    (ho : o.op = .call { callee := .builtin .append, args := #[s, x], argTypes := #[t, t2] }) (hty : o.type = ty) {v y v' : Value} {w' : World} (hs : a.eval s = v) (hx : a.eval x = y)
    (hrun : (Builtin.append_ #[t, t2] ty #[v, y]).run P w = .ok v' w') (h : wpList P ops Q rest (a.put o.dst v') w') : wpList P ops Q (o :: rest) a w :=
  wpList_plain hgd fun _ hK => by
    subst hty
    unfold Oper.wp execOp
    simp only [ho, resolve, invoke, builtin, Sem.run_bind, Sem.run_pure, Result.andThen_ok, List.map_toArray, List.map_cons, List.map_nil, hs, hx, hrun]
    exact hK _ _ h
theorem zeroSnap_size (m : Nat) : (Builtin.zeroCells (Value.agg #[.string { data := #[] }, .int .i64 0, .slice none 0 0]).cells m).size = m * 3 := by
  rw [size_zeroCells]
  rfl
theorem grow_out {w W0 : World} {base n c k G : Nat} {A : Option Addr} {p : List PV} {x : PV} {cur : Array Value} (hb : base ≤ w.heap.size) (h0 : W0.heap[w.heap.size]? = some (.cells cur 39 (0, 0))) (hgr : w.grownBy W0 none) (hcs : cur.size = G * 3) (hG : n + 1 ≤ G) (hGm : G ≤ maxLen)
    (hp : p.length = n) (hk : k ≤ n) (ht : cur.toList.take (k * 3) = (p.take k).flatMap PV.cells) :
    InsOut base n A c (p.take k ++ x :: p.drop k) w (.returned (.slice (some ⟨w.heap.size, 0, none⟩) (n + 1) G)) (((W0.setCells w.heap.size (k * 3) x.cells).drew).setCells w.heap.size ((k + 1) * 3) ((p.drop k).flatMap PV.cells)) := by
  have hcl : cur.toList.length = G * 3 := by rw [Array.length_toList, hcs]
  obtain ⟨C1, hC1⟩ : ∃ C1, C1 = cur.toList.take (k * 3) ++ x.cells ++ cur.toList.drop (k * 3 + x.cells.length) := ⟨_, rfl⟩
  obtain ⟨C2, hC2⟩ : ∃ C2, C2 = C1.take ((k + 1) * 3) ++ (p.drop k).flatMap PV.cells ++ C1.drop ((k + 1) * 3 + ((p.drop k).flatMap PV.cells).length) := ⟨_, rfl⟩
  obtain ⟨l1, l2, l3⟩ := grow_cellsI cur.toList p x k n hp hk (by rw [hcl]; omega) ht C1 C2 hC1 hC2
  have hd : ((p.drop k).flatMap PV.cells).length = (n - k) * 3 := by rw [flat3_len _ PV.cells_len, List.length_drop, hp]
  have hg1 := heap_setCellsI w.heap.size x.cells (k * 3) W0 cur h0 (by rw [PV.cells_len, hcs]; omega)
  have hgr1 := grown_setCellsI w.heap.size x.cells (k * 3) W0
  rw [← hC1] at hg1
  generalize W0.setCells w.heap.size (k * 3) x.cells = W1 at *
  have hg2 := heap_setCellsI w.heap.size ((p.drop k).flatMap PV.cells) ((k + 1) * 3) W1.drew C1.toArray hg1 (by rw [List.size_toArray, l1, hcl, hd]; omega)
  have hgr2 := grown_setCellsI w.heap.size ((p.drop k).flatMap PV.cells) ((k + 1) * 3) W1.drew
  dsimp only at hg2
  rw [← hC2] at hg2
  generalize W1.drew.setCells w.heap.size ((k + 1) * 3) ((p.drop k).flatMap PV.cells) = W2 at *
  refine ⟨some ⟨w.heap.size, 0, none⟩, G, rfl, ⟨by rw [flat3_len _ PV.cells_len]; simp; omega, .inr ⟨w.heap.size, G, C2.toArray, rfl, hb, hg2, hG, hGm, by rw [List.size_toArray, l2, hcl], l3⟩⟩, ?_, hG, hGm⟩
  have s1 : w.grownBy W1 none := ⟨hgr1.os.trans hgr.os, hgr1.tape.trans hgr.tape, hgr1.output.trans hgr.output, Nat.le_trans hgr.size hgr1.size, fun j hj hn => (hgr1.block j (Nat.lt_of_lt_of_le hj hgr.size) (by simp; omega)).trans (hgr.block j hj hn)⟩
  exact ⟨hgr2.os.trans s1.os, hgr2.tape.trans s1.tape, hgr2.output.trans s1.output, Nat.le_trans s1.size hgr2.size, fun j hj hn => (hgr2.block j (Nat.lt_of_lt_of_le hj s1.size) (by simp; omega)).trans (s1.block j hj (by simp))⟩
set_option maxRecDepth 100000 in
set_option maxHeartbeats 2000000 in
theorem insert_grow (base n c k vb g : Nat) (p : List PV) (x : PV) (w : World) (cur : Array Value) (hb : base ≤ w.heap.size) (hg : w.heap[g]? = some (.cells cur 39 (0, 0))) (hnc : n ≤ c) (ht : cur.toList.take (n * 3) = p.flatMap PV.cells)
    (hp : p.length = n) (hn : n ≤ 1000) (hk : k < n) (hroom : c < n + 1) (hv : w.heap[vb]? = some (.cells x.cells.toArray 39 (0, 0))) :
    Calls Tryz.prog 32 #[.slice (some ⟨g, 0, none⟩) n c, .int .i64 (k : Nat), .slice (some ⟨vb, 0, none⟩) 1 1] w (InsOut base n (some ⟨g, 0, none⟩) c (p.take k ++ x :: p.drop k) w) := by
  obtain ⟨ip0, hip, hpz0, hpz1, hpz2⟩ := info_parts Tryz.infoSnapI
  have hsz : (Tryz.prog.info? 39).map (·.size) = some 3 := by rw [hip]; simp [hpz1]
  have hd : ((p.drop k).flatMap PV.cells).length = (n - k) * 3 := by rw [flat3_len _ PV.cells_len, List.length_drop, hp]
  have hgw := (Array.getElem?_eq_some_iff.1 hg).1
  have hvw := (Array.getElem?_eq_some_iff.1 hv).1
  have hcell : ∀ j v, (p.flatMap PV.cells)[j]? = some v → w.cell? ⟨g, j, none⟩ = some v := fun j v hj => by
    rw [cell_of_row _ _ _ _ _ _ hg, ← Array.getElem?_toList]
    rw [← ht, List.getElem?_take] at hj
    split at hj
    · exact hj
    · cases hj
  have hold : (Builtin.firstCells ip0.size k (.slice (some ⟨g, 0, none⟩) k c)).run Tryz.prog w.drew = .ok ((p.take k).flatMap PV.cells).toArray w.drew := by
    rw [hpz1]
    exact run_firstCells_some w.drew 3 k ⟨g, 0, none⟩ k c ((p.take k).flatMap PV.cells) (by rw [flat3_len _ PV.cells_len, List.length_take]; omega) (fun j v hj => by
      rw [Addr.add_lit, Nat.zero_add]
      refine hcell j v ?_
      rw [← flat_takeI, List.getElem?_take] at hj
      split at hj
      · exact hj
      · cases hj)
  have hik : k + (n + 1 - k) = n + 1 := by omega
  have hkk : (n : Int) + 1 - (k : Int) = ((n + 1 - k : Nat) : Int) := by omega
  obtain ⟨ROW, hROW⟩ : ∃ ROW : Array Value, ROW = ((p.take k).flatMap PV.cells).toArray ++ Builtin.zeroCells (Value.agg #[.string { data := #[] }, .int .i64 0, .slice none 0 0]).cells (n + 1 - k) ++ Builtin.zeroCells (Value.agg #[.string { data := #[] }, .int .i64 0, .slice none 0 0]).cells (grownCap w (n + 1) c 39 - (n + 1)) := ⟨_, rfl⟩
  have hrz : ∀ ty, (Builtin.append_ #[24, 3] ty #[.slice (some ⟨g, 0, none⟩) k c, .int .i64 ((n : Int) + 1 - (k : Int))]).run Tryz.prog w =
      .ok (.slice (some ⟨w.heap.size, 0, none⟩) (n + 1) (grownCap w (n + 1) c 39)) (w.drew.alloc (.cells ROW 39)) := fun ty => by
    have h := Lib.run_append_grow_zeros (P := Tryz.prog) w 24 3 ty 39 ip0 _ .i64 _ Tryz.underlying24 Tryz.underlying3 hip hpz0 (some ⟨g, 0, none⟩) k c ((p.take k).flatMap PV.cells) hold (n + 1 - k) (by omega) (by rw [hpz1]; omega) (by omega) (by omega) (by rw [hpz2]; omega) (by
      rw [hpz2, hik]; exact growslice_fits hroom (by omega))
    rw [hik] at h
    rw [hkk, hROW]
    exact h
  have hGn : n + 1 ≤ grownCap w (n + 1) c 39 := grownCap_ge w _ _ _
  have hGm : grownCap w (n + 1) c 39 ≤ maxLen := grownCap_le_maxLen w (n + 1) c 39 (by unfold maxLen; omega)
  generalize grownCap w (n + 1) c 39 = G at *
  have htl : ((p.take k).flatMap PV.cells).length = k * 3 := by rw [flat3_len _ PV.cells_len, List.length_take]; omega
  have hRs : ROW.size = G * 3 := by
    rw [hROW, Array.size_append, Array.size_append, List.size_toArray, zeroSnap_size, zeroSnap_size, htl]; omega
  have hRt : ROW.toList.take (k * 3) = (p.take k).flatMap PV.cells := by
    rw [hROW, Array.toList_append, Array.toList_append, List.append_assoc, ← htl]
    exact List.take_left
  clear hROW
  obtain ⟨W1, hW1⟩ : ∃ W1, W1 = w.drew.alloc (.cells ROW 39) := ⟨_, rfl⟩
  have hN0 : W1.heap[w.heap.size]? = some (.cells ROW 39 (0, 0)) := by rw [hW1]; exact heap_alloc_new w.drew _
  have hO : ∀ b j, b < w.heap.size → W1.cell? ⟨b, j, none⟩ = w.cell? ⟨b, j, none⟩ := fun b j hbl => by rw [hW1]; exact World.cell?_alloc_past (w := w.drew) _ b j hbl
  have hcpA : ∀ (W : World), (∀ x, W.cell? x = W1.cell? x) → (∀ x, W.frozen? x = W1.frozen? x) → ∀ ty dc, (Builtin.copy_ #[24, 24] ty #[.slice (some ⟨w.heap.size, k * 3, none⟩) (n + 1 - k) dc, .slice (some ⟨vb, 0, none⟩) 1 1]).run Tryz.prog W = .ok (goInt (Nat.min 1 (n + 1 - k))) (W.setCells w.heap.size (k * 3) x.cells) := fun W hWc hWf ty dc =>
    run_copyN W _ _ ty 39 3 w.heap.size (k * 3) _ dc ⟨vb, 0, none⟩ 1 1 x.cells Tryz.underlying24 hsz (by rw [PV.cells_len]; simp only [Nat.min_def]; split <;> omega)
      (fun j v hj => by rw [Addr.add_lit, Nat.zero_add, hWc, hO vb j hvw, cell_of_row _ _ _ _ _ _ hv, List.getElem?_toArray]; exact hj)
      (fun j hj => by rw [hWc]; exact (cell_isI hN0 (by rw [hRs]; rw [PV.cells_len] at hj; omega)).1) (fun j hj => by rw [hWf]; exact (cell_isI hN0 (by rw [hRs]; rw [PV.cells_len] at hj; omega)).2) (fun u hu => one_pvI [x] u (by simpa using hu))
  have hg1 := heap_setCellsI w.heap.size x.cells (k * 3) W1 ROW hN0 (by rw [PV.cells_len, hRs]; omega)
  obtain ⟨C1, hC1⟩ : ∃ C1, C1 = ROW.toList.take (k * 3) ++ x.cells ++ ROW.toList.drop (k * 3 + x.cells.length) := ⟨_, rfl⟩
  rw [← hC1] at hg1
  have l1 : C1.length = G * 3 := by rw [hC1]; simp only [List.length_append, List.length_take, List.length_drop, PV.cells_len, Array.length_toList, hRs]; omega
  have hcpB : ∀ (W : World), (∀ y, W.cell? y = (W1.setCells w.heap.size (k * 3) x.cells).cell? y) → (∀ y, W.frozen? y = (W1.setCells w.heap.size (k * 3) x.cells).frozen? y) → ∀ ty dc sc, (Builtin.copy_ #[24, 24] ty #[.slice (some ⟨w.heap.size, (k + 1) * 3, none⟩) (n - k) dc, .slice (some ⟨g, k * 3, none⟩) (n - k) sc]).run Tryz.prog W = .ok (goInt (Nat.min (n - k) (n - k))) (W.setCells w.heap.size ((k + 1) * 3) ((p.drop k).flatMap PV.cells)) := fun W hWc hWf ty dc sc =>
    run_copyN W _ _ ty 39 3 w.heap.size ((k + 1) * 3) _ dc ⟨g, k * 3, none⟩ _ sc _ Tryz.underlying24 hsz (by rw [hd]; simp only [Nat.min_def]; split <;> omega)
      (fun j v hj => by
        rw [Addr.add_lit, hWc, World.cell?_setCells_out _ _ _ _ _ (fun h _ => absurd h (by simp; omega)), hO g _ hgw]
        refine hcell _ v ?_
        rw [← flat_dropI, List.getElem?_drop] at hj
        exact hj)
      (fun j hj => by rw [hWc]; exact (cell_isI hg1 (by rw [List.size_toArray, l1]; rw [hd] at hj; omega)).1) (fun j hj => by rw [hWf]; exact (cell_isI hg1 (by rw [List.size_toArray, l1]; rw [hd] at hj; omega)).2) (one_pvI _)
  subst hW1
  have hE1 : ∀ y, ((w.alloc (.cells ROW 39)).drew).cell? y = (w.drew.alloc (.cells ROW 39)).cell? y := fun y => rfl
  have hE2 : ∀ y, ((w.alloc (.cells ROW 39)).drew).frozen? y = (w.drew.alloc (.cells ROW 39)).frozen? y := fun y => rfl
  have hF1 : ∀ y, (((w.alloc (.cells ROW 39)).drew.setCells w.heap.size (k * 3) x.cells).drew).cell? y = ((w.drew.alloc (.cells ROW 39)).setCells w.heap.size (k * 3) x.cells).cell? y := fun y => rfl
  have hF2 : ∀ y, (((w.alloc (.cells ROW 39)).drew.setCells w.heap.size (k * 3) x.cells).drew).frozen? y = ((w.drew.alloc (.cells ROW 39)).setCells w.heap.size (k * 3) x.cells).frozen? y := fun y => rfl
  have HO := Lib.hid (grow_out (base := base) (A := some ⟨g, 0, none⟩) (c := c) (x := x) (W0 := (w.alloc (.cells ROW 39)).drew) (k := k) (p := p) hb (heap_alloc_new w _) ⟨rfl, rfl, rfl, by simp [World.size_alloc], fun j hj _ => heap_alloc_old w _ hj⟩ hRs hGn hGm hp (by omega) hRt)
  have hG63 : G ≤ 9223372036854775807 := by unfold maxLen at hGm; exact hGm
  have hw1 : IntKind.i64.wrap ((k : Int) + 1) = (k : Int) + 1 := by rw [IntKind.wrap_i64]; omega
  have hb1 : (0 : Int) ≤ (k : Int) + 1 := by omega
  have hin : k ≤ n := by omega
  have htn : ((k : Int) + 1).toNat = k + 1 := by omega
  have hb2 : ¬ (G = k + 1) := by omega
  have hb3 : (k : Int) ≤ (n : Int) := by omega
  have hb4 : ¬ (G = k) := by omega
  have hb5 : (k : Int) ≤ (n : Int) + 1 := by omega
  have hb6 : ¬ (c = k) := by omega
  have hb7 : (c : Int) < (n : Int) + 1 := by omega
  have hb8 : (k : Int) ≤ (c : Int) := by omega
  have hkn : ¬ ((k : Int) = (n : Int)) := by omega
  clear hg hg1 hv hN0 hO hC1 l1 hRs hRt ht hd hcell hold hik hkk htl hGm hgw hvw
  go_enter Tryz.func32, Tryz.ntmps32
  go_wp2_with (first
    | (at_builtin; refine wpList_app2 rfl _ _ _ _ _ rfl rfl rfl rfl (hrz _) ?_)
    | (at_builtin; refine wpList_cpyI rfl _ _ 24 24 _ rfl rfl rfl rfl (hcpA _ hE1 hE2 _ _) ?_))
  go_region_law (refine step_cpyI rfl _ _ 24 24 rfl (.slice (some ⟨w.heap.size, (k + 1) * 3, none⟩) (n - k) (G - (k + 1))) (.slice (some ⟨g, k * 3, none⟩) (n - k) (c - k)) (by simp [Act.eval, Act.put]) (by simp [Act.eval, Act.put]) (hcpB _ hF1 hF2 _ _ _) ?_)
  go_wp2_with fail
  go_ret
  exact HO.out
theorem insert_any (base n c k vb : Nat) (A : Option Addr) (p : List PV) (x : PV) (w : World) (ho : w.ownsRow base 39 3 (.slice A n c) n (p.flatMap PV.cells)) (hk : k ≤ n) (hn : n ≤ 1000) (hnc : n ≤ c) (hb : base ≤ w.heap.size)
    (hv : w.heap[vb]? = some (.cells x.cells.toArray 39 (0, 0))) (hne : (Value.slice A n c).ownBlock ≠ some vb) :
    Calls Tryz.prog 32 #[.slice A n c, .int .i64 (k : Nat), .slice (some ⟨vb, 0, none⟩) 1 1] w (InsOut base n A c (p.take k ++ x :: p.drop k) w) := by
  have hp : p.length = n := by have := ho.1; rw [flat3_len _ PV.cells_len] at this; omega
  by_cases hkn : k = n
  · subst hkn
    have e : p.take k ++ x :: p.drop k = p ++ [x] := by rw [List.take_of_length_le (by omega), List.drop_of_length_le (by omega)]
    rw [e]
    exact insert_end base k c vb A p x w ho hn hnc hb hv
  · obtain ⟨g, cur, rfl, h1, h2, h3, h4, h5, h6⟩ := own_partsI ho (by omega)
    by_cases hroom : n + 1 ≤ c
    · exact insert_room base n c k vb g p x w cur h1 h2 h5 h4 h6 hp hn (by omega) hroom hv (fun e => hne (by simp [Value.ownBlock, e]))
    · exact insert_grow base n c k vb g p x w cur hb h2 hnc h6 hp hn (by omega) (by omega) hv
end Go.Proofs.YtfilnnjanhjbeaaGreat
