/- The reference's ResizeOf. Conditions: the image is read below the heap's size. (Printed by gen_rresizes.py.) -/
import Derived.Test.YtpboapeoejdipaaRPut
import Derived.Test.YtpboapeoejdipaaRegZ
namespace Go.Proofs.Ytpboapeoejdipaa
open Go.RowKit Sl
/-- append(x, 0) at a row of the call's own. -/
theorem run_app0 (T : Nat → Prop) (w : World) (base : Nat) (A : Option Addr) (n c : Nat) (xs : List Int) (h : (n = 0 ∧ xs = [] ∧ c = 0) ∨ (w.ownsRow base 3 1 (.slice A n c) n (ints xs) ∧ ∀ b, (Value.slice A n c).ownBlock = some b → T b)) (hn : n ≤ 1000000) (hb : base ≤ w.heap.size) :
    ∃ g c' w' row, (Builtin.append_ #[22, 22] 22 #[.slice A n c, .slice (some ⟨w.heap.size, 0, none⟩) 1 1]).run Try.prog (w.alloc (.cells #[.int .i64 0] 3)) = .ok (.slice (some ⟨g, 0, none⟩) (n + 1) c') w' ∧
      w'.ownsRow base 3 1 (.slice (some ⟨g, 0, none⟩) (n + 1) c') (n + 1) (ints (xs ++ [0])) ∧ n + 1 ≤ c' ∧ c' ≤ maxLen ∧ (w.alloc (.cells #[.int .i64 0] 3)).grownBy w' row ∧ (∀ b, row = some b → base ≤ b ∧ TypeB w b 3 ∧ T b) ∧ (w.heap.size + 1 ≤ g ∨ (g < w.heap.size ∧ T g)) := by
  obtain ⟨i0, hi0, hz0, hz1, hz2⟩ := info_parts Try.infoInt
  have hb1 : (n + 1) * 8 ≤ 140737488355328 := by omega
  have hm1 : n + 1 ≤ maxLen := by unfold maxLen; omega
  have hs1 : (w.alloc (.cells #[.int .i64 0] 3)).heap.size = w.heap.size + 1 := World.size_alloc _ _
  have e0 : ints (xs ++ [0]) = ints xs ++ #[Value.int .i64 0].toList := by simp [ints]
  have blk : ∀ {v' : Value} {w' : World}, w'.ownsRow base 3 1 v' (n + 1) (ints xs ++ #[Value.int .i64 0].toList) → ∃ g c', v' = .slice (some ⟨g, 0, none⟩) (n + 1) c' ∧ n + 1 ≤ c' ∧ c' ≤ maxLen := fun ho => by
    rcases ho.2 with ⟨_, h0⟩ | ⟨g, cap, cur, hv, _, _, h1, h2, _⟩
    · omega
    · exact ⟨g, cap, hv, h1, h2⟩
  rcases h with ⟨rfl, rfl, rfl⟩ | ⟨h, hT⟩
  · cases A with
    | none =>
      obtain ⟨A', c', w', q1, q2, q3, q4, q5, q6, q7⟩ := app_one (P := Try.prog) w base 22 22 3 i0 _ 1 8 Try.underlying22 hi0 hz0 hz1 hz2 rfl (by omega) (.slice none 0 0) 0 [] (World.ownsRow_nil _ _ _ _) #[.int .i64 0] rfl (by intro u hu; simp at hu; subst hu; rfl) hb1 hm1 hb
      obtain ⟨g, c2, hv, h1, h2⟩ := blk q2
      simp only [Value.slice.injEq] at hv
      obtain ⟨rfl, _, rfl⟩ := hv
      refine ⟨g, c', w', _, q1, by rw [e0]; exact q2, q4, q5, q6, (fun b e => by cases e), .inl ?_⟩
      rcases q7 with e | e
      · cases e
      · injection e with e; exact Nat.le_of_eq e.symm
    | some b =>
      obtain ⟨v', w', q1, q2, q3⟩ := run_append_arg_grows (P := Try.prog) (w := w.alloc (.cells #[.int .i64 0] 3)) 22 22 3 i0 _ 1 8 Try.underlying22 hi0 hz0 hz1 hz2 rfl (by omega) b 0 0 [] rfl (fun j u e => by simp at e) ⟨w.heap.size, 0, none⟩ 1 1 #[Value.int .i64 0].toList rfl (fun j u e => by
        have hc := cell_of_row (w.alloc (.cells #[.int .i64 0] 3)) w.heap.size j _ _ _ (heap_alloc_new w _)
        rw [Addr.add_lit, Nat.zero_add, hc, ← Array.getElem?_toList]; exact e) (by omega) (by unfold maxLen; omega) (by omega)
      have q2' : w'.ownsRow base 3 1 v' (0 + 1) ([] ++ #[Value.int .i64 0].toList) := ⟨q2.1, q2.2.imp id fun ⟨g, cap, cur, h1, h2, h3⟩ => ⟨g, cap, cur, h1, by omega, h3⟩⟩
      obtain ⟨g, c2, rfl, h1, h2⟩ := blk q2'
      refine ⟨g, c2, w', _, q1, by rw [e0]; exact q2', h1, h2, q3, (fun b e => by cases e), .inl ?_⟩
      have := (q2.lt g rfl).1
      omega
  · obtain ⟨A', c', w', q1, q2, q3, q4, q5, q6, q7⟩ := app_one (P := Try.prog) w base 22 22 3 i0 _ 1 8 Try.underlying22 hi0 hz0 hz1 hz2 rfl (by omega) (.slice A n c) n (ints xs) h #[.int .i64 0] rfl (by intro u hu; simp at hu; subst hu; rfl) hb1 hm1 hb
    obtain ⟨g, c2, hv, h1, h2⟩ := blk q2
    simp only [Value.slice.injEq] at hv
    obtain ⟨rfl, _, rfl⟩ := hv
    refine ⟨g, c', w', _, q1, by rw [e0]; exact q2, q4, q5, q6, fun b e => ⟨(h.lt b e).1, own_block h e, hT b e⟩, ?_⟩
    rcases q7 with e | e
    · exact .inr ⟨(h.lt g e.symm).2, hT g e.symm⟩
    · left; injection e with e; exact Nat.le_of_eq e.symm
section
variable {w w' : World} {base : Nat} {tg : Nat → Nat} {v : IV} {q : List SV} {p : List PV} {m : Img}
/-- One 0 more behind an own image's Root. -/
theorem OwnI.push0 (h : OwnI w base tg v q p m) (hb : base ≤ w.heap.size) (hn : v.rn ≤ 1000000) : ∃ g c' w' tg', (Builtin.append_ #[22, 22] 22 #[.slice v.rA v.rn v.rc, .slice (some ⟨w.heap.size, 0, none⟩) 1 1]).run Try.prog (w.alloc (.cells #[.int .i64 0] 3)) = .ok (.slice (some ⟨g, 0, none⟩) (v.rn + 1) c') w' ∧
    OwnI w' base tg' { v with rA := some ⟨g, 0, none⟩, rn := v.rn + 1, rc := c' } q p { m with root := m.root ++ [0] } ∧ Below base w w' ∧ ∀ b T, TypeB w b T → T ≠ 3 → w'.heap[b]? = w.heap[b]? := by
  obtain ⟨g, c', w', row, r1, r2, r3, r4, r5, r6, r7⟩ := run_app0 (fun b => tg b = 0) w base v.rA v.rn v.rc m.root (h.root.2.2.imp (fun hh => ⟨hh.1, hh.2.1, hh.2.2.resolve_left (by decide)⟩) id) hn hb
  have hm : c' ≤ 9223372036854775807 := by unfold maxLen at r4; omega
  have hs1 : (w.alloc (.cells #[.int .i64 0] 3)).heap.size = w.heap.size + 1 := World.size_alloc _ _
  have hW := below1 w (.cells #[.int .i64 0] 3)
  have h1 := (h.next hW).retag (tg' := fun j => if w.heap.size + 1 ≤ j then 0 else tg j) fun j hj => if_neg (by omega)
  have hty : ∀ b, row = some b → TypeB (w.alloc (.cells #[.int .i64 0] 3)) b 3 := fun b e => (r6 b e).2.1.next hW
  have ht : ∀ {t n c : Nat} {A : Option Addr} {xs : List Int}, TabO (w.alloc (.cells #[.int .i64 0] 3)) base (fun j => if w.heap.size + 1 ≤ j then 0 else tg j) t A n c xs → t ≠ 0 → TabO w' base (fun j => if w.heap.size + 1 ≤ j then 0 else tg j) t A n c xs := fun hh hn => hh.kept r5 fun b' e _ => .inr (by
    have := (r6 b' e).2.2
    have := (r6 b' e).2.1.lt
    rw [if_neg (by omega)]; omega)
  have hf : ∀ {e : TypeId} {size n : Nat} {x : Value} {xs : List Value}, (w.alloc (.cells #[.int .i64 0] 3)).ownsRow base e size x n xs → 3 ≠ e → w'.ownsRow base e size x n xs := fun ho hne => ho.kept r5 (by
    cases hr : row with
    | none => exact ne_or
    | some b => exact own_far ho (hty b hr) hne)
  have hrt : TabO w' base (fun j => if w.heap.size + 1 ≤ j then 0 else tg j) 0 (some ⟨g, 0, none⟩) (v.rn + 1) c' (m.root ++ [0]) := ⟨r3, ⟨by omega, hm⟩, .inr ⟨r2, fun j e => by
    simp only [Value.ownBlock, Option.some.injEq] at e
    subst e
    show (if _ then _ else _) = _
    rcases r7 with e | ⟨e, e2⟩
    · rw [if_pos (by omega)]
    · rw [if_neg (by omega)]; exact e2⟩⟩
  refine ⟨g, c', w', _, r1, ⟨hrt, ht h1.refs (by decide), hf h1.slots (by decide), h1.sle, h1.scap, hf h1.snaps (by decide), h1.ple, h1.pcap, h1.hq, h1.hp, fun k x hx => ⟨(h1.tabs k x hx).1, ht (h1.tabs k x hx).2 (by omega)⟩, fun k x hx => ⟨(h1.roots k x hx).1, ht (h1.roots k x hx).2 (by omega)⟩⟩,
    (hW.mono hb).grown r5 (by omega) (fun k e => (r6 k e).1), fun b T hT hne => ?_⟩
  refine (r5.block b (by have := hT.lt; omega) fun e => ?_).trans (hW.block b hT.lt)
  exact (hT.next hW).ne (hty b e.symm) hne rfl
theorem TabO.take {n c k : Nat} {A : Option Addr} {xs : List Int} (h : TabO w base tg 0 A n c xs) (hk : k ≤ n) : TabO w base tg 0 A k c (xs.take k) := by
  refine ⟨by have := h.1; omega, ⟨by have := h.2.1; omega, h.2.1.2⟩, ?_⟩
  rcases h.2.2 with ⟨h1, h2, h3⟩ | ⟨ho, ht⟩
  · subst h2; exact .inl ⟨by omega, by simp, h3⟩
  · right
    refine ⟨?_, fun b e => ht b ?_⟩
    · cases A with
      | none =>
        rcases ho.2 with ⟨_, h0⟩ | ⟨g, cap, cur, hv, _⟩
        · have : xs = [] := by have := ho.1; simp [ints] at this; exact List.eq_nil_of_length_eq_zero (by omega)
          subst this
          obtain rfl : k = 0 := by omega
          subst h0
          simpa using ho
        · simp at hv
      | some a =>
        rcases ho.2 with ⟨hv, _⟩ | ⟨g, cap, cur, hv, _⟩
        · simp at hv
        · simp only [Value.slice.injEq, Option.some.injEq] at hv
          obtain ⟨rfl, _, rfl⟩ := hv
          exact own_take ho hk
    · cases A with
      | none => exact e
      | some a => exact e
end
/-- How many elements a slice in a box's second cell has. -/
def lenAt (w : World) (b : Nat) : Nat := match w.cell? ⟨b, 1, none⟩ with
  | some (.slice _ n _) => n
  | _ => 0
theorem lenAt_is {w : World} {b n c : Nat} {A : Option Addr} (h : w.cell? ⟨b, 1, none⟩ = some (.slice A n c)) : lenAt w b = n := by unfold lenAt; rw [h]
theorem take_rep {l : List Int} {k W : Nat} (hk : k ≤ 16) (hW : W ≤ l.length + k) : (l ++ List.replicate k 0).take W = (l ++ List.replicate 16 0).take W := by
  rw [List.take_append, List.take_append, List.take_replicate, List.take_replicate]
  congr 2; omega
set_option maxRecDepth 100000 in
set_option maxHeartbeats 1000000 in
theorem resizeOf_even (v : IV) (m : Img) (g : Nat) (w : World) (h : ImgR w w.heap.size v m) (hm : checkErr m = 0) (hg : g ≤ 16) (X : Img) (er : Int) (hX0 : outV (resizeM m g) = X) (hE0 : outE (resizeM m g) = er) (he : g % 4 = 0) :
    Calls Try.prog 20 #[imgV m v, .int .i64 g] w (ImgOwn w.heap.size X er w) := by
  have S := sound_of (check_is hm).1
  have hg16 := (own_facts hm).2.1
  have hmod : ((g % 4 : Nat) : Int) = (g : Int) % 4 := by omega
  have hdiv : ((g / 4 : Nat) : Int) = (g : Int) / 4 := by omega
  have htm : (g : Int).tmod 4 = (g : Int) % 4 := Int.tmod_eq_emod_of_nonneg (by omega)
  have htd : (g : Int).tdiv 4 = (g : Int) / 4 := Int.tdiv_eq_ediv_of_nonneg (by omega)
  have hrl := refs_len hm
  have K1' := fun W (hb : Below w.heap.size w W) => rcheckimg_any v m W (h.next hb)
  rw [hm] at K1'
  have KO' := fun W (hb : Below w.heap.size w W) => ownImg_any v m W (h.next hb) S.cbd (by rw [hrl]; exact S.cbd.slots)
  have KW' := fun W => within_any (g : Int) 0 16 W
  have g0 : decide ((0 : Int) ≤ (g : Int)) = true := decide_eq_true (by omega)
  have g1 : decide ((g : Int) ≤ 16) = true := decide_eq_true (by omega)
  rw [g0, g1, Bool.and_self] at KW'
  have KV' := fun W => rwants_any (g : Int) W (by omega) (by omega)
  rw [wants_nat g] at KV'
  obtain ⟨f1, f2, _, f4, f5⟩ := boxesT w m.guest v
  have hrn' := h.rlen
  have hrc := h.rcap.1
  have e4 : ((g : Int) % 4 != 0) = false := by simp; omega
  have R := resize_skip (m := m) (g := g) (by omega)
  have RX0 := hX0.symm
  have RE0 := hE0.symm
  have HRS := resize_eff hm hg R
  rw [R] at RX0 RE0
  have RX1 := Lib.hid RX0
  have RE1 := Lib.hid RE0
  have HRX := Lib.hid HRS.sound
  have HR4 := Lib.hid (show m.root.length ≤ 4 from by have h1 := (rootF_is (own_facts hm).2.2).1; unfold wants at h1; omega)
  clear RX0 RE0 R HRS
  obtain ⟨rA, rn, rc, sA, sn, sc, fA, fn, fc, pA, pn, pc⟩ := v
  dsimp only [imgV] at *
  obtain ⟨x0, x1, x2, x3, x4⟩ := f2
  dsimp only at x0 x1 x2 x3 x4
  have K1 := Lib.hid (K1' _ f1)
  have KO := Lib.hid KO'
  have KW := Lib.hid KW'
  have KV := Lib.hid KV'
  have F1 := Lib.hid f1
  have FZ := Lib.hid f4
  have HX0 := Lib.hid hX0
  have HE0 := Lib.hid hE0
  have HS := Lib.hid S
  have hrn := Lib.hid hrn'
  clear h K1' KO' KW' KV' hX0 hE0 S hrn' g0 g1
  go_enter Try.func20, Try.ntmps20
  go_wp2_with fail
  generalize ((w.alloc (.cells #[.int .i64 m.guest, .slice rA rn rc, .slice sA sn sc, .slice fA fn fc, .slice pA pn pc] 26)).alloc (.cells #[.int .i64 0, .slice none 0 0, .slice none 0 0, .slice none 0 0, .slice none 0 0] 26)) = W2 at *
  refine K1.out.mono ?_
  rintro e' w5 ⟨rfl, hb5⟩
  have B5 := below_next F1.out hb5
  have hs5 := hb5.size
  have hl0 : w.heap.size < W2.heap.size := by omega
  have z0 := (hb5.cell (p := ⟨w.heap.size, 0, none⟩) hl0).trans x0
  have z1 := (hb5.cell (p := ⟨w.heap.size, 1, none⟩) hl0).trans x1
  have z2 := (hb5.cell (p := ⟨w.heap.size, 2, none⟩) hl0).trans x2
  have z3 := (hb5.cell (p := ⟨w.heap.size, 3, none⟩) hl0).trans x3
  have z4 := (hb5.cell (p := ⟨w.heap.size, 4, none⟩) hl0).trans x4
  have HB5 := Lib.hid hb5
  have HT5 := Lib.hid B5
  clear x0 x1 x2 x3 x4 hb5 B5 K1
  go_wp2_with fail
  refine (KW.out _).mono ?_
  rintro e' w6 ⟨rfl, rfl⟩
  have KO5 := Lib.hid (KO.out _ HT5.out)
  clear KO KW
  go_wp2_with fail
  refine KO5.out.mono ?_
  rintro e' w7 ⟨⟨rA7, rn7, rc7, sA7, sn7, sc7, fA7, fn7, fc7, pA7, pn7, pc7⟩, tg, q, p, rfl, hO7, hb7⟩
  have HX9 := Lib.hid (Box.new w7 (g : Nat) ⟨rA7, rn7, rc7, sA7, sn7, sc7, fA7, fn7, fc7, pA7, pn7, pc7⟩ 26)
  have HB9 := Lib.hid (BoxB.new w7 #[.int .i64 (g : Nat), .slice rA7 rn7 rc7, .slice sA7 sn7 sc7, .slice fA7 fn7 fc7, .slice pA7 pn7 pc7])
  have hb9 := below1 w7 (.cells #[.int .i64 (g : Nat), .slice rA7 rn7 rc7, .slice sA7 sn7 sc7, .slice fA7 fn7 fc7, .slice pA7 pn7 pc7] 26)
  have HO9 := Lib.hid ((hO7.newGuest (g : Nat)).next hb9)
  have T9 := below_next hb7 hb9
  have HU9 := Lib.hid (below_next HT5.out T9)
  have HZ9 := Lib.hid (FZ.out.nextB (below_next HB5.out T9) (by omega))
  have hs9 : w5.heap.size ≤ (w7.alloc (.cells #[.int .i64 (g : Nat), .slice rA7 rn7 rc7, .slice sA7 sn7 sc7, .slice fA7 fn7 fc7, .slice pA7 pn7 pc7] 26)).heap.size := T9.size
  have hrl9 := HO9.out.imgR.rlen
  have hrs : m.root.length ≤ 4 := HR4.out
  have hr4 : rn7 ≤ 4 := by dsimp only at hrl9; omega
  have hs7 := hb7.size
  have yb := below_next hb7 (below1 w7 (.cells #[.int .i64 m.guest, .slice rA7 rn7 rc7, .slice sA7 sn7 sc7, .slice fA7 fn7 fc7, .slice pA7 pn7 pc7] 26))
  have y1 := (yb.cell (p := ⟨w.heap.size, 1, none⟩) (show w.heap.size < w5.heap.size by omega)).trans z1
  clear T9 hb9 hrl9 hrs hO7 hb7 HB5 KO5 F1 FZ yb z0 z1 z2 z3 z4
  dsimp only [imgV]
  go_wp2_with fail
  generalize (w7.alloc (.cells #[.int .i64 (g : Nat), .slice rA7 rn7 rc7, .slice sA7 sn7 sc7, .slice fA7 fn7 fc7, .slice pA7 pn7 pc7] 26)) = w9 at *
  go_loopw [67] (fun _ wr => ∃ (k : Nat) (A : Option Addr) (c : Nat) (tg : Nat → Nat), (k = 0 ∨ rn7 + k ≤ (g + 3) / 4) ∧ OwnI wr w5.heap.size tg ⟨A, rn7 + k, c, sA7, sn7, sc7, fA7, fn7, fc7, pA7, pn7, pc7⟩ q p { m with guest := (g : Nat), root := m.root ++ List.replicate k 0 } ∧ Box wr w7.heap.size (g : Nat) ⟨A, rn7 + k, c, sA7, sn7, sc7, fA7, fn7, fc7, pA7, pn7, pc7⟩ ∧ BoxB wr w7.heap.size ∧ ZB wr (w.heap.size + 1) ∧ Below w.heap.size w wr ∧ w9.heap.size ≤ wr.heap.size) (fun _ wr => (g + 3) / 4 - lenAt wr w7.heap.size)
  case atStart => exact ⟨0, _, _, tg, .inl rfl, by simpa using HO9.out, HX9.out, HB9.out, HZ9.out, HU9.out, Nat.le_refl _⟩
  case round =>
    obtain ⟨k, A, c, tgk, hk, hO, hX, hB, hZ, hU, hsz⟩ := hrel
    clear HX9 HB9 HO9 HZ9 HU9
    have hnn : rn7 + k ≤ 8 := by omega
    have HKK := Lib.hid hk
    have HO := Lib.hid hO
    have HX := Lib.hid hX
    have HB := Lib.hid hB
    have HZ := Lib.hid hZ
    have HU := Lib.hid hU
    have hln : ({ m with guest := (g : Nat), root := m.root ++ List.replicate k 0 } : Img).root.length = rn7 + k := hO.imgR.rlen
    have hk16 : k ≤ 16 := by omega
    generalize hN : rn7 + k = N at *
    have HN := Lib.hid hN
    obtain ⟨a0, a1, a2, a3, a4⟩ := hX
    have b1 := hB.fz 1
    dsimp only at a0 a1 a2 a3 a4
    have hml : lenAt wr w7.heap.size = N := lenAt_is a1
    clear hO hB hZ hU hk hN
    generalize hG : (g + 3) / 4 = W at *
    have HG := Lib.hid hG
    clear hG
    by_cases hlt : N < W
    · have c0 : decide ((N : Int) < (W : Int)) = true := decide_eq_true (by omega)
      obtain ⟨g', c', w', tg', r1, O', U', K'⟩ := (HO.out.next (Below.refl wr.heap.size wr).drew).push0 (by show _ ≤ wr.heap.size; omega) (by show N ≤ _; omega)
      dsimp only at r1 O'
      have HR := Lib.hid r1
      have heq := K' _ _ HB.out.ty (by decide)
      have B1 : BoxB w' w7.heap.size := by obtain ⟨cur, e⟩ := HB.out; exact ⟨cur, (K' _ _ HB.out.ty (by decide)).trans e⟩
      have X1 : Box w' w7.heap.size (g : Nat) ⟨A, N, c, sA7, sn7, sc7, fA7, fn7, fc7, pA7, pn7, pc7⟩ := by
        obtain ⟨cur, e⟩ := HB.out
        have e' : w'.heap[w7.heap.size]? = _ := heq.trans e
        have cc := fun j => (cell_of_row w' w7.heap.size j _ _ _ e').trans (cell_of_row wr w7.heap.size j _ _ _ e).symm
        exact ⟨(cc 0).trans a0, (cc 1).trans a1, (cc 2).trans a2, (cc 3).trans a3, (cc 4).trans a4⟩
      have Z1 : ZB w' (w.heap.size + 1) := ⟨(K' _ _ HZ.out.box.1.ty (by decide)).trans HZ.out.heap⟩
      have hgs := grown_set w' w7.heap.size 1 (.slice (some ⟨g', 0, none⟩) (N + 1) c')
      have O2 := O'.kept hgs B1.ty (by decide) (by decide) (by decide)
      have B2 := B1.set 1 (.slice (some ⟨g', 0, none⟩) (N + 1) c')
      have Z2 : ZB _ (w.heap.size + 1) := ⟨(hgs.block _ Z1.box.1.ty.lt (fun e => by injection e with e; omega)).trans Z1.heap⟩
      have U2 := (HU.out.drew.trans (U'.mono (by omega))).setCell (p := ⟨w7.heap.size, 1, none⟩) (show w.heap.size ≤ w7.heap.size by omega) (.slice (some ⟨g', 0, none⟩) (N + 1) c')
      have hsz2 : w9.heap.size ≤ (w'.setCell ⟨w7.heap.size, 1, none⟩ (.slice (some ⟨g', 0, none⟩) (N + 1) c')).heap.size := by have h1 := U'.size; have h2 := hgs.size; have h3 : wr.drew.heap.size = wr.heap.size := rfl; omega
      obtain ⟨d0, d1, d2, d3, d4⟩ := X1
      dsimp only at d0 d1 d2 d3 d4
      have X2 : Box (w'.setCell ⟨w7.heap.size, 1, none⟩ (.slice (some ⟨g', 0, none⟩) (N + 1) c')) w7.heap.size (g : Nat) ⟨some ⟨g', 0, none⟩, N + 1, c', sA7, sn7, sc7, fA7, fn7, fc7, pA7, pn7, pc7⟩ := by
        refine ⟨?_, ?_, ?_, ?_, ?_⟩ <;> go_simp
      have e1 := B1.fz 1
      have HO2 := Lib.hid O2
      have HX2 := Lib.hid X2
      have HB2 := Lib.hid B2
      have HZ2 := Lib.hid Z2
      have HU2 := Lib.hid U2
      clear O' K' heq B1 Z1 hgs O2 B2 Z2 U2 X2 r1 U'
      go_wp2_with fail
      refine wp_region_z (S := fun W' => W'.cell? ⟨w7.heap.size, 1, none⟩ = some (.slice A N c)) 5 (by kernel_rfl) (fun hC => ?_)
      have hSS : wr.drew.cell? ⟨w7.heap.size, 1, none⟩ = some (.slice A N c) := a1
      apply wpAnyZ_take (i := 0)
      case hi => rfl
      case hs => kernel_rfl
      case hf => kernel_rfl
      case hr => kernel_rfl
      case hu => kernel_rfl
      case hw => exact fun z h1 h2 => (by have h2 : z < 6 := h2; have h3 : z = 5 := (by omega); subst h3; exact ⟨[1, 2], by kernel_rfl⟩)
      case hQ => exact fun _ _ _ h => h
      case hy => exact Or.inl ⟨by rfl, fun w' hSw => by (have s0 := hSw; go_simp; try with_reducible rfl)⟩
      case hS => assumption
      case hC => assumption
      clear hC
      intro hC
      apply wpAnyZ_take (i := 1)
      case hi => rfl
      case hs => kernel_rfl
      case hf => kernel_rfl
      case hr => kernel_rfl
      case hu => kernel_rfl
      case hw => exact fun z h1 h2 => (by have h2 : z < 6 := h2; have h3 : z = 5 := (by omega); subst h3; exact ⟨[2], by kernel_rfl⟩)
      case hQ => exact fun _ _ _ h => h
      case hy => exact Or.inl ⟨by rfl, fun w' hSw => by (have s0 := hSw; go_simp; try with_reducible rfl)⟩
      case hS => assumption
      case hC => assumption
      clear hC
      intro hC
      apply wpAnyZ_take (i := 2)
      case hi => rfl
      case hs => kernel_rfl
      case hf => kernel_rfl
      case hr => kernel_rfl
      case hu => kernel_rfl
      case hw => exact fun z h1 h2 => (by have h2 : z < 6 := h2; have h3 : z = 5 := (by omega); subst h3; exact ⟨[], by kernel_rfl⟩)
      case hQ => exact fun _ _ _ h => h
      case hy => exact Or.inl ⟨by rfl, fun w' hSw => by (have s0 := hSw; go_simp; try with_reducible rfl)⟩
      case hS => assumption
      case hC => assumption
      clear hC
      intro hC
      apply wpAnyZ_take (i := 3)
      case hi => rfl
      case hs => kernel_rfl
      case hf => kernel_rfl
      case hr => kernel_rfl
      case hu => kernel_rfl
      case hw => exact fun z h1 h2 => (by have h2 : z < 6 := h2; have h3 : z = 5 := (by omega); subst h3; exact ⟨[4], by kernel_rfl⟩)
      case hQ => exact fun _ _ _ h => h
      case hy => exact Or.inl ⟨by rfl, fun w' hSw => by (have s0 := hSw; go_simp; try with_reducible rfl)⟩
      case hS => assumption
      case hC => assumption
      clear hC
      intro hC
      clear hC
      refine wpAnyZ_one (i := 4) (by kernel_rfl) rfl (fun K' hK => ?_)
      go_simp
      refine (KV.out _).mono ?_
      rintro e' w11 ⟨rfl, rfl⟩
      refine hK.out _ _ (fun _ => hSS) ?_
      clear hK
      refine wpAnyZ_one (i := 5) (by kernel_rfl) rfl (fun K' hK => ?_)
      go_simp
      refine hK.out _ _ (fun h => absurd h (by decide)) ?_
      clear hK
      refine wpAnyZ_done (by kernel_rfl) ?_ _
      clear hSS
      go_wp2_with (at_builtin; refine wpList_app rfl _ _ _ _ rfl rfl rfl rfl HR.out ?_)
      have hm2 := lenAt_is HX2.out.2.1
      dsimp only at hm2
      have hN := HN.out
      subst hN
      go_roundw
      case rel => exact ⟨k + 1, some ⟨g', 0, none⟩, c', tg', .inr (by omega), by rw [List.replicate_succ', ← List.append_assoc]; exact HO2.out, HX2.out, HB2.out, HZ2.out, HU2.out, hsz2⟩
      case measure => omega
    · have c0 : decide ((N : Int) < (W : Int)) = false := decide_eq_false (by omega)
      go_wp2_with fail
      refine wp_region_z (S := fun W' => W'.cell? ⟨w7.heap.size, 1, none⟩ = some (.slice A N c)) 5 (by kernel_rfl) (fun hC => ?_)
      have hSS : wr.drew.cell? ⟨w7.heap.size, 1, none⟩ = some (.slice A N c) := a1
      apply wpAnyZ_take (i := 0)
      case hi => rfl
      case hs => kernel_rfl
      case hf => kernel_rfl
      case hr => kernel_rfl
      case hu => kernel_rfl
      case hw => exact fun z h1 h2 => (by have h2 : z < 6 := h2; have h3 : z = 5 := (by omega); subst h3; exact ⟨[1, 2], by kernel_rfl⟩)
      case hQ => exact fun _ _ _ h => h
      case hy => exact Or.inl ⟨by rfl, fun w' hSw => by (have s0 := hSw; go_simp; try with_reducible rfl)⟩
      case hS => assumption
      case hC => assumption
      clear hC
      intro hC
      apply wpAnyZ_take (i := 1)
      case hi => rfl
      case hs => kernel_rfl
      case hf => kernel_rfl
      case hr => kernel_rfl
      case hu => kernel_rfl
      case hw => exact fun z h1 h2 => (by have h2 : z < 6 := h2; have h3 : z = 5 := (by omega); subst h3; exact ⟨[2], by kernel_rfl⟩)
      case hQ => exact fun _ _ _ h => h
      case hy => exact Or.inl ⟨by rfl, fun w' hSw => by (have s0 := hSw; go_simp; try with_reducible rfl)⟩
      case hS => assumption
      case hC => assumption
      clear hC
      intro hC
      apply wpAnyZ_take (i := 2)
      case hi => rfl
      case hs => kernel_rfl
      case hf => kernel_rfl
      case hr => kernel_rfl
      case hu => kernel_rfl
      case hw => exact fun z h1 h2 => (by have h2 : z < 6 := h2; have h3 : z = 5 := (by omega); subst h3; exact ⟨[], by kernel_rfl⟩)
      case hQ => exact fun _ _ _ h => h
      case hy => exact Or.inl ⟨by rfl, fun w' hSw => by (have s0 := hSw; go_simp; try with_reducible rfl)⟩
      case hS => assumption
      case hC => assumption
      clear hC
      intro hC
      apply wpAnyZ_take (i := 3)
      case hi => rfl
      case hs => kernel_rfl
      case hf => kernel_rfl
      case hr => kernel_rfl
      case hu => kernel_rfl
      case hw => exact fun z h1 h2 => (by have h2 : z < 6 := h2; have h3 : z = 5 := (by omega); subst h3; exact ⟨[4], by kernel_rfl⟩)
      case hQ => exact fun _ _ _ h => h
      case hy => exact Or.inl ⟨by rfl, fun w' hSw => by (have s0 := hSw; go_simp; try with_reducible rfl)⟩
      case hS => assumption
      case hC => assumption
      clear hC
      intro hC
      clear hC
      refine wpAnyZ_one (i := 4) (by kernel_rfl) rfl (fun K' hK => ?_)
      go_simp
      refine (KV.out _).mono ?_
      rintro e' w11 ⟨rfl, rfl⟩
      refine hK.out _ _ (fun _ => hSS) ?_
      clear hK
      refine wpAnyZ_one (i := 5) (by kernel_rfl) rfl (fun K' hK => ?_)
      go_simp
      refine hK.out _ _ (fun h => absurd h (by decide)) ?_
      clear hK
      refine wpAnyZ_done (by kernel_rfl) ?_ _
      clear hSS
      go_wp2_with fail
      have hcap : N ≤ c := HO.out.root.1
      have hi1 : (W : Int) ≤ (c : Int) := by omega
      have hi0 : (0 : Int) ≤ (W : Int) := by omega
      refine wp_region_z (S := fun W' => W'.cell? ⟨w7.heap.size, 1, none⟩ = some (.slice A N c)) 6 (by kernel_rfl) (fun hC => ?_)
      have hSS : wr.drew.drew.cell? ⟨w7.heap.size, 1, none⟩ = some (.slice A N c) := a1
      apply wpAnyZ_take (i := 0)
      case hi => rfl
      case hs => kernel_rfl
      case hf => kernel_rfl
      case hr => kernel_rfl
      case hu => kernel_rfl
      case hw => exact fun z h1 h2 => (by have h2 : z < 7 := h2; have h3 : z = 6 := (by omega); subst h3; exact ⟨[1, 4], by kernel_rfl⟩)
      case hQ => exact fun _ _ _ h => h
      case hy => exact Or.inl ⟨by rfl, fun w' hSw => by (have s0 := hSw; go_simp; try with_reducible rfl)⟩
      case hS => assumption
      case hC => assumption
      clear hC
      intro hC
      apply wpAnyZ_take (i := 1)
      case hi => rfl
      case hs => kernel_rfl
      case hf => kernel_rfl
      case hr => kernel_rfl
      case hu => kernel_rfl
      case hw => exact fun z h1 h2 => (by have h2 : z < 7 := h2; have h3 : z = 6 := (by omega); subst h3; exact ⟨[4], by kernel_rfl⟩)
      case hQ => exact fun _ _ _ h => h
      case hy => exact Or.inl ⟨by rfl, fun w' hSw => by (have s0 := hSw; go_simp; try with_reducible rfl)⟩
      case hS => assumption
      case hC => assumption
      clear hC
      intro hC
      apply wpAnyZ_take (i := 2)
      case hi => rfl
      case hs => kernel_rfl
      case hf => kernel_rfl
      case hr => kernel_rfl
      case hu => kernel_rfl
      case hw => exact fun z h1 h2 => (by have h2 : z < 7 := h2; have h3 : z = 6 := (by omega); subst h3; exact ⟨[3, 4], by kernel_rfl⟩)
      case hQ => exact fun _ _ _ h => h
      case hy => exact Or.inl ⟨by rfl, fun w' hSw => by (have s0 := hSw; go_simp; try with_reducible rfl)⟩
      case hS => assumption
      case hC => assumption
      clear hC
      intro hC
      clear hC
      refine wpAnyZ_one (i := 3) (by kernel_rfl) rfl (fun K' hK => ?_)
      go_simp
      refine (KV.out _).mono ?_
      rintro e' w11 ⟨rfl, rfl⟩
      refine hK.out _ _ (fun _ => hSS) ?_
      clear hK
      have hWN : W ≤ N := by omega
      have HER := Lib.hid (show ({ m with guest := (g : Nat), root := (m.root ++ List.replicate k 0).take W } : Img) = resized m g from by
        unfold resized
        rw [← HG.out, take_rep hk16 (by have h1 := hln; have h2 := HG.out; rw [List.length_append, List.length_replicate] at h1; omega)])
      have fz1 := HB.out.fz 1
      have hff : wr.drew.drew.frozen? ⟨w7.heap.size, 1, none⟩ = false := fz1
      rcases A with _ | a
      · refine wpAnyZ_one (i := 4) (by kernel_rfl) rfl (fun K' hK => ?_)
        go_simp
        refine hK.out _ _ (fun _ => hSS) ?_
        clear hK
        refine wpAnyZ_one (i := 5) (by kernel_rfl) rfl (fun K' hK => ?_)
        go_simp
        refine hK.out _ _ (fun _ => hSS) ?_
        clear hK
        refine wpAnyZ_one (i := 6) (by kernel_rfl) rfl (fun K' hK => ?_)
        go_simp
        refine hK.out _ _ (fun h => absurd h (by decide)) ?_
        clear hK
        refine wpAnyZ_done (by kernel_rfl) ?_ _
        have hgs := grown_set wr w7.heap.size 1 (.slice none W c)
        have O3 := HO.out.newRoot (TabO.take HO.out.root hWN)
        have O4 := ((O3.kept hgs HB.out.ty (by decide) (by decide) (by decide)).next (Below.refl _ _).drew).next (Below.refl _ _).drew
        dsimp only at O4
        rw [HER.out] at O4
        have X5 : Box ((wr.setCell ⟨w7.heap.size, 1, none⟩ (.slice none W c)).drew.drew) w7.heap.size (g : Nat) ⟨none, W, c, sA7, sn7, sc7, fA7, fn7, fc7, pA7, pn7, pc7⟩ := by
          refine ⟨?_, ?_, ?_, ?_, ?_⟩ <;> go_simp
        have Z5 : ZB ((wr.setCell ⟨w7.heap.size, 1, none⟩ (.slice none W c)).drew.drew) (w.heap.size + 1) := ⟨(hgs.block _ HZ.out.box.1.ty.lt (fun e => by injection e with e; omega)).trans HZ.out.heap⟩
        have U5 := (HU.out.setCell (p := ⟨w7.heap.size, 1, none⟩) (show w.heap.size ≤ w7.heap.size by omega) (.slice none W c)).drew.drew
        have hsz5 : w5.heap.size ≤ ((wr.setCell ⟨w7.heap.size, 1, none⟩ (.slice none W c)).drew.drew).heap.size := by have h2 := hgs.size; show _ ≤ (wr.setCell ⟨w7.heap.size, 1, none⟩ (.slice none W c)).heap.size; omega
        have HO5 := Lib.hid O4
        have HZ5 := Lib.hid Z5
        have HU5 := Lib.hid U5
        clear hgs O3 O4 Z5 U5 hSS HX HB HZ HU HO a0 a1 a2 a3 a4 fz1 hff b1 hml hln hsz
        obtain ⟨a0, a1, a2, a3, a4⟩ := X5
        dsimp only at a0 a1 a2 a3 a4
        generalize ((wr.setCell ⟨w7.heap.size, 1, none⟩ (.slice none W c)).drew.drew) = w13 at *
        have KC' := counted_any w5.heap.size tgk _ q p _ _ HO5.out hsz5 HRX.out.cbd
        dsimp only [imgV, resized] at KC'
        have KC := Lib.hid KC'
        clear KC'
        go_wp2_with fail
        refine KC.out.mono ?_
        rintro e' w14 ⟨⟨zrA, zrn, zrc, zsA, zsn, zsc, zfA, zfn, zfc, zpA, zpn, zpc⟩, tg12, q12, p12, rfl, hO12, hb12⟩
        have Z12 := HZ5.out.nextB hb12 (by omega)
        have hsX : settled { guest := (g : Nat), root := (m.root ++ List.replicate 16 0).take ((g + 3) / 4), slots := m.slots, refs := m.refs, snaps := m.snaps } = X := RX1.out.symm
        rw [hsX] at hO12 ⊢
        obtain ⟨⟨k0, k1, k2, k3, k4⟩, hO2, hg2⟩ := lastI Z12 hO12
        have s12 := hb12.size
        have s13 := HU5.out.size
        have LB2 := (HU5.out.trans (hb12.mono (by omega))).grown hg2 (by omega) (fun j e => by injection e with e; omega)
        obtain ⟨u0, u1, u2, u3, u4⟩ := Z12.cells
        dsimp only at k1 k2 k3 k4
        obtain ⟨q0, q1, q2, q3, q4⟩ := Z12.froz
        have HK := Lib.hid (And.intro k0 (And.intro k1 (And.intro k2 (And.intro k3 k4))))
        have HOO := Lib.hid hO2
        have HLB2 := Lib.hid LB2
        dsimp only [imgV]
        clear Z12 hO12 hb12 hO2 hg2 LB2 k0 k1 k2 k3 k4 KC a0 a1 a2 a3 a4
        go_wp2_with fail
        obtain ⟨k0, k1, k2, k3, k4⟩ := HK.out
        refine bodyPost_ret (v := .tuple #[imgV X ⟨zrA, zrn, zrc, zsA, zsn, zsc, zfA, zfn, zfc, zpA, zpn, zpc⟩, .int .i64 0]) ?_ rfl ⟨_, by rw [RE1.out]; rfl, .inr ⟨w5.heap.size, _, _, _, by omega, HOO.out⟩, HLB2.out⟩
        simp [results, Try.results20, go_sem, k0, k1, k2, k3, k4, imgV]
      · refine wpAnyZ_one (i := 4) (by kernel_rfl) rfl (fun K' hK => ?_)
        go_simp
        refine hK.out _ _ (fun _ => hSS) ?_
        clear hK
        refine wpAnyZ_one (i := 5) (by kernel_rfl) rfl (fun K' hK => ?_)
        go_simp
        refine hK.out _ _ (fun _ => hSS) ?_
        clear hK
        refine wpAnyZ_one (i := 6) (by kernel_rfl) rfl (fun K' hK => ?_)
        go_simp
        refine hK.out _ _ (fun h => absurd h (by decide)) ?_
        clear hK
        refine wpAnyZ_done (by kernel_rfl) ?_ _
        have hgs := grown_set wr w7.heap.size 1 (.slice (some a) W c)
        have O3 := HO.out.newRoot (TabO.take HO.out.root hWN)
        have O4 := ((O3.kept hgs HB.out.ty (by decide) (by decide) (by decide)).next (Below.refl _ _).drew).next (Below.refl _ _).drew
        dsimp only at O4
        rw [HER.out] at O4
        have X5 : Box ((wr.setCell ⟨w7.heap.size, 1, none⟩ (.slice (some a) W c)).drew.drew) w7.heap.size (g : Nat) ⟨(some a), W, c, sA7, sn7, sc7, fA7, fn7, fc7, pA7, pn7, pc7⟩ := by
          refine ⟨?_, ?_, ?_, ?_, ?_⟩ <;> go_simp
        have Z5 : ZB ((wr.setCell ⟨w7.heap.size, 1, none⟩ (.slice (some a) W c)).drew.drew) (w.heap.size + 1) := ⟨(hgs.block _ HZ.out.box.1.ty.lt (fun e => by injection e with e; omega)).trans HZ.out.heap⟩
        have U5 := (HU.out.setCell (p := ⟨w7.heap.size, 1, none⟩) (show w.heap.size ≤ w7.heap.size by omega) (.slice (some a) W c)).drew.drew
        have hsz5 : w5.heap.size ≤ ((wr.setCell ⟨w7.heap.size, 1, none⟩ (.slice (some a) W c)).drew.drew).heap.size := by have h2 := hgs.size; show _ ≤ (wr.setCell ⟨w7.heap.size, 1, none⟩ (.slice (some a) W c)).heap.size; omega
        have HO5 := Lib.hid O4
        have HZ5 := Lib.hid Z5
        have HU5 := Lib.hid U5
        clear hgs O3 O4 Z5 U5 hSS HX HB HZ HU HO a0 a1 a2 a3 a4 fz1 hff b1 hml hln hsz
        obtain ⟨a0, a1, a2, a3, a4⟩ := X5
        dsimp only at a0 a1 a2 a3 a4
        generalize ((wr.setCell ⟨w7.heap.size, 1, none⟩ (.slice (some a) W c)).drew.drew) = w13 at *
        have KC' := counted_any w5.heap.size tgk _ q p _ _ HO5.out hsz5 HRX.out.cbd
        dsimp only [imgV, resized] at KC'
        have KC := Lib.hid KC'
        clear KC'
        go_wp2_with fail
        refine KC.out.mono ?_
        rintro e' w14 ⟨⟨zrA, zrn, zrc, zsA, zsn, zsc, zfA, zfn, zfc, zpA, zpn, zpc⟩, tg12, q12, p12, rfl, hO12, hb12⟩
        have Z12 := HZ5.out.nextB hb12 (by omega)
        have hsX : settled { guest := (g : Nat), root := (m.root ++ List.replicate 16 0).take ((g + 3) / 4), slots := m.slots, refs := m.refs, snaps := m.snaps } = X := RX1.out.symm
        rw [hsX] at hO12 ⊢
        obtain ⟨⟨k0, k1, k2, k3, k4⟩, hO2, hg2⟩ := lastI Z12 hO12
        have s12 := hb12.size
        have s13 := HU5.out.size
        have LB2 := (HU5.out.trans (hb12.mono (by omega))).grown hg2 (by omega) (fun j e => by injection e with e; omega)
        obtain ⟨u0, u1, u2, u3, u4⟩ := Z12.cells
        dsimp only at k1 k2 k3 k4
        obtain ⟨q0, q1, q2, q3, q4⟩ := Z12.froz
        have HK := Lib.hid (And.intro k0 (And.intro k1 (And.intro k2 (And.intro k3 k4))))
        have HOO := Lib.hid hO2
        have HLB2 := Lib.hid LB2
        dsimp only [imgV]
        clear Z12 hO12 hb12 hO2 hg2 LB2 k0 k1 k2 k3 k4 KC a0 a1 a2 a3 a4
        go_wp2_with fail
        obtain ⟨k0, k1, k2, k3, k4⟩ := HK.out
        refine bodyPost_ret (v := .tuple #[imgV X ⟨zrA, zrn, zrc, zsA, zsn, zsc, zfA, zfn, zfc, zpA, zpn, zpc⟩, .int .i64 0]) ?_ rfl ⟨_, by rw [RE1.out]; rfl, .inr ⟨w5.heap.size, _, _, _, by omega, HOO.out⟩, HLB2.out⟩
        simp [results, Try.results20, go_sem, k0, k1, k2, k3, k4, imgV]

set_option maxRecDepth 100000 in
set_option maxHeartbeats 1000000 in
theorem resizeOf_past (v : IV) (m : Img) (g : Nat) (w : World) (h : ImgR w w.heap.size v m) (hm : checkErr m = 0) (hg : g ≤ 16) (X : Img) (er : Int) (hX0 : outV (resizeM m g) = X) (hE0 : outE (resizeM m g) = er) (he : 0 < g % 4) (hp : m.root.length ≤ g / 4) :
    Calls Try.prog 20 #[imgV m v, .int .i64 g] w (ImgOwn w.heap.size X er w) := by
  have S := sound_of (check_is hm).1
  have hg16 := (own_facts hm).2.1
  have hmod : ((g % 4 : Nat) : Int) = (g : Int) % 4 := by omega
  have hdiv : ((g / 4 : Nat) : Int) = (g : Int) / 4 := by omega
  have htm : (g : Int).tmod 4 = (g : Int) % 4 := Int.tmod_eq_emod_of_nonneg (by omega)
  have htd : (g : Int).tdiv 4 = (g : Int) / 4 := Int.tdiv_eq_ediv_of_nonneg (by omega)
  have hrl := refs_len hm
  have K1' := fun W (hb : Below w.heap.size w W) => rcheckimg_any v m W (h.next hb)
  rw [hm] at K1'
  have KO' := fun W (hb : Below w.heap.size w W) => ownImg_any v m W (h.next hb) S.cbd (by rw [hrl]; exact S.cbd.slots)
  have KW' := fun W => within_any (g : Int) 0 16 W
  have g0 : decide ((0 : Int) ≤ (g : Int)) = true := decide_eq_true (by omega)
  have g1 : decide ((g : Int) ≤ 16) = true := decide_eq_true (by omega)
  rw [g0, g1, Bool.and_self] at KW'
  have KV' := fun W => rwants_any (g : Int) W (by omega) (by omega)
  rw [wants_nat g] at KV'
  obtain ⟨f1, f2, _, f4, f5⟩ := boxesT w m.guest v
  have hrn' := h.rlen
  have hrc := h.rcap.1
  have e4 : ((g : Int) % 4 != 0) = true := by simp; omega
  have R := resize_skip (m := m) (g := g) (by omega)
  have RX0 := hX0.symm
  have RE0 := hE0.symm
  have HRS := resize_eff hm hg R
  rw [R] at RX0 RE0
  have RX1 := Lib.hid RX0
  have RE1 := Lib.hid RE0
  have HRX := Lib.hid HRS.sound
  have HR4 := Lib.hid (show m.root.length ≤ 4 from by have h1 := (rootF_is (own_facts hm).2.2).1; unfold wants at h1; omega)
  clear RX0 RE0 R HRS
  obtain ⟨rA, rn, rc, sA, sn, sc, fA, fn, fc, pA, pn, pc⟩ := v
  dsimp only [imgV] at *
  have e5 : decide ((g : Int) / 4 < (rn : Int)) = false := decide_eq_false (by omega)
  obtain ⟨x0, x1, x2, x3, x4⟩ := f2
  dsimp only at x0 x1 x2 x3 x4
  have K1 := Lib.hid (K1' _ f1)
  have KO := Lib.hid KO'
  have KW := Lib.hid KW'
  have KV := Lib.hid KV'
  have F1 := Lib.hid f1
  have FZ := Lib.hid f4
  have HX0 := Lib.hid hX0
  have HE0 := Lib.hid hE0
  have HS := Lib.hid S
  have hrn := Lib.hid hrn'
  clear h K1' KO' KW' KV' hX0 hE0 S hrn' g0 g1
  go_enter Try.func20, Try.ntmps20
  go_wp2_with fail
  generalize ((w.alloc (.cells #[.int .i64 m.guest, .slice rA rn rc, .slice sA sn sc, .slice fA fn fc, .slice pA pn pc] 26)).alloc (.cells #[.int .i64 0, .slice none 0 0, .slice none 0 0, .slice none 0 0, .slice none 0 0] 26)) = W2 at *
  refine K1.out.mono ?_
  rintro e' w5 ⟨rfl, hb5⟩
  have B5 := below_next F1.out hb5
  have hs5 := hb5.size
  have hl0 : w.heap.size < W2.heap.size := by omega
  have z0 := (hb5.cell (p := ⟨w.heap.size, 0, none⟩) hl0).trans x0
  have z1 := (hb5.cell (p := ⟨w.heap.size, 1, none⟩) hl0).trans x1
  have z2 := (hb5.cell (p := ⟨w.heap.size, 2, none⟩) hl0).trans x2
  have z3 := (hb5.cell (p := ⟨w.heap.size, 3, none⟩) hl0).trans x3
  have z4 := (hb5.cell (p := ⟨w.heap.size, 4, none⟩) hl0).trans x4
  have HB5 := Lib.hid hb5
  have HT5 := Lib.hid B5
  clear x0 x1 x2 x3 x4 hb5 B5 K1
  go_wp2_with fail
  refine (KW.out _).mono ?_
  rintro e' w6 ⟨rfl, rfl⟩
  have KO5 := Lib.hid (KO.out _ HT5.out)
  clear KO KW
  go_wp2_with fail
  refine KO5.out.mono ?_
  rintro e' w7 ⟨⟨rA7, rn7, rc7, sA7, sn7, sc7, fA7, fn7, fc7, pA7, pn7, pc7⟩, tg, q, p, rfl, hO7, hb7⟩
  have HX9 := Lib.hid (Box.new w7 (g : Nat) ⟨rA7, rn7, rc7, sA7, sn7, sc7, fA7, fn7, fc7, pA7, pn7, pc7⟩ 26)
  have HB9 := Lib.hid (BoxB.new w7 #[.int .i64 (g : Nat), .slice rA7 rn7 rc7, .slice sA7 sn7 sc7, .slice fA7 fn7 fc7, .slice pA7 pn7 pc7])
  have hb9 := below1 w7 (.cells #[.int .i64 (g : Nat), .slice rA7 rn7 rc7, .slice sA7 sn7 sc7, .slice fA7 fn7 fc7, .slice pA7 pn7 pc7] 26)
  have HO9 := Lib.hid ((hO7.newGuest (g : Nat)).next hb9)
  have T9 := below_next hb7 hb9
  have HU9 := Lib.hid (below_next HT5.out T9)
  have HZ9 := Lib.hid (FZ.out.nextB (below_next HB5.out T9) (by omega))
  have hs9 : w5.heap.size ≤ (w7.alloc (.cells #[.int .i64 (g : Nat), .slice rA7 rn7 rc7, .slice sA7 sn7 sc7, .slice fA7 fn7 fc7, .slice pA7 pn7 pc7] 26)).heap.size := T9.size
  have hrl9 := HO9.out.imgR.rlen
  have hrs : m.root.length ≤ 4 := HR4.out
  have hr4 : rn7 ≤ 4 := by dsimp only at hrl9; omega
  have hs7 := hb7.size
  have yb := below_next hb7 (below1 w7 (.cells #[.int .i64 m.guest, .slice rA7 rn7 rc7, .slice sA7 sn7 sc7, .slice fA7 fn7 fc7, .slice pA7 pn7 pc7] 26))
  have y1 := (yb.cell (p := ⟨w.heap.size, 1, none⟩) (show w.heap.size < w5.heap.size by omega)).trans z1
  clear T9 hb9 hrl9 hrs hO7 hb7 HB5 KO5 F1 FZ yb z0 z1 z2 z3 z4
  dsimp only [imgV]
  go_wp2_with fail
  generalize (w7.alloc (.cells #[.int .i64 (g : Nat), .slice rA7 rn7 rc7, .slice sA7 sn7 sc7, .slice fA7 fn7 fc7, .slice pA7 pn7 pc7] 26)) = w9 at *
  go_loopw [67] (fun _ wr => ∃ (k : Nat) (A : Option Addr) (c : Nat) (tg : Nat → Nat), (k = 0 ∨ rn7 + k ≤ (g + 3) / 4) ∧ OwnI wr w5.heap.size tg ⟨A, rn7 + k, c, sA7, sn7, sc7, fA7, fn7, fc7, pA7, pn7, pc7⟩ q p { m with guest := (g : Nat), root := m.root ++ List.replicate k 0 } ∧ Box wr w7.heap.size (g : Nat) ⟨A, rn7 + k, c, sA7, sn7, sc7, fA7, fn7, fc7, pA7, pn7, pc7⟩ ∧ BoxB wr w7.heap.size ∧ ZB wr (w.heap.size + 1) ∧ Below w.heap.size w wr ∧ w9.heap.size ≤ wr.heap.size) (fun _ wr => (g + 3) / 4 - lenAt wr w7.heap.size)
  case atStart => exact ⟨0, _, _, tg, .inl rfl, by simpa using HO9.out, HX9.out, HB9.out, HZ9.out, HU9.out, Nat.le_refl _⟩
  case round =>
    obtain ⟨k, A, c, tgk, hk, hO, hX, hB, hZ, hU, hsz⟩ := hrel
    clear HX9 HB9 HO9 HZ9 HU9
    have hnn : rn7 + k ≤ 8 := by omega
    have HKK := Lib.hid hk
    have HO := Lib.hid hO
    have HX := Lib.hid hX
    have HB := Lib.hid hB
    have HZ := Lib.hid hZ
    have HU := Lib.hid hU
    have hln : ({ m with guest := (g : Nat), root := m.root ++ List.replicate k 0 } : Img).root.length = rn7 + k := hO.imgR.rlen
    have hk16 : k ≤ 16 := by omega
    generalize hN : rn7 + k = N at *
    have HN := Lib.hid hN
    obtain ⟨a0, a1, a2, a3, a4⟩ := hX
    have b1 := hB.fz 1
    dsimp only at a0 a1 a2 a3 a4
    have hml : lenAt wr w7.heap.size = N := lenAt_is a1
    clear hO hB hZ hU hk hN
    generalize hG : (g + 3) / 4 = W at *
    have HG := Lib.hid hG
    clear hG
    by_cases hlt : N < W
    · have c0 : decide ((N : Int) < (W : Int)) = true := decide_eq_true (by omega)
      obtain ⟨g', c', w', tg', r1, O', U', K'⟩ := (HO.out.next (Below.refl wr.heap.size wr).drew).push0 (by show _ ≤ wr.heap.size; omega) (by show N ≤ _; omega)
      dsimp only at r1 O'
      have HR := Lib.hid r1
      have heq := K' _ _ HB.out.ty (by decide)
      have B1 : BoxB w' w7.heap.size := by obtain ⟨cur, e⟩ := HB.out; exact ⟨cur, (K' _ _ HB.out.ty (by decide)).trans e⟩
      have X1 : Box w' w7.heap.size (g : Nat) ⟨A, N, c, sA7, sn7, sc7, fA7, fn7, fc7, pA7, pn7, pc7⟩ := by
        obtain ⟨cur, e⟩ := HB.out
        have e' : w'.heap[w7.heap.size]? = _ := heq.trans e
        have cc := fun j => (cell_of_row w' w7.heap.size j _ _ _ e').trans (cell_of_row wr w7.heap.size j _ _ _ e).symm
        exact ⟨(cc 0).trans a0, (cc 1).trans a1, (cc 2).trans a2, (cc 3).trans a3, (cc 4).trans a4⟩
      have Z1 : ZB w' (w.heap.size + 1) := ⟨(K' _ _ HZ.out.box.1.ty (by decide)).trans HZ.out.heap⟩
      have hgs := grown_set w' w7.heap.size 1 (.slice (some ⟨g', 0, none⟩) (N + 1) c')
      have O2 := O'.kept hgs B1.ty (by decide) (by decide) (by decide)
      have B2 := B1.set 1 (.slice (some ⟨g', 0, none⟩) (N + 1) c')
      have Z2 : ZB _ (w.heap.size + 1) := ⟨(hgs.block _ Z1.box.1.ty.lt (fun e => by injection e with e; omega)).trans Z1.heap⟩
      have U2 := (HU.out.drew.trans (U'.mono (by omega))).setCell (p := ⟨w7.heap.size, 1, none⟩) (show w.heap.size ≤ w7.heap.size by omega) (.slice (some ⟨g', 0, none⟩) (N + 1) c')
      have hsz2 : w9.heap.size ≤ (w'.setCell ⟨w7.heap.size, 1, none⟩ (.slice (some ⟨g', 0, none⟩) (N + 1) c')).heap.size := by have h1 := U'.size; have h2 := hgs.size; have h3 : wr.drew.heap.size = wr.heap.size := rfl; omega
      obtain ⟨d0, d1, d2, d3, d4⟩ := X1
      dsimp only at d0 d1 d2 d3 d4
      have X2 : Box (w'.setCell ⟨w7.heap.size, 1, none⟩ (.slice (some ⟨g', 0, none⟩) (N + 1) c')) w7.heap.size (g : Nat) ⟨some ⟨g', 0, none⟩, N + 1, c', sA7, sn7, sc7, fA7, fn7, fc7, pA7, pn7, pc7⟩ := by
        refine ⟨?_, ?_, ?_, ?_, ?_⟩ <;> go_simp
      have e1 := B1.fz 1
      have HO2 := Lib.hid O2
      have HX2 := Lib.hid X2
      have HB2 := Lib.hid B2
      have HZ2 := Lib.hid Z2
      have HU2 := Lib.hid U2
      clear O' K' heq B1 Z1 hgs O2 B2 Z2 U2 X2 r1 U'
      go_wp2_with fail
      refine wp_region_z (S := fun W' => W'.cell? ⟨w7.heap.size, 1, none⟩ = some (.slice A N c)) 5 (by kernel_rfl) (fun hC => ?_)
      have hSS : wr.drew.cell? ⟨w7.heap.size, 1, none⟩ = some (.slice A N c) := a1
      apply wpAnyZ_take (i := 0)
      case hi => rfl
      case hs => kernel_rfl
      case hf => kernel_rfl
      case hr => kernel_rfl
      case hu => kernel_rfl
      case hw => exact fun z h1 h2 => (by have h2 : z < 6 := h2; have h3 : z = 5 := (by omega); subst h3; exact ⟨[1, 2], by kernel_rfl⟩)
      case hQ => exact fun _ _ _ h => h
      case hy => exact Or.inl ⟨by rfl, fun w' hSw => by (have s0 := hSw; go_simp; try with_reducible rfl)⟩
      case hS => assumption
      case hC => assumption
      clear hC
      intro hC
      apply wpAnyZ_take (i := 1)
      case hi => rfl
      case hs => kernel_rfl
      case hf => kernel_rfl
      case hr => kernel_rfl
      case hu => kernel_rfl
      case hw => exact fun z h1 h2 => (by have h2 : z < 6 := h2; have h3 : z = 5 := (by omega); subst h3; exact ⟨[2], by kernel_rfl⟩)
      case hQ => exact fun _ _ _ h => h
      case hy => exact Or.inl ⟨by rfl, fun w' hSw => by (have s0 := hSw; go_simp; try with_reducible rfl)⟩
      case hS => assumption
      case hC => assumption
      clear hC
      intro hC
      apply wpAnyZ_take (i := 2)
      case hi => rfl
      case hs => kernel_rfl
      case hf => kernel_rfl
      case hr => kernel_rfl
      case hu => kernel_rfl
      case hw => exact fun z h1 h2 => (by have h2 : z < 6 := h2; have h3 : z = 5 := (by omega); subst h3; exact ⟨[], by kernel_rfl⟩)
      case hQ => exact fun _ _ _ h => h
      case hy => exact Or.inl ⟨by rfl, fun w' hSw => by (have s0 := hSw; go_simp; try with_reducible rfl)⟩
      case hS => assumption
      case hC => assumption
      clear hC
      intro hC
      apply wpAnyZ_take (i := 3)
      case hi => rfl
      case hs => kernel_rfl
      case hf => kernel_rfl
      case hr => kernel_rfl
      case hu => kernel_rfl
      case hw => exact fun z h1 h2 => (by have h2 : z < 6 := h2; have h3 : z = 5 := (by omega); subst h3; exact ⟨[4], by kernel_rfl⟩)
      case hQ => exact fun _ _ _ h => h
      case hy => exact Or.inl ⟨by rfl, fun w' hSw => by (have s0 := hSw; go_simp; try with_reducible rfl)⟩
      case hS => assumption
      case hC => assumption
      clear hC
      intro hC
      clear hC
      refine wpAnyZ_one (i := 4) (by kernel_rfl) rfl (fun K' hK => ?_)
      go_simp
      refine (KV.out _).mono ?_
      rintro e' w11 ⟨rfl, rfl⟩
      refine hK.out _ _ (fun _ => hSS) ?_
      clear hK
      refine wpAnyZ_one (i := 5) (by kernel_rfl) rfl (fun K' hK => ?_)
      go_simp
      refine hK.out _ _ (fun h => absurd h (by decide)) ?_
      clear hK
      refine wpAnyZ_done (by kernel_rfl) ?_ _
      clear hSS
      go_wp2_with (at_builtin; refine wpList_app rfl _ _ _ _ rfl rfl rfl rfl HR.out ?_)
      have hm2 := lenAt_is HX2.out.2.1
      dsimp only at hm2
      have hN := HN.out
      subst hN
      go_roundw
      case rel => exact ⟨k + 1, some ⟨g', 0, none⟩, c', tg', .inr (by omega), by rw [List.replicate_succ', ← List.append_assoc]; exact HO2.out, HX2.out, HB2.out, HZ2.out, HU2.out, hsz2⟩
      case measure => omega
    · have c0 : decide ((N : Int) < (W : Int)) = false := decide_eq_false (by omega)
      go_wp2_with fail
      refine wp_region_z (S := fun W' => W'.cell? ⟨w7.heap.size, 1, none⟩ = some (.slice A N c)) 5 (by kernel_rfl) (fun hC => ?_)
      have hSS : wr.drew.cell? ⟨w7.heap.size, 1, none⟩ = some (.slice A N c) := a1
      apply wpAnyZ_take (i := 0)
      case hi => rfl
      case hs => kernel_rfl
      case hf => kernel_rfl
      case hr => kernel_rfl
      case hu => kernel_rfl
      case hw => exact fun z h1 h2 => (by have h2 : z < 6 := h2; have h3 : z = 5 := (by omega); subst h3; exact ⟨[1, 2], by kernel_rfl⟩)
      case hQ => exact fun _ _ _ h => h
      case hy => exact Or.inl ⟨by rfl, fun w' hSw => by (have s0 := hSw; go_simp; try with_reducible rfl)⟩
      case hS => assumption
      case hC => assumption
      clear hC
      intro hC
      apply wpAnyZ_take (i := 1)
      case hi => rfl
      case hs => kernel_rfl
      case hf => kernel_rfl
      case hr => kernel_rfl
      case hu => kernel_rfl
      case hw => exact fun z h1 h2 => (by have h2 : z < 6 := h2; have h3 : z = 5 := (by omega); subst h3; exact ⟨[2], by kernel_rfl⟩)
      case hQ => exact fun _ _ _ h => h
      case hy => exact Or.inl ⟨by rfl, fun w' hSw => by (have s0 := hSw; go_simp; try with_reducible rfl)⟩
      case hS => assumption
      case hC => assumption
      clear hC
      intro hC
      apply wpAnyZ_take (i := 2)
      case hi => rfl
      case hs => kernel_rfl
      case hf => kernel_rfl
      case hr => kernel_rfl
      case hu => kernel_rfl
      case hw => exact fun z h1 h2 => (by have h2 : z < 6 := h2; have h3 : z = 5 := (by omega); subst h3; exact ⟨[], by kernel_rfl⟩)
      case hQ => exact fun _ _ _ h => h
      case hy => exact Or.inl ⟨by rfl, fun w' hSw => by (have s0 := hSw; go_simp; try with_reducible rfl)⟩
      case hS => assumption
      case hC => assumption
      clear hC
      intro hC
      apply wpAnyZ_take (i := 3)
      case hi => rfl
      case hs => kernel_rfl
      case hf => kernel_rfl
      case hr => kernel_rfl
      case hu => kernel_rfl
      case hw => exact fun z h1 h2 => (by have h2 : z < 6 := h2; have h3 : z = 5 := (by omega); subst h3; exact ⟨[4], by kernel_rfl⟩)
      case hQ => exact fun _ _ _ h => h
      case hy => exact Or.inl ⟨by rfl, fun w' hSw => by (have s0 := hSw; go_simp; try with_reducible rfl)⟩
      case hS => assumption
      case hC => assumption
      clear hC
      intro hC
      clear hC
      refine wpAnyZ_one (i := 4) (by kernel_rfl) rfl (fun K' hK => ?_)
      go_simp
      refine (KV.out _).mono ?_
      rintro e' w11 ⟨rfl, rfl⟩
      refine hK.out _ _ (fun _ => hSS) ?_
      clear hK
      refine wpAnyZ_one (i := 5) (by kernel_rfl) rfl (fun K' hK => ?_)
      go_simp
      refine hK.out _ _ (fun h => absurd h (by decide)) ?_
      clear hK
      refine wpAnyZ_done (by kernel_rfl) ?_ _
      clear hSS
      go_wp2_with fail
      have hcap : N ≤ c := HO.out.root.1
      have hi1 : (W : Int) ≤ (c : Int) := by omega
      have hi0 : (0 : Int) ≤ (W : Int) := by omega
      refine wp_region_z (S := fun W' => W'.cell? ⟨w7.heap.size, 1, none⟩ = some (.slice A N c)) 6 (by kernel_rfl) (fun hC => ?_)
      have hSS : wr.drew.drew.cell? ⟨w7.heap.size, 1, none⟩ = some (.slice A N c) := a1
      apply wpAnyZ_take (i := 0)
      case hi => rfl
      case hs => kernel_rfl
      case hf => kernel_rfl
      case hr => kernel_rfl
      case hu => kernel_rfl
      case hw => exact fun z h1 h2 => (by have h2 : z < 7 := h2; have h3 : z = 6 := (by omega); subst h3; exact ⟨[1, 4], by kernel_rfl⟩)
      case hQ => exact fun _ _ _ h => h
      case hy => exact Or.inl ⟨by rfl, fun w' hSw => by (have s0 := hSw; go_simp; try with_reducible rfl)⟩
      case hS => assumption
      case hC => assumption
      clear hC
      intro hC
      apply wpAnyZ_take (i := 1)
      case hi => rfl
      case hs => kernel_rfl
      case hf => kernel_rfl
      case hr => kernel_rfl
      case hu => kernel_rfl
      case hw => exact fun z h1 h2 => (by have h2 : z < 7 := h2; have h3 : z = 6 := (by omega); subst h3; exact ⟨[4], by kernel_rfl⟩)
      case hQ => exact fun _ _ _ h => h
      case hy => exact Or.inl ⟨by rfl, fun w' hSw => by (have s0 := hSw; go_simp; try with_reducible rfl)⟩
      case hS => assumption
      case hC => assumption
      clear hC
      intro hC
      apply wpAnyZ_take (i := 2)
      case hi => rfl
      case hs => kernel_rfl
      case hf => kernel_rfl
      case hr => kernel_rfl
      case hu => kernel_rfl
      case hw => exact fun z h1 h2 => (by have h2 : z < 7 := h2; have h3 : z = 6 := (by omega); subst h3; exact ⟨[3, 4], by kernel_rfl⟩)
      case hQ => exact fun _ _ _ h => h
      case hy => exact Or.inl ⟨by rfl, fun w' hSw => by (have s0 := hSw; go_simp; try with_reducible rfl)⟩
      case hS => assumption
      case hC => assumption
      clear hC
      intro hC
      clear hC
      refine wpAnyZ_one (i := 3) (by kernel_rfl) rfl (fun K' hK => ?_)
      go_simp
      refine (KV.out _).mono ?_
      rintro e' w11 ⟨rfl, rfl⟩
      refine hK.out _ _ (fun _ => hSS) ?_
      clear hK
      have hWN : W ≤ N := by omega
      have HER := Lib.hid (show ({ m with guest := (g : Nat), root := (m.root ++ List.replicate k 0).take W } : Img) = resized m g from by
        unfold resized
        rw [← HG.out, take_rep hk16 (by have h1 := hln; have h2 := HG.out; rw [List.length_append, List.length_replicate] at h1; omega)])
      have fz1 := HB.out.fz 1
      have hff : wr.drew.drew.frozen? ⟨w7.heap.size, 1, none⟩ = false := fz1
      rcases A with _ | a
      · refine wpAnyZ_one (i := 4) (by kernel_rfl) rfl (fun K' hK => ?_)
        go_simp
        refine hK.out _ _ (fun _ => hSS) ?_
        clear hK
        refine wpAnyZ_one (i := 5) (by kernel_rfl) rfl (fun K' hK => ?_)
        go_simp
        refine hK.out _ _ (fun _ => hSS) ?_
        clear hK
        refine wpAnyZ_one (i := 6) (by kernel_rfl) rfl (fun K' hK => ?_)
        go_simp
        refine hK.out _ _ (fun h => absurd h (by decide)) ?_
        clear hK
        refine wpAnyZ_done (by kernel_rfl) ?_ _
        have hgs := grown_set wr w7.heap.size 1 (.slice none W c)
        have O3 := HO.out.newRoot (TabO.take HO.out.root hWN)
        have O4 := ((O3.kept hgs HB.out.ty (by decide) (by decide) (by decide)).next (Below.refl _ _).drew).next (Below.refl _ _).drew
        dsimp only at O4
        rw [HER.out] at O4
        have X5 : Box ((wr.setCell ⟨w7.heap.size, 1, none⟩ (.slice none W c)).drew.drew) w7.heap.size (g : Nat) ⟨none, W, c, sA7, sn7, sc7, fA7, fn7, fc7, pA7, pn7, pc7⟩ := by
          refine ⟨?_, ?_, ?_, ?_, ?_⟩ <;> go_simp
        have Z5 : ZB ((wr.setCell ⟨w7.heap.size, 1, none⟩ (.slice none W c)).drew.drew) (w.heap.size + 1) := ⟨(hgs.block _ HZ.out.box.1.ty.lt (fun e => by injection e with e; omega)).trans HZ.out.heap⟩
        have U5 := (HU.out.setCell (p := ⟨w7.heap.size, 1, none⟩) (show w.heap.size ≤ w7.heap.size by omega) (.slice none W c)).drew.drew
        have hsz5 : w5.heap.size ≤ ((wr.setCell ⟨w7.heap.size, 1, none⟩ (.slice none W c)).drew.drew).heap.size := by have h2 := hgs.size; show _ ≤ (wr.setCell ⟨w7.heap.size, 1, none⟩ (.slice none W c)).heap.size; omega
        have HO5 := Lib.hid O4
        have HZ5 := Lib.hid Z5
        have HU5 := Lib.hid U5
        clear hgs O3 O4 Z5 U5 hSS HX HB HZ HU HO a0 a1 a2 a3 a4 fz1 hff b1 hml hln hsz
        obtain ⟨a0, a1, a2, a3, a4⟩ := X5
        dsimp only at a0 a1 a2 a3 a4
        generalize ((wr.setCell ⟨w7.heap.size, 1, none⟩ (.slice none W c)).drew.drew) = w13 at *
        have KC' := counted_any w5.heap.size tgk _ q p _ _ HO5.out hsz5 HRX.out.cbd
        dsimp only [imgV, resized] at KC'
        have KC := Lib.hid KC'
        clear KC'
        go_wp2_with fail
        refine KC.out.mono ?_
        rintro e' w14 ⟨⟨zrA, zrn, zrc, zsA, zsn, zsc, zfA, zfn, zfc, zpA, zpn, zpc⟩, tg12, q12, p12, rfl, hO12, hb12⟩
        have Z12 := HZ5.out.nextB hb12 (by omega)
        have hsX : settled { guest := (g : Nat), root := (m.root ++ List.replicate 16 0).take ((g + 3) / 4), slots := m.slots, refs := m.refs, snaps := m.snaps } = X := RX1.out.symm
        rw [hsX] at hO12 ⊢
        obtain ⟨⟨k0, k1, k2, k3, k4⟩, hO2, hg2⟩ := lastI Z12 hO12
        have s12 := hb12.size
        have s13 := HU5.out.size
        have LB2 := (HU5.out.trans (hb12.mono (by omega))).grown hg2 (by omega) (fun j e => by injection e with e; omega)
        obtain ⟨u0, u1, u2, u3, u4⟩ := Z12.cells
        dsimp only at k1 k2 k3 k4
        obtain ⟨q0, q1, q2, q3, q4⟩ := Z12.froz
        have HK := Lib.hid (And.intro k0 (And.intro k1 (And.intro k2 (And.intro k3 k4))))
        have HOO := Lib.hid hO2
        have HLB2 := Lib.hid LB2
        dsimp only [imgV]
        clear Z12 hO12 hb12 hO2 hg2 LB2 k0 k1 k2 k3 k4 KC a0 a1 a2 a3 a4
        go_wp2_with fail
        obtain ⟨k0, k1, k2, k3, k4⟩ := HK.out
        refine bodyPost_ret (v := .tuple #[imgV X ⟨zrA, zrn, zrc, zsA, zsn, zsc, zfA, zfn, zfc, zpA, zpn, zpc⟩, .int .i64 0]) ?_ rfl ⟨_, by rw [RE1.out]; rfl, .inr ⟨w5.heap.size, _, _, _, by omega, HOO.out⟩, HLB2.out⟩
        simp [results, Try.results20, go_sem, k0, k1, k2, k3, k4, imgV]
      · refine wpAnyZ_one (i := 4) (by kernel_rfl) rfl (fun K' hK => ?_)
        go_simp
        refine hK.out _ _ (fun _ => hSS) ?_
        clear hK
        refine wpAnyZ_one (i := 5) (by kernel_rfl) rfl (fun K' hK => ?_)
        go_simp
        refine hK.out _ _ (fun _ => hSS) ?_
        clear hK
        refine wpAnyZ_one (i := 6) (by kernel_rfl) rfl (fun K' hK => ?_)
        go_simp
        refine hK.out _ _ (fun h => absurd h (by decide)) ?_
        clear hK
        refine wpAnyZ_done (by kernel_rfl) ?_ _
        have hgs := grown_set wr w7.heap.size 1 (.slice (some a) W c)
        have O3 := HO.out.newRoot (TabO.take HO.out.root hWN)
        have O4 := ((O3.kept hgs HB.out.ty (by decide) (by decide) (by decide)).next (Below.refl _ _).drew).next (Below.refl _ _).drew
        dsimp only at O4
        rw [HER.out] at O4
        have X5 : Box ((wr.setCell ⟨w7.heap.size, 1, none⟩ (.slice (some a) W c)).drew.drew) w7.heap.size (g : Nat) ⟨(some a), W, c, sA7, sn7, sc7, fA7, fn7, fc7, pA7, pn7, pc7⟩ := by
          refine ⟨?_, ?_, ?_, ?_, ?_⟩ <;> go_simp
        have Z5 : ZB ((wr.setCell ⟨w7.heap.size, 1, none⟩ (.slice (some a) W c)).drew.drew) (w.heap.size + 1) := ⟨(hgs.block _ HZ.out.box.1.ty.lt (fun e => by injection e with e; omega)).trans HZ.out.heap⟩
        have U5 := (HU.out.setCell (p := ⟨w7.heap.size, 1, none⟩) (show w.heap.size ≤ w7.heap.size by omega) (.slice (some a) W c)).drew.drew
        have hsz5 : w5.heap.size ≤ ((wr.setCell ⟨w7.heap.size, 1, none⟩ (.slice (some a) W c)).drew.drew).heap.size := by have h2 := hgs.size; show _ ≤ (wr.setCell ⟨w7.heap.size, 1, none⟩ (.slice (some a) W c)).heap.size; omega
        have HO5 := Lib.hid O4
        have HZ5 := Lib.hid Z5
        have HU5 := Lib.hid U5
        clear hgs O3 O4 Z5 U5 hSS HX HB HZ HU HO a0 a1 a2 a3 a4 fz1 hff b1 hml hln hsz
        obtain ⟨a0, a1, a2, a3, a4⟩ := X5
        dsimp only at a0 a1 a2 a3 a4
        generalize ((wr.setCell ⟨w7.heap.size, 1, none⟩ (.slice (some a) W c)).drew.drew) = w13 at *
        have KC' := counted_any w5.heap.size tgk _ q p _ _ HO5.out hsz5 HRX.out.cbd
        dsimp only [imgV, resized] at KC'
        have KC := Lib.hid KC'
        clear KC'
        go_wp2_with fail
        refine KC.out.mono ?_
        rintro e' w14 ⟨⟨zrA, zrn, zrc, zsA, zsn, zsc, zfA, zfn, zfc, zpA, zpn, zpc⟩, tg12, q12, p12, rfl, hO12, hb12⟩
        have Z12 := HZ5.out.nextB hb12 (by omega)
        have hsX : settled { guest := (g : Nat), root := (m.root ++ List.replicate 16 0).take ((g + 3) / 4), slots := m.slots, refs := m.refs, snaps := m.snaps } = X := RX1.out.symm
        rw [hsX] at hO12 ⊢
        obtain ⟨⟨k0, k1, k2, k3, k4⟩, hO2, hg2⟩ := lastI Z12 hO12
        have s12 := hb12.size
        have s13 := HU5.out.size
        have LB2 := (HU5.out.trans (hb12.mono (by omega))).grown hg2 (by omega) (fun j e => by injection e with e; omega)
        obtain ⟨u0, u1, u2, u3, u4⟩ := Z12.cells
        dsimp only at k1 k2 k3 k4
        obtain ⟨q0, q1, q2, q3, q4⟩ := Z12.froz
        have HK := Lib.hid (And.intro k0 (And.intro k1 (And.intro k2 (And.intro k3 k4))))
        have HOO := Lib.hid hO2
        have HLB2 := Lib.hid LB2
        dsimp only [imgV]
        clear Z12 hO12 hb12 hO2 hg2 LB2 k0 k1 k2 k3 k4 KC a0 a1 a2 a3 a4
        go_wp2_with fail
        obtain ⟨k0, k1, k2, k3, k4⟩ := HK.out
        refine bodyPost_ret (v := .tuple #[imgV X ⟨zrA, zrn, zrc, zsA, zsn, zsc, zfA, zfn, zfc, zpA, zpn, zpc⟩, .int .i64 0]) ?_ rfl ⟨_, by rw [RE1.out]; rfl, .inr ⟨w5.heap.size, _, _, _, by omega, HOO.out⟩, HLB2.out⟩
        simp [results, Try.results20, go_sem, k0, k1, k2, k3, k4, imgV]

set_option maxRecDepth 100000 in
set_option maxHeartbeats 1000000 in
theorem resizeOf_same (v : IV) (m : Img) (g : Nat) (w : World) (h : ImgR w w.heap.size v m) (hm : checkErr m = 0) (hg : g ≤ 16) (X : Img) (er : Int) (hX0 : outV (resizeM m g) = X) (hE0 : outE (resizeM m g) = er) (hc : 0 < g % 4 ∧ g / 4 < m.root.length) (hsm : (entriesAt m (g / 4)).take (g % 4) ++ List.replicate (4 - g % 4) 0 = entriesAt m (g / 4)) :
    Calls Try.prog 20 #[imgV m v, .int .i64 g] w (ImgOwn w.heap.size X er w) := by
  have S := sound_of (check_is hm).1
  have hg16 := (own_facts hm).2.1
  have hmod : ((g % 4 : Nat) : Int) = (g : Int) % 4 := by omega
  have hdiv : ((g / 4 : Nat) : Int) = (g : Int) / 4 := by omega
  have htm : (g : Int).tmod 4 = (g : Int) % 4 := Int.tmod_eq_emod_of_nonneg (by omega)
  have htd : (g : Int).tdiv 4 = (g : Int) / 4 := Int.tdiv_eq_ediv_of_nonneg (by omega)
  have hrl := refs_len hm
  have K1' := fun W (hb : Below w.heap.size w W) => rcheckimg_any v m W (h.next hb)
  rw [hm] at K1'
  have KO' := fun W (hb : Below w.heap.size w W) => ownImg_any v m W (h.next hb) S.cbd (by rw [hrl]; exact S.cbd.slots)
  have KW' := fun W => within_any (g : Int) 0 16 W
  have g0 : decide ((0 : Int) ≤ (g : Int)) = true := decide_eq_true (by omega)
  have g1 : decide ((g : Int) ≤ 16) = true := decide_eq_true (by omega)
  rw [g0, g1, Bool.and_self] at KW'
  have KV' := fun W => rwants_any (g : Int) W (by omega) (by omega)
  rw [wants_nat g] at KV'
  obtain ⟨f1, f2, _, f4, f5⟩ := boxesT w m.guest v
  have hrn' := h.rlen
  have hrc := h.rcap.1
  have R := resize_some hc (putM_same (by simp [hsm]))
  have RX0 := hX0.symm
  have RE0 := hE0.symm
  have HRS := resize_eff hm hg R
  rw [R] at RX0 RE0
  have RX1 := Lib.hid RX0
  have RE1 := Lib.hid RE0
  have HRX := Lib.hid HRS.sound
  have HR4 := Lib.hid (show m.root.length ≤ 4 from by have h1 := (rootF_is (own_facts hm).2.2).1; unfold wants at h1; omega)
  clear RX0 RE0 R HRS
  have e4 : ((g : Int) % 4 != 0) = true := by simp; omega
  obtain ⟨rb, ro, t, hA, hrb, hti, hct⟩ := h.root.at1 (k := g / 4) (by omega)
  have hit := int_at hti
  have KE' := fun W (hb : Below w.heap.size w W) => tableOf_any v m (g / 4) W (h.next hb) hm hc.2
  rw [hit] at KE'
  obtain ⟨f41, f42, f43⟩ := entries_facts hm hc.2
  obtain ⟨j1, j2, j3⟩ := cut_entries f41 (n := g % 4) (by omega)
  obtain ⟨rA, rn, rc, sA, sn, sc, fA, fn, fc, pA, pn, pc⟩ := v
  dsimp only [imgV] at *
  subst hA
  have e5 : decide ((g : Int) / 4 < (rn : Int)) = true := decide_eq_true (by omega)
  have hk0 : (0 : Int) ≤ (g : Int) / 4 := by omega
  have hk1 : (g : Int) / 4 < (rn : Int) := by omega
  have hct2 := (f1.cell (p := ⟨rb, ro + g / 4, none⟩) hrb).trans hct
  have KE := Lib.hid KE'
  have HJ1 := Lib.hid j1
  have HJ2 := Lib.hid j2
  have H4 := Lib.hid (entriesErr_is f41).1
  clear KE' j1 j2 j3 f41 f42 f43 hti hct hit
  obtain ⟨x0, x1, x2, x3, x4⟩ := f2
  dsimp only at x0 x1 x2 x3 x4
  have K1 := Lib.hid (K1' _ f1)
  have KO := Lib.hid KO'
  have KW := Lib.hid KW'
  have KV := Lib.hid KV'
  have F1 := Lib.hid f1
  have FZ := Lib.hid f4
  have HX0 := Lib.hid hX0
  have HE0 := Lib.hid hE0
  have HS := Lib.hid S
  have hrn := Lib.hid hrn'
  clear h K1' KO' KW' KV' hX0 hE0 S hrn' g0 g1
  go_enter Try.func20, Try.ntmps20
  go_wp2_with fail
  generalize ((w.alloc (.cells #[.int .i64 m.guest, .slice (some ⟨rb, ro, none⟩) rn rc, .slice sA sn sc, .slice fA fn fc, .slice pA pn pc] 26)).alloc (.cells #[.int .i64 0, .slice none 0 0, .slice none 0 0, .slice none 0 0, .slice none 0 0] 26)) = W2 at *
  refine K1.out.mono ?_
  rintro e' w5 ⟨rfl, hb5⟩
  have B5 := below_next F1.out hb5
  have hs5 := hb5.size
  have hl0 : w.heap.size < W2.heap.size := by omega
  have z0 := (hb5.cell (p := ⟨w.heap.size, 0, none⟩) hl0).trans x0
  have z1 := (hb5.cell (p := ⟨w.heap.size, 1, none⟩) hl0).trans x1
  have z2 := (hb5.cell (p := ⟨w.heap.size, 2, none⟩) hl0).trans x2
  have z3 := (hb5.cell (p := ⟨w.heap.size, 3, none⟩) hl0).trans x3
  have z4 := (hb5.cell (p := ⟨w.heap.size, 4, none⟩) hl0).trans x4
  have HB5 := Lib.hid hb5
  have HT5 := Lib.hid B5
  clear x0 x1 x2 x3 x4 hb5 B5 K1
  go_wp2_with fail
  refine (KW.out _).mono ?_
  rintro e' w6 ⟨rfl, rfl⟩
  have KO5 := Lib.hid (KO.out _ HT5.out)
  clear KO KW
  go_wp2_with fail
  refine KO5.out.mono ?_
  rintro e' w7 ⟨⟨rA7, rn7, rc7, sA7, sn7, sc7, fA7, fn7, fc7, pA7, pn7, pc7⟩, tg, q, p, rfl, hO7, hb7⟩
  have hb8 := below1 w7 (.cells #[.int .i64 m.guest, .slice rA7 rn7 rc7, .slice sA7 sn7 sc7, .slice fA7 fn7 fc7, .slice pA7 pn7 pc7] 26)
  have T8 := below_next hb7 hb8
  have HX8 := Lib.hid (Box.new w7 m.guest ⟨rA7, rn7, rc7, sA7, sn7, sc7, fA7, fn7, fc7, pA7, pn7, pc7⟩ 26)
  have HB8 := Lib.hid (BoxB.new w7 #[.int .i64 m.guest, .slice rA7 rn7 rc7, .slice sA7 sn7 sc7, .slice fA7 fn7 fc7, .slice pA7 pn7 pc7])
  have HO8 := Lib.hid (hO7.next hb8)
  have hs7 := hb7.size
  have HU8 := Lib.hid (below_next HT5.out T8)
  have HZ8 := Lib.hid (FZ.out.nextB (below_next HB5.out T8) (by omega))
  have HT8 := Lib.hid T8
  have hl8 : w7.heap.size < (w7.alloc (.cells #[.int .i64 m.guest, .slice rA7 rn7 rc7, .slice sA7 sn7 sc7, .slice fA7 fn7 fc7, .slice pA7 pn7 pc7] 26)).heap.size := by simp
  have hl2 : w.heap.size < w5.heap.size := by omega
  have y0 := (T8.cell (p := ⟨w.heap.size, 0, none⟩) hl2).trans z0
  have y1 := (T8.cell (p := ⟨w.heap.size, 1, none⟩) hl2).trans z1
  have y2 := (T8.cell (p := ⟨w.heap.size, 2, none⟩) hl2).trans z2
  have y3 := (T8.cell (p := ⟨w.heap.size, 3, none⟩) hl2).trans z3
  have y4 := (T8.cell (p := ⟨w.heap.size, 4, none⟩) hl2).trans z4
  dsimp only [imgV]
  clear z0 z1 z2 z3 z4 hO7 hb7 hb8 T8 KO5
  have c5 := (HT8.out.cell (p := ⟨rb, ro + g / 4, none⟩) (show rb < w5.heap.size by omega)).trans ((HB5.out.cell (p := ⟨rb, ro + g / 4, none⟩) (show rb < W2.heap.size by omega)).trans hct2)
  clear hct2
  go_wp2_with fail
  generalize (w7.alloc (.cells #[.int .i64 m.guest, .slice rA7 rn7 rc7, .slice sA7 sn7 sc7, .slice fA7 fn7 fc7, .slice pA7 pn7 pc7] 26)) = w8 at *
  have hbd : Hid (Below w.heap.size w w8.drew) := Lib.hid HU8.out.drew
  have hto : ((g : Int) / 4).toNat = g / 4 := by omega
  have c6 : w8.cell? ⟨rb, ro + ((g : Int) / 4).toNat, none⟩ = some (.int .i64 t) := by rw [hto]; exact c5
  have hlw : w.heap.size < w8.heap.size := by omega
  have hlr : rb < w8.heap.size := by omega
  have mvS := Lib.hid (fun (W' : World) (hb : Below w8.drew.heap.size w8.drew W') => (show (W'.cell? ⟨w.heap.size, 0, none⟩ = some (.int .i64 m.guest) ∧ W'.cell? ⟨w.heap.size, 1, none⟩ = some (.slice (some ⟨rb, ro, none⟩) rn rc) ∧ W'.cell? ⟨w.heap.size, 2, none⟩ = some (.slice sA sn sc) ∧ W'.cell? ⟨w.heap.size, 3, none⟩ = some (.slice fA fn fc) ∧ W'.cell? ⟨w.heap.size, 4, none⟩ = some (.slice pA pn pc) ∧ W'.cell? ⟨rb, ro + ((g : Int) / 4).toNat, none⟩ = some (.int .i64 t) ∧ W'.cell? ⟨rb, ro + g / 4, none⟩ = some (.int .i64 t)) from
    ⟨(hb.cell (p := ⟨w.heap.size, 0, none⟩) hlw).trans y0, (hb.cell (p := ⟨w.heap.size, 1, none⟩) hlw).trans y1, (hb.cell (p := ⟨w.heap.size, 2, none⟩) hlw).trans y2, (hb.cell (p := ⟨w.heap.size, 3, none⟩) hlw).trans y3, (hb.cell (p := ⟨w.heap.size, 4, none⟩) hlw).trans y4, (hb.cell (p := ⟨rb, ro + ((g : Int) / 4).toNat, none⟩) hlr).trans c6, (hb.cell (p := ⟨rb, ro + g / 4, none⟩) hlr).trans c5⟩))
  go_region_held3 (fun W' => (W'.cell? ⟨w.heap.size, 0, none⟩ = some (.int .i64 m.guest) ∧ W'.cell? ⟨w.heap.size, 1, none⟩ = some (.slice (some ⟨rb, ro, none⟩) rn rc) ∧ W'.cell? ⟨w.heap.size, 2, none⟩ = some (.slice sA sn sc) ∧ W'.cell? ⟨w.heap.size, 3, none⟩ = some (.slice fA fn fc) ∧ W'.cell? ⟨w.heap.size, 4, none⟩ = some (.slice pA pn pc) ∧ W'.cell? ⟨rb, ro + ((g : Int) / 4).toNat, none⟩ = some (.int .i64 t) ∧ W'.cell? ⟨rb, ro + g / 4, none⟩ = some (.int .i64 t)))
    (first | exact ⟨y0, y1, y2, y3, y4, c6, c5⟩ | exact mvS.out _ hb9)
    (first | (go_at_call 40; refine (KE.out _ hbd.out).mono ?_; rintro e' w9 ⟨A9, c9, rfl, ho9, hb9, hc9, hm9⟩))
  have hdd : Below w8.heap.size w8 w9 := below_next (Below.refl w8.heap.size w8).drew hb9
  have hRd9 := Rd.of_own ho9
  have KT' := rcut_any A9 4 c9 (entriesAt m (g / 4)) ((g % 4 : Nat) : Int) w9 hRd9 (by unfold maxLen; omega)
  rw [HJ1.out, HJ2.out, hmod] at KT'
  have KT := Lib.hid KT'
  have HRd9 := Lib.hid hRd9
  have Hho9 := Lib.hid ho9
  have Hdd := Lib.hid hdd
  have Hhb9 := Lib.hid hb9
  clear KT' hRd9 ho9 hdd hb9 y0 y1 y2 y3 y4 c5 c6 mvS hbd
  go_wp2_with fail
  refine KT.out.mono ?_
  rintro e' w10 ⟨A10, n10, c10, rfl, ho10, hb10, hn10, hc10⟩
  have hl10 : n10 = 4 := by
    have h1 := ho10.1
    have h2 := H4.out
    simp [ints] at h1
    omega
  subst hl10
  have KS' := sameInts_any A10 A9 4 4 c10 c9 _ _ w10 (Rd.of_own ho10) (HRd9.out.next hb10) (by omega) (by omega)
  rw [decide_eq_true hsm] at KS'
  have KS := Lib.hid KS'
  clear KS'
  go_wp2_with fail
  refine KS.out.mono ?_
  rintro e' w11 ⟨rfl, hb11⟩
  have D : Below w8.heap.size w8 w11 := below_next (below_next Hdd.out hb10) hb11
  have X11 := HX8.out.keep D hl8
  have B11 := HB8.out.next D
  have O11 := HO8.out.next D
  have Z11 := HZ8.out.next D
  have U11 := below_next HU8.out D
  clear HX8 HB8 HO8 HZ8 HU8 HT8 Hdd Hhb9 Hho9 HRd9 ho10 hb10 hb11 KS KT KE
  have HX8 := Lib.hid X11
  have HB8 := Lib.hid B11
  have HO8 := Lib.hid O11
  have HZ8 := Lib.hid Z11
  have HU8 := Lib.hid U11
  have hsz11 := D.size
  clear X11 B11 O11 Z11 U11 D
  have X9 : Box (w11.setCell ⟨w7.heap.size, 0, none⟩ (.int .i64 g)) w7.heap.size (g : Nat) ⟨rA7, rn7, rc7, sA7, sn7, sc7, fA7, fn7, fc7, pA7, pn7, pc7⟩ := by
    obtain ⟨a0, a1, a2, a3, a4⟩ := HX8.out
    dsimp only at a0 a1 a2 a3 a4
    refine ⟨?_, ?_, ?_, ?_, ?_⟩ <;> go_simp
  have B9 := HB8.out.set 0 (.int .i64 g)
  have hg9 := grown_set w11 w7.heap.size 0 (.int .i64 (g : Nat))
  have O9 := (HO8.out.newGuest (g : Nat)).kept hg9 HB8.out.ty (by decide) (by decide) (by decide)
  have Z9 : ZB _ (w.heap.size + 1) := ⟨(hg9.block _ HZ8.out.box.1.ty.lt (fun e => by injection e with e; omega)).trans HZ8.out.heap⟩
  have U9 := HU8.out.setCell (p := ⟨w7.heap.size, 0, none⟩) (show w.heap.size ≤ w7.heap.size by omega) (.int .i64 (g : Nat))
  have hs9 : w5.heap.size ≤ (w11.setCell ⟨w7.heap.size, 0, none⟩ (.int .i64 (g : Nat))).heap.size := by have := hg9.size; omega
  have hrl9 := O9.imgR.rlen
  dsimp only at hrl9
  have hrs : m.root.length ≤ 4 := HR4.out
  have HX9 := Lib.hid X9
  have HB9 := Lib.hid B9
  have HO9 := Lib.hid O9
  have HZ9 := Lib.hid Z9
  have HU9 := Lib.hid U9
  have HRL := Lib.hid hrl9
  have hr4 : rn7 ≤ 4 := by omega
  obtain ⟨a0, a1, a2, a3, a4⟩ := HX8.out
  have b0 := HB8.out.fz 0
  dsimp only at a0 a1 a2 a3 a4
  clear X9 B9 O9 Z9 U9 hg9 hrl9 hrs
  go_wp2_with fail
  generalize (w11.setCell ⟨w7.heap.size, 0, none⟩ (.int .i64 (g : Nat))) = w9 at *
  clear a0 a1 a2 a3 a4 b0 HX8 HB8 HO8 HZ8 HU8
  go_loopw [67] (fun _ wr => ∃ (k : Nat) (A : Option Addr) (c : Nat) (tg : Nat → Nat), (k = 0 ∨ rn7 + k ≤ (g + 3) / 4) ∧ OwnI wr w5.heap.size tg ⟨A, rn7 + k, c, sA7, sn7, sc7, fA7, fn7, fc7, pA7, pn7, pc7⟩ q p { m with guest := (g : Nat), root := m.root ++ List.replicate k 0 } ∧ Box wr w7.heap.size (g : Nat) ⟨A, rn7 + k, c, sA7, sn7, sc7, fA7, fn7, fc7, pA7, pn7, pc7⟩ ∧ BoxB wr w7.heap.size ∧ ZB wr (w.heap.size + 1) ∧ Below w.heap.size w wr ∧ w9.heap.size ≤ wr.heap.size) (fun _ wr => (g + 3) / 4 - lenAt wr w7.heap.size)
  case atStart => exact ⟨0, _, _, tg, .inl rfl, by simpa using HO9.out, HX9.out, HB9.out, HZ9.out, HU9.out, Nat.le_refl _⟩
  case round =>
    obtain ⟨k, A, c, tgk, hk, hO, hX, hB, hZ, hU, hsz⟩ := hrel
    clear HX9 HB9 HO9 HZ9 HU9
    have hnn : rn7 + k ≤ 8 := by omega
    have HKK := Lib.hid hk
    have HO := Lib.hid hO
    have HX := Lib.hid hX
    have HB := Lib.hid hB
    have HZ := Lib.hid hZ
    have HU := Lib.hid hU
    have hln : ({ m with guest := (g : Nat), root := m.root ++ List.replicate k 0 } : Img).root.length = rn7 + k := hO.imgR.rlen
    have hk16 : k ≤ 16 := by omega
    generalize hN : rn7 + k = N at *
    have HN := Lib.hid hN
    obtain ⟨a0, a1, a2, a3, a4⟩ := hX
    have b1 := hB.fz 1
    dsimp only at a0 a1 a2 a3 a4
    have hml : lenAt wr w7.heap.size = N := lenAt_is a1
    clear hO hB hZ hU hk hN
    generalize hG : (g + 3) / 4 = W at *
    have HG := Lib.hid hG
    clear hG
    by_cases hlt : N < W
    · have c0 : decide ((N : Int) < (W : Int)) = true := decide_eq_true (by omega)
      obtain ⟨g', c', w', tg', r1, O', U', K'⟩ := (HO.out.next (Below.refl wr.heap.size wr).drew).push0 (by show _ ≤ wr.heap.size; omega) (by show N ≤ _; omega)
      dsimp only at r1 O'
      have HR := Lib.hid r1
      have heq := K' _ _ HB.out.ty (by decide)
      have B1 : BoxB w' w7.heap.size := by obtain ⟨cur, e⟩ := HB.out; exact ⟨cur, (K' _ _ HB.out.ty (by decide)).trans e⟩
      have X1 : Box w' w7.heap.size (g : Nat) ⟨A, N, c, sA7, sn7, sc7, fA7, fn7, fc7, pA7, pn7, pc7⟩ := by
        obtain ⟨cur, e⟩ := HB.out
        have e' : w'.heap[w7.heap.size]? = _ := heq.trans e
        have cc := fun j => (cell_of_row w' w7.heap.size j _ _ _ e').trans (cell_of_row wr w7.heap.size j _ _ _ e).symm
        exact ⟨(cc 0).trans a0, (cc 1).trans a1, (cc 2).trans a2, (cc 3).trans a3, (cc 4).trans a4⟩
      have Z1 : ZB w' (w.heap.size + 1) := ⟨(K' _ _ HZ.out.box.1.ty (by decide)).trans HZ.out.heap⟩
      have hgs := grown_set w' w7.heap.size 1 (.slice (some ⟨g', 0, none⟩) (N + 1) c')
      have O2 := O'.kept hgs B1.ty (by decide) (by decide) (by decide)
      have B2 := B1.set 1 (.slice (some ⟨g', 0, none⟩) (N + 1) c')
      have Z2 : ZB _ (w.heap.size + 1) := ⟨(hgs.block _ Z1.box.1.ty.lt (fun e => by injection e with e; omega)).trans Z1.heap⟩
      have U2 := (HU.out.drew.trans (U'.mono (by omega))).setCell (p := ⟨w7.heap.size, 1, none⟩) (show w.heap.size ≤ w7.heap.size by omega) (.slice (some ⟨g', 0, none⟩) (N + 1) c')
      have hsz2 : w9.heap.size ≤ (w'.setCell ⟨w7.heap.size, 1, none⟩ (.slice (some ⟨g', 0, none⟩) (N + 1) c')).heap.size := by have h1 := U'.size; have h2 := hgs.size; have h3 : wr.drew.heap.size = wr.heap.size := rfl; omega
      obtain ⟨d0, d1, d2, d3, d4⟩ := X1
      dsimp only at d0 d1 d2 d3 d4
      have X2 : Box (w'.setCell ⟨w7.heap.size, 1, none⟩ (.slice (some ⟨g', 0, none⟩) (N + 1) c')) w7.heap.size (g : Nat) ⟨some ⟨g', 0, none⟩, N + 1, c', sA7, sn7, sc7, fA7, fn7, fc7, pA7, pn7, pc7⟩ := by
        refine ⟨?_, ?_, ?_, ?_, ?_⟩ <;> go_simp
      have e1 := B1.fz 1
      have HO2 := Lib.hid O2
      have HX2 := Lib.hid X2
      have HB2 := Lib.hid B2
      have HZ2 := Lib.hid Z2
      have HU2 := Lib.hid U2
      clear O' K' heq B1 Z1 hgs O2 B2 Z2 U2 X2 r1 U'
      go_wp2_with fail
      refine wp_region_z (S := fun W' => W'.cell? ⟨w7.heap.size, 1, none⟩ = some (.slice A N c)) 5 (by kernel_rfl) (fun hC => ?_)
      have hSS : wr.drew.cell? ⟨w7.heap.size, 1, none⟩ = some (.slice A N c) := a1
      apply wpAnyZ_take (i := 0)
      case hi => rfl
      case hs => kernel_rfl
      case hf => kernel_rfl
      case hr => kernel_rfl
      case hu => kernel_rfl
      case hw => exact fun z h1 h2 => (by have h2 : z < 6 := h2; have h3 : z = 5 := (by omega); subst h3; exact ⟨[1, 2], by kernel_rfl⟩)
      case hQ => exact fun _ _ _ h => h
      case hy => exact Or.inl ⟨by rfl, fun w' hSw => by (have s0 := hSw; go_simp; try with_reducible rfl)⟩
      case hS => assumption
      case hC => assumption
      clear hC
      intro hC
      apply wpAnyZ_take (i := 1)
      case hi => rfl
      case hs => kernel_rfl
      case hf => kernel_rfl
      case hr => kernel_rfl
      case hu => kernel_rfl
      case hw => exact fun z h1 h2 => (by have h2 : z < 6 := h2; have h3 : z = 5 := (by omega); subst h3; exact ⟨[2], by kernel_rfl⟩)
      case hQ => exact fun _ _ _ h => h
      case hy => exact Or.inl ⟨by rfl, fun w' hSw => by (have s0 := hSw; go_simp; try with_reducible rfl)⟩
      case hS => assumption
      case hC => assumption
      clear hC
      intro hC
      apply wpAnyZ_take (i := 2)
      case hi => rfl
      case hs => kernel_rfl
      case hf => kernel_rfl
      case hr => kernel_rfl
      case hu => kernel_rfl
      case hw => exact fun z h1 h2 => (by have h2 : z < 6 := h2; have h3 : z = 5 := (by omega); subst h3; exact ⟨[], by kernel_rfl⟩)
      case hQ => exact fun _ _ _ h => h
      case hy => exact Or.inl ⟨by rfl, fun w' hSw => by (have s0 := hSw; go_simp; try with_reducible rfl)⟩
      case hS => assumption
      case hC => assumption
      clear hC
      intro hC
      apply wpAnyZ_take (i := 3)
      case hi => rfl
      case hs => kernel_rfl
      case hf => kernel_rfl
      case hr => kernel_rfl
      case hu => kernel_rfl
      case hw => exact fun z h1 h2 => (by have h2 : z < 6 := h2; have h3 : z = 5 := (by omega); subst h3; exact ⟨[4], by kernel_rfl⟩)
      case hQ => exact fun _ _ _ h => h
      case hy => exact Or.inl ⟨by rfl, fun w' hSw => by (have s0 := hSw; go_simp; try with_reducible rfl)⟩
      case hS => assumption
      case hC => assumption
      clear hC
      intro hC
      clear hC
      refine wpAnyZ_one (i := 4) (by kernel_rfl) rfl (fun K' hK => ?_)
      go_simp
      refine (KV.out _).mono ?_
      rintro e' w11 ⟨rfl, rfl⟩
      refine hK.out _ _ (fun _ => hSS) ?_
      clear hK
      refine wpAnyZ_one (i := 5) (by kernel_rfl) rfl (fun K' hK => ?_)
      go_simp
      refine hK.out _ _ (fun h => absurd h (by decide)) ?_
      clear hK
      refine wpAnyZ_done (by kernel_rfl) ?_ _
      clear hSS
      go_wp2_with (at_builtin; refine wpList_app rfl _ _ _ _ rfl rfl rfl rfl HR.out ?_)
      have hm2 := lenAt_is HX2.out.2.1
      dsimp only at hm2
      have hN := HN.out
      subst hN
      go_roundw
      case rel => exact ⟨k + 1, some ⟨g', 0, none⟩, c', tg', .inr (by omega), by rw [List.replicate_succ', ← List.append_assoc]; exact HO2.out, HX2.out, HB2.out, HZ2.out, HU2.out, hsz2⟩
      case measure => omega
    · have c0 : decide ((N : Int) < (W : Int)) = false := decide_eq_false (by omega)
      go_wp2_with fail
      refine wp_region_z (S := fun W' => W'.cell? ⟨w7.heap.size, 1, none⟩ = some (.slice A N c)) 5 (by kernel_rfl) (fun hC => ?_)
      have hSS : wr.drew.cell? ⟨w7.heap.size, 1, none⟩ = some (.slice A N c) := a1
      apply wpAnyZ_take (i := 0)
      case hi => rfl
      case hs => kernel_rfl
      case hf => kernel_rfl
      case hr => kernel_rfl
      case hu => kernel_rfl
      case hw => exact fun z h1 h2 => (by have h2 : z < 6 := h2; have h3 : z = 5 := (by omega); subst h3; exact ⟨[1, 2], by kernel_rfl⟩)
      case hQ => exact fun _ _ _ h => h
      case hy => exact Or.inl ⟨by rfl, fun w' hSw => by (have s0 := hSw; go_simp; try with_reducible rfl)⟩
      case hS => assumption
      case hC => assumption
      clear hC
      intro hC
      apply wpAnyZ_take (i := 1)
      case hi => rfl
      case hs => kernel_rfl
      case hf => kernel_rfl
      case hr => kernel_rfl
      case hu => kernel_rfl
      case hw => exact fun z h1 h2 => (by have h2 : z < 6 := h2; have h3 : z = 5 := (by omega); subst h3; exact ⟨[2], by kernel_rfl⟩)
      case hQ => exact fun _ _ _ h => h
      case hy => exact Or.inl ⟨by rfl, fun w' hSw => by (have s0 := hSw; go_simp; try with_reducible rfl)⟩
      case hS => assumption
      case hC => assumption
      clear hC
      intro hC
      apply wpAnyZ_take (i := 2)
      case hi => rfl
      case hs => kernel_rfl
      case hf => kernel_rfl
      case hr => kernel_rfl
      case hu => kernel_rfl
      case hw => exact fun z h1 h2 => (by have h2 : z < 6 := h2; have h3 : z = 5 := (by omega); subst h3; exact ⟨[], by kernel_rfl⟩)
      case hQ => exact fun _ _ _ h => h
      case hy => exact Or.inl ⟨by rfl, fun w' hSw => by (have s0 := hSw; go_simp; try with_reducible rfl)⟩
      case hS => assumption
      case hC => assumption
      clear hC
      intro hC
      apply wpAnyZ_take (i := 3)
      case hi => rfl
      case hs => kernel_rfl
      case hf => kernel_rfl
      case hr => kernel_rfl
      case hu => kernel_rfl
      case hw => exact fun z h1 h2 => (by have h2 : z < 6 := h2; have h3 : z = 5 := (by omega); subst h3; exact ⟨[4], by kernel_rfl⟩)
      case hQ => exact fun _ _ _ h => h
      case hy => exact Or.inl ⟨by rfl, fun w' hSw => by (have s0 := hSw; go_simp; try with_reducible rfl)⟩
      case hS => assumption
      case hC => assumption
      clear hC
      intro hC
      clear hC
      refine wpAnyZ_one (i := 4) (by kernel_rfl) rfl (fun K' hK => ?_)
      go_simp
      refine (KV.out _).mono ?_
      rintro e' w11 ⟨rfl, rfl⟩
      refine hK.out _ _ (fun _ => hSS) ?_
      clear hK
      refine wpAnyZ_one (i := 5) (by kernel_rfl) rfl (fun K' hK => ?_)
      go_simp
      refine hK.out _ _ (fun h => absurd h (by decide)) ?_
      clear hK
      refine wpAnyZ_done (by kernel_rfl) ?_ _
      clear hSS
      go_wp2_with fail
      have hcap : N ≤ c := HO.out.root.1
      have hi1 : (W : Int) ≤ (c : Int) := by omega
      have hi0 : (0 : Int) ≤ (W : Int) := by omega
      refine wp_region_z (S := fun W' => W'.cell? ⟨w7.heap.size, 1, none⟩ = some (.slice A N c)) 6 (by kernel_rfl) (fun hC => ?_)
      have hSS : wr.drew.drew.cell? ⟨w7.heap.size, 1, none⟩ = some (.slice A N c) := a1
      apply wpAnyZ_take (i := 0)
      case hi => rfl
      case hs => kernel_rfl
      case hf => kernel_rfl
      case hr => kernel_rfl
      case hu => kernel_rfl
      case hw => exact fun z h1 h2 => (by have h2 : z < 7 := h2; have h3 : z = 6 := (by omega); subst h3; exact ⟨[1, 4], by kernel_rfl⟩)
      case hQ => exact fun _ _ _ h => h
      case hy => exact Or.inl ⟨by rfl, fun w' hSw => by (have s0 := hSw; go_simp; try with_reducible rfl)⟩
      case hS => assumption
      case hC => assumption
      clear hC
      intro hC
      apply wpAnyZ_take (i := 1)
      case hi => rfl
      case hs => kernel_rfl
      case hf => kernel_rfl
      case hr => kernel_rfl
      case hu => kernel_rfl
      case hw => exact fun z h1 h2 => (by have h2 : z < 7 := h2; have h3 : z = 6 := (by omega); subst h3; exact ⟨[4], by kernel_rfl⟩)
      case hQ => exact fun _ _ _ h => h
      case hy => exact Or.inl ⟨by rfl, fun w' hSw => by (have s0 := hSw; go_simp; try with_reducible rfl)⟩
      case hS => assumption
      case hC => assumption
      clear hC
      intro hC
      apply wpAnyZ_take (i := 2)
      case hi => rfl
      case hs => kernel_rfl
      case hf => kernel_rfl
      case hr => kernel_rfl
      case hu => kernel_rfl
      case hw => exact fun z h1 h2 => (by have h2 : z < 7 := h2; have h3 : z = 6 := (by omega); subst h3; exact ⟨[3, 4], by kernel_rfl⟩)
      case hQ => exact fun _ _ _ h => h
      case hy => exact Or.inl ⟨by rfl, fun w' hSw => by (have s0 := hSw; go_simp; try with_reducible rfl)⟩
      case hS => assumption
      case hC => assumption
      clear hC
      intro hC
      clear hC
      refine wpAnyZ_one (i := 3) (by kernel_rfl) rfl (fun K' hK => ?_)
      go_simp
      refine (KV.out _).mono ?_
      rintro e' w11 ⟨rfl, rfl⟩
      refine hK.out _ _ (fun _ => hSS) ?_
      clear hK
      have hWN : W ≤ N := by omega
      have HER := Lib.hid (show ({ m with guest := (g : Nat), root := (m.root ++ List.replicate k 0).take W } : Img) = resized m g from by
        unfold resized
        rw [← HG.out, take_rep hk16 (by have h1 := hln; have h2 := HG.out; rw [List.length_append, List.length_replicate] at h1; omega)])
      have fz1 := HB.out.fz 1
      have hff : wr.drew.drew.frozen? ⟨w7.heap.size, 1, none⟩ = false := fz1
      rcases A with _ | a
      · refine wpAnyZ_one (i := 4) (by kernel_rfl) rfl (fun K' hK => ?_)
        go_simp
        refine hK.out _ _ (fun _ => hSS) ?_
        clear hK
        refine wpAnyZ_one (i := 5) (by kernel_rfl) rfl (fun K' hK => ?_)
        go_simp
        refine hK.out _ _ (fun _ => hSS) ?_
        clear hK
        refine wpAnyZ_one (i := 6) (by kernel_rfl) rfl (fun K' hK => ?_)
        go_simp
        refine hK.out _ _ (fun h => absurd h (by decide)) ?_
        clear hK
        refine wpAnyZ_done (by kernel_rfl) ?_ _
        have hgs := grown_set wr w7.heap.size 1 (.slice none W c)
        have O3 := HO.out.newRoot (TabO.take HO.out.root hWN)
        have O4 := ((O3.kept hgs HB.out.ty (by decide) (by decide) (by decide)).next (Below.refl _ _).drew).next (Below.refl _ _).drew
        dsimp only at O4
        rw [HER.out] at O4
        have X5 : Box ((wr.setCell ⟨w7.heap.size, 1, none⟩ (.slice none W c)).drew.drew) w7.heap.size (g : Nat) ⟨none, W, c, sA7, sn7, sc7, fA7, fn7, fc7, pA7, pn7, pc7⟩ := by
          refine ⟨?_, ?_, ?_, ?_, ?_⟩ <;> go_simp
        have Z5 : ZB ((wr.setCell ⟨w7.heap.size, 1, none⟩ (.slice none W c)).drew.drew) (w.heap.size + 1) := ⟨(hgs.block _ HZ.out.box.1.ty.lt (fun e => by injection e with e; omega)).trans HZ.out.heap⟩
        have U5 := (HU.out.setCell (p := ⟨w7.heap.size, 1, none⟩) (show w.heap.size ≤ w7.heap.size by omega) (.slice none W c)).drew.drew
        have hsz5 : w5.heap.size ≤ ((wr.setCell ⟨w7.heap.size, 1, none⟩ (.slice none W c)).drew.drew).heap.size := by have h2 := hgs.size; show _ ≤ (wr.setCell ⟨w7.heap.size, 1, none⟩ (.slice none W c)).heap.size; omega
        have HO5 := Lib.hid O4
        have HZ5 := Lib.hid Z5
        have HU5 := Lib.hid U5
        clear hgs O3 O4 Z5 U5 hSS HX HB HZ HU HO a0 a1 a2 a3 a4 fz1 hff b1 hml hln hsz
        obtain ⟨a0, a1, a2, a3, a4⟩ := X5
        dsimp only at a0 a1 a2 a3 a4
        generalize ((wr.setCell ⟨w7.heap.size, 1, none⟩ (.slice none W c)).drew.drew) = w13 at *
        have KC' := counted_any w5.heap.size tgk _ q p _ _ HO5.out hsz5 HRX.out.cbd
        dsimp only [imgV, resized] at KC'
        have KC := Lib.hid KC'
        clear KC'
        go_wp2_with fail
        refine KC.out.mono ?_
        rintro e' w14 ⟨⟨zrA, zrn, zrc, zsA, zsn, zsc, zfA, zfn, zfc, zpA, zpn, zpc⟩, tg12, q12, p12, rfl, hO12, hb12⟩
        have Z12 := HZ5.out.nextB hb12 (by omega)
        have hsX : settled { guest := (g : Nat), root := (m.root ++ List.replicate 16 0).take ((g + 3) / 4), slots := m.slots, refs := m.refs, snaps := m.snaps } = X := RX1.out.symm
        rw [hsX] at hO12 ⊢
        obtain ⟨⟨k0, k1, k2, k3, k4⟩, hO2, hg2⟩ := lastI Z12 hO12
        have s12 := hb12.size
        have s13 := HU5.out.size
        have LB2 := (HU5.out.trans (hb12.mono (by omega))).grown hg2 (by omega) (fun j e => by injection e with e; omega)
        obtain ⟨u0, u1, u2, u3, u4⟩ := Z12.cells
        dsimp only at k1 k2 k3 k4
        obtain ⟨q0, q1, q2, q3, q4⟩ := Z12.froz
        have HK := Lib.hid (And.intro k0 (And.intro k1 (And.intro k2 (And.intro k3 k4))))
        have HOO := Lib.hid hO2
        have HLB2 := Lib.hid LB2
        dsimp only [imgV]
        clear Z12 hO12 hb12 hO2 hg2 LB2 k0 k1 k2 k3 k4 KC a0 a1 a2 a3 a4
        go_wp2_with fail
        obtain ⟨k0, k1, k2, k3, k4⟩ := HK.out
        refine bodyPost_ret (v := .tuple #[imgV X ⟨zrA, zrn, zrc, zsA, zsn, zsc, zfA, zfn, zfc, zpA, zpn, zpc⟩, .int .i64 0]) ?_ rfl ⟨_, by rw [RE1.out]; rfl, .inr ⟨w5.heap.size, _, _, _, by omega, HOO.out⟩, HLB2.out⟩
        simp [results, Try.results20, go_sem, k0, k1, k2, k3, k4, imgV]
      · refine wpAnyZ_one (i := 4) (by kernel_rfl) rfl (fun K' hK => ?_)
        go_simp
        refine hK.out _ _ (fun _ => hSS) ?_
        clear hK
        refine wpAnyZ_one (i := 5) (by kernel_rfl) rfl (fun K' hK => ?_)
        go_simp
        refine hK.out _ _ (fun _ => hSS) ?_
        clear hK
        refine wpAnyZ_one (i := 6) (by kernel_rfl) rfl (fun K' hK => ?_)
        go_simp
        refine hK.out _ _ (fun h => absurd h (by decide)) ?_
        clear hK
        refine wpAnyZ_done (by kernel_rfl) ?_ _
        have hgs := grown_set wr w7.heap.size 1 (.slice (some a) W c)
        have O3 := HO.out.newRoot (TabO.take HO.out.root hWN)
        have O4 := ((O3.kept hgs HB.out.ty (by decide) (by decide) (by decide)).next (Below.refl _ _).drew).next (Below.refl _ _).drew
        dsimp only at O4
        rw [HER.out] at O4
        have X5 : Box ((wr.setCell ⟨w7.heap.size, 1, none⟩ (.slice (some a) W c)).drew.drew) w7.heap.size (g : Nat) ⟨(some a), W, c, sA7, sn7, sc7, fA7, fn7, fc7, pA7, pn7, pc7⟩ := by
          refine ⟨?_, ?_, ?_, ?_, ?_⟩ <;> go_simp
        have Z5 : ZB ((wr.setCell ⟨w7.heap.size, 1, none⟩ (.slice (some a) W c)).drew.drew) (w.heap.size + 1) := ⟨(hgs.block _ HZ.out.box.1.ty.lt (fun e => by injection e with e; omega)).trans HZ.out.heap⟩
        have U5 := (HU.out.setCell (p := ⟨w7.heap.size, 1, none⟩) (show w.heap.size ≤ w7.heap.size by omega) (.slice (some a) W c)).drew.drew
        have hsz5 : w5.heap.size ≤ ((wr.setCell ⟨w7.heap.size, 1, none⟩ (.slice (some a) W c)).drew.drew).heap.size := by have h2 := hgs.size; show _ ≤ (wr.setCell ⟨w7.heap.size, 1, none⟩ (.slice (some a) W c)).heap.size; omega
        have HO5 := Lib.hid O4
        have HZ5 := Lib.hid Z5
        have HU5 := Lib.hid U5
        clear hgs O3 O4 Z5 U5 hSS HX HB HZ HU HO a0 a1 a2 a3 a4 fz1 hff b1 hml hln hsz
        obtain ⟨a0, a1, a2, a3, a4⟩ := X5
        dsimp only at a0 a1 a2 a3 a4
        generalize ((wr.setCell ⟨w7.heap.size, 1, none⟩ (.slice (some a) W c)).drew.drew) = w13 at *
        have KC' := counted_any w5.heap.size tgk _ q p _ _ HO5.out hsz5 HRX.out.cbd
        dsimp only [imgV, resized] at KC'
        have KC := Lib.hid KC'
        clear KC'
        go_wp2_with fail
        refine KC.out.mono ?_
        rintro e' w14 ⟨⟨zrA, zrn, zrc, zsA, zsn, zsc, zfA, zfn, zfc, zpA, zpn, zpc⟩, tg12, q12, p12, rfl, hO12, hb12⟩
        have Z12 := HZ5.out.nextB hb12 (by omega)
        have hsX : settled { guest := (g : Nat), root := (m.root ++ List.replicate 16 0).take ((g + 3) / 4), slots := m.slots, refs := m.refs, snaps := m.snaps } = X := RX1.out.symm
        rw [hsX] at hO12 ⊢
        obtain ⟨⟨k0, k1, k2, k3, k4⟩, hO2, hg2⟩ := lastI Z12 hO12
        have s12 := hb12.size
        have s13 := HU5.out.size
        have LB2 := (HU5.out.trans (hb12.mono (by omega))).grown hg2 (by omega) (fun j e => by injection e with e; omega)
        obtain ⟨u0, u1, u2, u3, u4⟩ := Z12.cells
        dsimp only at k1 k2 k3 k4
        obtain ⟨q0, q1, q2, q3, q4⟩ := Z12.froz
        have HK := Lib.hid (And.intro k0 (And.intro k1 (And.intro k2 (And.intro k3 k4))))
        have HOO := Lib.hid hO2
        have HLB2 := Lib.hid LB2
        dsimp only [imgV]
        clear Z12 hO12 hb12 hO2 hg2 LB2 k0 k1 k2 k3 k4 KC a0 a1 a2 a3 a4
        go_wp2_with fail
        obtain ⟨k0, k1, k2, k3, k4⟩ := HK.out
        refine bodyPost_ret (v := .tuple #[imgV X ⟨zrA, zrn, zrc, zsA, zsn, zsc, zfA, zfn, zfc, zpA, zpn, zpc⟩, .int .i64 0]) ?_ rfl ⟨_, by rw [RE1.out]; rfl, .inr ⟨w5.heap.size, _, _, _, by omega, HOO.out⟩, HLB2.out⟩
        simp [results, Try.results20, go_sem, k0, k1, k2, k3, k4, imgV]

set_option maxRecDepth 100000 in
set_option maxHeartbeats 1000000 in
theorem resizeOf_tab (v : IV) (m : Img) (g : Nat) (w : World) (h : ImgR w w.heap.size v m) (hm : checkErr m = 0) (hg : g ≤ 16) (X : Img) (er : Int) (hX0 : outV (resizeM m g) = X) (hE0 : outE (resizeM m g) = er) (hc : 0 < g % 4 ∧ g / 4 < m.root.length) (hsm : (entriesAt m (g / 4)).take (g % 4) ++ List.replicate (4 - g % 4) 0 ≠ entriesAt m (g / 4)) :
    Calls Try.prog 20 #[imgV m v, .int .i64 g] w (ImgOwn w.heap.size X er w) := by
  have S := sound_of (check_is hm).1
  have hg16 := (own_facts hm).2.1
  have hmod : ((g % 4 : Nat) : Int) = (g : Int) % 4 := by omega
  have hdiv : ((g / 4 : Nat) : Int) = (g : Int) / 4 := by omega
  have htm : (g : Int).tmod 4 = (g : Int) % 4 := Int.tmod_eq_emod_of_nonneg (by omega)
  have htd : (g : Int).tdiv 4 = (g : Int) / 4 := Int.tdiv_eq_ediv_of_nonneg (by omega)
  have hrl := refs_len hm
  have K1' := fun W (hb : Below w.heap.size w W) => rcheckimg_any v m W (h.next hb)
  rw [hm] at K1'
  have KO' := fun W (hb : Below w.heap.size w W) => ownImg_any v m W (h.next hb) S.cbd (by rw [hrl]; exact S.cbd.slots)
  have KW' := fun W => within_any (g : Int) 0 16 W
  have g0 : decide ((0 : Int) ≤ (g : Int)) = true := decide_eq_true (by omega)
  have g1 : decide ((g : Int) ≤ 16) = true := decide_eq_true (by omega)
  rw [g0, g1, Bool.and_self] at KW'
  have KV' := fun W => rwants_any (g : Int) W (by omega) (by omega)
  rw [wants_nat g] at KV'
  obtain ⟨f1, f2, _, f4, f5⟩ := boxesT w m.guest v
  have hrn' := h.rlen
  have hrc := h.rcap.1
  have HPO : putM m (g / 4) ((entriesAt m (g / 4)).take (g % 4) ++ List.replicate (4 - g % 4) 0) = putO m (g / 4) ((entriesAt m (g / 4)).take (g % 4) ++ List.replicate (4 - g % 4) 0) := by
    have hne : ((entriesAt m (g / 4)).take (g % 4) ++ List.replicate (4 - g % 4) 0 == entriesAt m (g / 4)) = false := by simpa using hsm
    unfold putO
    by_cases hbr : bare ((entriesAt m (g / 4)).take (g % 4) ++ List.replicate (4 - g % 4) 0) = true
    · rw [putM_bare hne hbr, if_pos hbr]
    · rw [putM_table hne (by simpa using hbr), if_neg hbr]
  have HN7 := Lib.hid (fun (e : putM m (g / 4) ((entriesAt m (g / 4)).take (g % 4) ++ List.replicate (4 - g % 4) 0) = none) => resize_none hc e)
  have HS7 := Lib.hid (fun x (e : putM m (g / 4) ((entriesAt m (g / 4)).take (g % 4) ++ List.replicate (4 - g % 4) 0) = some x) => And.intro (resize_some hc e) (And.intro (resize_eff hm hg (resize_some hc e)).sound (putM_root e)))
  rw [HPO] at HN7 HS7
  have HR40 : m.root.length ≤ 4 := by have h1 := (rootF_is (own_facts hm).2.2).1; unfold wants at h1; omega
  clear HPO
  have e4 : ((g : Int) % 4 != 0) = true := by simp; omega
  obtain ⟨rb, ro, t, hA, hrb, hti, hct⟩ := h.root.at1 (k := g / 4) (by omega)
  have hit := int_at hti
  have KE' := fun W (hb : Below w.heap.size w W) => tableOf_any v m (g / 4) W (h.next hb) hm hc.2
  rw [hit] at KE'
  obtain ⟨f41, f42, f43⟩ := entries_facts hm hc.2
  obtain ⟨j1, j2, j3⟩ := cut_entries f41 (n := g % 4) (by omega)
  obtain ⟨rA, rn, rc, sA, sn, sc, fA, fn, fc, pA, pn, pc⟩ := v
  dsimp only [imgV] at *
  subst hA
  have e5 : decide ((g : Int) / 4 < (rn : Int)) = true := decide_eq_true (by omega)
  have hk0 : (0 : Int) ≤ (g : Int) / 4 := by omega
  have hk1 : (g : Int) / 4 < (rn : Int) := by omega
  have hct2 := (f1.cell (p := ⟨rb, ro + g / 4, none⟩) hrb).trans hct
  have KE := Lib.hid KE'
  have HJ1 := Lib.hid j1
  have HJ2 := Lib.hid j2
  have H4 := Lib.hid (entriesErr_is f41).1
  clear KE' j1 j2 j3 f41 f42 f43 hti hct hit
  obtain ⟨x0, x1, x2, x3, x4⟩ := f2
  dsimp only at x0 x1 x2 x3 x4
  have K1 := Lib.hid (K1' _ f1)
  have KO := Lib.hid KO'
  have KW := Lib.hid KW'
  have KV := Lib.hid KV'
  have F1 := Lib.hid f1
  have FZ := Lib.hid f4
  have HX0 := Lib.hid hX0
  have HE0 := Lib.hid hE0
  have HS := Lib.hid S
  have hrn := Lib.hid hrn'
  clear h K1' KO' KW' KV' hX0 hE0 S hrn' g0 g1
  go_enter Try.func20, Try.ntmps20
  go_wp2_with fail
  generalize ((w.alloc (.cells #[.int .i64 m.guest, .slice (some ⟨rb, ro, none⟩) rn rc, .slice sA sn sc, .slice fA fn fc, .slice pA pn pc] 26)).alloc (.cells #[.int .i64 0, .slice none 0 0, .slice none 0 0, .slice none 0 0, .slice none 0 0] 26)) = W2 at *
  refine K1.out.mono ?_
  rintro e' w5 ⟨rfl, hb5⟩
  have B5 := below_next F1.out hb5
  have hs5 := hb5.size
  have hl0 : w.heap.size < W2.heap.size := by omega
  have z0 := (hb5.cell (p := ⟨w.heap.size, 0, none⟩) hl0).trans x0
  have z1 := (hb5.cell (p := ⟨w.heap.size, 1, none⟩) hl0).trans x1
  have z2 := (hb5.cell (p := ⟨w.heap.size, 2, none⟩) hl0).trans x2
  have z3 := (hb5.cell (p := ⟨w.heap.size, 3, none⟩) hl0).trans x3
  have z4 := (hb5.cell (p := ⟨w.heap.size, 4, none⟩) hl0).trans x4
  have HB5 := Lib.hid hb5
  have HT5 := Lib.hid B5
  clear x0 x1 x2 x3 x4 hb5 B5 K1
  go_wp2_with fail
  refine (KW.out _).mono ?_
  rintro e' w6 ⟨rfl, rfl⟩
  have KO5 := Lib.hid (KO.out _ HT5.out)
  clear KO KW
  go_wp2_with fail
  refine KO5.out.mono ?_
  rintro e' w7 ⟨⟨rA7, rn7, rc7, sA7, sn7, sc7, fA7, fn7, fc7, pA7, pn7, pc7⟩, tg, q, p, rfl, hO7, hb7⟩
  have hb8 := below1 w7 (.cells #[.int .i64 m.guest, .slice rA7 rn7 rc7, .slice sA7 sn7 sc7, .slice fA7 fn7 fc7, .slice pA7 pn7 pc7] 26)
  have T8 := below_next hb7 hb8
  have HX8 := Lib.hid (Box.new w7 m.guest ⟨rA7, rn7, rc7, sA7, sn7, sc7, fA7, fn7, fc7, pA7, pn7, pc7⟩ 26)
  have HB8 := Lib.hid (BoxB.new w7 #[.int .i64 m.guest, .slice rA7 rn7 rc7, .slice sA7 sn7 sc7, .slice fA7 fn7 fc7, .slice pA7 pn7 pc7])
  have HO8 := Lib.hid (hO7.next hb8)
  have hs7 := hb7.size
  have HU8 := Lib.hid (below_next HT5.out T8)
  have HZ8 := Lib.hid (FZ.out.nextB (below_next HB5.out T8) (by omega))
  have HT8 := Lib.hid T8
  have hl8 : w7.heap.size < (w7.alloc (.cells #[.int .i64 m.guest, .slice rA7 rn7 rc7, .slice sA7 sn7 sc7, .slice fA7 fn7 fc7, .slice pA7 pn7 pc7] 26)).heap.size := by simp
  have hl2 : w.heap.size < w5.heap.size := by omega
  have y0 := (T8.cell (p := ⟨w.heap.size, 0, none⟩) hl2).trans z0
  have y1 := (T8.cell (p := ⟨w.heap.size, 1, none⟩) hl2).trans z1
  have y2 := (T8.cell (p := ⟨w.heap.size, 2, none⟩) hl2).trans z2
  have y3 := (T8.cell (p := ⟨w.heap.size, 3, none⟩) hl2).trans z3
  have y4 := (T8.cell (p := ⟨w.heap.size, 4, none⟩) hl2).trans z4
  dsimp only [imgV]
  clear z0 z1 z2 z3 z4 hO7 hb7 hb8 T8 KO5
  have c5 := (HT8.out.cell (p := ⟨rb, ro + g / 4, none⟩) (show rb < w5.heap.size by omega)).trans ((HB5.out.cell (p := ⟨rb, ro + g / 4, none⟩) (show rb < W2.heap.size by omega)).trans hct2)
  clear hct2
  go_wp2_with fail
  generalize (w7.alloc (.cells #[.int .i64 m.guest, .slice rA7 rn7 rc7, .slice sA7 sn7 sc7, .slice fA7 fn7 fc7, .slice pA7 pn7 pc7] 26)) = w8 at *
  have hbd : Hid (Below w.heap.size w w8.drew) := Lib.hid HU8.out.drew
  have hto : ((g : Int) / 4).toNat = g / 4 := by omega
  have c6 : w8.cell? ⟨rb, ro + ((g : Int) / 4).toNat, none⟩ = some (.int .i64 t) := by rw [hto]; exact c5
  have hlw : w.heap.size < w8.heap.size := by omega
  have hlr : rb < w8.heap.size := by omega
  have mvS := Lib.hid (fun (W' : World) (hb : Below w8.drew.heap.size w8.drew W') => (show (W'.cell? ⟨w.heap.size, 0, none⟩ = some (.int .i64 m.guest) ∧ W'.cell? ⟨w.heap.size, 1, none⟩ = some (.slice (some ⟨rb, ro, none⟩) rn rc) ∧ W'.cell? ⟨w.heap.size, 2, none⟩ = some (.slice sA sn sc) ∧ W'.cell? ⟨w.heap.size, 3, none⟩ = some (.slice fA fn fc) ∧ W'.cell? ⟨w.heap.size, 4, none⟩ = some (.slice pA pn pc) ∧ W'.cell? ⟨rb, ro + ((g : Int) / 4).toNat, none⟩ = some (.int .i64 t) ∧ W'.cell? ⟨rb, ro + g / 4, none⟩ = some (.int .i64 t)) from
    ⟨(hb.cell (p := ⟨w.heap.size, 0, none⟩) hlw).trans y0, (hb.cell (p := ⟨w.heap.size, 1, none⟩) hlw).trans y1, (hb.cell (p := ⟨w.heap.size, 2, none⟩) hlw).trans y2, (hb.cell (p := ⟨w.heap.size, 3, none⟩) hlw).trans y3, (hb.cell (p := ⟨w.heap.size, 4, none⟩) hlw).trans y4, (hb.cell (p := ⟨rb, ro + ((g : Int) / 4).toNat, none⟩) hlr).trans c6, (hb.cell (p := ⟨rb, ro + g / 4, none⟩) hlr).trans c5⟩))
  go_region_held3 (fun W' => (W'.cell? ⟨w.heap.size, 0, none⟩ = some (.int .i64 m.guest) ∧ W'.cell? ⟨w.heap.size, 1, none⟩ = some (.slice (some ⟨rb, ro, none⟩) rn rc) ∧ W'.cell? ⟨w.heap.size, 2, none⟩ = some (.slice sA sn sc) ∧ W'.cell? ⟨w.heap.size, 3, none⟩ = some (.slice fA fn fc) ∧ W'.cell? ⟨w.heap.size, 4, none⟩ = some (.slice pA pn pc) ∧ W'.cell? ⟨rb, ro + ((g : Int) / 4).toNat, none⟩ = some (.int .i64 t) ∧ W'.cell? ⟨rb, ro + g / 4, none⟩ = some (.int .i64 t)))
    (first | exact ⟨y0, y1, y2, y3, y4, c6, c5⟩ | exact mvS.out _ hb9)
    (first | (go_at_call 40; refine (KE.out _ hbd.out).mono ?_; rintro e' w9 ⟨A9, c9, rfl, ho9, hb9, hc9, hm9⟩))
  have hdd : Below w8.heap.size w8 w9 := below_next (Below.refl w8.heap.size w8).drew hb9
  have hRd9 := Rd.of_own ho9
  have KT' := rcut_any A9 4 c9 (entriesAt m (g / 4)) ((g % 4 : Nat) : Int) w9 hRd9 (by unfold maxLen; omega)
  rw [HJ1.out, HJ2.out, hmod] at KT'
  have KT := Lib.hid KT'
  have HRd9 := Lib.hid hRd9
  have Hho9 := Lib.hid ho9
  have Hdd := Lib.hid hdd
  have Hhb9 := Lib.hid hb9
  clear KT' hRd9 ho9 hdd hb9 y0 y1 y2 y3 y4 c5 c6 mvS hbd
  go_wp2_with fail
  refine KT.out.mono ?_
  rintro e' w10 ⟨A10, n10, c10, rfl, ho10, hb10, hn10, hc10⟩
  have hl10 : n10 = 4 := by
    have h1 := ho10.1
    have h2 := H4.out
    simp [ints] at h1
    omega
  subst hl10
  have KS' := sameInts_any A10 A9 4 4 c10 c9 _ _ w10 (Rd.of_own ho10) (HRd9.out.next hb10) (by omega) (by omega)
  rw [decide_eq_false hsm] at KS'
  have KS := Lib.hid KS'
  clear KS'
  go_wp2_with fail
  refine KS.out.mono ?_
  rintro e' w11 ⟨rfl, hb11⟩
  obtain ⟨tg5, O5, R5⟩ := HO8.out.fresh (by have := HT8.out.size; omega) Hdd.out hb10 ho10 (by omega) hn10 hc10
  have D : Below w8.heap.size w8 w11 := below_next (below_next Hdd.out hb10) hb11
  have X11 := HX8.out.keep D hl8
  have B11 := HB8.out.next D
  have O11 := HO8.out.next D
  have Z11 := HZ8.out.next D
  have U11 := below_next HU8.out D
  have O6 := O5.next hb11
  have R6 := R5.next hb11
  have hk3 : g / 4 < rn7 := by have := O6.imgR.rlen; dsimp only at this; have := hc.2; omega
  have hsz11 : w5.heap.size ≤ w11.heap.size := by have h1 := HT8.out.size; have h2 := D.size; omega
  have KT2' := tabled_any w5.heap.size tg5 _ q p m (g / 4) _ A10 4 c10 w11 O6 hsz11 hm hk3 R6
  rw [hdiv] at KT2'
  dsimp only [imgV] at KT2'
  have KT2 := Lib.hid KT2'
  clear HX8 HB8 HO8 HZ8 HU8 HT8 Hdd Hhb9 Hho9 HRd9 ho10 hb10 hb11 KS KT KE KT2' O5 R5 O6 R6 D O11
  have HX6 := Lib.hid X11
  have HB6' := Lib.hid B11
  have HZ6 := Lib.hid Z11
  have HB6 := Lib.hid U11
  clear B11 Z11 U11
  obtain ⟨a0, a1, a2, a3, a4⟩ := X11
  dsimp only at a0 a1 a2 a3 a4
  generalize putO m (g / 4) ((entriesAt m (g / 4)).take (g % 4) ++ List.replicate (4 - g % 4) 0) = o at *
  go_wp2_with fail
  cases o
  · have R := HN7.out rfl
    have RX0 := HX0.out.symm
    have RE0 := HE0.out.symm
    rw [R] at RX0 RE0
    have RX1 := Lib.hid RX0
    have RE1 := Lib.hid RE0
    clear RX0 RE0 R HN7 HS7
    refine KT2.out.mono ?_
    rintro e' w12 ⟨⟨rA9, rn9, rc9, sA9, sn9, sc9, fA9, fn9, fc9, pA9, pn9, pc9⟩, rfl, hb12, hKI⟩
    obtain ⟨X7, B7⟩ := hKI.box HB6'.out HX6.out
    have Z7 := hKI.zb HZ6.out
    have h5 := five B7 ⟨_, _, X7⟩ m.guest ⟨rA9, rn9, rc9, sA9, sn9, sc9, fA9, fn9, fc9, pA9, pn9, pc9⟩
    dsimp only at h5
    have Z8 : ZB _ (w.heap.size + 1) := ⟨(h5.2.2.block _ Z7.box.1.ty.lt (fun e => by injection e with e; omega)).trans Z7.heap⟩
    have s7 := hb12.size
    have s6 := HB6.out.size
    have LB := ((HB6.out.trans (hb12.mono (by omega)))).grown h5.2.2 (by omega) (fun j e => by injection e with e; omega)
    have O := outI' Z8 (X := noImg) (v := noV) (B := w.heap.size) (.inl ⟨rfl, rfl⟩) LB (by omega) (by omega)
    dsimp only [noImg, noV] at O
    obtain ⟨⟨k0, k1, k2, k3, k4⟩, hF, hB⟩ := O
    obtain ⟨u0, u1, u2, u3, u4⟩ := Z8.cells
    obtain ⟨q0, q1, q2, q3, q4⟩ := Z8.froz
    obtain ⟨x0, x1, x2, x3, x4⟩ := X7
    have y0 := B7.fz 0
    have y1 := B7.fz 1
    have y2 := B7.fz 2
    have y3 := B7.fz 3
    have y4 := B7.fz 4
    have HK := Lib.hid (And.intro k0 (And.intro k1 (And.intro k2 (And.intro k3 k4))))
    have HF := Lib.hid hF
    have HLB := Lib.hid hB
    dsimp only [imgV] at x0 x1 x2 x3 x4 ⊢
    clear Z7 Z8 h5 hb12 hKI B7 LB k0 k1 k2 k3 k4 hF hB KT2 HX6 HB6' HZ6
    go_wp2_with fail
    obtain ⟨k0, k1, k2, k3, k4⟩ := HK.out
    refine bodyPost_ret (v := .tuple #[imgV noImg noV, .int .i64 7]) ?_ rfl ⟨noV, by rw [RX1.out, RE1.out]; rfl, by rw [RX1.out]; exact HF.out, HLB.out⟩
    simp [results, Try.results20, go_sem, imgV, noImg, noV, k0, k1, k2, k3, k4]
  · rename_i x
    obtain ⟨R, hsx, hrx⟩ := HS7.out x rfl
    have RX0 := HX0.out.symm
    have RE0 := HE0.out.symm
    rw [R] at RX0 RE0
    have RX1 := Lib.hid RX0
    have RE1 := Lib.hid RE0
    have HRX := Lib.hid hsx
    have HR4 := Lib.hid (show x.root.length ≤ 4 by omega)
    clear RX0 RE0 R HN7 HS7 hsx hrx
    refine KT2.out.mono ?_
    rintro e' w12 ⟨tg7, ⟨rA9, rn9, rc9, sA9, sn9, sc9, fA9, fn9, fc9, pA9, pn9, pc9⟩, q7, rfl, hO12, hb12, hKI⟩
    obtain ⟨X7, B7⟩ := hKI.box HB6'.out HX6.out
    have Z7 := hKI.zb HZ6.out
    have h5 := five B7 ⟨_, _, X7⟩ x.guest ⟨rA9, rn9, rc9, sA9, sn9, sc9, fA9, fn9, fc9, pA9, pn9, pc9⟩
    dsimp only at h5
    have HZ8 : Hid (ZB _ (w.heap.size + 1)) := Lib.hid ⟨(h5.2.2.block _ Z7.box.1.ty.lt (fun e => by injection e with e; omega)).trans Z7.heap⟩
    have HO8 := Lib.hid (hO12.kept h5.2.2 B7.ty (by decide) (by decide) (by decide))
    have HX8 := Lib.hid h5.1
    have HB8 := Lib.hid h5.2.1
    have s7 := hb12.size
    have s6 := HB6.out.size
    have hs8 := h5.2.2.size
    have HU8 := Lib.hid (((HB6.out.trans (hb12.mono (by omega)))).grown h5.2.2 (by omega) (fun j e => by injection e with e; omega))
    obtain ⟨x0, x1, x2, x3, x4⟩ := X7
    have y0 := B7.fz 0
    have y1 := B7.fz 1
    have y2 := B7.fz 2
    have y3 := B7.fz 3
    have y4 := B7.fz 4
    dsimp only [imgV] at x0 x1 x2 x3 x4 ⊢
    clear Z7 h5 hb12 hKI B7 hO12 KT2 HX6 HB6' HZ6 HB6
    have X9 : Box ((((((w12.setCell ⟨w7.heap.size, 0, none⟩ (.int .i64 x.guest)).setCell ⟨w7.heap.size, 1, none⟩ (.slice rA9 rn9 rc9)).setCell ⟨w7.heap.size, 2, none⟩ (.slice sA9 sn9 sc9)).setCell ⟨w7.heap.size, 3, none⟩ (.slice fA9 fn9 fc9)).setCell ⟨w7.heap.size, 4, none⟩ (.slice pA9 pn9 pc9)).setCell ⟨w7.heap.size, 0, none⟩ (.int .i64 g)) w7.heap.size (g : Nat) ⟨rA9, rn9, rc9, sA9, sn9, sc9, fA9, fn9, fc9, pA9, pn9, pc9⟩ := by
      obtain ⟨a0, a1, a2, a3, a4⟩ := HX8.out
      dsimp only at a0 a1 a2 a3 a4
      refine ⟨?_, ?_, ?_, ?_, ?_⟩ <;> go_simp
    have B9 := HB8.out.set 0 (.int .i64 g)
    have hg9 := grown_set (((((w12.setCell ⟨w7.heap.size, 0, none⟩ (.int .i64 x.guest)).setCell ⟨w7.heap.size, 1, none⟩ (.slice rA9 rn9 rc9)).setCell ⟨w7.heap.size, 2, none⟩ (.slice sA9 sn9 sc9)).setCell ⟨w7.heap.size, 3, none⟩ (.slice fA9 fn9 fc9)).setCell ⟨w7.heap.size, 4, none⟩ (.slice pA9 pn9 pc9)) w7.heap.size 0 (.int .i64 (g : Nat))
    have O9 := (HO8.out.newGuest (g : Nat)).kept hg9 HB8.out.ty (by decide) (by decide) (by decide)
    have Z9 : ZB _ (w.heap.size + 1) := ⟨(hg9.block _ HZ8.out.box.1.ty.lt (fun e => by injection e with e; omega)).trans HZ8.out.heap⟩
    have U9 := HU8.out.setCell (p := ⟨w7.heap.size, 0, none⟩) (show w.heap.size ≤ w7.heap.size by omega) (.int .i64 (g : Nat))
    have hs9 : w5.heap.size ≤ ((((((w12.setCell ⟨w7.heap.size, 0, none⟩ (.int .i64 x.guest)).setCell ⟨w7.heap.size, 1, none⟩ (.slice rA9 rn9 rc9)).setCell ⟨w7.heap.size, 2, none⟩ (.slice sA9 sn9 sc9)).setCell ⟨w7.heap.size, 3, none⟩ (.slice fA9 fn9 fc9)).setCell ⟨w7.heap.size, 4, none⟩ (.slice pA9 pn9 pc9)).setCell ⟨w7.heap.size, 0, none⟩ (.int .i64 (g : Nat))).heap.size := by have := hg9.size; omega
    have hrl9 := O9.imgR.rlen
    dsimp only at hrl9
    have hrs : x.root.length ≤ 4 := HR4.out
    have HX9 := Lib.hid X9
    have HB9 := Lib.hid B9
    have HO9 := Lib.hid O9
    have HZ9 := Lib.hid Z9
    have HU9 := Lib.hid U9
    have HRL := Lib.hid hrl9
    have hr4 : rn9 ≤ 4 := by omega
    obtain ⟨a0, a1, a2, a3, a4⟩ := HX8.out
    have b0 := HB8.out.fz 0
    dsimp only at a0 a1 a2 a3 a4
    clear X9 B9 O9 Z9 U9 hg9 hrl9 hrs
    go_wp2_with fail
    generalize ((((((w12.setCell ⟨w7.heap.size, 0, none⟩ (.int .i64 x.guest)).setCell ⟨w7.heap.size, 1, none⟩ (.slice rA9 rn9 rc9)).setCell ⟨w7.heap.size, 2, none⟩ (.slice sA9 sn9 sc9)).setCell ⟨w7.heap.size, 3, none⟩ (.slice fA9 fn9 fc9)).setCell ⟨w7.heap.size, 4, none⟩ (.slice pA9 pn9 pc9)).setCell ⟨w7.heap.size, 0, none⟩ (.int .i64 (g : Nat))) = w9 at *
    clear a0 a1 a2 a3 a4 b0 HX8 HB8 HO8 HZ8 HU8
    go_loopw [67] (fun _ wr => ∃ (k : Nat) (A : Option Addr) (c : Nat) (tg : Nat → Nat), (k = 0 ∨ rn9 + k ≤ (g + 3) / 4) ∧ OwnI wr w5.heap.size tg ⟨A, rn9 + k, c, sA9, sn9, sc9, fA9, fn9, fc9, pA9, pn9, pc9⟩ q7 p { x with guest := (g : Nat), root := x.root ++ List.replicate k 0 } ∧ Box wr w7.heap.size (g : Nat) ⟨A, rn9 + k, c, sA9, sn9, sc9, fA9, fn9, fc9, pA9, pn9, pc9⟩ ∧ BoxB wr w7.heap.size ∧ ZB wr (w.heap.size + 1) ∧ Below w.heap.size w wr ∧ w9.heap.size ≤ wr.heap.size) (fun _ wr => (g + 3) / 4 - lenAt wr w7.heap.size)
    case atStart => exact ⟨0, _, _, tg7, .inl rfl, by simpa using HO9.out, HX9.out, HB9.out, HZ9.out, HU9.out, Nat.le_refl _⟩
    case round =>
      obtain ⟨k, A, c, tgk, hk, hO, hX, hB, hZ, hU, hsz⟩ := hrel
      clear HX9 HB9 HO9 HZ9 HU9
      have hnn : rn9 + k ≤ 8 := by omega
      have HKK := Lib.hid hk
      have HO := Lib.hid hO
      have HX := Lib.hid hX
      have HB := Lib.hid hB
      have HZ := Lib.hid hZ
      have HU := Lib.hid hU
      have hln : ({ x with guest := (g : Nat), root := x.root ++ List.replicate k 0 } : Img).root.length = rn9 + k := hO.imgR.rlen
      have hk16 : k ≤ 16 := by omega
      generalize hN : rn9 + k = N at *
      have HN := Lib.hid hN
      obtain ⟨a0, a1, a2, a3, a4⟩ := hX
      have b1 := hB.fz 1
      dsimp only at a0 a1 a2 a3 a4
      have hml : lenAt wr w7.heap.size = N := lenAt_is a1
      clear hO hB hZ hU hk hN
      generalize hG : (g + 3) / 4 = W at *
      have HG := Lib.hid hG
      clear hG
      by_cases hlt : N < W
      · have c0 : decide ((N : Int) < (W : Int)) = true := decide_eq_true (by omega)
        obtain ⟨g', c', w', tg', r1, O', U', K'⟩ := (HO.out.next (Below.refl wr.heap.size wr).drew).push0 (by show _ ≤ wr.heap.size; omega) (by show N ≤ _; omega)
        dsimp only at r1 O'
        have HR := Lib.hid r1
        have heq := K' _ _ HB.out.ty (by decide)
        have B1 : BoxB w' w7.heap.size := by obtain ⟨cur, e⟩ := HB.out; exact ⟨cur, (K' _ _ HB.out.ty (by decide)).trans e⟩
        have X1 : Box w' w7.heap.size (g : Nat) ⟨A, N, c, sA9, sn9, sc9, fA9, fn9, fc9, pA9, pn9, pc9⟩ := by
          obtain ⟨cur, e⟩ := HB.out
          have e' : w'.heap[w7.heap.size]? = _ := heq.trans e
          have cc := fun j => (cell_of_row w' w7.heap.size j _ _ _ e').trans (cell_of_row wr w7.heap.size j _ _ _ e).symm
          exact ⟨(cc 0).trans a0, (cc 1).trans a1, (cc 2).trans a2, (cc 3).trans a3, (cc 4).trans a4⟩
        have Z1 : ZB w' (w.heap.size + 1) := ⟨(K' _ _ HZ.out.box.1.ty (by decide)).trans HZ.out.heap⟩
        have hgs := grown_set w' w7.heap.size 1 (.slice (some ⟨g', 0, none⟩) (N + 1) c')
        have O2 := O'.kept hgs B1.ty (by decide) (by decide) (by decide)
        have B2 := B1.set 1 (.slice (some ⟨g', 0, none⟩) (N + 1) c')
        have Z2 : ZB _ (w.heap.size + 1) := ⟨(hgs.block _ Z1.box.1.ty.lt (fun e => by injection e with e; omega)).trans Z1.heap⟩
        have U2 := (HU.out.drew.trans (U'.mono (by omega))).setCell (p := ⟨w7.heap.size, 1, none⟩) (show w.heap.size ≤ w7.heap.size by omega) (.slice (some ⟨g', 0, none⟩) (N + 1) c')
        have hsz2 : w9.heap.size ≤ (w'.setCell ⟨w7.heap.size, 1, none⟩ (.slice (some ⟨g', 0, none⟩) (N + 1) c')).heap.size := by have h1 := U'.size; have h2 := hgs.size; have h3 : wr.drew.heap.size = wr.heap.size := rfl; omega
        obtain ⟨d0, d1, d2, d3, d4⟩ := X1
        dsimp only at d0 d1 d2 d3 d4
        have X2 : Box (w'.setCell ⟨w7.heap.size, 1, none⟩ (.slice (some ⟨g', 0, none⟩) (N + 1) c')) w7.heap.size (g : Nat) ⟨some ⟨g', 0, none⟩, N + 1, c', sA9, sn9, sc9, fA9, fn9, fc9, pA9, pn9, pc9⟩ := by
          refine ⟨?_, ?_, ?_, ?_, ?_⟩ <;> go_simp
        have e1 := B1.fz 1
        have HO2 := Lib.hid O2
        have HX2 := Lib.hid X2
        have HB2 := Lib.hid B2
        have HZ2 := Lib.hid Z2
        have HU2 := Lib.hid U2
        clear O' K' heq B1 Z1 hgs O2 B2 Z2 U2 X2 r1 U'
        go_wp2_with fail
        refine wp_region_z (S := fun W' => W'.cell? ⟨w7.heap.size, 1, none⟩ = some (.slice A N c)) 5 (by kernel_rfl) (fun hC => ?_)
        have hSS : wr.drew.cell? ⟨w7.heap.size, 1, none⟩ = some (.slice A N c) := a1
        apply wpAnyZ_take (i := 0)
        case hi => rfl
        case hs => kernel_rfl
        case hf => kernel_rfl
        case hr => kernel_rfl
        case hu => kernel_rfl
        case hw => exact fun z h1 h2 => (by have h2 : z < 6 := h2; have h3 : z = 5 := (by omega); subst h3; exact ⟨[1, 2], by kernel_rfl⟩)
        case hQ => exact fun _ _ _ h => h
        case hy => exact Or.inl ⟨by rfl, fun w' hSw => by (have s0 := hSw; go_simp; try with_reducible rfl)⟩
        case hS => assumption
        case hC => assumption
        clear hC
        intro hC
        apply wpAnyZ_take (i := 1)
        case hi => rfl
        case hs => kernel_rfl
        case hf => kernel_rfl
        case hr => kernel_rfl
        case hu => kernel_rfl
        case hw => exact fun z h1 h2 => (by have h2 : z < 6 := h2; have h3 : z = 5 := (by omega); subst h3; exact ⟨[2], by kernel_rfl⟩)
        case hQ => exact fun _ _ _ h => h
        case hy => exact Or.inl ⟨by rfl, fun w' hSw => by (have s0 := hSw; go_simp; try with_reducible rfl)⟩
        case hS => assumption
        case hC => assumption
        clear hC
        intro hC
        apply wpAnyZ_take (i := 2)
        case hi => rfl
        case hs => kernel_rfl
        case hf => kernel_rfl
        case hr => kernel_rfl
        case hu => kernel_rfl
        case hw => exact fun z h1 h2 => (by have h2 : z < 6 := h2; have h3 : z = 5 := (by omega); subst h3; exact ⟨[], by kernel_rfl⟩)
        case hQ => exact fun _ _ _ h => h
        case hy => exact Or.inl ⟨by rfl, fun w' hSw => by (have s0 := hSw; go_simp; try with_reducible rfl)⟩
        case hS => assumption
        case hC => assumption
        clear hC
        intro hC
        apply wpAnyZ_take (i := 3)
        case hi => rfl
        case hs => kernel_rfl
        case hf => kernel_rfl
        case hr => kernel_rfl
        case hu => kernel_rfl
        case hw => exact fun z h1 h2 => (by have h2 : z < 6 := h2; have h3 : z = 5 := (by omega); subst h3; exact ⟨[4], by kernel_rfl⟩)
        case hQ => exact fun _ _ _ h => h
        case hy => exact Or.inl ⟨by rfl, fun w' hSw => by (have s0 := hSw; go_simp; try with_reducible rfl)⟩
        case hS => assumption
        case hC => assumption
        clear hC
        intro hC
        clear hC
        refine wpAnyZ_one (i := 4) (by kernel_rfl) rfl (fun K' hK => ?_)
        go_simp
        refine (KV.out _).mono ?_
        rintro e' w11 ⟨rfl, rfl⟩
        refine hK.out _ _ (fun _ => hSS) ?_
        clear hK
        refine wpAnyZ_one (i := 5) (by kernel_rfl) rfl (fun K' hK => ?_)
        go_simp
        refine hK.out _ _ (fun h => absurd h (by decide)) ?_
        clear hK
        refine wpAnyZ_done (by kernel_rfl) ?_ _
        clear hSS
        go_wp2_with (at_builtin; refine wpList_app rfl _ _ _ _ rfl rfl rfl rfl HR.out ?_)
        have hm2 := lenAt_is HX2.out.2.1
        dsimp only at hm2
        have hN := HN.out
        subst hN
        go_roundw
        case rel => exact ⟨k + 1, some ⟨g', 0, none⟩, c', tg', .inr (by omega), by rw [List.replicate_succ', ← List.append_assoc]; exact HO2.out, HX2.out, HB2.out, HZ2.out, HU2.out, hsz2⟩
        case measure => omega
      · have c0 : decide ((N : Int) < (W : Int)) = false := decide_eq_false (by omega)
        go_wp2_with fail
        refine wp_region_z (S := fun W' => W'.cell? ⟨w7.heap.size, 1, none⟩ = some (.slice A N c)) 5 (by kernel_rfl) (fun hC => ?_)
        have hSS : wr.drew.cell? ⟨w7.heap.size, 1, none⟩ = some (.slice A N c) := a1
        apply wpAnyZ_take (i := 0)
        case hi => rfl
        case hs => kernel_rfl
        case hf => kernel_rfl
        case hr => kernel_rfl
        case hu => kernel_rfl
        case hw => exact fun z h1 h2 => (by have h2 : z < 6 := h2; have h3 : z = 5 := (by omega); subst h3; exact ⟨[1, 2], by kernel_rfl⟩)
        case hQ => exact fun _ _ _ h => h
        case hy => exact Or.inl ⟨by rfl, fun w' hSw => by (have s0 := hSw; go_simp; try with_reducible rfl)⟩
        case hS => assumption
        case hC => assumption
        clear hC
        intro hC
        apply wpAnyZ_take (i := 1)
        case hi => rfl
        case hs => kernel_rfl
        case hf => kernel_rfl
        case hr => kernel_rfl
        case hu => kernel_rfl
        case hw => exact fun z h1 h2 => (by have h2 : z < 6 := h2; have h3 : z = 5 := (by omega); subst h3; exact ⟨[2], by kernel_rfl⟩)
        case hQ => exact fun _ _ _ h => h
        case hy => exact Or.inl ⟨by rfl, fun w' hSw => by (have s0 := hSw; go_simp; try with_reducible rfl)⟩
        case hS => assumption
        case hC => assumption
        clear hC
        intro hC
        apply wpAnyZ_take (i := 2)
        case hi => rfl
        case hs => kernel_rfl
        case hf => kernel_rfl
        case hr => kernel_rfl
        case hu => kernel_rfl
        case hw => exact fun z h1 h2 => (by have h2 : z < 6 := h2; have h3 : z = 5 := (by omega); subst h3; exact ⟨[], by kernel_rfl⟩)
        case hQ => exact fun _ _ _ h => h
        case hy => exact Or.inl ⟨by rfl, fun w' hSw => by (have s0 := hSw; go_simp; try with_reducible rfl)⟩
        case hS => assumption
        case hC => assumption
        clear hC
        intro hC
        apply wpAnyZ_take (i := 3)
        case hi => rfl
        case hs => kernel_rfl
        case hf => kernel_rfl
        case hr => kernel_rfl
        case hu => kernel_rfl
        case hw => exact fun z h1 h2 => (by have h2 : z < 6 := h2; have h3 : z = 5 := (by omega); subst h3; exact ⟨[4], by kernel_rfl⟩)
        case hQ => exact fun _ _ _ h => h
        case hy => exact Or.inl ⟨by rfl, fun w' hSw => by (have s0 := hSw; go_simp; try with_reducible rfl)⟩
        case hS => assumption
        case hC => assumption
        clear hC
        intro hC
        clear hC
        refine wpAnyZ_one (i := 4) (by kernel_rfl) rfl (fun K' hK => ?_)
        go_simp
        refine (KV.out _).mono ?_
        rintro e' w11 ⟨rfl, rfl⟩
        refine hK.out _ _ (fun _ => hSS) ?_
        clear hK
        refine wpAnyZ_one (i := 5) (by kernel_rfl) rfl (fun K' hK => ?_)
        go_simp
        refine hK.out _ _ (fun h => absurd h (by decide)) ?_
        clear hK
        refine wpAnyZ_done (by kernel_rfl) ?_ _
        clear hSS
        go_wp2_with fail
        have hcap : N ≤ c := HO.out.root.1
        have hi1 : (W : Int) ≤ (c : Int) := by omega
        have hi0 : (0 : Int) ≤ (W : Int) := by omega
        refine wp_region_z (S := fun W' => W'.cell? ⟨w7.heap.size, 1, none⟩ = some (.slice A N c)) 6 (by kernel_rfl) (fun hC => ?_)
        have hSS : wr.drew.drew.cell? ⟨w7.heap.size, 1, none⟩ = some (.slice A N c) := a1
        apply wpAnyZ_take (i := 0)
        case hi => rfl
        case hs => kernel_rfl
        case hf => kernel_rfl
        case hr => kernel_rfl
        case hu => kernel_rfl
        case hw => exact fun z h1 h2 => (by have h2 : z < 7 := h2; have h3 : z = 6 := (by omega); subst h3; exact ⟨[1, 4], by kernel_rfl⟩)
        case hQ => exact fun _ _ _ h => h
        case hy => exact Or.inl ⟨by rfl, fun w' hSw => by (have s0 := hSw; go_simp; try with_reducible rfl)⟩
        case hS => assumption
        case hC => assumption
        clear hC
        intro hC
        apply wpAnyZ_take (i := 1)
        case hi => rfl
        case hs => kernel_rfl
        case hf => kernel_rfl
        case hr => kernel_rfl
        case hu => kernel_rfl
        case hw => exact fun z h1 h2 => (by have h2 : z < 7 := h2; have h3 : z = 6 := (by omega); subst h3; exact ⟨[4], by kernel_rfl⟩)
        case hQ => exact fun _ _ _ h => h
        case hy => exact Or.inl ⟨by rfl, fun w' hSw => by (have s0 := hSw; go_simp; try with_reducible rfl)⟩
        case hS => assumption
        case hC => assumption
        clear hC
        intro hC
        apply wpAnyZ_take (i := 2)
        case hi => rfl
        case hs => kernel_rfl
        case hf => kernel_rfl
        case hr => kernel_rfl
        case hu => kernel_rfl
        case hw => exact fun z h1 h2 => (by have h2 : z < 7 := h2; have h3 : z = 6 := (by omega); subst h3; exact ⟨[3, 4], by kernel_rfl⟩)
        case hQ => exact fun _ _ _ h => h
        case hy => exact Or.inl ⟨by rfl, fun w' hSw => by (have s0 := hSw; go_simp; try with_reducible rfl)⟩
        case hS => assumption
        case hC => assumption
        clear hC
        intro hC
        clear hC
        refine wpAnyZ_one (i := 3) (by kernel_rfl) rfl (fun K' hK => ?_)
        go_simp
        refine (KV.out _).mono ?_
        rintro e' w11 ⟨rfl, rfl⟩
        refine hK.out _ _ (fun _ => hSS) ?_
        clear hK
        have hWN : W ≤ N := by omega
        have HER := Lib.hid (show ({ x with guest := (g : Nat), root := (x.root ++ List.replicate k 0).take W } : Img) = resized x g from by
          unfold resized
          rw [← HG.out, take_rep hk16 (by have h1 := hln; have h2 := HG.out; rw [List.length_append, List.length_replicate] at h1; omega)])
        have fz1 := HB.out.fz 1
        have hff : wr.drew.drew.frozen? ⟨w7.heap.size, 1, none⟩ = false := fz1
        rcases A with _ | a
        · refine wpAnyZ_one (i := 4) (by kernel_rfl) rfl (fun K' hK => ?_)
          go_simp
          refine hK.out _ _ (fun _ => hSS) ?_
          clear hK
          refine wpAnyZ_one (i := 5) (by kernel_rfl) rfl (fun K' hK => ?_)
          go_simp
          refine hK.out _ _ (fun _ => hSS) ?_
          clear hK
          refine wpAnyZ_one (i := 6) (by kernel_rfl) rfl (fun K' hK => ?_)
          go_simp
          refine hK.out _ _ (fun h => absurd h (by decide)) ?_
          clear hK
          refine wpAnyZ_done (by kernel_rfl) ?_ _
          have hgs := grown_set wr w7.heap.size 1 (.slice none W c)
          have O3 := HO.out.newRoot (TabO.take HO.out.root hWN)
          have O4 := ((O3.kept hgs HB.out.ty (by decide) (by decide) (by decide)).next (Below.refl _ _).drew).next (Below.refl _ _).drew
          dsimp only at O4
          rw [HER.out] at O4
          have X5 : Box ((wr.setCell ⟨w7.heap.size, 1, none⟩ (.slice none W c)).drew.drew) w7.heap.size (g : Nat) ⟨none, W, c, sA9, sn9, sc9, fA9, fn9, fc9, pA9, pn9, pc9⟩ := by
            refine ⟨?_, ?_, ?_, ?_, ?_⟩ <;> go_simp
          have Z5 : ZB ((wr.setCell ⟨w7.heap.size, 1, none⟩ (.slice none W c)).drew.drew) (w.heap.size + 1) := ⟨(hgs.block _ HZ.out.box.1.ty.lt (fun e => by injection e with e; omega)).trans HZ.out.heap⟩
          have U5 := (HU.out.setCell (p := ⟨w7.heap.size, 1, none⟩) (show w.heap.size ≤ w7.heap.size by omega) (.slice none W c)).drew.drew
          have hsz5 : w5.heap.size ≤ ((wr.setCell ⟨w7.heap.size, 1, none⟩ (.slice none W c)).drew.drew).heap.size := by have h2 := hgs.size; show _ ≤ (wr.setCell ⟨w7.heap.size, 1, none⟩ (.slice none W c)).heap.size; omega
          have HO5 := Lib.hid O4
          have HZ5 := Lib.hid Z5
          have HU5 := Lib.hid U5
          clear hgs O3 O4 Z5 U5 hSS HX HB HZ HU HO a0 a1 a2 a3 a4 fz1 hff b1 hml hln hsz
          obtain ⟨a0, a1, a2, a3, a4⟩ := X5
          dsimp only at a0 a1 a2 a3 a4
          generalize ((wr.setCell ⟨w7.heap.size, 1, none⟩ (.slice none W c)).drew.drew) = w13 at *
          have KC' := counted_any w5.heap.size tgk _ q7 p _ _ HO5.out hsz5 HRX.out.cbd
          dsimp only [imgV, resized] at KC'
          have KC := Lib.hid KC'
          clear KC'
          go_wp2_with fail
          refine KC.out.mono ?_
          rintro e' w14 ⟨⟨zrA, zrn, zrc, zsA, zsn, zsc, zfA, zfn, zfc, zpA, zpn, zpc⟩, tg12, q12, p12, rfl, hO12, hb12⟩
          have Z12 := HZ5.out.nextB hb12 (by omega)
          have hsX : settled { guest := (g : Nat), root := (x.root ++ List.replicate 16 0).take ((g + 3) / 4), slots := x.slots, refs := x.refs, snaps := x.snaps } = X := RX1.out.symm
          rw [hsX] at hO12 ⊢
          obtain ⟨⟨k0, k1, k2, k3, k4⟩, hO2, hg2⟩ := lastI Z12 hO12
          have s12 := hb12.size
          have s13 := HU5.out.size
          have LB2 := (HU5.out.trans (hb12.mono (by omega))).grown hg2 (by omega) (fun j e => by injection e with e; omega)
          obtain ⟨u0, u1, u2, u3, u4⟩ := Z12.cells
          dsimp only at k1 k2 k3 k4
          obtain ⟨q0, q1, q2, q3, q4⟩ := Z12.froz
          have HK := Lib.hid (And.intro k0 (And.intro k1 (And.intro k2 (And.intro k3 k4))))
          have HOO := Lib.hid hO2
          have HLB2 := Lib.hid LB2
          dsimp only [imgV]
          clear Z12 hO12 hb12 hO2 hg2 LB2 k0 k1 k2 k3 k4 KC a0 a1 a2 a3 a4
          go_wp2_with fail
          obtain ⟨k0, k1, k2, k3, k4⟩ := HK.out
          refine bodyPost_ret (v := .tuple #[imgV X ⟨zrA, zrn, zrc, zsA, zsn, zsc, zfA, zfn, zfc, zpA, zpn, zpc⟩, .int .i64 0]) ?_ rfl ⟨_, by rw [RE1.out]; rfl, .inr ⟨w5.heap.size, _, _, _, by omega, HOO.out⟩, HLB2.out⟩
          simp [results, Try.results20, go_sem, k0, k1, k2, k3, k4, imgV]
        · refine wpAnyZ_one (i := 4) (by kernel_rfl) rfl (fun K' hK => ?_)
          go_simp
          refine hK.out _ _ (fun _ => hSS) ?_
          clear hK
          refine wpAnyZ_one (i := 5) (by kernel_rfl) rfl (fun K' hK => ?_)
          go_simp
          refine hK.out _ _ (fun _ => hSS) ?_
          clear hK
          refine wpAnyZ_one (i := 6) (by kernel_rfl) rfl (fun K' hK => ?_)
          go_simp
          refine hK.out _ _ (fun h => absurd h (by decide)) ?_
          clear hK
          refine wpAnyZ_done (by kernel_rfl) ?_ _
          have hgs := grown_set wr w7.heap.size 1 (.slice (some a) W c)
          have O3 := HO.out.newRoot (TabO.take HO.out.root hWN)
          have O4 := ((O3.kept hgs HB.out.ty (by decide) (by decide) (by decide)).next (Below.refl _ _).drew).next (Below.refl _ _).drew
          dsimp only at O4
          rw [HER.out] at O4
          have X5 : Box ((wr.setCell ⟨w7.heap.size, 1, none⟩ (.slice (some a) W c)).drew.drew) w7.heap.size (g : Nat) ⟨(some a), W, c, sA9, sn9, sc9, fA9, fn9, fc9, pA9, pn9, pc9⟩ := by
            refine ⟨?_, ?_, ?_, ?_, ?_⟩ <;> go_simp
          have Z5 : ZB ((wr.setCell ⟨w7.heap.size, 1, none⟩ (.slice (some a) W c)).drew.drew) (w.heap.size + 1) := ⟨(hgs.block _ HZ.out.box.1.ty.lt (fun e => by injection e with e; omega)).trans HZ.out.heap⟩
          have U5 := (HU.out.setCell (p := ⟨w7.heap.size, 1, none⟩) (show w.heap.size ≤ w7.heap.size by omega) (.slice (some a) W c)).drew.drew
          have hsz5 : w5.heap.size ≤ ((wr.setCell ⟨w7.heap.size, 1, none⟩ (.slice (some a) W c)).drew.drew).heap.size := by have h2 := hgs.size; show _ ≤ (wr.setCell ⟨w7.heap.size, 1, none⟩ (.slice (some a) W c)).heap.size; omega
          have HO5 := Lib.hid O4
          have HZ5 := Lib.hid Z5
          have HU5 := Lib.hid U5
          clear hgs O3 O4 Z5 U5 hSS HX HB HZ HU HO a0 a1 a2 a3 a4 fz1 hff b1 hml hln hsz
          obtain ⟨a0, a1, a2, a3, a4⟩ := X5
          dsimp only at a0 a1 a2 a3 a4
          generalize ((wr.setCell ⟨w7.heap.size, 1, none⟩ (.slice (some a) W c)).drew.drew) = w13 at *
          have KC' := counted_any w5.heap.size tgk _ q7 p _ _ HO5.out hsz5 HRX.out.cbd
          dsimp only [imgV, resized] at KC'
          have KC := Lib.hid KC'
          clear KC'
          go_wp2_with fail
          refine KC.out.mono ?_
          rintro e' w14 ⟨⟨zrA, zrn, zrc, zsA, zsn, zsc, zfA, zfn, zfc, zpA, zpn, zpc⟩, tg12, q12, p12, rfl, hO12, hb12⟩
          have Z12 := HZ5.out.nextB hb12 (by omega)
          have hsX : settled { guest := (g : Nat), root := (x.root ++ List.replicate 16 0).take ((g + 3) / 4), slots := x.slots, refs := x.refs, snaps := x.snaps } = X := RX1.out.symm
          rw [hsX] at hO12 ⊢
          obtain ⟨⟨k0, k1, k2, k3, k4⟩, hO2, hg2⟩ := lastI Z12 hO12
          have s12 := hb12.size
          have s13 := HU5.out.size
          have LB2 := (HU5.out.trans (hb12.mono (by omega))).grown hg2 (by omega) (fun j e => by injection e with e; omega)
          obtain ⟨u0, u1, u2, u3, u4⟩ := Z12.cells
          dsimp only at k1 k2 k3 k4
          obtain ⟨q0, q1, q2, q3, q4⟩ := Z12.froz
          have HK := Lib.hid (And.intro k0 (And.intro k1 (And.intro k2 (And.intro k3 k4))))
          have HOO := Lib.hid hO2
          have HLB2 := Lib.hid LB2
          dsimp only [imgV]
          clear Z12 hO12 hb12 hO2 hg2 LB2 k0 k1 k2 k3 k4 KC a0 a1 a2 a3 a4
          go_wp2_with fail
          obtain ⟨k0, k1, k2, k3, k4⟩ := HK.out
          refine bodyPost_ret (v := .tuple #[imgV X ⟨zrA, zrn, zrc, zsA, zsn, zsc, zfA, zfn, zfc, zpA, zpn, zpc⟩, .int .i64 0]) ?_ rfl ⟨_, by rw [RE1.out]; rfl, .inr ⟨w5.heap.size, _, _, _, by omega, HOO.out⟩, HLB2.out⟩
          simp [results, Try.results20, go_sem, k0, k1, k2, k3, k4, imgV]

set_option maxRecDepth 100000 in
set_option maxHeartbeats 1000000 in
theorem resizeOf_no (v : IV) (m : Img) (g : Int) (w : World) (h : ImgR w w.heap.size v m) (hm : checkErr m ≠ 0) :
    Calls Try.prog 20 #[imgV m v, .int .i64 g] w (ImgOwn w.heap.size noImg (checkErr m) w) := by
  have K1' := fun W (hb : Below w.heap.size w W) => rcheckimg_any v m W (h.next hb)
  obtain ⟨f1, f2, _, f4, f5⟩ := boxesT w m.guest v
  have lz : (checkErr m != 0) = true := by simpa using hm
  generalize checkErr m = er at *
  obtain ⟨rA, rn, rc, sA, sn, sc, fA, fn, fc, pA, pn, pc⟩ := v
  dsimp only [imgV] at *
  have K1 := Lib.hid (K1' _ f1)
  obtain ⟨x0, x1, x2, x3, x4⟩ := f2
  dsimp only at x0 x1 x2 x3 x4
  clear K1' h hm
  go_enter Try.func20, Try.ntmps20
  go_wp2_with fail
  generalize ((w.alloc (.cells #[.int .i64 m.guest, .slice rA rn rc, .slice sA sn sc, .slice fA fn fc, .slice pA pn pc] 26)).alloc (.cells #[.int .i64 0, .slice none 0 0, .slice none 0 0, .slice none 0 0, .slice none 0 0] 26)) = W4 at *
  refine K1.out.mono ?_
  rintro e w5 ⟨rfl, hb5⟩
  have B5 := below_next f1 hb5
  have Z5 := f4.nextB hb5 (by omega)
  obtain ⟨y0, y1, y2, y3, y4⟩ := Z5.cells
  obtain ⟨q0, q1, q2, q3, q4⟩ := Z5.froz
  have O := outI' Z5 (X := noImg) (v := noV) (B := w.heap.size) (.inl ⟨rfl, rfl⟩) B5 (Nat.le_refl _) (by omega)
  dsimp only [noImg, noV] at O
  obtain ⟨⟨k0, k1, k2, k3, k4⟩, hF, hB⟩ := O
  have HK := Lib.hid (And.intro k0 (And.intro k1 (And.intro k2 (And.intro k3 (And.intro k4 (And.intro hF hB))))))
  clear x0 x1 x2 x3 x4 f1 f4 K1 Z5 B5 hb5 k0 k1 k2 k3 k4 hF hB
  go_wp2_with fail
  obtain ⟨k0, k1, k2, k3, k4, hF, hB⟩ := HK.out
  refine bodyPost_ret (v := .tuple #[imgV noImg noV, .int .i64 er]) ?_ rfl ⟨noV, rfl, hF, hB⟩
  simp [results, Try.results20, go_sem, imgV, noImg, noV, k0, k1, k2, k3, k4]
set_option maxRecDepth 100000 in
set_option maxHeartbeats 1000000 in
theorem resizeOf_range (v : IV) (m : Img) (g : Int) (w : World) (h : ImgR w w.heap.size v m) (hm : checkErr m = 0) (hr : ¬ (0 ≤ g ∧ g ≤ 16)) :
    Calls Try.prog 20 #[imgV m v, .int .i64 g] w (ImgOwn w.heap.size noImg 3 w) := by
  have K1' := fun W (hb : Below w.heap.size w W) => rcheckimg_any v m W (h.next hb)
  obtain ⟨f1, f2, _, f4, f5⟩ := boxesT w m.guest v
  rw [hm] at K1'
  have KW' := fun W => within_any g 0 16 W
  have hb' : (decide ((0 : Int) ≤ g) && decide (g ≤ 16)) = false := by simp; omega
  rw [hb'] at KW'
  have KW := Lib.hid KW'
  obtain ⟨rA, rn, rc, sA, sn, sc, fA, fn, fc, pA, pn, pc⟩ := v
  dsimp only [imgV] at *
  have K1 := Lib.hid (K1' _ f1)
  obtain ⟨x0, x1, x2, x3, x4⟩ := f2
  dsimp only at x0 x1 x2 x3 x4
  clear K1' h hm
  go_enter Try.func20, Try.ntmps20
  go_wp2_with fail
  generalize ((w.alloc (.cells #[.int .i64 m.guest, .slice rA rn rc, .slice sA sn sc, .slice fA fn fc, .slice pA pn pc] 26)).alloc (.cells #[.int .i64 0, .slice none 0 0, .slice none 0 0, .slice none 0 0, .slice none 0 0] 26)) = W4 at *
  refine K1.out.mono ?_
  rintro e w5 ⟨rfl, hb5⟩
  have B5 := below_next f1 hb5
  have Z5 := f4.nextB hb5 (by omega)
  obtain ⟨y0, y1, y2, y3, y4⟩ := Z5.cells
  obtain ⟨q0, q1, q2, q3, q4⟩ := Z5.froz
  have O := outI' Z5 (X := noImg) (v := noV) (B := w.heap.size) (.inl ⟨rfl, rfl⟩) B5 (Nat.le_refl _) (by omega)
  dsimp only [noImg, noV] at O
  obtain ⟨⟨k0, k1, k2, k3, k4⟩, hF, hB⟩ := O
  have HK := Lib.hid (And.intro k0 (And.intro k1 (And.intro k2 (And.intro k3 (And.intro k4 (And.intro hF hB))))))
  clear x0 x1 x2 x3 x4 f1 f4 K1 Z5 B5 hb5 k0 k1 k2 k3 k4 hF hB
  go_wp2_with fail
  refine (KW.out _).mono ?_
  rintro e' w6 ⟨rfl, rfl⟩
  go_wp2_with fail
  obtain ⟨k0, k1, k2, k3, k4, hF, hB⟩ := HK.out
  refine bodyPost_ret (v := .tuple #[imgV noImg noV, .int .i64 3]) ?_ rfl ⟨noV, rfl, hF, hB⟩
  simp [results, Try.results20, go_sem, imgV, noImg, noV, k0, k1, k2, k3, k4]
theorem resizeOf_any (v : IV) (m : Img) (g : Int) (w : World) (h : ImgR w w.heap.size v m) :
    Calls Try.prog 20 #[imgV m v, .int .i64 g] w (ImgOwn w.heap.size (resizeI m g) (resizeE m g) w) := by
  unfold resizeI resizeE
  by_cases hm : checkErr m = 0
  · by_cases hr : 0 ≤ g ∧ g ≤ 16
    · rw [if_pos hm, if_pos ⟨hm, hr⟩, if_pos hr]
      obtain ⟨k, rfl⟩ := Int.eq_ofNat_of_zero_le hr.1
      rw [Int.toNat_natCast]
      have hg : k ≤ 16 := by omega
      by_cases he : k % 4 = 0
      · exact resizeOf_even v m k w h hm hg _ _ rfl rfl he
      · by_cases hp : m.root.length ≤ k / 4
        · exact resizeOf_past v m k w h hm hg _ _ rfl rfl (by omega) hp
        · by_cases hs : (entriesAt m (k / 4)).take (k % 4) ++ List.replicate (4 - k % 4) 0 = entriesAt m (k / 4)
          · exact resizeOf_same v m k w h hm hg _ _ rfl rfl ⟨by omega, by omega⟩ hs
          · exact resizeOf_tab v m k w h hm hg _ _ rfl rfl ⟨by omega, by omega⟩ hs
    · rw [if_pos hm, if_neg (fun hh => hr hh.2), if_neg hr]
      exact resizeOf_range v m g w h hm hr
  · rw [if_neg hm, if_neg (fun hh => hm hh.1)]
    exact resizeOf_no v m g w h hm
end Go.Proofs.Ytpboapeoejdipaa
