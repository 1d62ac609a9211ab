/- The reference's ReadOf, AllOf, snapAt, PastOf; reads.Read, All, Past. Conditions: the image is read below the heap's size. -/
import Derived.Test.YtnjjnioilbnnpaaReads1
import Derived.Test.YtnjjnioilbnnpaaFlat
namespace Go.Proofs.Ytnjjnioilbnnpaa
open Go.RowKit Sl

/-- The image's five cells, as an argument. -/
abbrev imgV (m : Img) (v : IV) : Value := .agg #[.int .i64 m.guest, .slice v.rA v.rn v.rc, .slice v.sA v.sn v.sc, .slice v.fA v.fn v.fc, .slice v.pA v.pn v.pc]

set_option maxRecDepth 100000 in
set_option maxHeartbeats 400000 in
theorem rreadOf_any (v : IV) (m : Img) (k : Nat) (w : World) (h : ImgR w w.heap.size v m) (he : EntOk m.slots m.root k) (hp : PageOk m.slots (entryOf m.slots m.root k)) :
    Calls Try.prog 31 #[imgV m v, .int .i64 (k : Nat)] w fun e' w' => e' = .returned (.string (pageV m.slots (entryOf m.slots m.root k))) ∧ Below w.heap.size w w' := by
  have K1 := Lib.hid (fun W (hb : Below w.heap.size w W) => rlookOf_any v m k W (h.next hb) he)
  have K2 := Lib.hid (fun W (hb : Below w.heap.size w W) => rpage_any v m _ W (h.next hb) hp)
  obtain ⟨rA, rn, rc, sA, sn, sc, fA, fn, fc, pA, pn, pc⟩ := v
  dsimp only [imgV] at K1 K2 ⊢
  have HB1 := below1 w (.cells #[.int .i64 m.guest, .slice rA rn rc, .slice sA sn sc, .slice fA fn fc, .slice pA pn pc] 26)
  generalize entryOf m.slots m.root k = en at K1 K2
  clear h he hp
  go_enter Try.func31, Try.ntmps31
  go_wp2_with fail
  have hz : w.heap.size < (w.alloc (.cells #[.int .i64 m.guest, .slice rA rn rc, .slice sA sn sc, .slice fA fn fc, .slice pA pn pc] 26)).heap.size := by simp
  obtain ⟨b0, b1, b2, b3, b4⟩ := Box.new w m.guest ⟨rA, rn, rc, sA, sn, sc, fA, fn, fc, pA, pn, pc⟩ 26
  generalize w.alloc (.cells #[.int .i64 m.guest, .slice rA rn rc, .slice sA sn sc, .slice fA fn fc, .slice pA pn pc] 26) = wa at *
  have HBd : Hid (Below wa.heap.size wa wa.drew) := Lib.hid (Below.refl _ _).drew
  have HBD : Hid (Below w.heap.size w wa.drew) := Lib.hid HB1.drew
  go_region_held3 (fun w' => w'.cell? ⟨w.heap.size, 0, none⟩ = some (.int .i64 m.guest) ∧ w'.cell? ⟨w.heap.size, 1, none⟩ = some (.slice rA rn rc) ∧ w'.cell? ⟨w.heap.size, 2, none⟩ = some (.slice sA sn sc) ∧ w'.cell? ⟨w.heap.size, 3, none⟩ = some (.slice fA fn fc) ∧ w'.cell? ⟨w.heap.size, 4, none⟩ = some (.slice pA pn pc) ∧ Below wa.heap.size wa w')
    (first | (refine ⟨?_, ?_, ?_, ?_, ?_, ?_⟩ <;> first | assumption | exact HBd.out) | (apply img_keepN hz hb6; apply img_keepN hz hb5; (refine ⟨?_, ?_, ?_, ?_, ?_, ?_⟩ <;> first | assumption | exact HBd.out)) | (apply img_keepA hz; apply img_keepN hz hb6; apply img_keepN hz hb5; (refine ⟨?_, ?_, ?_, ?_, ?_, ?_⟩ <;> first | assumption | exact HBd.out)) | (apply img_keepN hz hb5; (refine ⟨?_, ?_, ?_, ?_, ?_, ?_⟩ <;> first | assumption | exact HBd.out)) | (apply img_keepA hz; apply img_keepN hz hb5; (refine ⟨?_, ?_, ?_, ?_, ?_, ?_⟩ <;> first | assumption | exact HBd.out)))
    (first | (go_at_call 21; refine (K1.out _ HBD.out).mono ?_; rintro e w5 ⟨rfl, hb5⟩) | (go_at_call 63; refine (K2.out _ (below_next HBD.out hb5)).mono ?_; rintro e w6 ⟨rfl, hb6⟩))
  go_wp2_with fail
  go_ret
  exact ⟨rfl, below_next (below_next HBD.out hb5) hb6⟩

set_option maxRecDepth 100000 in
set_option maxHeartbeats 1000000 in
theorem rallOf_any (v : IV) (m : Img) (g : Nat) (w : World) (h : ImgR w w.heap.size v m) (hg : g ≤ 16) (hgm : m.guest = (g : Nat))
    (hen : ∀ k, k < g → EntOk m.slots m.root k) (hp : ∀ k, PageOk m.slots (entryOf m.slots m.root k)) :
    Calls Try.prog 34 #[imgV m v] w (OwnRes w.heap.size 9 1 g ((allV m.slots m.root g).map Value.string) w) := by
  obtain ⟨i0, hi0, hz0, hz1, hz2⟩ := info_parts Try.infoStr
  have K1 := Lib.hid (fun k (hk : k < g) W (hb : Below w.heap.size w W) => rreadOf_any v m k W (h.next hb) (hen k hk) (hp k))
  obtain ⟨rA, rn, rc, sA, sn, sc, fA, fn, fc, pA, pn, pc⟩ := v
  dsimp only [imgV] at K1 ⊢
  rw [hgm] at K1 ⊢
  have HB1 := below1 w (.cells #[.int .i64 (g : Nat), .slice rA rn rc, .slice sA sn sc, .slice fA fn fc, .slice pA pn pc] 26)
  have HX := Lib.hid (Box.new w (g : Nat) ⟨rA, rn, rc, sA, sn, sc, fA, fn, fc, pA, pn, pc⟩ 26)
  have hz : w.heap.size < (w.alloc (.cells #[.int .i64 (g : Nat), .slice rA rn rc, .slice sA sn sc, .slice fA fn fc, .slice pA pn pc] 26)).heap.size := by simp
  clear h hen hp hgm
  go_enter Try.func34, Try.ntmps34
  go_wp2_with fail
  generalize hwa : w.alloc (.cells #[.int .i64 (g : Nat), .slice rA rn rc, .slice sA sn sc, .slice fA fn fc, .slice pA pn pc] 26) = wa at *
  have HWA := Lib.hid hwa
  clear hwa
  go_loopw [3, 4] (fun o i wr => ∃ (k c' : Nat) (A' : Option Addr), k ≤ g ∧ i = .int .i64 k ∧ o = .slice A' k c' ∧ wr.ownsRow wa.heap.size 9 1 (.slice A' k c') k ((allV m.slots m.root k).map Value.string) ∧ Below wa.heap.size wa wr ∧ k ≤ c' ∧ c' ≤ maxLen) (fun _ i _ => g - (intOf i).toNat)
  case atStart => exact ⟨0, 0, none, Nat.zero_le _, rfl, rfl, World.ownsRow_nil _ _ _ _, Below.refl _ _, Nat.le_refl _, by simp⟩
  case round =>
    obtain ⟨k, c', A', hkg, rfl, rfl, ho, hbw, hc1, hc2⟩ := hrel
    have HO := Lib.hid ho
    clear ho
    have HBr := below_next HB1 hbw
    obtain ⟨b0, b1, b2, b3, b4⟩ := HX.out.keep hbw hz
    dsimp only at b0 b1 b2 b3 b4
    by_cases hlt : k < g
    · have KE := Lib.hid (K1.out k hlt)
      have HG := Lib.hid (allV_succ m.slots m.root k)
      generalize pageV m.slots (entryOf m.slots m.root k) = pg at KE HG
      go_wp2_with fail
      refine (KE.out _ HBr).mono ?_
      rintro e w3 ⟨rfl, hb3⟩
      have hz3 := hb3.size
      obtain ⟨A2, c2, w4, q1, q2, q3, q4, q5, _, _⟩ := app_one (P := Try.prog) w3 wa.heap.size 53 53 9 i0 _ 1 16 Try.underlying53 hi0 hz0 hz1 hz2 rfl (by omega) _ _ _ (own_below HO.out hb3) #[.string pg] rfl
        (by intro u hu; simp at hu; subst hu; rfl) (by omega) (by unfold maxLen; omega) (Nat.le_trans hbw.size hz3)
      have HR := Lib.hid q1
      have HO2 := Lib.hid q2
      have hbw4 := (below_next hbw hb3).trans q3
      clear q1 q2 hb3 q3 b0 b1 b2 b3 b4
      go_wp2_with (at_builtin; refine wpList_app rfl _ _ _ _ rfl rfl rfl rfl HR.out ?_)
      go_roundw
      case rel => exact ⟨k + 1, c2, A2, by omega, by go_num, rfl, by rw [HG.out, List.map_append]; exact HO2.out, hbw4, q4, q5⟩
      case measure => simp [intOf]; omega
    · obtain rfl : k = g := by omega
      go_wp2_with fail
      go_ret
      exact ⟨A', c', rfl, ⟨HO.out.1, HO.out.2.imp id fun ⟨gg, cap, cur, h1, h2, h3⟩ => ⟨gg, cap, cur, h1, by omega, h3⟩⟩, below_next HB1 hbw, hc1, hc2⟩

set_option maxRecDepth 100000 in
set_option maxHeartbeats 1000000 in
theorem rsnapAt_any (v : IV) (m : Img) (name : ByteArray) (w : World) (h : ImgR w w.heap.size v m) :
    Calls Try.prog 67 #[imgV m v, .string name] w fun e' w' => e' = .returned (.int .i64 (indexOf (named name) m.snaps)) ∧ Below w.heap.size w w' := by
  obtain ⟨rA, rn, rc, sA, sn, sc, fA, fn, fc, pA, pn, pc⟩ := v
  dsimp only [imgV]
  have HB1 := below1 w (.cells #[.int .i64 m.guest, .slice rA rn rc, .slice sA sn sc, .slice fA fn fc, .slice pA pn pc] 26)
  have hpn : pn ≤ 4611686018427387903 := h.pcap.1
  have HPL := Lib.hid h.plen
  have HI := Lib.hid (h.box (.cells #[.int .i64 m.guest, .slice rA rn rc, .slice sA sn sc, .slice fA fn fc, .slice pA pn pc] 26)).snaps
  clear h
  dsimp only at HPL HI
  go_enter Try.func67, Try.ntmps67
  go_wp2_with fail
  go_loop [5] (fun i => ∃ k : Nat, k ≤ pn ∧ i = .int .i64 k ∧ (m.snaps.take k).all (fun y => !named name y) = true) (fun i => pn - (intOf i).toNat)
  case atStart => exact ⟨0, Nat.zero_le _, rfl, by simp⟩
  case round =>
    obtain ⟨k, hk, rfl, ha⟩ := hrel
    have HA := Lib.hid ha
    clear ha
    by_cases hlt : k < pn
    · obtain ⟨b, o, s, tA, tn, tc, rfl, hb, hx, d0, d1, d2, hsv⟩ := HI.out.at_ (k := k) hlt
      have HX := Lib.hid hx
      clear hx d1 d2 hsv
      have e0 : (0 : Int) ≤ (k : Int) := by omega
      have e1 : (k : Int) < (pn : Int) := by omega
      cases hp : (s.name.toList == name.toList)
      · go_wp2_with fail
        go_round
        case rel => exact ⟨k + 1, by omega, by go_num, by rw [all_take_succ _ m.snaps k s HX.out, HA.out]; unfold named; rw [hp]; rfl⟩
        case measure => simp [intOf]; omega
      · go_wp2_with fail
        go_ret
        exact ⟨ret_int (indexOf_hit (named name) m.snaps k s HX.out hp HA.out), HB1⟩
    · go_wp2_with fail
      go_ret
      exact ⟨ret_int (indexOf_none (named name) m.snaps (all_done _ m.snaps k (by rw [HPL.out]; omega) HA.out)), HB1⟩

set_option maxRecDepth 100000 in
set_option maxHeartbeats 400000 in
theorem pastfn_any (s : Snap) (tA : Option Addr) (tn tc : Nat) (Bn : Nat) (name : ByteArray) (w : World) (hc : w.cell? ⟨Bn, 0, none⟩ = some (.string name)) :
    Calls Try.prog 66 #[.agg #[.string s.name, .int .i64 s.guest, .slice tA tn tc], .pointer (some ⟨Bn, 0, none⟩)] w fun e' w' => e' = .returned (.bool (named name s)) ∧ Below w.heap.size w w' := by
  have HB1 := below1 w (.cells #[.string s.name, .int .i64 s.guest, .slice tA tn tc] 64)
  have hlt : Bn < w.heap.size := by have := World.block_lt_of_cell? w _ hc; simpa using this
  have hc' := (HB1.cell (p := ⟨Bn, 0, none⟩) hlt).trans hc
  go_enter Try.func66, Try.ntmps66
  go_wp2_with fail
  go_ret
  exact ⟨rfl, HB1⟩

set_option maxHeartbeats 400000 in
theorem indexSnaps (K : Nat) (q : Value) (p : Snap → Bool) (A : Option Addr) (n c : Nat) (l : List Snap) (w : World) (h : SnapsR w w.heap.size A n l) (hc : n ≤ 4611686018427387903)
    (hk : ∀ (vs : Array Value) (W : World), (callFunc K vs).run Try.prog W = .ok (.enter K vs) W)
    (hf : ∀ (s : Snap) (tA : Option Addr) (tn tc : Nat) (W : World), Below w.heap.size w W → Calls Try.prog K #[.agg #[.string s.name, .int .i64 s.guest, .slice tA tn tc], q] W fun e w' => e = .returned (.bool (p s)) ∧ Below W.heap.size W w') :
    Calls Try.prog 65 #[.slice A n c, .func (.func K) #[] #[q]] w
    fun e w' => e = .returned (.int .i64 (indexOf p l)) ∧ Below w.heap.size w w' := by
  have HF := Lib.hid hf
  clear hf
  go_enter Try.func65, Try.ntmps65
  go_wp2_with fail
  go_loopw [8, 5] (fun i _ wr => ∃ k : Nat, k ≤ n ∧ i = .int .i64 k ∧ (l.take k).all (fun y => !p y) = true ∧ Below w.heap.size w wr) (fun i _ _ => n - (intOf i).toNat)
  case atStart => exact ⟨0, Nat.zero_le _, rfl, by simp, Below.refl _ _⟩
  case round =>
    obtain ⟨k, hkn, rfl, ha, hbw⟩ := hrel
    have HA := Lib.hid ha
    clear ha
    by_cases hlt : k < n
    · obtain ⟨b, o, s, tA, tn, tc, rfl, hb, hx, h0, h1, h2, hs⟩ := (h.below hbw (Nat.le_refl _)).at_ hlt
      have HX := Lib.hid hx
      clear hx
      have hz := hbw.size
      cases hp : p s
      · go_wp2_with (refine (HF.out s tA tn tc _ hbw).mono ?_; rintro e w' ⟨rfl, hb'⟩)
        go_roundw
        case rel => exact ⟨k + 1, by omega, by go_num, by rw [all_take_succ _ l k s HX.out, HA.out, hp]; rfl, hbw.trans (hb'.mono hz)⟩
        case measure => simp [intOf]; omega
      · go_wp2_with (refine (HF.out s tA tn tc _ hbw).mono ?_; rintro e w' ⟨rfl, hb'⟩)
        go_ret
        exact ⟨ret_int (indexOf_hit p l k s HX.out hp HA.out), hbw.trans (hb'.mono hz)⟩
    · go_wp2_with fail
      go_ret
      exact ⟨ret_int (indexOf_none p l (all_done _ l k (by rw [h.1]; omega) HA.out)), hbw⟩
end Go.Proofs.Ytnjjnioilbnnpaa
