/- Texts of the proof of deskPlays_holds: WRes. Conditions: as each text says. -/
import Derived.Test.YtdbneghfbkjinaaGreatDoorDA1
import Derived.Test.YtdbneghfbkjinaaGreatDoorDA22
import Derived.Lib.AppendZerosOnto
set_option maxRecDepth 100000
set_option maxHeartbeats 1000000
namespace Go.Proofs.YtdbneghfbkjinaaGreatDoor
section
open Go.Proofs.Tryz hiding bare
open Go.RowKit Sl
theorem pR {xs:List Int} {w:World} {b o:Nat} (h:∀j u,(ah xs)[j]? =some u->w.cell? ⟨b,o+j,none⟩=some u) (j:Nat) (hj:j<xs.length):w.cell? ⟨b,o+j,none⟩=some (.int .i64 (xs.getD j 0)):=
 h j _ (by simp[ah,List.getD_eq_getElem?_getD,List.getElem?_eq_getElem hj])
theorem yC (A A2:Option Addr) (n c n2 c2 B B2:Nat) (xs ys:List Int) (w:World) (h:Rd w B 1 A n (ah xs)) (h2:Rd w B2 1 A2 n2 (ah ys)) (hn:0<n) (hn2:0<n2) (hc:n<=maxLen) (hc2:n2<=maxLen):
  Calls prog 120 #[.slice A n c,.slice A2 n2 c2] w λe w'=>e=.returned (.bool (xs==ys))/\Below w.heap.size w w':=by
 have l1:=h.len
 have l2:=h2.len
 obtain⟨b,o,rfl,_,k1⟩:=h.2 hn
 obtain⟨b2,o2,rfl,_,k2⟩:=h2.2 hn2
 refine(Tryz.slices_Equal_int b o n c b2 o2 n2 c2 xs ys w (by omega) (by omega) (by unfold maxLen at hc;omega) (by unfold maxLen at hc2;omega) (pR k1) (pR k2)).mono ?_
 rintro e w' ⟨rfl,q,rfl⟩
 refine⟨?_,zb (Below.refl _ _) q⟩
 rw[List.take_of_length_le (by omega),List.take_of_length_le (by omega)]
theorem pS {m:Img} {k:Nat} {t:List Int} (h:(t==af m k)=true):fT m k t=some m:=by unfold fT;rw[if_pos (by simpa using h)]
theorem mr {m:Img} {k:Nat} {t:List Int} (h:(t==af m k)=false) (hb:bare t=true):fT m k t=some {m with root:=m.root.set k 0}:=by unfold fT;rw[if_neg (by simpa using h),if_pos hb]
theorem kO {m:Img} {k:Nat} {t:List Int} (h:(t==af m k)=false) (hb:bare t=false):fT m k t=fj m k t:=by unfold fT fj;rw[if_neg (by simpa using h),if_neg (by rw[hb];decide)]
theorem oV {m:Img} (h:ab m=0) {k:Nat} (hk:k<m.root.length):(af m k).length=4:=by
 rcases dM h hk with h0|⟨j,s,hj,h1,hs,_,h4⟩
 ·rw[iL (by omega)];rfl
 ·rw[fJ hj h1 hs,h4]
theorem xl (base:Nat) (tg:Nat->Nat) (b:Nat) (v:IV) (q:List SV) (p:List PV) (m:Img) (k:Nat) (l:List Int) (A:Option Addr) (n c:Nat) (w:World) (h:DeskAt w base tg b v q p m) (hm:ab m=0) (hk:k<v.rn) (ht:TabO w base tg 3 A n c l) (hl:ak l=0):
  Calls prog 70 #[.pointer (some ⟨b,0,none⟩),.int .i64 (k:Nat),.slice A n c] w (TurnRes base b (fT m k l) w):=by
 have hI:=h.own.imgR
 have hkr:k<m.root.length:=by have:=hI.rlen;omega
 have hl4:=aU hl
 have hn:=ht.rd.len
 have hle:=oV hm hkr
 have K1:=zh (fK b v m k w hI h.box hk (ip hm hkr))
 have KE:=zh (λA2 c2 n2 (hn2:n2=4) W (hb:Below w.heap.size w W) (h2:Rd W W.heap.size 1 A2 4 (ah (af m k)))=>yC A A2 n c 4 c2 _ _ l (af m k) W (ht.next hb).rd h2 (by omega) (by omega) (by unfold maxLen;omega) (by unfold maxLen;omega))
 have hbw:base<=w.heap.size:=by have:=h.ty.ty.lt;have:=h.lo;omega
 cases he:(l==af m k)
 ·rw[he]at KE
  have KB':= λW (hb:Below w.heap.size w W)=>pr A n c _ l W (ht.next hb).rd (by unfold maxLen;omega)
  rw[hl]at KB'
  cases hb0:bare l
  ·have KT':= λW (hb:Below w.heap.size w W)=>yB base tg b v q p m k l A n c W (h.next hb) hm hk (ht.next hb)
   have hR:=kO (m:=m) he hb0
   rw[show eK l=false from by unfold eK;rw[hl,hb0];rfl]at KB'
   have KB:=zh KB'
   generalize fj m k l=o at*
   clear h hI ht hm hl he hb0 KB' hl4 hkr hle
   cases o
   ·have KT:=zh KT'
    have R:=zh hR
    clear KT' hR
    go_enter func70,ntmps70
    go_wp2_with fail
    refine K1.o.mono ?_
    rintro e w1 ⟨A1,c1,rfl,ho,hb1,_,_⟩
    go_wp2_with fail
    refine(KE.o _ _ _ rfl _ hb1 (Rd.of_own ho)).mono ?_
    rintro e w2 ⟨rfl,hb2⟩
    have T2:=aa hb1 hb2
    go_wp2_with fail
    refine(KB.o _ T2).mono ?_
    rintro e w3 ⟨rfl,rfl⟩
    go_wp2_with fail
    refine(KT.o _ T2).mono ?_
    rintro e w4 ⟨rfl,hb4⟩
    exact⟨rfl,TurnRes.no R.o ((T2.mono hbw).trans hb4)⟩
   ·have KT:=zh KT'
    have R:=zh hR
    clear KT' hR
    go_enter func70,ntmps70
    go_wp2_with fail
    refine K1.o.mono ?_
    rintro e w1 ⟨A1,c1,rfl,ho,hb1,_,_⟩
    go_wp2_with fail
    refine(KE.o _ _ _ rfl _ hb1 (Rd.of_own ho)).mono ?_
    rintro e w2 ⟨rfl,hb2⟩
    have T2:=aa hb1 hb2
    go_wp2_with fail
    refine(KB.o _ T2).mono ?_
    rintro e w3 ⟨rfl,rfl⟩
    go_wp2_with fail
    refine(KT.o _ T2).mono ?_
    rintro e w4 ⟨rfl,⟨tg4,v4,q4,p4,hd4⟩,hb4⟩
    have HD4:=zh hd4
    clear hd4
    go_wp2_with fail
    go_end0
    exact TurnRes.yes R.o HD4.o ((T2.mono hbw).trans hb4)
  ·have R:=zh (mr he hb0)
   rw[show eK l=true from by unfold eK;rw[hl,hb0];rfl]at KB'
   have KB:=zh KB'
   have HD:=zh h
   have e0:(0:Int)<=(k:Int):=by omega
   have e1:(k:Int)<(v.rn:Int):=by omega
   clear h hI ht hm hl he hb0 KB' hl4 hkr hle
   go_enter func70,ntmps70
   go_wp2_with fail
   refine K1.o.mono ?_
   rintro e w1 ⟨A1,c1,rfl,ho,hb1,_,_⟩
   go_wp2_with fail
   refine(KE.o _ _ _ rfl _ hb1 (Rd.of_own ho)).mono ?_
   rintro e w2 ⟨rfl,hb2⟩
   have T2:=aa hb1 hb2
   go_wp2_with fail
   refine(KB.o _ T2).mono ?_
   rintro e w3 ⟨rfl,rfl⟩
   have hd:=HD.o.next T2
   obtain⟨g,hA,hbg,hfz,⟨y,hy⟩,hd2⟩:=hd.setRoot hk 0
   have x1:=hd.box.2.1
   rw[hA]at x1
   have HD2:=zh hd2
   have HT2:=zh T2
   clear hd hd2 T2 hb1 hb2 ho
   go_wp2_with fail
   go_end0
   exact TurnRes.yes R.o HD2.o ((HT2.o.mono hbw).setCell (p:=⟨g,k,none⟩) hbg _)
 ·rw[he]at KE
  have R:=zh (pS he)
  have HD:=zh h
  clear h hI ht hm hl he hl4 hkr hle
  go_enter func70,ntmps70
  go_wp2_with fail
  refine K1.o.mono ?_
  rintro e w1 ⟨A1,c1,rfl,ho,hb1,_,_⟩
  go_wp2_with fail
  refine(KE.o _ _ _ rfl _ hb1 (Rd.of_own ho)).mono ?_
  rintro e w2 ⟨rfl,hb2⟩
  have T2:=aa hb1 hb2
  go_wp2_with fail
  go_end0
  exact TurnRes.yes R.o (HD.o.next T2) (T2.mono hbw)
end
section
open Go.Proofs.Tryz hiding bare
open Go.RowKit Sl
theorem jx {m:Img} (h:ab m=0) {k:Nat} (hk:k<m.root.length):ak (af m k)=0:=by
 rcases dM h hk with h0|⟨j,s,hj,h1,hs,h2,h4⟩
 ·rw[iL (by omega)];rfl
 ·rw[fJ hj h1 hs]
  have:=List.all_eq_true.1 (bR (ay (aq h).1).slots) s (List.mem_of_getElem? hs)
  unfold aD at this
  rw[if_neg (by omega),if_neg (by omega),if_pos h2]at this
  simp only[Bool.and_eq_true,beq_iff_eq]at this
  exact this.1.2
theorem AV {t:List Int} (h:ak t=0) (i:Nat) {e:Int} (he:cV e=true):ak (t.set i e)=0:=by
 obtain⟨h1,h2⟩:=aU h
 refine dB (by rw[List.length_set,h1]) ?_
 rw[List.all_eq_true]at h2⊢
 intro x hx
 rcases List.mem_or_eq_of_mem_set hx with h3|rfl
 ·exact h2 x h3
 ·exact he
theorem yD {t:List Int} (h:ak t=0) {i:Nat} (hi:i<4) {e:Int} (he:cV e=true):jm t i e=t.set i e/\fE t i e=0:=by
 have h2:fE t i e=0:=by unfold fE;rw[if_pos h,if_pos (by omega),if_pos he]
 exact⟨by unfold jm;rw[if_pos h2,Int.toNat_natCast],h2⟩
theorem DeskAt.fresh {w W W':World} {base b n c:Nat} {tg:Nat->Nat} {v:IV} {q:List SV} {p:List PV} {m:Img} {A:Option Addr} {l:List Int} (h:DeskAt w base tg b v q p m) (T:Below w.heap.size w W) (hb:Below W.heap.size W W') (ho:W'.ownsRow W.heap.size 3 1 (.slice A n c) n (ah l))
  (hn:n<=1000000) (hc:n<=c) (hm:c<=maxLen):∃tg',DeskAt W' base tg' b v q p m/\TabO W' base tg' 3 A n c l:=by
 have hbw:base<=W.heap.size:=by have:=h.ty.ty.lt;have:=h.lo;have:=T.size;omega
 exact⟨λg=>if W.heap.size<=g then 3 else tg g,((h.next T).retag (λb' hb'=>if_neg (by omega))).next hb,TabO.made (.inr ho) hbw hn hc hm⟩
theorem Dd {w W W':World} {nb eb:Nat} {x y:Value} (hn:nb<w.heap.size) (he:eb<w.heap.size) (hb:Below W.heap.size W W') (h:W.cell? ⟨nb,0,none⟩=some x/\W.cell? ⟨eb,0,none⟩=some y/\Below w.heap.size w W):
  W'.cell? ⟨nb,0,none⟩=some x/\W'.cell? ⟨eb,0,none⟩=some y/\Below w.heap.size w W':=by
 have hz:=h.2.2.size
 exact⟨(hb.cell (p:=⟨nb,0,none⟩) (show nb<_ by omega)).trans h.1,(hb.cell (p:=⟨eb,0,none⟩) (show eb<_ by omega)).trans h.2.1,aa h.2.2 hb⟩
theorem yE (base:Nat) (tg:Nat->Nat) (b:Nat) (v:IV) (q:List SV) (p:List PV) (m:Img) (nb eb:Nat) (x:Nat) (y:Int) (w:World) (h:DeskAt w base tg b v q p m) (hm:ab m=0) (hx:x/4<m.root.length) (hy:cV y=true)
  (hnb:nb<base) (heb:eb<base) (hcn:w.cell? ⟨nb,0,none⟩=some (.int .i64 x)) (hce:w.cell? ⟨eb,0,none⟩=some (.int .i64 y)):
  Calls prog 125 #[.pointer (some ⟨b,0,none⟩),.pointer (some ⟨nb,0,none⟩),.pointer (some ⟨eb,0,none⟩)] w (TurnRes base b (dP m x y) w):=by
 have hI:=h.own.imgR
 have hkr:x/4<v.rn:=by have:=hI.rlen;omega
 have hbw:base<=w.heap.size:=by have:=h.ty.ty.lt;have:=h.lo;omega
 have hef:=jx hm hx
 have hrl:=h.own.root.2.1.1
 have hxb:x<=4611686018427387903:=by have:=(ay (aq hm).1).cbd.root;omega
 obtain⟨hwv,hwe⟩:=yD hef (i:=x%4) (by omega) hy
 have hsf:=AV hef (x%4) hy
 have hmod:((x%4:Nat):Int)=(x:Int)%4:=by omega
 have hdiv:((x/4:Nat):Int)=(x:Int)/4:=by omega
 have htm:(x:Int).tmod 4=(x:Int)%4:=Int.tmod_eq_emod_of_nonneg (by omega)
 have K1':= λW (hb:Below w.heap.size w W)=>fK b v m (x/4) W (hI.next hb) (h.box.keep hb h.ty.ty.lt) hkr (ip hm hx)
 have K2':= λB A c W (ho:W.ownsRow B 3 1 (.slice A 4 c) 4 (ah (af m (x/4))))=>yA A 4 c (af m (x/4)) ((x%4:Nat):Int) y W (Rd.of_own ho) (by decide)
 have K3':= λtg' A n c W (hd:DeskAt W base tg' b v q p m) (ht:TabO W base tg' 3 A n c ((af m (x/4)).set (x%4) y))=>xl base tg' b v q p m (x/4) _ A n c W hd hm hkr ht hsf
 rw[hwv,hwe]at K2'
 rw[hmod]at K2'
 simp only[hdiv]at K1' K3'
 have K1:=zh K1'
 have K2:=zh K2'
 have HD:=zh h
 have HS:Hid (dP m x y=fT m (x/4) ((af m (x/4)).set (x%4) y)):=zh rfl
 have HD2:=zh hef
 generalize fT m (x/4) ((af m (x/4)).set (x%4) y)=o at*
 have K3:=zh K3'
 have hbd:=zh (Below.refl w.heap.size w).drew
 have HLEN:=zh (show((af m (x/4)).set (x%4) y).length=4 from(aU hsf).1)
 clear h hI hm hef hrl hwv hwe hsf K1' K2' K3' hmod hdiv hx hkr
 go_enter func125,ntmps125
 go_wp2_with fail
 have HNL:nb<w.heap.size:=by omega
 have HEL:eb<w.heap.size:=by omega
 go_region_held3 (λw'=>w'.cell? ⟨nb,0,none⟩=some (.int .i64 x)/\w'.cell? ⟨eb,0,none⟩=some (.int .i64 y)/\Below w.heap.size w w')
  (first|exact⟨hcn,hce,hbd.o⟩|(with_reducible apply Dd HNL HEL hb6;with_reducible assumption)|(with_reducible apply Dd HNL HEL hb5;with_reducible assumption))
  (first|(go_at_call 69;refine(K1.o _ hbd.o).mono ?_;rintro e w5 ⟨A5,c5,rfl,ho5,hb5,hc5,hm5⟩)|(go_at_call 126;refine(K2.o _ _ _ _ ho5).mono ?_;rintro e w6 ⟨A6,n6,c6,rfl,ho6,hb6,hc6,hm6⟩))
 have T5:Below w.heap.size w w5:=aa hbd.o hb5
 have T6:=aa T5 hb6
 have hn6:n6=4:=by have:=(Rd.of_own ho6).len;rw[HLEN.o]at this;omega
 subst hn6
 obtain⟨tg',hd6,ht6⟩:=HD.o.fresh T5 hb6 ho6 (by omega) hc6 hm6
 have K4':=K3.o _ _ _ _ _ hd6 ht6
 have HT6:=zh (T6.mono hbw)
 have HS':=HS.o
 clear K1 K2 K3 HD HD2 hd6 ht6 ho5 hb5 ho6 hb6 T5 T6 HS
 cases o
 ·have K4:=zh K4'
  have R:=zh HS'
  clear K4' HS'
  go_wp2_with fail
  refine K4.o.mono ?_
  rintro e w7 ⟨rfl,hb7⟩
  exact⟨rfl,TurnRes.no R.o (HT6.o.trans hb7)⟩
 ·have K4:=zh K4'
  have R:=zh HS'
  clear K4' HS'
  go_wp2_with fail
  refine K4.o.mono ?_
  rintro e w7 ⟨rfl,⟨tg7,v7,q7,p7,hd7⟩,hb7⟩
  have HD7:=zh hd7
  clear hd7
  go_wp2_with fail
  go_end0
  exact TurnRes.yes R.o HD7.o (HT6.o.trans hb7)
end
section
open Go.Proofs.Tryz hiding bare
open Go.RowKit Sl
theorem xm:Builtin.zeroCells (Value.int .i64 0).cells 16=(ah (List.replicate 16 0)).toArray:=by kernel_rfl
theorem AW (T:Prop) (w:World) (base:Nat) (A:Option Addr) (n c:Nat) (xs:List Int) (h:(n=0/\xs=[]/\c=0)\/(w.ownsRow base 3 1 (.slice A n c) n (ah xs)/\T)) (hn:n<=1000000) (hb:base<=w.heap.size):
  ∃g c' w',(Builtin.append_ #[30,3] 30 #[.slice A n c,.int .i64 16]).run prog w=.ok (.slice (some ⟨g,0,none⟩) (n+16) c') w'/\
   w'.ownsRow base 3 1 (.slice (some ⟨g,0,none⟩) (n+16) c') (n+16) (ah (xs++List.replicate 16 0))/\n+16<=c'/\c'<=maxLen/\
   ((g=w.heap.size/\w.grownBy w' none)\/(A=some ⟨g,0,none⟩/\g<w.heap.size/\w.grownBy w' (some g)/\w.ownsRow base 3 1 (.slice A n c) n (ah xs)/\T)):=by
 obtain⟨i0,hi0,hz0,hz1,hz2⟩:=info_parts infoInt
 have hgrow:∀(hc:c<n+16) (hx:xs.length=n) (hold:(Builtin.firstCells 1 n (.slice A n c)).run prog w.drew=.ok (ah xs).toArray w.drew),
   ∃g c' w',(Builtin.append_ #[30,3] 30 #[.slice A n c,.int .i64 16]).run prog w=.ok (.slice (some ⟨g,0,none⟩) (n+16) c') w'/\
   w'.ownsRow base 3 1 (.slice (some ⟨g,0,none⟩) (n+16) c') (n+16) (ah (xs++List.replicate 16 0))/\n+16<=c'/\c'<=maxLen/\
   ((g=w.heap.size/\w.grownBy w' none)\/(A=some ⟨g,0,none⟩/\g<w.heap.size/\w.grownBy w' (some g)/\w.ownsRow base 3 1 (.slice A n c) n (ah xs)/\T)):=by
  intro hc hx hold
  have hr:=Lib.run_append_grow_zeros (P:=prog) w 30 3 30 3 i0 _ .i64 _ underlying30 underlying3 hi0 hz0 A n c (ah xs) (by rw[hz1];exact hold) 16 (by omega) (by omega) hc (by omega) (by omega) (by
   rw[hz2];exact growslice_fits hc (by omega))
  rw[xm]at hr
  have hge:=grownCap_ge w (n+16) c 3
  have hcm:=grownCap_le_maxLen w (n+16) c 3 (by unfold maxLen;omega)
  refine⟨w.heap.size,_,_,hr,⟨by simp[ah,hx],.inr ⟨w.heap.size,_,_,rfl,hb,heap_alloc_new w.drew _,hge,hcm,?_,?_⟩⟩,hge,hcm,.inl ⟨rfl,⟨rfl,rfl,rfl,by simp,λk hk _=>heap_alloc_old w.drew _ hk⟩⟩⟩
  ·simp only[Array.size_append,List.size_toArray,size_zeroCells,ah,List.length_map,hx,List.length_replicate]
   show n+16+_*1=_
   omega
  ·rw[show ah (xs++List.replicate 16 0)=ah xs++ah (List.replicate 16 0)from by simp[ah]]
   simp only[Array.toList_append]
   rw[show(n+16)*1=(ah xs++ah (List.replicate 16 0)).length from by simp[ah,hx]]
   exact List.take_left
 rcases h with⟨rfl,rfl,rfl⟩|⟨h,hT⟩
 ·refine hgrow (by omega) rfl ?_
  cases A<;>simp[Builtin.firstCells,loadCells,loadCellsFrom,ah]
 ·have hx:xs.length=n:=by have:=h.1;simpa[ah]using this
  rcases h.2 with⟨hv,h0⟩|⟨g,cap,cur,hv,hbg,hg,hnc,hcm,hcs,htake⟩
  ·simp only[Value.slice.injEq]at hv
   obtain⟨rfl,_,rfl⟩:=hv
   subst h0
   obtain rfl:xs=[]:=List.eq_nil_of_length_eq_zero hx
   exact hgrow (by omega) rfl (by simp[Builtin.firstCells,ah])
  ·simp only[Value.slice.injEq]at hv
   obtain⟨rfl,_,rfl⟩:=hv
   by_cases hroom:n+16<=c
   ·have hst:=run_storeCells_at prog g n 3 (ah (List.replicate 16 0)) 0 cur w hg (by simp[ah];omega) (eN _)
    simp only[Nat.add_zero]at hst
    have hrun:(Builtin.append_ #[30,3] 30 #[.slice (some ⟨g,0,none⟩) n c,.int .i64 16]).run prog w=.ok (.slice (some ⟨g,0,none⟩) (n+16) c) (w.setRow g (cur.toList.take n++ah (List.replicate 16 0)++cur.toList.drop (n+(ah (List.replicate 16 0)).length)).toArray):=by
     have hw:IntKind.i64.wrap (16:Int)=16:=by decide
     have hz16:=xm
     generalize ah (List.replicate 16 0)=zs at*
     simp[Builtin.append_,run_underlying underlying30,run_underlying underlying3,sizeOf,typeInfo,zeroValue,hi0,hz0,hz1,hz2,asInt,asIntOf,hw,hroom,Addr.add_lit,hst,hz16]
    refine⟨g,c,_,hrun,⟨by simp[ah,hx],.inr ⟨g,c,_,rfl,hbg,setRow_heap w g cur _ _ _ hg,hroom,hcm,?_,?_⟩⟩,hroom,hcm,.inr ⟨rfl,(za hg),⟨rfl,rfl,rfl,by simp,λk _ hk=>setRow_other w g k _ (λe=>hk (by simp[e]))⟩,h,hT⟩⟩
    ·simp only[List.size_toArray,List.length_append,List.length_take,List.length_drop,Array.length_toList,ah,List.length_map,List.length_replicate]
     omega
    ·rw[show ah (xs++List.replicate 16 0)=ah xs++ah (List.replicate 16 0)from by simp[ah]]
     rw[Nat.mul_one]at htake
     rw[<-htake,show(n+16)*1=(cur.toList.take n++ah (List.replicate 16 0)).length from by simp[ah];omega]
     exact List.take_left
   ·have holds:∀j u,(ah xs)[j]? =some u->w.drew.cell? ((⟨g,0,none⟩:Addr).add j)=some u:=h.cells (g:=g) rfl
    exact hgrow (by omega) hx (run_firstCells_some (P:=prog) w.drew 1 n ⟨g,0,none⟩ n c (ah xs) (by simp[ah,hx]) holds)
theorem nW {w:World} {base g n c k:Nat} {xs:List Int} (h:w.ownsRow base 3 1 (.slice (some ⟨g,0,none⟩) n c) n (ah xs)) (hk:k<=n):w.ownsRow base 3 1 (.slice (some ⟨g,0,none⟩) k c) k (ah (xs.take k)):=by
 have hx:xs.length=n:=by have:=h.1;simpa[ah]using this
 rcases h.2 with⟨hv,_⟩|⟨g',cap,cur,hv,hbg,hg,hnc,hcm,hcs,htake⟩
 ·simp at hv
 ·simp only[Value.slice.injEq,Option.some.injEq,Addr.mk.injEq,and_true,true_and]at hv
  obtain⟨rfl,rfl⟩:=hv
  refine⟨by simp[ah];omega,.inr ⟨g,c,cur,rfl,hbg,hg,by omega,hcm,hcs,?_⟩⟩
  rw[show ah (xs.take k)=(ah xs).take k from by simp[ah,List.map_take],<-htake,List.take_take]
  congr 1
  omega
theorem xo {x:Option Nat}:x=none\/x≠none:=by cases x<;>simp
section
variable {w w':World} {base b:Nat} {tg:Nat->Nat} {v:IV} {q:List SV} {p:List PV} {m:Img}
theorem OwnI.newRoot {A:Option Addr} {n c:Nat} {cs:List Int} (h:OwnI w base tg v q p m) (ho:TabO w base tg 0 A n c cs):OwnI w base tg {v with rA:=A,rn:=n,rc:=c} q p {m with root:=cs}:=
 ⟨ho,h.refs,h.slots,h.sle,h.scap,h.snaps,h.ple,h.pcap,h.hq,h.hp,h.tabs,h.roots⟩
theorem DeskAt.setHead {A:Option Addr} {n c:Nat} {cs:List Int} (ho:OwnI w base tg v q p m) (hx:Box w b m.guest v) (ht:BoxG w b 91) (hlo:base<=b) (hr:TabO w base tg 0 A n c cs):
  DeskAt (w.setCell ⟨b,1,none⟩ (.slice A n c)) base tg b {v with rA:=A,rn:=n,rc:=c} q p {m with root:=cs}:=by
 refine⟨(ho.newRoot hr).kept (ai w b 1 _) ht.ty (by decide) (by decide) (by decide),?_,ht.set 1 _,hlo⟩
 obtain⟨b0,b1,b2,b3,b4⟩:=hx
 refine⟨?_,?_,?_,?_,?_⟩<;>go_simp
theorem DeskAt.setGuest (h:DeskAt w base tg b v q p m) (g:Int):DeskAt (w.setCell ⟨b,0,none⟩ (.int .i64 g)) base tg b v q p {m with guest:=g}:=by
 refine⟨(h.own.newGuest g).kept (ai w b 0 _) h.ty.ty (by decide) (by decide) (by decide),?_,h.ty.set 0 _,h.lo⟩
 obtain⟨b0,b1,b2,b3,b4⟩:=h.box
 refine⟨?_,?_,?_,?_,?_⟩<;>go_simp
theorem DeskAt.regrow (h:DeskAt w base tg b v q p m) (hn:v.rn<=1000000):∃g c' w',(Builtin.append_ #[30,3] 30 #[.slice v.rA v.rn v.rc,.int .i64 16]).run prog w=.ok (.slice (some ⟨g,0,none⟩) (v.rn+16) c') w'/\v.rn+16<=c'/\c'<=maxLen/\
  Box w' b m.guest v/\BoxG w' b 91/\w.grownBy w' (if g<w.heap.size then some g else none)/\base<=g/\Below base w w'/\(∀k,k<=v.rn+16->∃tg',DeskAt (w'.setCell ⟨b,1,none⟩ (.slice (some ⟨g,0,none⟩) k c')) base tg' b {v with rA:=some ⟨g,0,none⟩,rn:=k,rc:=c'} q p {m with root:=(m.root++List.replicate 16 0).take k}):=by
 have hbw:base<=w.heap.size:=by have:=h.ty.ty.lt;have:=h.lo;omega
 obtain⟨g,c',w',r1,r2,r3,r4,r5⟩:=AW (∀b,(Value.slice v.rA v.rn v.rc).ownBlock=some b->tg b=0) w base v.rA v.rn v.rc m.root (h.own.root.2.2.imp (λhh=>⟨hh.1,hh.2.1,hh.2.2.resolve_left (by decide)⟩) id) hn hbw
 have hm:c'<=9223372036854775807:=by unfold maxLen at r4;omega
 have hbg:base<=g:=(r2.lt g rfl).1
 rcases r5 with⟨rfl,hg⟩|⟨hA,hgl,hg,hown,hT⟩
 ·have hx:=h.box.kept hg (by simp)
  have hB:=h.ty.kept hg (by simp)
  have hret:∀j,j<w.heap.size->(λj=>if w.heap.size<=j then 0 else tg j) j=tg j:= λj hj=>if_neg (by omega)
  have ho:OwnI w' base (λj=>if w.heap.size<=j then 0 else tg j) v q p m:=by
   have h0:=h.own.retag (tg':= λj=>if w.heap.size<=j then 0 else tg j) hret
   exact⟨h0.root.kept hg (by simp),h0.refs.kept hg (by simp),h0.slots.kept hg xo,h0.sle,h0.scap,h0.snaps.kept hg xo,h0.ple,h0.pcap,h0.hq,h0.hp,λk x hx=>⟨(h0.tabs k x hx).1,(h0.tabs k x hx).2.kept hg (by simp)⟩,λk x hx=>⟨(h0.roots k x hx).1,(h0.roots k x hx).2.kept hg (by simp)⟩⟩
  refine⟨_,c',w',r1,r3,r4,hx,hB,by rw[if_neg (by omega)];exact hg,hbg,(Below.refl _ _).grown hg hbw (by simp),λk hk=>⟨_,DeskAt.setHead ho hx hB h.lo ⟨by omega,⟨by omega,hm⟩,.inr ⟨nW r2 hk,λj e=>?_⟩⟩⟩⟩
  simp only[Value.ownBlock,Option.some.injEq]at e
  subst e
  exact if_pos (Nat.le_refl _)
 ·have hty:TypeB w g 3:=au hown (by rw[hA];rfl)
  have htg:tg g=0:=hT g (by rw[hA];rfl)
  have hne:some b≠some g:= λe=>h.ty.ty.ne hty (by decide) (by injection e)
  have hx:=h.box.kept hg hne
  have hB:=h.ty.kept hg hne
  have ht:∀{t n c:Nat} {A:Option Addr} {xs:List Int},TabO w base tg t A n c xs->t≠0->TabO w' base tg t A n c xs:= λhh hn=>hh.kept hg λb' e _=>by injection e with e;subst e;exact .inr (by omega)
  refine⟨g,c',w',r1,r3,r4,hx,hB,by rw[if_pos hgl];exact hg,hbg,(Below.refl _ _).grown hg hbw (λk e=>by injection e with e;subst e;exact hbg),λk hk=>⟨tg,?_⟩⟩
  have hr:TabO w' base tg 0 (some ⟨g,0,none⟩) k c' ((m.root++List.replicate 16 0).take k):=⟨by omega,⟨by omega,hm⟩,.inr ⟨nW r2 hk,λj e=>by simp only[Value.ownBlock,Option.some.injEq]at e;subst e;exact htg⟩⟩
  have ho:OwnI w' base tg {v with rA:=some ⟨g,0,none⟩,rn:=k,rc:=c'} q p {m with root:=(m.root++List.replicate 16 0).take k}:=⟨hr,ht h.own.refs (by decide),h.own.slots.kept hg (bH h.own.slots hty (by decide)),h.own.sle,h.own.scap,h.own.snaps.kept hg (bH h.own.snaps hty (by decide)),h.own.ple,h.own.pcap,h.own.hq,h.own.hp,
   λk x hx=>⟨(h.own.tabs k x hx).1,ht (h.own.tabs k x hx).2 (by omega)⟩,λk x hx=>⟨(h.own.roots k x hx).1,ht (h.own.roots k x hx).2 (by omega)⟩⟩
  refine⟨ho.kept (ai w' b 1 _) hB.ty (by decide) (by decide) (by decide),?_,hB.set 1 _,h.lo⟩
  obtain⟨b0,b1,b2,b3,b4⟩:=hx
  refine⟨?_,?_,?_,?_,?_⟩<;>go_simp
end
end
section
open Go.Proofs.Tryz hiding bare
open Go.RowKit Sl
theorem iq {P:Program} {W:World} {ops:Array Oper} {o:Oper} {a:Act} {K:Act->World->Prop} {Q:Exit->Act->World->Prop} {E:Prop} (hgd:o.guard=none) (s x:Operand) (t tn ty:TypeId)
  (ho:o.op=.call {callee:=.builtin .append,args:=#[s,x],argTypes:=#[t,tn]}) (hty:o.type=ty) {v y v':Value} {w':World} (hs:a.eval s=v) (hx:a.eval x=y)
  (hrun:(Builtin.append_ #[t,tn] ty #[v,y]).run P W=.ok v' w') (h:K (a.put o.dst v') w'):
  if Region.wanted o (yielded ops a.tmps)=true then Oper.wp P o a W K Q else E:=by
 have hw:Region.wanted o (yielded ops a.tmps)=true:=by simp[Region.wanted,hgd]
 rw[if_pos hw]
 subst hty
 unfold Oper.wp execOp
 simp only[ho,resolve,invoke,builtin,Sem.run_bind,Sem.run_pure,Result.andThen_ok,List.map_toArray,List.map_cons,List.map_nil,hs,hx,hrun]
 exact h
theorem mM {t:List Int} (h:ak t=0) {n:Nat} (hn:n<=4):oR t n=t.take n++List.replicate (4-n) 0/\kC t n=0/\ak (t.take n++List.replicate (4-n) 0)=0:=by
 obtain⟨h1,h2⟩:=aU h
 have hc:kC t n=0:=by unfold kC;rw[if_pos h,if_pos (by omega)]
 refine⟨by unfold oR rY;rw[if_pos hc,Int.toNat_natCast],hc,dB (by simp;omega) ?_⟩
 rw[List.all_eq_true]at h2⊢
 intro x hx
 rcases List.mem_append.1 hx with h3|h3
 ·exact h2 x (List.mem_of_mem_take h3)
 ·rw[(List.mem_replicate.1 h3).2];rfl
theorem pT {m x:Img} {k:Nat} {t:List Int} (h:fT m k t=some x):x.root.length=m.root.length:=by
 unfold fT at h
 split at h
 ·injection h with h;rw[<-h]
 ·split at h
  ·injection h with h;rw[<-h];simp
  ·split at h
   ·injection h with h;rw[<-h]
   ·split at h
    ·cases h
    ·injection h with h;rw[<-h];simp
theorem j9 (g:Nat):a6 (g:Int)=((g+3)/4:Nat):=by unfold a6;omega
def eO (x:Img) (g:Nat):Img:={x with guest:=g,root:=(x.root++List.replicate 16 0).take ((g+3)/4)}
theorem mN {m:Img} {g:Nat} (hc:0<g%4/\g/4<m.root.length) (h:fT m (g/4) ((af m (g/4)).take (g%4)++List.replicate (4-g%4) 0)=none):bW m g=none:=by
 unfold bW;rw[if_pos hc,h];rfl
theorem gS {m x:Img} {g:Nat} (hc:0<g%4/\g/4<m.root.length) (h:fT m (g/4) ((af m (g/4)).take (g%4)++List.replicate (4-g%4) 0)=some x):bW m g=some (eO x g):=by
 unfold bW eO;rw[if_pos hc,h,j9,Int.toNat_natCast];rfl
theorem mO {m:Img} {g:Nat} (hc:¬(0<g%4/\g/4<m.root.length)):bW m g=some (eO m g):=by
 unfold bW eO;rw[if_neg hc,j9,Int.toNat_natCast];rfl
theorem qY (base:Nat) (tg:Nat->Nat) (b:Nat) (v:IV) (q:List SV) (p:List PV) (m:Img) (gb g:Nat) (w:World) (h:DeskAt w base tg b v q p m) (hm:ab m=0) (hg:g<=16)
  (hgb:gb<base) (hcg:w.cell? ⟨gb,0,none⟩=some (.int .i64 g)):
  Calls prog 67 #[.pointer (some ⟨b,0,none⟩),.pointer (some ⟨gb,0,none⟩)] w (TurnRes base b (bW m g) w):=by
 have hI:=h.own.imgR
 have hrl:=hI.rlen
 have hbw:base<=w.heap.size:=by have:=h.ty.ty.lt;have:=h.lo;omega
 have hr4:=(ay (aq hm).1).cbd.root
 have hmod:((g%4:Nat):Int)=(g:Int)%4:=by omega
 have hdiv:((g/4:Nat):Int)=(g:Int)/4:=by omega
 have htm:(g:Int).tmod 4=(g:Int)%4:=Int.tmod_eq_emod_of_nonneg (by omega)
 have htd:(g:Int).tdiv 4=(g:Int)/4:=Int.tdiv_eq_ediv_of_nonneg (by omega)
 have KW':= λw=>ik (g:Int) w (by omega) (by omega)
 rw[j9]at KW'
 have KW:=zh KW'
 clear KW'
 by_cases hc:0<g%4/\g/4<m.root.length
 ·have hef:=jx hm hc.2
  have hkr:g/4<v.rn:=by omega
  obtain⟨hcv,hce,hcf⟩:=mM hef (n:=g%4) (by omega)
  have K1':= λW (hb:Below w.heap.size w W)=>fK b v m (g/4) W (hI.next hb) (h.box.keep hb h.ty.ty.lt) hkr (ip hm hc.2)
  have K2':= λB A c W (ho:W.ownsRow B 3 1 (.slice A 4 c) 4 (ah (af m (g/4)))) (h4:4<=c)=>AR A 4 c (af m (g/4)) ((g%4:Nat):Int) W (Rd.of_own ho) h4 (by decide)
  have K3':= λtg' A n c W (hd:DeskAt W base tg' b v q p m) (ht:TabO W base tg' 3 A n c ((af m (g/4)).take (g%4)++List.replicate (4-g%4) 0))=>xl base tg' b v q p m (g/4) _ A n c W hd hm hkr ht hcf
  rw[hcv,hce]at K2'
  rw[hmod]at K2'
  simp only[hdiv]at K1' K3'
  have HD:=zh h
  have hl1:(0:Int)<(g:Int)%4:=by omega
  have hl2:(g:Int)/4<(v.rn:Int):=by omega
  have K1:=zh K1'
  have K2:=zh K2'
  have HLEN:=zh (show((af m (g/4)).take (g%4)++List.replicate (4-g%4) 0).length=4 from(aU hcf).1)
  obtain⟨x0,x1,x2,x3,x4⟩:=h.box
  have HBd:=zh (λnq=>zb (Below.refl w.heap.size w) nq)
  cases ho:fT m (g/4) ((af m (g/4)).take (g%4)++List.replicate (4-g%4) 0)
  ·have R:=zh (mN hc ho)
   rw[ho]at K3'
   have K3:=zh K3'
   clear h hI hm hrl hr4 hef hcv hce hcf K1' K2' K3' hmod hdiv hc hkr ho KW
   go_enter func67,ntmps67
   go_wp2_with fail
   go_quiet (fail)
   go_wp2_with fail
   refine(K1.o _ (HBd.o _)).mono ?_
   rintro e w5 ⟨A5,c5,rfl,ho5,hb5,hc5,hm5⟩
   have T5:Below w.heap.size w w5:=aa (HBd.o _) hb5
   go_wp2_with fail
   refine(K2.o _ _ _ _ ho5 hc5).mono ?_
   rintro e w6 ⟨A6,n6,c6,rfl,ho6,hb6,hc6,hm6⟩
   have T6:=aa T5 hb6
   have hn6:n6=4:=by have:=(Rd.of_own ho6).len;rw[HLEN.o]at this;omega
   subst hn6
   obtain⟨tg',hd6,ht6⟩:=HD.o.fresh T5 hb6 ho6 (by omega) hc6 hm6
   have K4:=zh (K3.o _ _ _ _ _ hd6 ht6)
   clear hd6 ht6 K3
   go_wp2_with fail
   refine K4.o.mono ?_
   rintro e w7 ⟨rfl,hb7⟩
   exact⟨rfl,TurnRes.no R.o ((T6.mono hbw).trans hb7)⟩
  ·rename_i x
   have R':=gS hc ho
   unfold eO at R'
   have R:=zh R'
   clear R'
   have HXL:=zh (show x.root.length<=4 by rw[pT ho];exact hr4)
   rw[ho]at K3'
   have K3:=zh K3'
   clear h hI hm hrl hr4 hef hcv hce hcf K1' K2' K3' hmod hdiv hc hkr ho
   go_enter func67,ntmps67
   go_wp2_with fail
   go_quiet (fail)
   go_wp2_with fail
   refine(K1.o _ (HBd.o _)).mono ?_
   rintro e w5 ⟨A5,c5,rfl,ho5,hb5,hc5,hm5⟩
   have T5:Below w.heap.size w w5:=aa (HBd.o _) hb5
   go_wp2_with fail
   refine(K2.o _ _ _ _ ho5 hc5).mono ?_
   rintro e w6 ⟨A6,n6,c6,rfl,ho6,hb6,hc6,hm6⟩
   have T6:=aa T5 hb6
   have hn6:n6=4:=by have:=(Rd.of_own ho6).len;rw[HLEN.o]at this;omega
   subst hn6
   obtain⟨tg',hd6,ht6⟩:=HD.o.fresh T5 hb6 ho6 (by omega) hc6 hm6
   have K4:=zh (K3.o _ _ _ _ _ hd6 ht6)
   clear hd6 ht6 K3
   go_wp2_with fail
   refine K4.o.mono ?_
   rintro e w7 ⟨rfl,⟨tg7,v7,q7,p7,hd7⟩,hb7⟩
   have HD1:=zh hd7
   have HT1:=zh ((T6.mono hbw).trans hb7)
   clear hd7 K1 K2 K4 HD x0 x1 x2 x3 x4 T5 T6 ho5 ho6 hb5 hb6 hb7
   have hvn:v7.rn<=4:=by have:=HD1.o.own.imgR.rlen;have:=HXL.o;omega
   have hcg1:=(HT1.o.cell (p:=⟨gb,0,none⟩) hgb).trans hcg
   obtain⟨y0,y1,y2,y3,y4⟩:=HD1.o.box
   have f0:=HD1.o.ty.fz 0
   have hd2:=HD1.o.setGuest (g:Nat)
   have hT2:Below base w (w7.setCell ⟨b,0,none⟩ (.int .i64 (g:Nat))):=HT1.o.setCell (p:=⟨b,0,none⟩) HD1.o.lo _
   go_wp2_with fail
   generalize w7.setCell ⟨b,0,none⟩ (.int .i64 (g:Nat))=w2 at*
   have hcg2:w2.drew.cell? ⟨gb,0,none⟩=some (.int .i64 (g:Nat)):=(hT2.drew.cell (p:=⟨gb,0,none⟩) hgb).trans hcg
   clear y0 y1 y2 y3 y4 f0 hcg1
   obtain⟨y0,y1,y2,y3,y4⟩:=(hd2.next (Below.refl _ _).drew).box
   obtain⟨g3,c3,w3,r1,r2,r3,hbx,hB,hgr,hbg,hbb,hk⟩:=(hd2.next (Below.refl _ _).drew).regrow (by omega)
   obtain⟨tg',hd3⟩:=hk ((g+3)/4) (by omega)
   obtain⟨z0,z1,z2,z3,z4⟩:=hbx
   have f1:=hB.fz 1
   have HR:=zh r1
   have HD3:=zh hd3
   have HT3:=zh ((hT2.drew.trans hbb).setCell (p:=⟨b,1,none⟩) HD1.o.lo (.slice (some ⟨g3,0,none⟩) ((g+3)/4) c3))
   have hcg3:=(hbb.cell (p:=⟨gb,0,none⟩) hgb).trans hcg2
   have e0:(0:Int)<=(((g+3)/4:Nat):Int):=by omega
   have e1:(((g+3)/4:Nat):Int)<=(c3:Int):=by omega
   clear r1 hd3 hd2 hk hgr hbb hT2
   generalize (g+3)/4=kk at*
   go_region_law (first|(refine iq rfl _ _ _ _ _ rfl rfl rfl rfl HR.o ?_)|(go_simp;go_at_call 21;refine(KW.o _).mono ?_;rintro e w' ⟨rfl,rfl⟩))
   all_goals go_wp2_with fail
   all_goals go_end0
   all_goals exact TurnRes.yes R.o HD3.o HT3.o
 ·have R':=mO hc
  unfold eO at R'
  have R:=zh R'
  clear R'
  have HXL:=zh hr4
  have HD:=zh h
  obtain⟨x0,x1,x2,x3,x4⟩:=h.box
  by_cases hz:0<g%4
  ·have hl1:(0:Int)<(g:Int)%4:=by omega
   have hl2:(v.rn:Int)<=(g:Int)/4:=by omega
   have HDq:=zh (λnq=>h.next (zb (Below.refl w.heap.size w) nq))
   have HTq:=zh (λnq=>zb (Below.refl base w) nq)
   clear h hI hm hrl hr4 hmod hdiv hc
   go_enter func67,ntmps67
   go_wp2_with fail
   go_quiet (fail)
   have HD1:=zh (HDq.o nq)
   have HT1:=zh (HTq.o nq)
   clear x0 x1 x2 x3 x4
   generalize w.drewN nq=w7 at*
   have hvn:v.rn<=4:=by have:=HD1.o.own.imgR.rlen;have:=HXL.o;omega
   have hcg1:=(HT1.o.cell (p:=⟨gb,0,none⟩) hgb).trans hcg
   obtain⟨y0,y1,y2,y3,y4⟩:=HD1.o.box
   have f0:=HD1.o.ty.fz 0
   have hd2:=HD1.o.setGuest (g:Nat)
   have hT2:Below base w (w7.setCell ⟨b,0,none⟩ (.int .i64 (g:Nat))):=HT1.o.setCell (p:=⟨b,0,none⟩) HD1.o.lo _
   go_wp2_with fail
   generalize w7.setCell ⟨b,0,none⟩ (.int .i64 (g:Nat))=w2 at*
   have hcg2:w2.drew.cell? ⟨gb,0,none⟩=some (.int .i64 (g:Nat)):=(hT2.drew.cell (p:=⟨gb,0,none⟩) hgb).trans hcg
   clear y0 y1 y2 y3 y4 f0 hcg1
   obtain⟨y0,y1,y2,y3,y4⟩:=(hd2.next (Below.refl _ _).drew).box
   obtain⟨g3,c3,w3,r1,r2,r3,hbx,hB,hgr,hbg,hbb,hk⟩:=(hd2.next (Below.refl _ _).drew).regrow (by omega)
   obtain⟨tg',hd3⟩:=hk ((g+3)/4) (by omega)
   obtain⟨z0,z1,z2,z3,z4⟩:=hbx
   have f1:=hB.fz 1
   have HR:=zh r1
   have HD3:=zh hd3
   have HT3:=zh ((hT2.drew.trans hbb).setCell (p:=⟨b,1,none⟩) HD1.o.lo (.slice (some ⟨g3,0,none⟩) ((g+3)/4) c3))
   have hcg3:=(hbb.cell (p:=⟨gb,0,none⟩) hgb).trans hcg2
   have e0:(0:Int)<=(((g+3)/4:Nat):Int):=by omega
   have e1:(((g+3)/4:Nat):Int)<=(c3:Int):=by omega
   clear r1 hd3 hd2 hk hgr hbb hT2
   generalize (g+3)/4=kk at*
   go_region_law (first|(refine iq rfl _ _ _ _ _ rfl rfl rfl rfl HR.o ?_)|(go_simp;go_at_call 21;refine(KW.o _).mono ?_;rintro e w' ⟨rfl,rfl⟩))
   all_goals go_wp2_with fail
   all_goals go_end0
   all_goals exact TurnRes.yes R.o HD3.o HT3.o
  ·have hl1:(g:Int)%4<=(0:Int):=by omega
   have HDq:=zh (λnq=>h.next (zb (Below.refl w.heap.size w) nq))
   have HTq:=zh (λnq=>zb (Below.refl base w) nq)
   clear h hI hm hrl hr4 hmod hdiv hc
   go_enter func67,ntmps67
   go_wp2_with fail
   go_quiet (fail)
   have HD1:=zh (HDq.o nq)
   have HT1:=zh (HTq.o nq)
   clear x0 x1 x2 x3 x4
   generalize w.drewN nq=w7 at*
   have hvn:v.rn<=4:=by have:=HD1.o.own.imgR.rlen;have:=HXL.o;omega
   have hcg1:=(HT1.o.cell (p:=⟨gb,0,none⟩) hgb).trans hcg
   obtain⟨y0,y1,y2,y3,y4⟩:=HD1.o.box
   have f0:=HD1.o.ty.fz 0
   have hd2:=HD1.o.setGuest (g:Nat)
   have hT2:Below base w (w7.setCell ⟨b,0,none⟩ (.int .i64 (g:Nat))):=HT1.o.setCell (p:=⟨b,0,none⟩) HD1.o.lo _
   go_wp2_with fail
   generalize w7.setCell ⟨b,0,none⟩ (.int .i64 (g:Nat))=w2 at*
   have hcg2:w2.drew.cell? ⟨gb,0,none⟩=some (.int .i64 (g:Nat)):=(hT2.drew.cell (p:=⟨gb,0,none⟩) hgb).trans hcg
   clear y0 y1 y2 y3 y4 f0 hcg1
   obtain⟨y0,y1,y2,y3,y4⟩:=(hd2.next (Below.refl _ _).drew).box
   obtain⟨g3,c3,w3,r1,r2,r3,hbx,hB,hgr,hbg,hbb,hk⟩:=(hd2.next (Below.refl _ _).drew).regrow (by omega)
   obtain⟨tg',hd3⟩:=hk ((g+3)/4) (by omega)
   obtain⟨z0,z1,z2,z3,z4⟩:=hbx
   have f1:=hB.fz 1
   have HR:=zh r1
   have HD3:=zh hd3
   have HT3:=zh ((hT2.drew.trans hbb).setCell (p:=⟨b,1,none⟩) HD1.o.lo (.slice (some ⟨g3,0,none⟩) ((g+3)/4) c3))
   have hcg3:=(hbb.cell (p:=⟨gb,0,none⟩) hgb).trans hcg2
   have e0:(0:Int)<=(((g+3)/4:Nat):Int):=by omega
   have e1:(((g+3)/4:Nat):Int)<=(c3:Int):=by omega
   clear r1 hd3 hd2 hk hgr hbb hT2
   generalize (g+3)/4=kk at*
   go_region_law (first|(refine iq rfl _ _ _ _ _ rfl rfl rfl rfl HR.o ?_)|(go_simp;go_at_call 21;refine(KW.o _).mono ?_;rintro e w' ⟨rfl,rfl⟩))
   all_goals go_wp2_with fail
   all_goals go_end0
   all_goals exact TurnRes.yes R.o HD3.o HT3.o
end
section
open Go.Proofs.Tryz hiding bare
open Go.RowKit Sl
theorem ir {l:List Value} {i:Nat} {a:Value} (h:l[i]? =some a):l.set i a=l:=by
 apply List.ext_getElem?
 intro j
 rw[List.getElem?_set]
 split
 ·rename_i e;subst e
  split
  ·rw[h]
  ·rename_i hl;rw[List.getElem?_eq_none (by omega)]
 ·rfl
theorem pU {q:List SV} {k:Nat} {x:SV} (h:q[k]? =some x) (d:ByteArray):(q.flatMap SV.cells).set (k*3+1) (.string d)=(q.set k {x with s:={x.s with data:=d}}).flatMap SV.cells:=by
 have h0:=av SV.cells SV.cells_len q k x h 0 (by omega)
 have h2:=av SV.cells SV.cells_len q k x h 2 (by omega)
 rw[<-gv SV.cells SV.cells_len q k x _ h (.int .i64 x.s.kind) (.string d) (.slice x.A x.n x.c) rfl]
 rw[Nat.add_zero]at h0
 rw[ir (i:=k*3) (by rw[h0];rfl)]
 rw[ir (i:=k*3+2)]
 rw[List.getElem?_set_ne (by omega),h2];rfl
theorem nX {q:List SV} {k:Nat} {x:SV} (h:q[k]? =some x) (t:List Int) (A:Option Addr) (n c:Nat):(q.flatMap SV.cells).set (k*3+2) (.slice A n c)=(q.set k ⟨{x.s with table:=t},A,n,c⟩).flatMap SV.cells:=by
 have h0:=av SV.cells SV.cells_len q k x h 0 (by omega)
 have h1:=av SV.cells SV.cells_len q k x h 1 (by omega)
 rw[<-gv SV.cells SV.cells_len q k x _ h (.int .i64 x.s.kind) (.string x.s.data) (.slice A n c) rfl]
 rw[Nat.add_zero]at h0
 rw[ir (i:=k*3) (by rw[h0];rfl),ir (i:=k*3+1) (by rw[h1];rfl)]
section
variable {w w':World} {base b:Nat} {tg:Nat->Nat} {v:IV} {q:List SV} {p:List PV} {m:Img}
theorem DeskAt.slotSet (h:DeskAt w base tg b v q p m) {sb k i:Nat} {x':SV} {u:Value} (hA:v.sA=some ⟨sb,0,none⟩) (hf:(q.flatMap SV.cells).set i u=(q.set k x').flatMap SV.cells)
  (hd:x'.s.data.size<=4611686018427387903) (ht:TabO w base tg (2*k+4) x'.A x'.n x'.c x'.s.table):
  DeskAt (w.setCell ⟨sb,i,none⟩ u) base tg b v (q.set k x') p {m with slots:=m.slots.set k x'.s}/\base<=sb:=by
 have h0:=h.own.slots
 rw[hA]at h0
 obtain⟨o1,g1⟩:=h0.stored i u
 rw[hf]at o1
 have hne:some b≠some sb:= λe=>h.ty.ty.ne (au h0 (b:=sb) rfl) (by decide) (by injection e)
 exact⟨⟨h.own.turned hA g1 (by rw[hA];exact o1) hd ht,h.box.kept g1 hne,h.ty.kept g1 hne,h.lo⟩,(h0.lt sb rfl).1⟩
theorem DeskAt.setData (h:DeskAt w base tg b v q p m) {k:Nat} {s:Slot} (hs:m.slots[k]? =some s) {d:ByteArray} (hd:d.size<=4611686018427387903):
  ∃sb q',v.sA=some ⟨sb,0,none⟩/\k<v.sn/\base<=sb/\w.cell? ⟨sb,k*3+1,none⟩=some (.string s.data)/\w.frozen? ⟨sb,k*3+1,none⟩=false/\
  DeskAt (w.setCell ⟨sb,k*3+1,none⟩ (.string d)) base tg b v q' p {m with slots:=m.slots.set k {s with data:=d}}:=by
 have hl:k<v.sn:=by have:=h.own.imgR.slen;have:=(zl hs);omega
 obtain⟨sb,hA,hb,_⟩:=bK h.own.slots (by omega)
 have hq:k<q.length:=by have:=h.own.qlen;omega
 have hx:=List.getElem?_eq_getElem hq
 have hxs:q[k].s=s:=by
  have:=h.own.hq
  rw[<-this,List.getElem?_map,hx]at hs
  injection hs
 have h0:=h.own.slots
 rw[hA]at h0
 have c1:=h0.cellAt (k*3+1) (by omega)
 rw[av SV.cells SV.cells_len q k _ hx 1 (by omega)]at c1
 have hf:=h0.frozenAt (k*3+1)
 obtain⟨d1,d2⟩:=h.slotSet hA (pU hx d) hd (h.own.tabs k _ hx).2
 refine⟨sb,_,hA,hl,d2,?_,hf,by rw[<-hxs];exact d1⟩
 rw[<-hxs];exact c1
theorem DeskAt.setTable (h:DeskAt w base tg b v q p m) {k:Nat} {s:Slot} (hs:m.slots[k]? =some s) {t:List Int} {A:Option Addr} {n c:Nat} (ht:TabO w base tg (2*k+4) A n c t):
  ∃sb q' u,v.sA=some ⟨sb,0,none⟩/\k<v.sn/\base<=sb/\w.cell? ⟨sb,k*3+2,none⟩=some u/\w.frozen? ⟨sb,k*3+2,none⟩=false/\
  DeskAt (w.setCell ⟨sb,k*3+2,none⟩ (.slice A n c)) base tg b v q' p {m with slots:=m.slots.set k {s with table:=t}}:=by
 have hl:k<v.sn:=by have:=h.own.imgR.slen;have:=(zl hs);omega
 obtain⟨sb,hA,hb,_⟩:=bK h.own.slots (by omega)
 have hq:k<q.length:=by have:=h.own.qlen;omega
 have hx:=List.getElem?_eq_getElem hq
 have hxs:q[k].s=s:=by
  have:=h.own.hq
  rw[<-this,List.getElem?_map,hx]at hs
  injection hs
 have h0:=h.own.slots
 rw[hA]at h0
 have c1:=h0.cellAt (k*3+2) (by omega)
 rw[av SV.cells SV.cells_len q k _ hx 2 (by omega)]at c1
 have hf:=h0.frozenAt (k*3+2)
 obtain⟨d1,d2⟩:=h.slotSet hA (nX hx t A n c) (h.own.tabs k _ hx).1 ht
 exact⟨sb,_,_,hA,hl,d2,c1,hf,by rw[<-hxs];exact d1⟩
theorem DeskAt.setRoot2 (h:DeskAt w base tg b v q p m) {k:Nat} (hk:k<v.rn) (y:Int):∃g,v.rA=some ⟨g,0,none⟩/\base<=g/\w.frozen? ⟨g,k,none⟩=false/\(∃x,w.cell? ⟨g,k,none⟩=some (.int .i64 x))/\
  DeskAt (w.setCell ⟨g,k,none⟩ (.int .i64 y)) base tg b v q p {m with root:=m.root.set k y}/\(∀t A n c xs,t≠0->TabO w base tg t A n c xs->TabO (w.setCell ⟨g,k,none⟩ (.int .i64 y)) base tg t A n c xs):=by
 obtain⟨g,hA,h1,h2,h3,h4,⟨x,_,hx⟩,h6,h7⟩:=h.own.root.stored hk y
 have hg:=ai w g k (.int .i64 y)
 have ht:∀t A n c xs,t≠0->TabO w base tg t A n c xs->TabO (w.setCell ⟨g,k,none⟩ (.int .i64 y)) base tg t A n c xs:= λt A n c xs hn hh=>hh.kept hg λb' e _=>by injection e with e;subst e;exact .inr (by omega)
 obtain⟨g',hA',_,_,_,hD⟩:=h.setRoot hk y
 rw[hA]at hA'
 injection hA' with e
 injection e with e
 subst e
 exact⟨g,hA,h1,h6,⟨x,hx⟩,hD,ht⟩
theorem DeskAt.setFree (h:DeskAt w base tg b v q p m) {n c k:Nat} {A:Option Addr} {xs:List Int} (hr:TabO w base tg 3 A n c xs) (hk:k<n) (y:Int):∃g,A=some ⟨g,0,none⟩/\base<=g/\w.frozen? ⟨g,k,none⟩=false/\(∃x,w.cell? ⟨g,k,none⟩=some (.int .i64 x))/\
  DeskAt (w.setCell ⟨g,k,none⟩ (.int .i64 y)) base tg b v q p m/\TabO (w.setCell ⟨g,k,none⟩ (.int .i64 y)) base tg 3 A n c (xs.set k y):=by
 obtain⟨g,hA,h1,h2,h3,h4,⟨x,_,hx⟩,h6,h7⟩:=hr.stored hk y
 have hg:=ai w g k (.int .i64 y)
 have ht:∀{t n c:Nat} {A:Option Addr} {xs:List Int},TabO w base tg t A n c xs->t≠3->TabO (w.setCell ⟨g,k,none⟩ (.int .i64 y)) base tg t A n c xs:= λhh hn=>hh.kept hg λb' e _=>by injection e with e;subst e;exact .inr (by omega)
 have hne:some b≠some g:= λe=>h.ty.ty.ne h4 (by decide) (by injection e)
 exact⟨g,hA,h1,h6,⟨x,hx⟩,⟨⟨ht h.own.root (by decide),ht h.own.refs (by decide),h.own.slots.kept hg (bH h.own.slots h4 (by decide)),h.own.sle,h.own.scap,h.own.snaps.kept hg (bH h.own.snaps h4 (by decide)),h.own.ple,h.own.pcap,h.own.hq,h.own.hp,
  λk x hx=>⟨(h.own.tabs k x hx).1,ht (h.own.tabs k x hx).2 (by omega)⟩,λk x hx=>⟨(h.own.roots k x hx).1,ht (h.own.roots k x hx).2 (by omega)⟩⟩,h.box.kept hg hne,h.ty.kept hg hne,h.lo⟩,h7⟩
theorem DeskAt.newRow (h:DeskAt w base tg b v q p m) (xs:List Int) (t:Nat) (hn:xs.length<=1000000):∃tg',DeskAt (w.alloc (.cells (ah xs).toArray 3)) base tg' b v q p m/\TabO (w.alloc (.cells (ah xs).toArray 3)) base tg' t (some ⟨w.heap.size,0,none⟩) xs.length xs.length xs/\
  (∀t A n c ys,TabO w base tg t A n c ys->TabO (w.alloc (.cells (ah xs).toArray 3)) base tg' t A n c ys):=by
 have hbw:base<=w.heap.size:=by have:=h.ty.ty.lt;have:=h.lo;omega
 have hret:∀j,j<w.heap.size->(λj=>if w.heap.size<=j then t else tg j) j=tg j:= λj hj=>if_neg (by omega)
 refine⟨λj=>if w.heap.size<=j then t else tg j,(h.retag hret).next (ac _ _),TabO.made (.inr (cQ (heap_alloc_new w _) (Nat.le_refl _) (by simp[ah]) (by unfold maxLen;omega))) hbw hn (Nat.le_refl _) (by unfold maxLen;omega),λt A n c ys hh=>(hh.retag hret).next (ac _ _)⟩
end
end
end Go.Proofs.YtdbneghfbkjinaaGreatDoor
