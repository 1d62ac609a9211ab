/- Texts of the proof of deskPlays_holds: WWrite, Mend1, WTurned. Conditions: as each text says. -/
import Derived.Test.YtdbneghfbkjinaaGreatDoorDA1
import Derived.Test.YtdbneghfbkjinaaGreatDoorDA23
import Derived.Test.YtdbneghfbkjinaaGreatDoorDA17
set_option maxRecDepth 100000
set_option maxHeartbeats 2000000
namespace Go.Proofs.YtdbneghfbkjinaaGreatDoor
section
open Go.Proofs.Tryz
open Go.RowKit Sl
theorem xp {m:Img} {k j:Nat} (hj:int m.root k=(j:Nat)) (h1:1<=j) (hr:int m.refs j=1):gu m k=true:=by unfold gu;rw[hj,Int.toNat_natCast,hr,decide_eq_true (by omega)];rfl
theorem sO {m:Img} {n d:Nat} {pg:ByteArray} {s:Slot} (ho:gu m (n/4)=true) (hd:ag m.slots m.root n=(d:Nat)) (h1:0<d) (hr:int m.refs d=1) (hs:m.slots[d]? =some s):cv m n pg=some {m with slots:=m.slots.set d {s with data:=pg}}:=by
 unfold cv;dsimp only;rw[ho,hd,if_pos ⟨rfl,by omega,by rw[Int.toNat_natCast];exact hr⟩,Int.toNat_natCast,List.getD_eq_getElem?_getD,hs];rfl
def sP (m:Img) (n:Nat):Prop:=¬(0<ag m.slots m.root n/\int m.refs (ag m.slots m.root n).toNat=1)
theorem ms {m:Img} {n:Nat} {pg:ByteArray} (ho:gu m (n/4)=true) (hn:sP m n):cv m n pg=if aS m.slots=0 then none else some {m with slots:=(laid m.slots (aS m.slots) (bF pg)).set (int m.root (n/4)).toNat {((laid m.slots (aS m.slots) (bF pg)).getD (int m.root (n/4)).toNat freeSlot)with table:=(af m (n/4)).set (n%4) (aS m.slots:Nat)}}:=by
 unfold cv;dsimp only;rw[ho,if_neg (λh=>hn h.2),if_pos rfl]
theorem mt {m:Img} {n:Nat} {pg:ByteArray} (ho:gu m (n/4)=false):cv m n pg=if aS m.slots=0 then none
  else if aS (laid m.slots (aS m.slots) (aC [-1,0,0,0]))=0 then none
  else some {m with root:=m.root.set (n/4) (aS m.slots:Nat),
                    slots:=(laid (laid m.slots (aS m.slots) (aC [-1,0,0,0])) (aS (laid m.slots (aS m.slots) (aC [-1,0,0,0]))) (bF pg)).set (aS m.slots)
                     (aC ((af m (n/4)).set (n%4) (aS (laid m.slots (aS m.slots) (aC [-1,0,0,0])):Nat)))}:=by
 unfold cv;dsimp only;rw[ho,if_neg (λh=>absurd h.1 (by decide)),if_neg (by decide)]
structure WAt (w:World) (base:Nat) (tg:Nat->Nat) (b:Nat) (v:IV) (q:List SV) (p:List PV) (m:Img) (nb wb pb n:Nat) (pg:ByteArray):Prop where
 desk:DeskAt w base tg b v q p m
 right:ab m=0
 page:n/4<m.root.length
 size:pg.size=4
 n1:nb<base
 n2:wb<base
 n3:pb<base
 c1:w.cell? ⟨nb,0,none⟩=some (.int .i64 n)
 c2:w.cell? ⟨wb,0,none⟩=some (.int .i64 (ag m.slots m.root n))
 c3:w.cell? ⟨pb,0,none⟩=some (.string pg)
theorem Dn (base:Nat) (tg:Nat->Nat) (b:Nat) (v:IV) (q:List SV) (p:List PV) (m:Img) (nb wb pb n:Nat) (pg:ByteArray) (w:World) (h:WAt w base tg b v q p m nb wb pb n pg) (j d:Nat) (s:Slot) (hj:int m.root (n/4)=(j:Nat)) (hj1:1<=j) (hjl:j<m.slots.length) (hr1:int m.refs j=1)
  (he:ag m.slots m.root n=(d:Nat)) (hd1:1<=d) (hds:m.slots[d]? =some s) (hr2:int m.refs d=1):
  Calls prog 83 #[.pointer (some ⟨b,0,none⟩),.pointer (some ⟨nb,0,none⟩),.pointer (some ⟨wb,0,none⟩),.pointer (some ⟨pb,0,none⟩)] w (TurnRes base b (cv m n pg) w):=by
 have hd:=h.desk
 have hm:=h.right
 have hI:=hd.own.imgR
 have hrl:=hI.rlen
 have hsl:=hI.slen
 have hfl:=hI.flen
 have hrf:=dw hm
 have hbw:base<=w.heap.size:=by have:=hd.ty.ty.lt;have:=hd.lo;omega
 have hr4:=(ay (aq hm).1).cbd.root
 have hse:=(ay (aq hm).1).slots
 have h40:=(aJ hse).2
 have hpg:=h.size
 have hpz:pg.size<=4611686018427387903:=by omega
 have hcn:=h.c1
 have hcw:=h.c2
 have hcp:=h.c3
 have hnb:=h.n1
 have hwb:=h.n2
 have hpb:=h.n3
 have hx:=h.page
 have hkr:n/4<v.rn:=by omega
 have hxb:n<=4611686018427387903:=by omega
 have hmod:((n%4:Nat):Int)=(n:Int)%4:=by omega
 have hdiv:((n/4:Nat):Int)=(n:Int)/4:=by omega
 have htm:(n:Int).tmod 4=(n:Int)%4:=Int.tmod_eq_emod_of_nonneg (by omega)
 have htd:(n:Int).tdiv 4=(n:Int)/4:=Int.tdiv_eq_ediv_of_nonneg (by omega)
 have hk0:(0:Int)<=(n:Int)/4:=by omega
 have hk1:(n:Int)/4<(v.rn:Int):=by omega
 obtain⟨b1,hA,_,hb1,_,_,⟨t,hti,c1⟩,_⟩:=hd.own.root.stored hkr 0
 have hit:=bG hti
 have c1:w.cell? ⟨b1,n/4,none⟩=some (.int .i64 t):=c1
 obtain⟨x0,x1,x2,x3,x4⟩:=hd.box
 rw[hA]at x1
 have R:=zh (sO (pg:=pg) (xp hj hj1 hr1) he (by omega) hr2 hds)
 have hdl:=(zl hds)
 obtain⟨b2,o2,r,hFA,hb2,f3,f4⟩:=hI.refs.at1 (k:=j) (by omega)
 obtain⟨b3,o3,r',hFA',hb3,g3,g4⟩:=hI.refs.at1 (k:=d) (by omega)
 have e5:=bG f3
 have e6:=bG g3
 rw[hr1]at e5
 rw[hr2]at e6
 subst e5 e6
 rw[hFA]at hFA'
 injection hFA' with e7
 injection e7 with e7 e8
 subst e7 e8
 rw[hFA]at x3
 rw[hj]at hit
 subst hit
 rw[he]at hcw
 have e0:(0:Int)<=(j:Int):=by omega
 have e1:(0:Int)<(j:Int):=by omega
 have e2:(j:Int)<(v.fn:Int):=by omega
 have e3:(0:Int)<=(d:Int):=by omega
 have e4:(0:Int)<(d:Int):=by omega
 have e7:0<d:=by omega
 have e8:decide (0<d)=true:=decide_eq_true e7
 have e5:(d:Int)<(v.fn:Int):=by omega
 have e6:(d:Int)<(v.sn:Int):=by omega
 have HD:=zh hd
 have HDS:=zh hds
 clear h hd hm hI hrl hsl hfl hrf hr4 hse h40 hpg hx hkr hmod hdiv hj hr1 he hds hr2 hdl f3 g3 hti
 go_enter func83,ntmps83
 go_wp2_with fail
 go_quiet (fail)
 go_wp2_with fail
 go_quiet (fail)
 go_wp2_with fail
 generalize hwq:World.drewN (World.drewN w _) _=wq
 have hbq:Below w.heap.size w wq:=by rw[<-hwq];exact zb (zb (Below.refl _ _) _) _
 clear hwq
 have hcw':=(hbq.cell (p:=⟨wb,0,none⟩) (show wb<w.heap.size by omega)).trans hcw
 have hcp':=(hbq.cell (p:=⟨pb,0,none⟩) (show pb<w.heap.size by omega)).trans hcp
 have hdq:=HD.o.next hbq
 have HBQ:=zh (hbq.mono hbw)
 have hcw:=hcw'
 have hcp:=hcp'
 clear x0 x1 x2 x3 x4 c1 hcn hcw' hcp' hbq
 obtain⟨x0,x1,x2,x3,x4⟩:=hdq.box
 rw[hA]at x1
 obtain⟨sb,q',hsA,hsl2,hsb,hcs,hfs,hD⟩:=hdq.setData HDS.o hpz
 rw[hsA]at x2
 have HDD:=zh hD
 have HLB:=zh (HBQ.o.setCell (p:=⟨sb,d*3+1,none⟩) hsb (.string pg))
 clear hdq hD
 go_still_tail 9,(by kernel_rfl)
 go_wp2_with fail
 go_end0
 exact TurnRes.yes R.o (HDD.o.next (Below.refl _ _).drew) HLB.o.drew
theorem AX (base:Nat) (tg:Nat->Nat) (b:Nat) (v:IV) (q:List SV) (p:List PV) (m:Img) (nb wb pb n:Nat) (pg:ByteArray) (w:World) (h:WAt w base tg b v q p m nb wb pb n pg) (j:Nat) (hj:int m.root (n/4)=(j:Nat)) (hj1:1<=j) (hjl:j<m.slots.length) (hr1:int m.refs j=1)
  (hcase:ag m.slots m.root n<=0\/ ∃(d:Nat) (s:Slot),ag m.slots m.root n=(d:Nat)/\1<=d/\m.slots[d]? =some s/\int m.refs d≠1):
  Calls prog 83 #[.pointer (some ⟨b,0,none⟩),.pointer (some ⟨nb,0,none⟩),.pointer (some ⟨wb,0,none⟩),.pointer (some ⟨pb,0,none⟩)] w (TurnRes base b (cv m n pg) w):=by
 have hd:=h.desk
 have hm:=h.right
 have hI:=hd.own.imgR
 have hrl:=hI.rlen
 have hsl:=hI.slen
 have hfl:=hI.flen
 have hrf:=dw hm
 have hbw:base<=w.heap.size:=by have:=hd.ty.ty.lt;have:=hd.lo;omega
 have hr4:=(ay (aq hm).1).cbd.root
 have hse:=(ay (aq hm).1).slots
 have h40:=(aJ hse).2
 have hpg:=h.size
 have hpz:pg.size<=4611686018427387903:=by omega
 have hcn:=h.c1
 have hcw:=h.c2
 have hcp:=h.c3
 have hnb:=h.n1
 have hwb:=h.n2
 have hpb:=h.n3
 have hx:=h.page
 have hkr:n/4<v.rn:=by omega
 have hxb:n<=4611686018427387903:=by omega
 have hmod:((n%4:Nat):Int)=(n:Int)%4:=by omega
 have hdiv:((n/4:Nat):Int)=(n:Int)/4:=by omega
 have htm:(n:Int).tmod 4=(n:Int)%4:=Int.tmod_eq_emod_of_nonneg (by omega)
 have htd:(n:Int).tdiv 4=(n:Int)/4:=Int.tdiv_eq_ediv_of_nonneg (by omega)
 have hk0:(0:Int)<=(n:Int)/4:=by omega
 have hk1:(n:Int)/4<(v.rn:Int):=by omega
 obtain⟨b1,hA,_,hb1,_,_,⟨t,hti,c1⟩,_⟩:=hd.own.root.stored hkr 0
 have hit:=bG hti
 have c1:w.cell? ⟨b1,n/4,none⟩=some (.int .i64 t):=c1
 obtain⟨x0,x1,x2,x3,x4⟩:=hd.box
 rw[hA]at x1
 have R':=ms (pg:=pg) (xp hj hj1 hr1) (by
  unfold sP
  rcases hcase with he|⟨d,_,he,_,_,hr2⟩
  ·omega
  ·rw[he,Int.toNat_natCast];exactλh=>hr2 h.2)
 rw[hj,Int.toNat_natCast]at R'
 have HR:=zh R'
 clear R'
 obtain⟨b2,o2,r,hFA,hb2,f3,f4⟩:=hI.refs.at1 (k:=j) (by omega)
 have e5:=bG f3
 rw[hr1]at e5
 subst e5
 rw[hFA]at x3
 rw[hj]at hit
 subst hit
 have e0:(0:Int)<=(j:Int):=by omega
 have e1:(0:Int)<(j:Int):=by omega
 have e2:(j:Int)<(v.fn:Int):=by omega
 have HD:=zh hd
 have HKR:=zh hkr
 have HRK:=zh (ip hm hx)
 have HSE:=zh hse
 have HJL:=zh hjl
 have hi0:(0:Int)<=(n:Int)%4:=by omega
 have hi1:(n:Int)%4<4:=by omega
 have hi2:n%4<4:=by omega
 rcases hcase with he|⟨d,s,he,hd1,hds,hr2⟩
 case' inl=>
  have e7:decide ((0:Int)<ag m.slots m.root n)=false:=by simpa using he
  have e8:ag m.slots m.root n<=0:=he
 case' inr=>
  have hdl:=(zl hds)
  obtain⟨b3,o3,r',hFA',hb3,g3,g4⟩:=hI.refs.at1 (k:=d) (by omega)
  have e6:=bG g3
  rw[hFA]at hFA'
  injection hFA' with e7
  injection e7 with e7 e8
  subst e7 e8
  have hrr:(r'==1)=false:=by simpa[<-e6]using hr2
  have e3:(0:Int)<=(d:Int):=by omega
  have e4:(0:Int)<(d:Int):=by omega
  have e7:0<d:=by omega
  have e8:decide (0<d)=true:=decide_eq_true e7
  have e5:(d:Int)<(v.fn:Int):=by omega
  rw[he]at hcw
  clear e6 g3 hds hdl hr2
 all_goals
  clear hse hj hr1 f3 he
  clear h hd hm hI hrl hsl hfl hrf hr4 h40 hpg hx hkr hmod hti
  go_enter func83,ntmps83
  go_wp2_with fail
  go_quiet (fail)
  go_wp2_with fail
  go_quiet (fail)
  generalize hwq:World.drewN (World.drewN w _) _=wq
  have hbq:Below w.heap.size w wq:=by rw[<-hwq];exact zb (zb (Below.refl _ _) _) _
  clear hwq
  have hcw':=(hbq.cell (p:=⟨wb,0,none⟩) (show wb<w.heap.size by omega)).trans hcw
  have hcp':=(hbq.cell (p:=⟨pb,0,none⟩) (show pb<w.heap.size by omega)).trans hcp
  have hdq:=HD.o.next hbq
  have HBQ:=zh (hbq.mono hbw)
  have hcw:=hcw'
  have hcp:=hcp'
  clear x0 x1 x2 x3 x4 c1 hcn hcw' hcp' hbq
  obtain⟨x0,x1,x2,x3,x4⟩:=hdq.box
  rw[hA]at x1
  have K1:=zh (fK b v m (n/4) wq hdq.own.imgR hdq.box HKR.o HRK.o)
  rw[hdiv]at K1
  go_wp2_with fail
  refine K1.o.mono ?_
  rintro e w5 ⟨A5,c5,rfl,ho5,hb5,hc5,hm5⟩
  obtain⟨tg5,hd5,ht5⟩:=hdq.fresh (Below.refl _ _) hb5 ho5 (by omega) hc5 hm5
  have HB5:=zh (HBQ.o.trans (hb5.mono (show base<=wq.heap.size by have:=HBQ.o.size;omega)))
  have hcp5:=(hb5.cell (p:=⟨pb,0,none⟩) (show pb<wq.heap.size by have:=HBQ.o.size;omega)).trans hcp
  clear x0 x1 x2 x3 x4 K1 ho5 hb5 hcp hcw hdq
  by_cases hg:aS m.slots=0
  ·have KG:=zh (j8 base tg5 b v q p m (bF pg) none 0 0 w5 hd5 HSE.o hg)
   have HG:=zh (HR.o.trans (if_pos hg))
   clear hd5 ht5 HR hg
   go_wp2_with fail
   refine KG.o.mono ?_
   rintro e w6 ⟨rfl,hb6⟩
   exact⟨rfl,TurnRes.no HG.o (HB5.o.trans (hb6.mono (by have:=HB5.o.size;omega)))⟩
  ·have R':=HR.o
   rw[if_neg hg]at R'
   obtain⟨g1,g2,_,_⟩:=ec HSE.o hg
   have hjl2:j<(laid m.slots (aS m.slots) (bF pg)).length:=by have:=HJL.o;rw[df];split<;>omega
   have hjs:=List.getElem?_eq_getElem hjl2
   generalize (laid m.slots (aS m.slots) (bF pg))[j]=sj at hjs
   rw[List.getD_eq_getElem?_getD,hjs,Option.getD_some]at R'
   have HJS:=zh hjs
   have R:=zh R'
   have HG:=zh hg
   clear R' HR hg hjs g1 g2
   have KG:=zh (mY base tg5 b v q p m (bF pg) none 0 0 w5 hd5 HSE.o HG.o hpz TabO.nil)
   generalize hgn:aS m.slots=g at*
   have HT5:=zh ht5
   clear hd5 ht5
   go_wp2_with fail
   refine KG.o.mono ?_
   rintro e w6 ⟨rfl,v6,q6,hd6,hv1,hv2,hv3,hTT,hb6⟩
   have ht6:=hTT _ _ _ _ _ HT5.o
   obtain⟨lb,rfl,hlb,hlf,⟨ly,hlc⟩,hd7,ht7⟩:=hd6.setFree ht6 hi2 (g:Nat)
   have HB6:=zh (HB5.o.trans hb6)
   have HB7:=zh (HB6.o.setCell (p:=⟨lb,n%4,none⟩) hlb (.int .i64 (g:Nat)))
   obtain⟨sb,q8,u8,hsA,hsn,hsb,hsc,hsf,hd8⟩:=(hd7.marked (2*j+4)).setTable HJS.o ht7.given
   have HD8:=zh hd8
   have HB8:=zh (HB7.o.setCell (p:=⟨sb,j*3+2,none⟩) hsb (.slice (some ⟨lb,0,none⟩) 4 c5))
   obtain⟨y0,y1,y2,y3,y4⟩:=hd7.box
   rw[hsA]at y2
   have e9:(j:Int)<(v6.sn:Int):=by omega
   clear hd6 hd7 hd8 ht6 ht7 hTT hb6 hv1 hv2 hv3
   go_wp2_with fail
   go_end0
   exact TurnRes.yes R.o HD8.o HB8.o
theorem AY (base:Nat) (tg:Nat->Nat) (b:Nat) (v:IV) (q:List SV) (p:List PV) (m:Img) (nb wb pb n:Nat) (pg:ByteArray) (w:World) (h:WAt w base tg b v q p m nb wb pb n pg) (hcase:int m.root (n/4)=0\/ ∃j:Nat,int m.root (n/4)=(j:Nat)/\1<=j/\j<m.slots.length/\int m.refs j≠1):
  Calls prog 83 #[.pointer (some ⟨b,0,none⟩),.pointer (some ⟨nb,0,none⟩),.pointer (some ⟨wb,0,none⟩),.pointer (some ⟨pb,0,none⟩)] w (TurnRes base b (cv m n pg) w):=by
 have hd:=h.desk
 have hm:=h.right
 have hI:=hd.own.imgR
 have hrl:=hI.rlen
 have hsl:=hI.slen
 have hfl:=hI.flen
 have hrf:=dw hm
 have hbw:base<=w.heap.size:=by have:=hd.ty.ty.lt;have:=hd.lo;omega
 have hr4:=(ay (aq hm).1).cbd.root
 have hse:=(ay (aq hm).1).slots
 have h40:=(aJ hse).2
 have hpg:=h.size
 have hpz:pg.size<=4611686018427387903:=by omega
 have hcn:=h.c1
 have hcw:=h.c2
 have hcp:=h.c3
 have hnb:=h.n1
 have hwb:=h.n2
 have hpb:=h.n3
 have hx:=h.page
 have hkr:n/4<v.rn:=by omega
 have hxb:n<=4611686018427387903:=by omega
 have hmod:((n%4:Nat):Int)=(n:Int)%4:=by omega
 have hdiv:((n/4:Nat):Int)=(n:Int)/4:=by omega
 have htm:(n:Int).tmod 4=(n:Int)%4:=Int.tmod_eq_emod_of_nonneg (by omega)
 have htd:(n:Int).tdiv 4=(n:Int)/4:=Int.tdiv_eq_ediv_of_nonneg (by omega)
 have hk0:(0:Int)<=(n:Int)/4:=by omega
 have hk1:(n:Int)/4<(v.rn:Int):=by omega
 obtain⟨b1,hA,_,hb1,_,_,⟨t,hti,c1⟩,_⟩:=hd.own.root.stored hkr 0
 have hit:=bG hti
 have c1:w.cell? ⟨b1,n/4,none⟩=some (.int .i64 t):=c1
 obtain⟨x0,x1,x2,x3,x4⟩:=hd.box
 rw[hA]at x1
 have R':=mt (pg:=pg) (show gu m (n/4)=false from by
  rcases hcase with hj|⟨j,hj,_,_,hr1⟩
  ·exact lJ hj
  ·exact lK hj hr1)
 have HR:=zh R'
 clear R'
 have HD:=zh hd
 have HKR:=zh hkr
 have HRK:=zh (ip hm hx)
 have HSE:=zh hse
 have hi0:(0:Int)<=(n:Int)%4:=by omega
 have hi1:(n:Int)%4<4:=by omega
 have hi2:n%4<4:=by omega
 rcases hcase with hj|⟨j,hj,hj1,hjl,hr1⟩
 case' inl=>
  rw[hj]at hit
  subst hit
 case' inr=>
  obtain⟨b2,o2,r,hFA,hb2,f3,f4⟩:=hI.refs.at1 (k:=j) (by omega)
  have e5:=bG f3
  have hrr:(r==1)=false:=by simpa[<-e5]using hr1
  rw[hFA]at x3
  rw[hj]at hit
  subst hit
  have e0:(0:Int)<=(j:Int):=by omega
  have e1:(0:Int)<(j:Int):=by omega
  have e2:(j:Int)<(v.fn:Int):=by omega
  clear e5 f3 hr1
 all_goals
  clear hse hj
  clear h hd hm hI hrl hsl hfl hrf hr4 h40 hpg hx hkr hmod hti
  go_enter func83,ntmps83
  go_wp2_with fail
  go_quiet (fail)
  go_wp2_with fail
  go_quiet (fail)
  generalize hwq:World.drewN (World.drewN w _) _=wq
  have hbq:Below w.heap.size w wq:=by rw[<-hwq];exact zb (zb (Below.refl _ _) _) _
  clear hwq
  have hcw':=(hbq.cell (p:=⟨wb,0,none⟩) (show wb<w.heap.size by omega)).trans hcw
  have hcp':=(hbq.cell (p:=⟨pb,0,none⟩) (show pb<w.heap.size by omega)).trans hcp
  have hdq:=HD.o.next hbq
  have HBQ:=zh (hbq.mono hbw)
  have hcw:=hcw'
  have hcp:=hcp'
  clear x0 x1 x2 x3 x4 c1 hcn hcw' hcp' hbq
  obtain⟨x0,x1,x2,x3,x4⟩:=hdq.box
  rw[hA]at x1
  have K1:=zh (fK b v m (n/4) wq hdq.own.imgR hdq.box HKR.o HRK.o)
  rw[hdiv]at K1
  go_wp2_with fail
  refine K1.o.mono ?_
  rintro e w5 ⟨A5,c5,rfl,ho5,hb5,hc5,hm5⟩
  obtain⟨tg5,hd5,ht5⟩:=hdq.fresh (Below.refl _ _) hb5 ho5 (by omega) hc5 hm5
  have HB5:=zh (HBQ.o.trans (hb5.mono (show base<=wq.heap.size by have:=HBQ.o.size;omega)))
  have hcp5:=(hb5.cell (p:=⟨pb,0,none⟩) (show pb<wq.heap.size by have:=HBQ.o.size;omega)).trans hcp
  clear x0 x1 x2 x3 x4 K1 ho5 hb5 hcp hcw hdq
  obtain⟨tg6,hd6,ht6,hk6⟩:=hd5.newRow [-1,0,0,0] (2*aS m.slots+4) (by decide)
  have HB6:=zh (HB5.o.trans ((ac w5 (.cells (ah [-1,0,0,0]).toArray 3)).mono (show base<=w5.heap.size by have:=HB5.o.size;omega)))
  by_cases hg:aS m.slots=0
  ·have KG:=zh (j8 base tg6 b v q p m (aC [-1,0,0,0]) (some ⟨w5.heap.size,0,none⟩) 4 4 _ hd6 HSE.o hg)
   have HG:=zh (HR.o.trans (if_pos hg))
   clear hd5 ht5 hd6 ht6 hk6 HR hg
   go_wp2_with fail
   refine KG.o.mono ?_
   rintro e w7 ⟨rfl,hb7⟩
   exact⟨rfl,TurnRes.no HG.o (HB6.o.trans (hb7.mono (by have:=HB6.o.size;omega)))⟩
  ·have HR2:=zh (HR.o.trans (if_neg hg))
   obtain⟨q1,q2,_,_⟩:=ec HSE.o hg
   have hse2:=gm HSE.o hg (eh (t:=[-1,0,0,0]) rfl rfl)
   have HSE2:=zh hse2
   have HN1:=zh (du (s:=(aC [-1,0,0,0])) q2)
   have HG:=zh hg
   clear hse2 q1 q2 HR hg
   have KG:=zh (mY base tg6 b v q p m (aC [-1,0,0,0]) (some ⟨w5.heap.size,0,none⟩) 4 4 _ hd6 HSE.o HG.o (show(0:Nat)<=_ by omega) ht6)
   have HT6:=zh (hk6 _ _ _ _ _ ht5)
   have hcp6:=((ac w5 (.cells (ah [-1,0,0,0]).toArray 3)).cell (p:=⟨pb,0,none⟩) (show pb<w5.heap.size by have:=HB5.o.size;omega)).trans hcp5
   generalize hgn:aS m.slots=g at*
   clear hd5 ht5 hd6 ht6 hk6
   go_wp2_with fail
   refine KG.o.mono ?_
   rintro e w7 ⟨rfl,v7,q7,hd7,hv1,hv2,hv3,hTT,hb7⟩
   have ht7:=hTT _ _ _ _ _ HT6.o
   have hcp7:=(hb7.cell (p:=⟨pb,0,none⟩) hpb).trans hcp6
   obtain⟨gb,hgA,hgb,hgf,⟨gy,hgc⟩,hd8,hk8⟩:=hd7.setRoot2 (k:=n/4) (by rw[hv2];exact HKR.o) (g:Nat)
   obtain rfl:gb=b1:=by rw[hv1,hA]at hgA;injection hgA with e;injection e with e;exact e.symm
   have ht8:=hk8 _ _ _ _ _ (by decide) ht7
   have HB7:=zh (HB6.o.trans hb7)
   have HB8:=zh (HB7.o.setCell (p:=⟨gb,n/4,none⟩) hgb (.int .i64 (g:Nat)))
   have hcp8:=((Below.refl base w7).setCell (p:=⟨gb,n/4,none⟩) hgb (.int .i64 (g:Nat))).cell (p:=⟨pb,0,none⟩) hpb|>.trans hcp7
   obtain⟨z0,z1,z2,z3,z4⟩:=hd7.box
   rw[hv1,hA,hv2,hv3]at z1
   have e3:(0:Int)<=(g:Int):=by omega
   clear hcp5 hcp6 hcp7
   by_cases hg2:aS (laid m.slots g (aC [-1,0,0,0]))=0
   ·have KG2:=zh (j8 base tg6 b v7 q7 p _ (bF pg) none 0 0 _ hd8 HSE2.o hg2)
    have HG2:=zh (HR2.o.trans (if_pos hg2))
    clear hd7 hd8 ht7 ht8 hTT hk8 hb7 hv1 hv2 hv3 hgA HR2 hg2
    go_wp2_with fail
    refine KG2.o.mono ?_
    rintro e w9 ⟨rfl,hb9⟩
    exact⟨rfl,TurnRes.no HG2.o (HB8.o.trans (hb9.mono (by have:=HB8.o.size;omega)))⟩
   ·have HG2:=zh hg2
    have R:=zh (HR2.o.trans (if_neg hg2))
    have hgg:g≠aS (laid m.slots g (aC [-1,0,0,0])):=by
     intro e
     have:=(ec HSE2.o hg2).2.2.1 (aC [-1,0,0,0]) (by rw[<-e];exact HN1.o)
     exact absurd this (by decide)
    have hjs:=(eL (s:=bF pg) (zl HN1.o) hgg).trans HN1.o
    have HJS:=zh hjs
    clear hgg hjs HR2 hg2
    have KG2:=zh (mY base tg6 b v7 q7 p _ (bF pg) none 0 0 _ hd8 HSE2.o HG2.o hpz TabO.nil)
    have HT8:=zh ht8
    dsimp only at KG2
    generalize hgn2:aS (laid m.slots g (aC [-1,0,0,0]))=g2 at*
    clear hd7 hd8 ht7 ht8 hTT hk8 hb7 hv1 hv2 hv3 hgA
    go_wp2_with fail
    refine KG2.o.mono ?_
    rintro e w9 ⟨rfl,v9,q9,hd9,hv4,hv5,hv6,hTT,hb9⟩
    have ht9:=hTT _ _ _ _ _ HT8.o
    obtain⟨lb,rfl,hlb,hlf,⟨ly,hlc⟩,hd10,ht10⟩:=hd9.setFree ht9 hi2 (g2:Nat)
    have HB9:=zh (HB8.o.trans hb9)
    have HB10:=zh (HB9.o.setCell (p:=⟨lb,n%4,none⟩) hlb (.int .i64 (g2:Nat)))
    obtain⟨sb,q11,u11,hsA,hsn,hsb,hsc,hsf,hd11⟩:=(hd10.marked (2*g+4)).setTable HJS.o ht10.given
    have HD11:=zh hd11
    have HB11:=zh (HB10.o.setCell (p:=⟨sb,g*3+2,none⟩) hsb (.slice (some ⟨lb,0,none⟩) 4 c5))
    obtain⟨y0,y1,y2,y3,y4⟩:=hd10.box
    rw[hsA]at y2
    have e9:(g:Int)<(v9.sn:Int):=by omega
    clear hd9 hd10 hd11 ht9 ht10 hTT hb9 hv4 hv5 hv6 z0 z1 z2 z3 z4
    go_wp2_with fail
    go_end0
    exact TurnRes.yes R.o HD11.o HB11.o
end
section
open Go.RowKit Sl
def aj:Img:=⟨0,[],[],[],[]⟩
def noV:IV:=⟨none,0,0,none,0,0,none,0,0,none,0,0⟩
theorem xq (w:World):ImgR w w.heap.size noV aj:=
 ⟨Rd.none_,Nat.le_refl _,by show 0<=_/\0<=_;omega,SlotsR.none_,Nat.le_refl _,by show 0<=_/\0<=_;omega,Rd.none_,Nat.le_refl _,by show 0<=_/\0<=_;omega,SnapsR.none_,Nat.le_refl _,by show 0<=_/\0<=_;omega⟩
end
section
open Go.Proofs.Tryz
open Go.RowKit Sl
theorem vq (w:World):(Instr.typeAssert .nilIface 20 136 true).run prog w=.ok (.tuple #[.agg #[],.bool false]) w:=by kernel_rfl
theorem sQ (w:World):(Instr.typeAssert pN 20 136 true).run prog w=.ok (.tuple #[.agg #[],.bool true]) w:=by kernel_rfl
theorem vr (ob eb:Nat) (w:World):
  CallsD prog 117 #[.pointer (some ⟨ob,0,none⟩),.pointer (some ⟨eb,0,none⟩)] .returning w λe u' w'=>e=.returned (.tuple #[])/\u'=.returning/\Below w.heap.size w w':=by
 have ha:=vq w
 refine callsD_of_wpS func117 rfl λc₀ cs hu=>?_
 apply wpS_seq
 apply wpS_region
 simp[wpOpsS,go_sem,recoverD,hu,ntmps117,Exit.thenS]
 apply wpS_seq
 apply wpS_region
 simp[wpOpsS,go_sem,ha,Exit.thenS]
 apply wpS_seq
 apply wpS_region
 simp[wpOpsS,go_sem,Exit.thenS]
 refine wpS_cond (t:=false) (by simp[Act.eval,Array.replicate]) ?_
 simp only[Bool.false_eq_true,if_false]
 apply wpS_seq
 apply wpS_region
 simp[wpOpsS,go_sem,Exit.thenS]
 refine wpS_cond (t:=false) (by simp[Act.eval,Array.replicate]) ?_
 simp only[Bool.false_eq_true,if_false]
 refine wpS_of_wp (wp_skip ?_)
 have hb:=ac w (.cells #[] 136)
 cases c₀
 simp_all [bodyPostS,results,results117]
theorem vt (ob eb:Nat) (older:List PanicEntry) (w:World) (hz:ZB w ob) (he:w.cell? ⟨eb,0,none⟩=some (.int .i64 0)) (hn:eb≠ob) (hel:eb<w.heap.size) (hfz:(w.alloc (.cells #[] 136)).frozen? ⟨eb,0,none⟩=false):
  CallsD prog 117 #[.pointer (some ⟨ob,0,none⟩),.pointer (some ⟨eb,0,none⟩)] (.panicking ({v:=pN,recovered:=false}::older)) w λe u' w'=>e=.returned (.tuple #[])/\u'=.panicking ({v:=pN,recovered:=true}::older)/\
   w'=((((((w.alloc (.cells #[] 136)).setCell ⟨ob,0,none⟩ (.int .i64 0)).setCell ⟨ob,1,none⟩ (.slice none 0 0)).setCell ⟨ob,2,none⟩ (.slice none 0 0)).setCell ⟨ob,3,none⟩ (.slice none 0 0)).setCell ⟨ob,4,none⟩ (.slice none 0 0)).setCell ⟨eb,0,none⟩ (.int .i64 7):=by
 have ha:=sQ w
 have hZ:=hz.next (ac w (.cells #[] 136))
 obtain⟨y0,y1,y2,y3,y4⟩:=hZ.cells
 obtain⟨x0,x1,x2,x3,x4⟩:=hZ.froz
 have hn':ob≠eb:= λe=>hn e.symm
 have he1:=((ac w (.cells #[] 136)).cell (p:=⟨eb,0,none⟩) hel).trans he
 refine callsD_of_wpS func117 rfl λc₀ cs hu=>?_
 apply wpS_seq
 apply wpS_region
 simp[wpOpsS,go_sem,recoverD,hu,ntmps117,Exit.thenS]
 apply wpS_seq
 apply wpS_region
 simp[wpOpsS,go_sem,ha,Exit.thenS]
 generalize w.alloc (.cells #[] 136)=w1 at*
 apply wpS_seq
 apply wpS_region
 simp[wpOpsS,go_sem,Exit.thenS]
 refine wpS_cond (t:=true) (by simp[Act.eval,Array.replicate]) ?_
 simp only[if_true]
 apply wpS_region
 simp[wpOpsS,go_sem,y0,y1,y2,y3,y4,x0,x1,x2,x3,x4,he1,hfz,bodyPostS,results,results117]
def Fresh (w:World) (B:Nat) (v:IV) (m:Img):Prop:=(m=aj/\v=noV)\/ ∃base tg q p,B<=base/\OwnI w base tg v q p m
theorem Fresh.kept {w w':World} {B:Nat} {v:IV} {m:Img} (h:Fresh w B v m) {b:Nat} {T:TypeId} (hg:w.grownBy w' (some b)) (hT:TypeB w b T) (h1:T≠3) (h2:T≠108) (h3:T≠102):Fresh w' B v m:=
 h.imp id λ⟨_,_,_,_,hb,ho⟩=>⟨_,_,_,_,hb,ho.kept hg hT h1 h2 h3⟩
theorem Fresh.mono {w:World} {B C:Nat} {v:IV} {m:Img} (h:Fresh w B v m) (hc:C<=B):Fresh w C v m:=h.imp id λ⟨_,_,_,_,hb,ho⟩=>⟨_,_,_,_,Nat.le_trans hc hb,ho⟩
def aF (base:Nat) (m:Img) (er:Int) (w:World) (e:Ending) (w':World):Prop:=∃v',e=.returned (.tuple #[ae m v',.int .i64 er])/\Fresh w' base v' m/\Below base w w'
def kP (o:Option Img):Img:=match o with|none=>aj|some x=>ap x
def iM (o:Option Img):Int:=match o with|none=>7|some _=>0
structure ErrB (W:World) (b:Nat):Prop where
 heap:W.heap[b]? =some (.cells #[.int .i64 0] 22 (0,0))
theorem ErrB.new (W:World):ErrB (W.alloc (.cells #[.int .i64 0] 22)) W.heap.size:=⟨heap_alloc_new W _⟩
theorem ErrB.next {W W':World} {b B:Nat} (h:ErrB W b) (hb:Below B W W') (hl:b<B):ErrB W' b:=⟨(hb.block b hl).trans h.heap⟩
theorem ZB.nextB {W W':World} {b B:Nat} (h:ZB W b) (hb:Below B W W') (hl:b<B):ZB W' b:=⟨(hb.block b hl).trans h.heap⟩
theorem ErrB.cell {W:World} {b:Nat} (h:ErrB W b):W.cell? ⟨b,0,none⟩=some (.int .i64 0):=cell_of_row W b 0 _ _ _ h.heap
theorem ErrB.froz {W:World} {b:Nat} (h:ErrB W b):W.frozen? ⟨b,0,none⟩=false:=frozen_of_row W b 0 _ _ h.heap
theorem DN {w W:World} {ob eb base:Nat} {g:Int} {v:IV} (h:Box W ob g v) (he:W.heap[eb]? =some (.cells #[.int .i64 0] 22 (0,0))) (hb:Below base w W) (hl:base<=eb) (hn:eb≠ob) (u:Int):
  (W.setCell ⟨eb,0,none⟩ (.int .i64 u)).cell? ⟨ob,0,none⟩=some (.int .i64 g)/\(W.setCell ⟨eb,0,none⟩ (.int .i64 u)).cell? ⟨ob,1,none⟩=some (.slice v.rA v.rn v.rc)/\(W.setCell ⟨eb,0,none⟩ (.int .i64 u)).cell? ⟨ob,2,none⟩=some (.slice v.sA v.sn v.sc)/\
  (W.setCell ⟨eb,0,none⟩ (.int .i64 u)).cell? ⟨ob,3,none⟩=some (.slice v.fA v.fn v.fc)/\(W.setCell ⟨eb,0,none⟩ (.int .i64 u)).cell? ⟨ob,4,none⟩=some (.slice v.pA v.pn v.pc)/\(W.setCell ⟨eb,0,none⟩ (.int .i64 u)).cell? ⟨eb,0,none⟩=some (.int .i64 u)/\Below base w (W.setCell ⟨eb,0,none⟩ (.int .i64 u))/\eb<(W.setCell ⟨eb,0,none⟩ (.int .i64 u)).heap.size:=by
 obtain⟨k0,k1,k2,k3,k4⟩:=h.kept (ai W eb 0 (.int .i64 u)) (λe=>hn (by injection e with e;exact e.symm))
 exact⟨k0,k1,k2,k3,k4,cell_of_row _ _ 0 _ _ _ (heap_setCell_same W eb 0 _ _ _ he),hb.setCell (p:=⟨eb,0,none⟩) hl _,(Array.getElem?_eq_some_iff.1 (heap_setCell_same W eb 0 _ _ (.int .i64 u) he)).1⟩
theorem kQ (v:IV) (m:Img) (w:World) (h:ImgR w w.heap.size v m) (hm:ab m=0) (F:Nat) (caps:Array Value) (hcall:∀(args:Array Value) (W:World),(callFunc F args).run prog W=.ok (.enter F args) W) (o:Option Img) (hs:∀x,o=some x->CBd x/\Wired x)
  (hf:∀(base:Nat) (tg:Nat->Nat) (b:Nat) (v':IV) (q:List SV) (p:List PV) (W:World),w.heap.size<=base->DeskAt W base tg b v' q p m->Below w.heap.size w W->Calls prog F (#[.pointer (some ⟨b,0,none⟩)]++caps) W (TurnRes base b o W)):
  Calls prog 66 #[ae m v,.func (.func F) #[] caps] w (aF w.heap.size (kP o) (iM o) w):=by
 have hcb:=(ay (aq hm).1).cbd
 have hrl:=dw hm
 have K2:=zh (λW (hb:Below w.heap.size w W)=>lE v m W (h.next hb) hcb (by rw[hrl];exact hcb.slots))
 have hmf:∀(fn:Fn) (first cap:Array Value) (w:World),(Instr.makeFunc fn first cap).run prog w=.ok (.func fn first cap) w:= λ_ _ _ _=>rfl
 obtain⟨rA,rn,rc,sA,sn,sc,fA,fn,fc,pA,pn,pc⟩:=v
 dsimp only[ae]at K2⊢
 have HB1:=ac w (.cells #[.int .i64 m.guest,.slice rA rn rc,.slice sA sn sc,.slice fA fn fc,.slice pA pn pc] 34)
 have HX1:=Box.new w m.guest ⟨rA,rn,rc,sA,sn,sc,fA,fn,fc,pA,pn,pc⟩ 34
 have HB3:=aa (aa HB1 (ac _ (.cells #[.int .i64 0,.slice none 0 0,.slice none 0 0,.slice none 0 0,.slice none 0 0] 34))) (ac _ (.cells #[.int .i64 0] 22))
 have HZ3:=(ZB.new (w.alloc (.cells #[.int .i64 m.guest,.slice rA rn rc,.slice sA sn sc,.slice fA fn fc,.slice pA pn pc] 34))).next (ac _ (.cells #[.int .i64 0] 22))
 have HE3:=ErrB.new ((w.alloc (.cells #[.int .i64 m.guest,.slice rA rn rc,.slice sA sn sc,.slice fA fn fc,.slice pA pn pc] 34)).alloc (.cells #[.int .i64 0,.slice none 0 0,.slice none 0 0,.slice none 0 0,.slice none 0 0] 34))
 have hs3:(((w.alloc (.cells #[.int .i64 m.guest,.slice rA rn rc,.slice sA sn sc,.slice fA fn fc,.slice pA pn pc] 34)).alloc (.cells #[.int .i64 0,.slice none 0 0,.slice none 0 0,.slice none 0 0,.slice none 0 0] 34)).alloc (.cells #[.int .i64 0] 22)).heap.size=w.heap.size+1+1+1:=by simp only[World.size_alloc]
 simp only[World.size_alloc]at HZ3 HE3
 have HF:=zh hf
 have HSS:=zh hs
 clear h hm hcb hrl hf hs
 go_enter_defers func66,ntmps66
 go_wp2_with fail
 generalize (((w.alloc (.cells #[.int .i64 m.guest,.slice rA rn rc,.slice sA sn sc,.slice fA fn fc,.slice pA pn pc] 34)).alloc (.cells #[.int .i64 0,.slice none 0 0,.slice none 0 0,.slice none 0 0,.slice none 0 0] 34)).alloc (.cells #[.int .i64 0] 22))=W3 at*
 refine(K2.o _ HB3).mono ?_
 rintro e w2 ⟨v2,tg,q,p,rfl,ho2,hb2⟩
 have Z2:=zh (HZ3.nextB hb2 (by omega))
 have E2:=zh (HE3.next hb2 (by omega))
 have T2:=zh (aa HB3 hb2)
 have hz2:=hb2.size
 have HO:=zh ho2
 clear ho2 K2 HB1 HB3 HZ3 HE3 hb2
 obtain⟨rA2,rn2,rc2,sA2,sn2,sc2,fA2,fn2,fc2,pA2,pn2,pc2⟩:=v2
 dsimp only[ae]at HO⊢
 have HB4:=ac w2 (.cells #[.int .i64 m.guest,.slice rA2 rn2 rc2,.slice sA2 sn2 sc2,.slice fA2 fn2 fc2,.slice pA2 pn2 pc2] 91)
 have hd:=DeskAt.mk (HO.o.next HB4) (Box.new w2 m.guest ⟨rA2,rn2,rc2,sA2,sn2,sc2,fA2,fn2,fc2,pA2,pn2,pc2⟩ 91) (BoxG.new w2 #[.int .i64 m.guest,.slice rA2 rn2 rc2,.slice sA2 sn2 sc2,.slice fA2 fn2 fc2,.slice pA2 pn2 pc2] 91) hz2
 have T3:=aa T2.o HB4
 have K3':=HF.o _ _ _ _ _ _ _ (by omega) hd T3
 have Z3:=zh (Z2.o.next HB4)
 have E3:=zh (E2.o.next HB4 (by omega))
 cases ho:o
 ·subst ho
  have K3:=zh K3'
  clear K3' hd HB4 HO HF
  go_wp2_with fail
  refine K3.o.mono ?_
  rintro e w3 ⟨rfl,hb3⟩
  have Z4:=Z3.o.nextB hb3 (by omega)
  have E4:=E3.o.next hb3 (by omega)
  have T4:=T3.trans (hb3.mono (show w.heap.size<=W3.heap.size by omega))
  have hs4:w.heap.size+1+1<w3.heap.size:=(za E4.heap)
  have HB5:=ac w3 (.cells #[] 136)
  have Z5:=Z4.next HB5
  have E5:=E4.next HB5 hs4
  have h5:=dr Z5.box.1 Z5.box.2 0 noV
  have KC:=zh (vt (w.heap.size+1) (w.heap.size+1+1) [] w3 Z4 E4.cell (by omega) hs4 E5.froz)
  have hb6:=(aa T4 HB5).grown h5.2.2 (by have:=HB5.size;omega) (λj e=>by injection e with e;omega)
  have hee:=(h5.2.2.block _ (by have:=HB5.size;omega) (λe=>by injection e with e;omega)).trans E5.heap
  have F6:=zh (DN h5.1 hee hb6 (by omega) (by omega) 7)
  dsimp only[noV]at F6
  clear Z4 E4 T4 HB5 Z5 E5 h5 hb6 K3 hb3 T3 Z3 E3 hee
  show bodyPostD _ _ _ _ _ _
  refine leaves_cons (f:=117) (args:=#[.pointer (some ⟨w.heap.size+1,0,none⟩),.pointer (some ⟨w.heap.size+1+1,0,none⟩)]) (by simp) (by simp[go_sem]) ?_
  refine KC.o.mono ?_
  rintro e u' w6 ⟨rfl,rfl,e6⟩
  rw[<-e6]at F6
  obtain⟨k0,k1,k2,k3,k4,k5,hb6,_⟩:=F6.o
  clear e6 KC
  simp[Leaves,settle,results,results66,go_sem,k0,k1,k2,k3,k4,k5]
  exact⟨noV,rfl,.inl ⟨rfl,rfl⟩,hb6⟩
 ·rename_i x
  subst ho
  have K3:=zh K3'
  clear K3' hd HB4 HO HF
  obtain⟨hc,hwi⟩:=HSS.o x rfl
  go_wp2_with fail
  refine K3.o.mono ?_
  rintro e w3 ⟨rfl,⟨tg3,v3,q3,p3,hd3⟩,hb3⟩
  have Z4:=Z3.o.nextB hb3 (by omega)
  have E4:=E3.o.next hb3 (by omega)
  have T4:=T3.trans (hb3.mono (show w.heap.size<=W3.heap.size by omega))
  have hs4:w.heap.size+1+1<w3.heap.size:=(za E4.heap)
  have K5:=zh (sI 91 (by decide) (by decide) (by decide) w2.heap.size W3.heap.size tg3 v3 q3 p3 x w3 hd3.own hd3.box hd3.ty hd3.lo hc hwi)
  have HT4:=zh T4
  have Z4:=zh Z4
  have E4:=zh E4
  clear K3 hb3 T3 Z3 E3 hd3 T4 hc hwi
  go_wp2_with fail
  refine K5.o.mono ?_
  rintro e w5 ⟨rfl,v5,tg5,q5,X5,I5,G5,hb5⟩
  have Z5:=Z4.o.nextB hb5 (by omega)
  have E5:=E4.o.next hb5 (by omega)
  have T5:=HT4.o.trans (hb5.mono (show w.heap.size<=W3.heap.size by omega))
  have hs5:w.heap.size+1+1<w5.heap.size:=(za E5.heap)
  have h5:=dr Z5.box.1 Z5.box.2 x.guest v5
  have I6:=(I5.kept h5.2.2 Z5.box.1.ty (by decide) (by decide) (by decide))
  have hb6:=T5.grown h5.2.2 T5.size (λj e=>by injection e with e;omega)
  have hee:=(h5.2.2.block _ hs5 (λe=>by injection e with e;omega)).trans E5.heap
  have c7:=cell_of_row _ _ 0 _ _ _ hee
  have f7:=frozen_of_row _ _ 0 _ _ hee
  have I7:=zh (I6.kept (ai _ (w.heap.size+1+1) 0 (.int .i64 0)) ⟨_,_,hee⟩ (by decide) (by decide) (by decide))
  have F6:=zh (DN h5.1 hee hb6 (by omega) (by omega) 0)
  have KI:=zh (λW=>vr (w.heap.size+1) (w.heap.size+1+1) W)
  obtain⟨b0,b1,b2,b3,b4⟩:=X5
  obtain⟨y0,y1,y2,y3,y4⟩:=Z5.cells
  obtain⟨x0,x1,x2,x3,x4⟩:=Z5.froz
  clear K5 HT4 Z4 E4 Z5 E5 T5 h5 I5 I6 G5 hb5 hb6 hee HSS
  go_wp2_with fail
  generalize ((((((w5.setCell ⟨w.heap.size+1,0,none⟩ (.int .i64 x.guest)).setCell ⟨w.heap.size+1,1,none⟩ (.slice v5.rA v5.rn v5.rc)).setCell ⟨w.heap.size+1,2,none⟩ (.slice v5.sA v5.sn v5.sc)).setCell ⟨w.heap.size+1,3,none⟩ (.slice v5.fA v5.fn v5.fc)).setCell ⟨w.heap.size+1,4,none⟩ (.slice v5.pA v5.pn v5.pc)).setCell ⟨w.heap.size+1+1,0,none⟩ (.int .i64 0))=W6 at*
  refine leaves_cons (f:=117) (args:=#[.pointer (some ⟨w.heap.size+1,0,none⟩),.pointer (some ⟨w.heap.size+1+1,0,none⟩)]) (by simp) (by simp[go_sem]) ?_
  refine(KI.o W6).mono ?_
  rintro e u' w7 ⟨rfl,rfl,hb7⟩
  obtain⟨k0,k1,k2,k3,k4,k5,hb6,hl6⟩:=F6.o
  have mv:∀{j:Nat} {b:Nat} {u:Value},b<W6.heap.size->W6.cell? ⟨b,j,none⟩=some u->w7.cell? ⟨b,j,none⟩=some u:= λ{j b u} hl h=>(hb7.cell (p:=⟨b,j,none⟩) hl).trans h
  have k0:=mv (by omega) k0
  have k1:=mv (by omega) k1
  have k2:=mv (by omega) k2
  have k3:=mv (by omega) k3
  have k4:=mv (by omega) k4
  have k5:=mv hl6 k5
  have I8:=zh (I7.o.next hb7)
  have HB8:=zh (aa hb6 hb7)
  clear mv hb6 hb7 I7 F6
  simp[Leaves,settle,results,results66,go_sem,k0,k1,k2,k3,k4,k5]
  exact⟨v5,rfl,.inr ⟨_,_,_,_,by omega,I8.o⟩,HB8.o⟩
end
end Go.Proofs.YtdbneghfbkjinaaGreatDoor
