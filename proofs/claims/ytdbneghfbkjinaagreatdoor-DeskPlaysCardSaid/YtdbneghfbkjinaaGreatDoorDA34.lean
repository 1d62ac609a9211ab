/- Texts of the proof of deskPlays_holds: Counted, SnMem. Conditions: as each text says. -/
import Derived.Test.YtdbneghfbkjinaaGreatDoorDA1
import Derived.Test.YtdbneghfbkjinaaGreatDoorDA17
set_option maxRecDepth 100000
set_option maxHeartbeats 4000000
namespace Go.Proofs.YtdbneghfbkjinaaGreatDoor
section
open Go.Proofs.Tryz
open Go.RowKit Sl
def CR (base:Nat) (m:Img) (w:World) (e:Ending) (w':World):Prop:=∃v' tg q p,e=.returned (ae m v')/\OwnI w' base tg v' q p m/\Below base w w'
theorem cU (base:Nat) (tg:Nat->Nat) (v:IV) (q:List SV) (p:List PV) (m:Img) (w:World) (h:OwnI w base tg v q p m) (hbase:base<=w.heap.size) (hc:CBd m):
  Calls prog 149 #[ae m v] w (CR base (ap m) w):=by
 have hcl:=cO m
 have hsn:v.sn=m.slots.length:=h.imgR.slen.symm
 obtain⟨sb,hsA,hsb,hsl⟩:=bK h.slots (by have:=hc.one;omega)
 have h40:=hc.slots
 obtain⟨rA,rn,rc,sA,sn,sc,fA,fn,fc,pA,pn,pc⟩:=v
 dsimp only[ae]at*
 subst hsn
 subst hsA
 have hcz:CBd {m with refs:=List.replicate m.slots.length 0}:=⟨hc.one,hc.slots,hc.snaps,hc.root,hc.roots,hc.tables⟩
 have HM:= λW=>dQ m.slots.length (by omega) W
 have K1':= λv W hI=>mL v {m with refs:=List.replicate m.slots.length 0} W hI hcz
 rw[show aM {m with refs:=List.replicate m.slots.length 0}=aM m from rfl]at K1'
 unfold ap
 generalize aM m=cs at*
 have HCL:=zh hcl
 generalize hln:m.slots.length=ln at*
 have HLN:=zh hln
 have K1:=zh K1'
 have HO:=zh h
 clear h hc hcz hcl hln K1'
 have B3:Below w.heap.size w (((w.alloc (.cells #[.int .i64 m.guest,.slice rA rn rc,.slice (some ⟨sb,0,none⟩) ln sc,.slice (some ⟨w.heap.size+1+1,0,none⟩) ln ln,.slice pA pn pc] 34)).alloc (.cells #[.int .i64 0,.slice none 0 0,.slice none 0 0,.slice none 0 0,.slice none 0 0] 34)).alloc (.cells (ah (List.replicate ln 0)).toArray 3)):=aa (aa (ac w _) (ac _ _)) (ac _ _)
 have X3:Box (((w.alloc (.cells #[.int .i64 m.guest,.slice rA rn rc,.slice (some ⟨sb,0,none⟩) ln sc,.slice (some ⟨w.heap.size+1+1,0,none⟩) ln ln,.slice pA pn pc] 34)).alloc (.cells #[.int .i64 0,.slice none 0 0,.slice none 0 0,.slice none 0 0,.slice none 0 0] 34)).alloc (.cells (ah (List.replicate ln 0)).toArray 3)) w.heap.size m.guest ⟨rA,rn,rc,some ⟨sb,0,none⟩,ln,sc,some ⟨w.heap.size+1+1,0,none⟩,ln,ln,pA,pn,pc⟩:=(Box.new w m.guest ⟨rA,rn,rc,some ⟨sb,0,none⟩,ln,sc,some ⟨w.heap.size+1+1,0,none⟩,ln,ln,pA,pn,pc⟩ 34).keep (aa (ac _ (.cells #[.int .i64 0,.slice none 0 0,.slice none 0 0,.slice none 0 0,.slice none 0 0] 34)) (ac _ (.cells (ah (List.replicate ln 0)).toArray 3))) (by simp)
 have E3:BoxB (((w.alloc (.cells #[.int .i64 m.guest,.slice rA rn rc,.slice (some ⟨sb,0,none⟩) ln sc,.slice (some ⟨w.heap.size+1+1,0,none⟩) ln ln,.slice pA pn pc] 34)).alloc (.cells #[.int .i64 0,.slice none 0 0,.slice none 0 0,.slice none 0 0,.slice none 0 0] 34)).alloc (.cells (ah (List.replicate ln 0)).toArray 3)) w.heap.size:=(BoxB.new w _).next (aa (ac _ (.cells #[.int .i64 0,.slice none 0 0,.slice none 0 0,.slice none 0 0,.slice none 0 0] 34)) (ac _ (.cells (ah (List.replicate ln 0)).toArray 3)))
 have Z3:ZB (((w.alloc (.cells #[.int .i64 m.guest,.slice rA rn rc,.slice (some ⟨sb,0,none⟩) ln sc,.slice (some ⟨w.heap.size+1+1,0,none⟩) ln ln,.slice pA pn pc] 34)).alloc (.cells #[.int .i64 0,.slice none 0 0,.slice none 0 0,.slice none 0 0,.slice none 0 0] 34)).alloc (.cells (ah (List.replicate ln 0)).toArray 3)) (w.heap.size+1):=by have:=(ZB.new (w.alloc (.cells #[.int .i64 m.guest,.slice rA rn rc,.slice (some ⟨sb,0,none⟩) ln sc,.slice (some ⟨w.heap.size+1+1,0,none⟩) ln ln,.slice pA pn pc] 34))).next (ac _ (.cells (ah (List.replicate ln 0)).toArray 3));rwa [World.size_alloc]at this
 have hI3:(((w.alloc (.cells #[.int .i64 m.guest,.slice rA rn rc,.slice (some ⟨sb,0,none⟩) ln sc,.slice (some ⟨w.heap.size+1+1,0,none⟩) ln ln,.slice pA pn pc] 34)).alloc (.cells #[.int .i64 0,.slice none 0 0,.slice none 0 0,.slice none 0 0,.slice none 0 0] 34)).alloc (.cells (ah (List.replicate ln 0)).toArray 3)).heap[w.heap.size+1+1]? =some (.cells (ah (List.replicate ln 0)).toArray 3 (0,0)):=by have:=heap_alloc_new ((w.alloc (.cells #[.int .i64 m.guest,.slice rA rn rc,.slice (some ⟨sb,0,none⟩) ln sc,.slice (some ⟨w.heap.size+1+1,0,none⟩) ln ln,.slice pA pn pc] 34)).alloc (.cells #[.int .i64 0,.slice none 0 0,.slice none 0 0,.slice none 0 0,.slice none 0 0] 34)) (.cells (ah (List.replicate ln 0)).toArray 3);rwa [World.size_alloc,World.size_alloc]at this
 have hO3:OwnI (((w.alloc (.cells #[.int .i64 m.guest,.slice rA rn rc,.slice (some ⟨sb,0,none⟩) ln sc,.slice (some ⟨w.heap.size+1+1,0,none⟩) ln ln,.slice pA pn pc] 34)).alloc (.cells #[.int .i64 0,.slice none 0 0,.slice none 0 0,.slice none 0 0,.slice none 0 0] 34)).alloc (.cells (ah (List.replicate ln 0)).toArray 3)) base (λg=>if w.heap.size<=g then 1 else tg g) ⟨rA,rn,rc,some ⟨sb,0,none⟩,ln,sc,some ⟨w.heap.size+1+1,0,none⟩,ln,ln,pA,pn,pc⟩ q p {m with refs:=List.replicate ln 0}:=
  ((HO.o.retag (tg':= λg=>if w.heap.size<=g then 1 else tg g) (λb' hb'=>if_neg (by omega))).next B3).newRefs ⟨Nat.le_refl _,⟨by omega,by omega⟩,.inr ⟨cQ hI3 (by omega) (by simp[ah]) (by unfold maxLen;omega),λg hg=>if_pos (by simp[Value.ownBlock]at hg;omega)⟩⟩
 have K3:=zh (K1.o _ _ hO3.imgR)
 have H3:=zh hO3
 have hz3:w.heap.size+1+1+1=(((w.alloc (.cells #[.int .i64 m.guest,.slice rA rn rc,.slice (some ⟨sb,0,none⟩) ln sc,.slice (some ⟨w.heap.size+1+1,0,none⟩) ln ln,.slice pA pn pc] 34)).alloc (.cells #[.int .i64 0,.slice none 0 0,.slice none 0 0,.slice none 0 0,.slice none 0 0] 34)).alloc (.cells (ah (List.replicate ln 0)).toArray 3)).heap.size:=by simp
 have HZ3:=zh hz3
 clear hO3 hI3 hz3 K1
 dsimp only at K3
 go_enter func149,ntmps149
 go_wp2_with fail
 generalize (((w.alloc (.cells #[.int .i64 m.guest,.slice rA rn rc,.slice (some ⟨sb,0,none⟩) ln sc,.slice (some ⟨w.heap.size+1+1,0,none⟩) ln ln,.slice pA pn pc] 34)).alloc (.cells #[.int .i64 0,.slice none 0 0,.slice none 0 0,.slice none 0 0,.slice none 0 0] 34)).alloc (.cells (ah (List.replicate ln 0)).toArray 3))=w3 at*
 refine K3.o.mono ?_
 rintro e w1 ⟨A,c,rfl,ho,hb1,hc1,hc2⟩
 have hbl:w.heap.size<w3.heap.size:=E3.ty.lt
 have X4:=X3.keep hb1 hbl
 have E4:=E3.next hb1
 have Z4:=Z3.next hb1
 have f3:=E4.fz 3
 obtain⟨b0,b1,b2,b3,b4⟩:=X4
 dsimp only at b0 b1 b2 b3 b4
 have hgs:=ai w1 w.heap.size 3 (.slice A ln c)
 have hO1:OwnI w1 base (λg=>if w3.heap.size<=g then 1 else if w.heap.size<=g then 1 else tg g) ⟨rA,rn,rc,some ⟨sb,0,none⟩,ln,sc,A,ln,c,pA,pn,pc⟩ q p {m with refs:=cs}:=
  ((H3.o.retag (tg':= λg=>if w3.heap.size<=g then 1 else if w.heap.size<=g then 1 else tg g) (λb' hb'=>if_neg (by omega))).next hb1).newRefs ⟨hc1,⟨by omega,by unfold maxLen at hc2;omega⟩,.inr ⟨bL ho (by omega),λg hg=>if_pos (ho.lt g hg).1⟩⟩
 have hO2:=hO1.kept hgs E4.ty (by decide) (by decide) (by decide)
 have hX2:Box (w1.setCell ⟨w.heap.size,3,none⟩ (.slice A ln c)) w.heap.size m.guest ⟨rA,rn,rc,some ⟨sb,0,none⟩,ln,sc,A,ln,c,pA,pn,pc⟩:=by
  refine⟨?_,?_,?_,?_,?_⟩<;>go_simp
 have E5:=E4.set 3 (.slice A ln c)
 have Z5:ZB (w1.setCell ⟨w.heap.size,3,none⟩ (.slice A ln c)) (w.heap.size+1):=⟨(hgs.block _ (za Z4.heap) (λe=>by injection e;omega)).trans Z4.heap⟩
 have hB2:Below base w (w1.setCell ⟨w.heap.size,3,none⟩ (.slice A ln c)):=((B3.mono hbase).trans (hb1.mono (by omega))).grown hgs (by have:=hb1.size;omega) (λk e=>by injection e;omega)
 generalize (λg=>if w3.heap.size<=g then 1 else if w.heap.size<=g then 1 else tg g)=tg' at*
 have HO2:=zh hO2
 clear hO1 hO2 ho hgs B3 K3 H3
 go_wp2_with fail
 clear b0 b1 b2 b3 b4 f3 E4 Z4 hb1
 generalize w1.setCell ⟨w.heap.size,3,none⟩ (.slice A ln c)=w2 at*
 go_loopw [3] (λi wr=>∃k:Nat,k<=ln/\i=.int .i64 k/\OwnI wr base tg' ⟨rA,rn,rc,some ⟨sb,0,none⟩,ln,sc,A,ln,c,pA,pn,pc⟩ (dF freeSV q cs k) p {m with refs:=cs,slots:=dF freeSlot m.slots cs k}/\Box wr w.heap.size m.guest ⟨rA,rn,rc,some ⟨sb,0,none⟩,ln,sc,A,ln,c,pA,pn,pc⟩/\BoxB wr w.heap.size/\ZB wr (w.heap.size+1)/\Below base w wr) (λi _=>ln-(intOf i).toNat)
 case atStart=>exact⟨0,Nat.zero_le _,rfl,by rw[eZ,eZ];exact HO2.o,hX2,E5,Z5,hB2⟩
 case round=>
  obtain⟨k,hk,rfl,ho,hx,hT,hZr,hbw'⟩:=hrel
  obtain⟨b0,b1,b2,b3,b4⟩:=hx
  dsimp only at b0 b1 b2 b3 b4
  have HOr:=zh ho
  clear ho hX2 E5 Z5 hB2
  by_cases hlt:k<ln
  ·obtain⟨b5,o5,r,rfl,hb5,hx5,c5⟩:=HOr.o.refs.rd.at1 hlt
   have HI:=zh (bG hx5)
   have e0:(0:Int)<=(k:Int):=by omega
   have e1:(k:Int)<(ln:Int):=by omega
   clear hx5
   cases hr:(r==0)
   ·go_wp2_with fail
    go_roundw
    case rel=>exact⟨k+1,by omega,by go_num,by rw[ie _ _ _ _ (by rw[HI.o];simpa using hr),ie _ _ _ _ (by rw[HI.o];simpa using hr)];exact HOr.o,⟨b0,b1,b2,b3,b4⟩,hT,hZr,hbw'⟩
    case measure=>simp[intOf];omega
   ·have hs:=HOr.o.slots
    have x0:=hs.cellAt (k*3) (by dsimp only;omega)
    have x1:=hs.cellAt (k*3+1) (by dsimp only;omega)
    have x2:=hs.cellAt (k*3+2) (by dsimp only;omega)
    have f0:=hs.frozenAt (k*3)
    have f1:=hs.frozenAt (k*3+1)
    have f2:=hs.frozenAt (k*3+2)
    have hkq:k<(dF freeSV q cs k).length:=by have:=HOr.o.qlen;dsimp only at this;omega
    have hq:=List.getElem?_eq_getElem hkq
    generalize (dF freeSV q cs k)[k]=xk at hq
    have y0:=av SV.cells SV.cells_len _ k xk hq 0 (by omega)
    rw[Nat.add_zero]at y0
    rw[y0]at x0
    rw[av SV.cells SV.cells_len _ k xk hq 1 (by omega)]at x1
    rw[av SV.cells SV.cells_len _ k xk hq 2 (by omega)]at x2
    simp only[SV.cells,bE,List.getElem?_cons_zero,List.getElem?_cons_succ]at x0 x1 x2
    obtain⟨n1,n2⟩:=HOr.o.set3 (x':=freeSV) rfl hq (by decide) (TabO.nil)
    clear hs y0
    go_wp2_with fail
    go_roundw
    case rel=>
     have hz:int cs k=0:=by have:=HI.o;rw[show r=0 from by simpa using hr]at this;exact this
     have hne:some w.heap.size≠some sb:= λe=>hT.ty.ne (au HOr.o.slots (b:=sb) rfl) (by decide) (by injection e)
     have hne2:some (w.heap.size+1)≠some sb:= λe=>(TypeB.ne ⟨_,_,hZr.heap⟩ (au HOr.o.slots (b:=sb) rfl) (by decide)) (by injection e)
     exact⟨k+1,by omega,by go_num,by rw[gj _ _ _ _ hz,gj _ _ _ _ hz];exact n1,(show Box wr w.heap.size m.guest _ from⟨b0,b1,b2,b3,b4⟩).kept n2 hne,hT.kept n2 hne,⟨(n2.block _ (za hZr.heap) hne2).trans hZr.heap⟩,hbw'.grown n2 (by have:=hbw'.size;omega) (λj e=>by injection e with e;omega)⟩
    case measure=>simp[intOf];omega
  ·obtain rfl:k=ln:=by omega
   have h5:=dr hZr.box.1 hZr.box.2 m.guest ⟨rA,rn,rc,some ⟨sb,0,none⟩,k,sc,A,k,c,pA,pn,pc⟩
   have hfin:=zh (HOr.o.kept h5.2.2 hZr.box.1.ty (by decide) (by decide) (by decide))
   have hbf:=zh (hbw'.grown h5.2.2 (by have:=hbw'.size;omega) (λj e=>by injection e with e;omega))
   have HK:=zh h5.1
   obtain⟨y0,y1,y2,y3,y4⟩:=hZr.cells
   obtain⟨x0,x1,x2,x3,x4⟩:=hZr.froz
   clear h5
   go_wp2_with fail
   obtain⟨k0,k1,k2,k3,k4⟩:=HK.o
   refine bodyPost_ret (v:=ae m ⟨rA,rn,rc,some ⟨sb,0,none⟩,k,sc,A,k,c,pA,pn,pc⟩) ?_ rfl ⟨_,tg',_,p,rfl,hfin.o,hbf.o⟩
   simp[results,results149,go_sem,k0,k1,k2,k3,k4]
end
section
open Go.Proofs.Tryz
open Go.RowKit Sl
section
variable {w w':World} {base:Nat} {tg tg':Nat->Nat} {v:IV} {q:List SV} {p p':List PV} {m:Img}
theorem TabO.sh {t n c:Nat} {A:Option Addr} {xs:List Int} {f:Nat->Nat} (h:TabO w base tg t A n c xs) (hf:4<=t->4<=f t):TabO w base (λb=>f (tg b)) (f t) A n c xs:=
 ⟨h.1,h.2.1,h.2.2.imp (λhh=>⟨hh.1,hh.2.1,hh.2.2.imp hf id⟩) λ⟨ho,ht⟩=>⟨ho,λb e=>congrArg f (ht b e)⟩⟩
theorem OwnI.snapsTo (h:OwnI w base tg v q p m) (f:Nat->Nat) (f0:f 0=0) (f1:f 1=1) (f2:∀k,f (2*k+4)=2*k+4) {A:Option Addr} {n c:Nat}
  (ho:w'.ownsRow base 102 3 (.slice A n c) n (p'.flatMap PV.cells)) (hg:w.grownBy w' (Value.slice v.pA v.pn v.pc).ownBlock) (hnc:n<=c) (hn:n<=1000) (hcm:c<=maxLen)
  (hr:∀(k:Nat) (x:PV),p'[k]? =some x->x.s.name.size<=4611686018427387903/\TabO w base (λb=>f (tg b)) (2*k+5) x.A x.n x.c x.s.root):
  OwnI w' base (λb=>f (tg b)) {v with pA:=A,pn:=n,pc:=c} q p' {m with snaps:=p'.map (·.s)}:=by
 unfold maxLen at hcm
 refine⟨?_,?_,h.slots.kept hg (gR h.slots h.snaps (by decide)),h.sle,h.scap,ho,hnc,⟨by dsimp only;omega,by dsimp only;omega⟩,h.hq,rfl,λk x hx=>⟨(h.tabs k x hx).1,?_⟩,λk x hx=>⟨(hr k x hx).1,(hr k x hx).2.far h.snaps (by decide) hg⟩⟩
 ·have:=(h.root.sh (f:=f) (λh=>by omega)).far h.snaps (by decide) hg
  rw[f0]at this;exact this
 ·have:=(h.refs.sh (f:=f) (λh=>by omega)).far h.snaps (by decide) hg
  rw[f1]at this;exact this
 ·have:=((h.tabs k x hx).2.sh (f:=f) (λh=>by rw[f2];exact h)).far h.snaps (by decide) hg
  rw[f2]at this;exact this
def km (k t:Nat):Nat:=if t=2 then 2*k+5 else if t%2=1/\2*k+5<=t then t+2 else t
def mA (k t:Nat):Nat:=if t%2=1/\2*k+5<t then t-2 else t
def fW (k t:Nat):Nat:=if t=2*k+5 then 2*k+3 else if t=2*k+3 then 2*k+5 else t
theorem Bz {k t:Nat} (h:4<=t):4<=km k t:=by unfold km;split<;>(try split)<;>omega
theorem BA {k t:Nat} (h:4<=t):4<=mA k t:=by unfold mA;split<;>omega
theorem rq {k t:Nat} (hk:1<=k) (h:4<=t):4<=fW k t:=by unfold fW;split<;>(try split)<;>omega
theorem OwnI.putSnapN (h:OwnI w base tg v q p m) {k:Nat} (hk:k<=p.length) {x:PV} (hx:x.s.name.size<=4611686018427387903) (ht:TabO w base tg 2 x.A x.n x.c x.s.root) {A:Option Addr} {n c:Nat}
  (ho:w'.ownsRow base 102 3 (.slice A n c) n ((p.take k++x::p.drop k).flatMap PV.cells)) (hg:w.grownBy w' (Value.slice v.pA v.pn v.pc).ownBlock) (hnc:n<=c) (hn:n<=1000) (hcm:c<=maxLen):
  OwnI w' base (λb=>km k (tg b)) {v with pA:=A,pn:=n,pc:=c} q (p.take k++x::p.drop k) {m with snaps:=m.snaps.take k++x.s::m.snaps.drop k}:=by
 have e:(p.take k++x::p.drop k).map (·.s)=m.snaps.take k++x.s::m.snaps.drop k:=by rw[List.map_append,List.map_cons,List.map_take,List.map_drop,h.hp]
 rw[<-e]
 refine h.snapsTo (km k) (by unfold km;simp) (by unfold km;simp) (λj=>by unfold km;rw[if_neg (by omega),if_neg (by omega)]) ho hg hnc hn hcm λj y hy=>?_
 have hl:(p.take k).length=k:=by rw[List.length_take];omega
 rcases Nat.lt_trichotomy j k with hj|hj|hj
 ·rw[List.getElem?_append_left (by omega),List.getElem?_take_of_lt hj]at hy
  have:=(h.roots j y hy).2.sh (f:=km k) Bz
  rw[show km k (2*j+5)=2*j+5 from by unfold km;rw[if_neg (by omega),if_neg (by omega)]]at this
  exact⟨(h.roots j y hy).1,this⟩
 ·subst hj
  rw[List.getElem?_append_right (by omega),hl,Nat.sub_self,List.getElem?_cons_zero]at hy
  injection hy with hy
  subst hy
  have:=ht.sh (f:=km j) (λh=>by omega)
  rw[show km j 2=2*j+5 from by unfold km;rw[if_pos rfl]]at this
  exact⟨hx,this⟩
 ·rw[List.getElem?_append_right (by omega),hl,show j-k=(j-k-1)+1 from by omega,List.getElem?_cons_succ,List.getElem?_drop,show k+(j-k-1)=j-1 from by omega]at hy
  have:=(h.roots (j-1) y hy).2.sh (f:=km k) Bz
  rw[show km k (2*(j-1)+5)=2*j+5 from by unfold km;rw[if_neg (by omega),if_pos (by omega)];omega]at this
  exact⟨(h.roots (j-1) y hy).1,this⟩
theorem OwnI.delSnap (h:OwnI w base tg v q p m) {k:Nat} {A:Option Addr} {n c:Nat}
  (ho:w'.ownsRow base 102 3 (.slice A n c) n ((p.eraseIdx k).flatMap PV.cells)) (hg:w.grownBy w' (Value.slice v.pA v.pn v.pc).ownBlock) (hnc:n<=c) (hn:n<=1000) (hcm:c<=maxLen):
  OwnI w' base (λb=>mA k (tg b)) {v with pA:=A,pn:=n,pc:=c} q (p.eraseIdx k) {m with snaps:=m.snaps.eraseIdx k}:=by
 have e:(p.eraseIdx k).map (·.s)=m.snaps.eraseIdx k:=by rw[List.eraseIdx_eq_take_drop_succ,List.eraseIdx_eq_take_drop_succ,List.map_append,List.map_take,List.map_drop,h.hp]
 rw[<-e]
 refine h.snapsTo (mA k) (by unfold mA;simp) (by unfold mA;rw[if_neg (by omega)]) (λj=>by unfold mA;rw[if_neg (by omega)]) ho hg hnc hn hcm λj y hy=>?_
 rw[List.getElem?_eraseIdx]at hy
 split at hy
 ·have:=(h.roots j y hy).2.sh (f:=mA k) BA
  rw[show mA k (2*j+5)=2*j+5 from by unfold mA;rw[if_neg (by omega)]]at this
  exact⟨(h.roots j y hy).1,this⟩
 ·have:=(h.roots (j+1) y hy).2.sh (f:=mA k) BA
  rw[show mA k (2*(j+1)+5)=2*j+5 from by unfold mA;rw[if_pos (by omega)];omega]at this
  exact⟨(h.roots (j+1) y hy).1,this⟩
theorem OwnI.swapSnap (h:OwnI w base tg v q p m) {k:Nat} (hk:1<=k) {x y:PV} (hx:p[k-1]? =some x) (hy:p[k]? =some y) {A:Option Addr} {n c:Nat}
  (ho:w'.ownsRow base 102 3 (.slice A n c) n (((p.set (k-1) y).set k x).flatMap PV.cells)) (hg:w.grownBy w' (Value.slice v.pA v.pn v.pc).ownBlock) (hnc:n<=c) (hn:n<=1000) (hcm:c<=maxLen):
  OwnI w' base (λb=>fW k (tg b)) {v with pA:=A,pn:=n,pc:=c} q ((p.set (k-1) y).set k x) {m with snaps:=(m.snaps.set (k-1) y.s).set k x.s}:=by
 have e:((p.set (k-1) y).set k x).map (·.s)=(m.snaps.set (k-1) y.s).set k x.s:=by rw[List.map_set,List.map_set,h.hp]
 rw[<-e]
 refine h.snapsTo (fW k) (by unfold fW;rw[if_neg (by omega),if_neg (by omega)]) (by unfold fW;rw[if_neg (by omega),if_neg (by omega)]) (λj=>by unfold fW;rw[if_neg (by omega),if_neg (by omega)]) ho hg hnc hn hcm λj z hz=>?_
 rw[List.getElem?_set]at hz
 split at hz
 ·rename_i e1
  subst e1
  split at hz
  ·injection hz with hz
   subst hz
   have:=(h.roots (k-1) x hx).2.sh (f:=fW k) (rq hk)
   rw[show fW k (2*(k-1)+5)=2*k+5 from by unfold fW;rw[if_neg (by omega),if_pos (by omega)]]at this
   exact⟨(h.roots (k-1) x hx).1,this⟩
  ·cases hz
 ·rw[List.getElem?_set]at hz
  split at hz
  ·rename_i e1 e2
   subst e2
   split at hz
   ·injection hz with hz
    subst hz
    have:=(h.roots k y hy).2.sh (f:=fW k) (rq hk)
    rw[show fW k (2*k+5)=2*(k-1)+5 from by unfold fW;rw[if_pos rfl];omega]at this
    exact⟨(h.roots k y hy).1,this⟩
   ·cases hz
  ·rename_i e1 e2
   have:=(h.roots j z hz).2.sh (f:=fW k) (rq hk)
   rw[show fW k (2*j+5)=2*j+5 from by unfold fW;rw[if_neg (by omega),if_neg (by omega)]]at this
   exact⟨(h.roots j z hz).1,this⟩
theorem OwnI.rootTo (h:OwnI w base tg v q p m) {A:Option Addr} {n c:Nat} {cs:List Int} (ho:TabO w base tg 0 A n c cs):OwnI w base tg {v with rA:=A,rn:=n,rc:=c} q p {m with root:=cs}:=
 ⟨ho,h.refs,h.slots,h.sle,h.scap,h.snaps,h.ple,h.pcap,h.hq,h.hp,h.tabs,h.roots⟩
end
end
section
open Go.Proofs.Tryz
open Go.RowKit Sl
def BC (b:Nat) (w w':World):Prop:=∀j,j<w.heap.size->j≠b->TypeB w j 34->w'.heap[j]? =w.heap[j]?
theorem TypeB.of_heap {w w':World} {j:Nat} {T:TypeId} (h:TypeB w j T) (e:w'.heap[j]? =w.heap[j]?):TypeB w' j T:=by
 obtain⟨c,f,hh⟩:=h
 exact⟨c,f,e.trans hh⟩
theorem tG (b base:Nat) (tg:Nat->Nat) (v:IV) (q:List SV) (p:List PV) (m:Img) (w:World) (h:OwnI w base tg v q p m) (hx:Box w b m.guest v) (hBB:BoxB w b) (hb:base<=b) (hc:CBd m) (hw:Wired m):
  Calls prog 118 #[.pointer (some ⟨b,0,none⟩)] w λe w'=>e=.returned (.tuple #[])/\ ∃v' tg' q',Box w' b m.guest v'/\OwnI w' base tg' v' q' p (ap m)/\BoxB w' b/\Below base w w'/\BC b w w':=by
 have K1:=zh (iK v m w h.imgR hc hw)
 have hcl:=cO m
 have hsn:v.sn=m.slots.length:=h.imgR.slen.symm
 obtain⟨sb,hsA,hsb,hsl⟩:=bK h.slots (by have:=hc.one;omega)
 have h40:=hc.slots
 obtain⟨rA,rn,rc,sA,sn,sc,fA,fn,fc,pA,pn,pc⟩:=v
 obtain⟨b0,b1,b2,b3,b4⟩:=hx
 dsimp only at*
 subst hsn
 subst hsA
 have HO:=zh h
 have hT:=hBB.ty
 have hbw:base<=w.heap.size:=by have:=hT.lt;omega
 unfold ap
 generalize aM m=cs at*
 have HCL:=zh hcl
 clear h hc hw hcl
 generalize hln:m.slots.length=ln at*
 have HLN:=zh hln
 clear hln
 go_enter func118,ntmps118
 go_wp2_with fail
 refine K1.o.mono ?_
 rintro e w1 ⟨A,c,rfl,ho,hb1,hc1,hc2⟩
 have hT1:=hT.next hb1
 have hBB1:=hBB.next hb1
 have b0':=(hb1.cell (p:=⟨b,0,none⟩) hT.lt).trans b0
 have b1':=(hb1.cell (p:=⟨b,1,none⟩) hT.lt).trans b1
 have b2':=(hb1.cell (p:=⟨b,2,none⟩) hT.lt).trans b2
 have b3':=(hb1.cell (p:=⟨b,3,none⟩) hT.lt).trans b3
 have b4':=(hb1.cell (p:=⟨b,4,none⟩) hT.lt).trans b4
 have hf':=hBB1.fz 3
 go_wp2_with fail
 have hgs:=ai w1 b 3 (.slice A ln c)
 have hO1:OwnI w1 base (λg=>if w.heap.size<=g then 1 else tg g) ⟨rA,rn,rc,some ⟨sb,0,none⟩,ln,sc,A,ln,c,pA,pn,pc⟩ q p {m with refs:=cs}:=
  ((HO.o.retag (tg':= λg=>if w.heap.size<=g then 1 else tg g) (λb' hb'=>by simp;omega)).next hb1).newRefs ⟨hc1,⟨by omega,by unfold maxLen at hc2;omega⟩,.inr ⟨bL ho hbw,λg hg=>if_pos (ho.lt g hg).1⟩⟩
 have hO2:=hO1.kept hgs hT1 (by decide) (by decide) (by decide)
 have hX2:Box (w1.setCell ⟨b,3,none⟩ (.slice A ln c)) b m.guest ⟨rA,rn,rc,some ⟨sb,0,none⟩,ln,sc,A,ln,c,pA,pn,pc⟩:=by
  refine⟨?_,?_,?_,?_,?_⟩<;>go_simp
 have hBB2:=hBB1.set 3 (.slice A ln c)
 have hB2:=((hb1.mono hbw).setCell (p:=⟨b,3,none⟩) hb (.slice A ln c))
 have hK2:BC b w (w1.setCell ⟨b,3,none⟩ (.slice A ln c)):= λj hj hjb _=>(heap_setCell_other w1 ⟨b,3,none⟩ j _ hjb).trans (hb1.block j hj)
 generalize (λg=>if w.heap.size<=g then 1 else tg g)=tg' at*
 have HO2:=zh hO2
 clear hO1 hO2 b0' b1' b2' b3' b4' hf' hgs ho hT1
 generalize w1.setCell ⟨b,3,none⟩ (.slice A ln c)=w2 at*
 go_loopw [16] (λi wr=>∃k:Nat,k<=ln/\i=.int .i64 k/\OwnI wr base tg' ⟨rA,rn,rc,some ⟨sb,0,none⟩,ln,sc,A,ln,c,pA,pn,pc⟩ (dF freeSV q cs k) p {m with refs:=cs,slots:=dF freeSlot m.slots cs k}/\Box wr b m.guest ⟨rA,rn,rc,some ⟨sb,0,none⟩,ln,sc,A,ln,c,pA,pn,pc⟩/\BoxB wr b/\Below base w wr/\BC b w wr) (λi _=>ln-(intOf i).toNat)
 case atStart=>exact⟨0,Nat.zero_le _,rfl,by rw[eZ,eZ];exact HO2.o,hX2,hBB2,hB2,hK2⟩
 case round=>
  obtain⟨k,hk,rfl,ho,hx,hT,hbw',hkw⟩:=hrel
  obtain⟨b0,b1,b2,b3,b4⟩:=hx
  dsimp only at b0 b1 b2 b3 b4
  have HOr:=zh ho
  clear ho
  by_cases hlt:k<ln
  ·obtain⟨b5,o5,r,rfl,hb5,hx5,c5⟩:=HOr.o.refs.rd.at1 hlt
   have HI:=zh (bG hx5)
   clear hx5
   cases hr:(r==0)
   ·go_wp2_with fail
    go_roundw
    case rel=>exact⟨k+1,by omega,by go_num,by rw[ie _ _ _ _ (by rw[HI.o];simpa using hr),ie _ _ _ _ (by rw[HI.o];simpa using hr)];exact HOr.o,⟨b0,b1,b2,b3,b4⟩,hT,hbw',hkw⟩
    case measure=>simp[intOf];omega
   ·have hs:=HOr.o.slots
    have x0:=hs.cellAt (k*3) (by dsimp only;omega)
    have x1:=hs.cellAt (k*3+1) (by dsimp only;omega)
    have x2:=hs.cellAt (k*3+2) (by dsimp only;omega)
    have f0:=hs.frozenAt (k*3)
    have f1:=hs.frozenAt (k*3+1)
    have f2:=hs.frozenAt (k*3+2)
    have hkq:k<(dF freeSV q cs k).length:=by have:=HOr.o.qlen;dsimp only at this;omega
    have hq:=List.getElem?_eq_getElem hkq
    generalize (dF freeSV q cs k)[k]=xk at hq
    have y0:=av SV.cells SV.cells_len _ k xk hq 0 (by omega)
    rw[Nat.add_zero]at y0
    rw[y0]at x0
    rw[av SV.cells SV.cells_len _ k xk hq 1 (by omega)]at x1
    rw[av SV.cells SV.cells_len _ k xk hq 2 (by omega)]at x2
    simp only[SV.cells,bE,List.getElem?_cons_zero,List.getElem?_cons_succ]at x0 x1 x2
    obtain⟨n1,n2⟩:=HOr.o.set3 (x':=freeSV) rfl hq (by decide) (TabO.nil)
    clear hs y0
    go_wp2_with fail
    go_roundw
    case rel=>
     have hz:int cs k=0:=by have:=HI.o;rw[show r=0 from by simpa using hr]at this;exact this
     have hne:some b≠some sb:= λe=>hT.ty.ne (au HOr.o.slots (b:=sb) rfl) (by decide) (by injection e)
     exact⟨k+1,by omega,by go_num,by rw[gj _ _ _ _ hz,gj _ _ _ _ hz];exact n1,(show Box wr b m.guest _ from⟨b0,b1,b2,b3,b4⟩).kept n2 hne,hT.kept n2 hne,hbw'.grown n2 (by have:=hbw'.size;omega) (λj e=>by injection e with e;omega),λj hj hjb hTj=>(n2.block j (by have:=hbw'.size;omega) (λe=>(TypeB.ne (TypeB.of_heap hTj (hkw j hj hjb hTj)) (au HOr.o.slots (b:=sb) rfl) (by decide)) (by injection e))).trans (hkw j hj hjb hTj)⟩
    case measure=>simp[intOf];omega
  ·obtain rfl:k=ln:=by omega
   go_wp2_with fail
   go_end0
   exact⟨rfl,⟨rA,rn,rc,some ⟨sb,0,none⟩,k,sc,A,k,c,pA,pn,pc⟩,tg',_,⟨b0,b1,b2,b3,b4⟩,HOr.o,hT,hbw',hkw⟩
end
end Go.Proofs.YtdbneghfbkjinaaGreatDoor
