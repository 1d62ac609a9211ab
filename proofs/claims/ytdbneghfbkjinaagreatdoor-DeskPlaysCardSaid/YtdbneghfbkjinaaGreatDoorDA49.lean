/- Texts of the proof of deskPlays_holds: RPackB. Conditions: as each text says. -/
import Derived.Test.YtdbneghfbkjinaaGreatDoorDA1
import Derived.Test.YtdbneghfbkjinaaGreatDoorDA48
import Derived.Test.YtdbneghfbkjinaaGreatDoorDA43
set_option maxRecDepth 100000
set_option maxHeartbeats 8000000
namespace Go.Proofs.YtdbneghfbkjinaaGreatDoor
open Go.Proofs.Tryz
open Go.RowKit Sl
def DV (wa:World) (m:Img) (f:Int->Int) (s3:Value) (wx:World):Prop:=
 ∃(bo:Nat) (A3:Option Addr) (n3 c3 sb fb:Nat) (tg:Nat->Nat),s3=.pointer (some ⟨bo,0,none⟩)/\
  OwnI wx wa.heap.size tg ⟨A3,n3,c3,some ⟨sb,0,none⟩,1,1,some ⟨fb,0,none⟩,1,1,none,0,0⟩ [freeSV] [] ⟨m.guest,m.root.map f,[freeSlot],[0],[]⟩/\
  Box wx bo m.guest ⟨A3,n3,c3,some ⟨sb,0,none⟩,1,1,some ⟨fb,0,none⟩,1,1,none,0,0⟩/\BoxB wx bo/\wa.heap.size<=bo/\Below wa.heap.size wa wx
theorem CX {wa W:World} {A5:Option Addr} {rn c5 k6 k7 k9 B5:Nat} {f:Int->Int} {m:Img}
  (o5:W.ownsRow B5 3 1 (.slice A5 rn c5) rn (ah (m.root.map f))) (hc5:rn<=c5) (hm5:c5<=maxLen) (hrn:rn<=1000) (l5:wa.heap.size<=B5)
  (g6:W.heap[k6]? =some (.cells #[.int .i64 0,.string {data:=#[]},.slice none 0 0] 108 (0,0))) (g7:W.heap[k7]? =some (.cells #[.int .i64 0] 3 (0,0))) (ZF:ZB W k9)
  (l6:wa.heap.size<=k6) (l7:wa.heap.size<=k7) (l9:wa.heap.size<=k9) (d:∀x,(Value.slice A5 rn c5).ownBlock=some x->x≠k7) (UF:Below wa.heap.size wa W):
  DV wa m f (.pointer (some ⟨k9,0,none⟩)) (((((W.setCell ⟨k9,0,none⟩ (.int .i64 m.guest)).setCell ⟨k9,1,none⟩ (.slice A5 rn c5)).setCell ⟨k9,2,none⟩ (.slice (some ⟨k6,0,none⟩) 1 1)).setCell ⟨k9,3,none⟩ (.slice (some ⟨k7,0,none⟩) 1 1)).setCell ⟨k9,4,none⟩ (.slice none 0 0)):=by
 have h5:=dr ZF.box.1 ZF.box.2 m.guest ⟨A5,rn,c5,some ⟨k6,0,none⟩,1,1,some ⟨k7,0,none⟩,1,1,none,0,0⟩
 dsimp only at h5
 have o3:W.ownsRow wa.heap.size 3 1 (.slice (some ⟨k7,0,none⟩) 1 1) 1 (ah [0]):=gJ (cs:=[.int .i64 0]) g7 l7 rfl (by decide)
 have o2:W.ownsRow wa.heap.size 108 3 (.slice (some ⟨k6,0,none⟩) 1 1) 1 ([freeSV].flatMap SV.cells):=gJ (cs:=[.int .i64 0,.string {data:=#[]},.slice none 0 0]) g6 l6 rfl (by decide)
 have o1:=bL o5 l5
 have O:OwnI W wa.heap.size (λx=>if x=k7 then 1 else 0) ⟨A5,rn,c5,some ⟨k6,0,none⟩,1,1,some ⟨k7,0,none⟩,1,1,none,0,0⟩ [freeSV] [] ⟨m.guest,m.root.map f,[freeSlot],[0],[]⟩:=by
  refine⟨?_,?_,o2,Nat.le_refl _,by dsimp only;decide,World.ownsRow_nil _ _ _ _,Nat.le_refl _,by dsimp only;decide,rfl,rfl,?_,?_⟩
  ·exact⟨hc5,⟨by dsimp only;omega,by unfold maxLen at hm5;dsimp only;omega⟩,.inr ⟨o1,λx e=>if_neg (d x e)⟩⟩
  ·refine⟨Nat.le_refl _,by dsimp only;decide,.inr ⟨o3,λx e=>?_⟩⟩
   simp only[Value.ownBlock,Option.some.injEq]at e
   subst e;exact if_pos rfl
  ·intro k x hx
   have hk:k=0:=by have:=(zl hx);simp at this;omega
   subst hk
   have hx:freeSV=x:=by simpa using hx
   subst hx
   exact⟨by decide,TabO.nil⟩
  ·intro k x hx;simp at hx
 exact⟨k9,A5,rn,c5,k6,k7,_,rfl,O.kept h5.2.2 ZF.box.1.ty (by decide) (by decide) (by decide),h5.1,h5.2.1,l9,UF.grown h5.2.2 UF.size (λj e=>by injection e;omega)⟩
def P5 (wa:World) (m:Img) (f:Int->Int) (rn:Nat) (x:Value) (w:World):Prop:=∃A5 c5 B5,x=.slice A5 rn c5/\w.ownsRow B5 3 1 (.slice A5 rn c5) rn (ah (m.root.map f))/\rn<=c5/\c5<=maxLen/\wa.heap.size<=B5
def P6 (wa:World) (o:Obj) (x:Value) (w:World):Prop:=∃k,x=.slice (some ⟨k,0,none⟩) 1 1/\w.heap[k]? =some o/\wa.heap.size<=k
def P9 (wa:World) (x:Value) (w:World):Prop:=∃k,x=.pointer (some ⟨k,0,none⟩)/\ZB w k/\wa.heap.size<=k
theorem P5.next {wa w w':World} {m:Img} {f:Int->Int} {rn:Nat} {x:Value} (hb:Below w.heap.size w w') (h:P5 wa m f rn x w):P5 wa m f rn x w':=let ⟨A,c,B,h1,h2,h3⟩:=h;⟨A,c,B,h1,aI h2 hb,h3⟩
theorem P6.next {wa w w':World} {o:Obj} {x:Value} (hb:Below w.heap.size w w') (h:P6 wa o x w):P6 wa o x w':=let ⟨k,h1,h2,h3⟩:=h;⟨k,h1,(hb.block k (za h2)).trans h2,h3⟩
theorem P9.next {wa w w':World} {x:Value} (hb:Below w.heap.size w w') (h:P9 wa x w):P9 wa x w':=let ⟨k,h1,h2,h3⟩:=h;⟨k,h1,h2.next hb,h3⟩
def PkI (wa:World) (m:Img) (f:Int->Int) (rn:Nat) (A:Act) (l:Array Bool) (a:Act) (w:World):Prop:=∃(b5 b6 b7 b8 b9:Bool) (x5 x6 x7 x8 x9:Value),
 l=#[true,true,true,true,true,b5,b6,b7,b8,b9,false]/\a=⟨((((A.tmps.setIfInBounds 13 x5).setIfInBounds 14 x6).setIfInBounds 15 x7).setIfInBounds 16 x8).setIfInBounds 3 x9,A.defers⟩/\Below wa.heap.size wa w/\
 (b5=true->P5 wa m f rn x5 w)/\(b6=true->P6 wa (.cells #[.int .i64 0,.string {data:=#[]},.slice none 0 0] 108 (0,0)) x6 w)/\(b7=true->P6 wa (.cells #[.int .i64 0] 3 (0,0)) x7 w)/\
 (b8=true->b5=true/\b6=true/\b7=true/\x8=.agg #[.int .i64 m.guest,x5,x6,x7,.slice none 0 0])/\(b9=true->P9 wa x9 w)/\
 (b5=true->b7=true->∀x k,x5.ownBlock=some x->x7=.slice (some ⟨k,0,none⟩) 1 1->x≠k)
theorem ut {l:List Slot} {e:Int} (h:hH l e):e<=(l.length:Int):=by
 rcases h with h|⟨n,s,rfl,_,hs,_⟩
 ·omega
 ·have:=(zl hs);omega
theorem wR (v:IV) (m:Img) (w:World) (h:ImgR w w.heap.size v m) (he:ab m=0):
  Calls prog 46 #[ae m v] w (vk w (cL m)):=by
 have SS:=ay (aq he).1
 have h40:=SS.cbd.slots
 have hr4:=SS.cbd.root
 have h4:=SS.cbd.snaps
 have hsn:=h.slen
 have hpn:=h.plen
 have hrn:=h.rlen
 have hfn:=h.flen
 have hrle:v.rn<=1000:=by omega
 have KR:=zh (λW (hb:Below w.heap.size w W)=>jL v m v.rA v.rn v.rc m.root W (h.next hb) (h.next hb).root hrle (fp SS) (λx hx=>ut (gI SS (List.mem_cons_self ..) hx)) h40)
 have KA:=zh (λ(A:Option Addr) (n c:Nat) (xs:List Int) (hn:n<=4) (hv:∀x∈xs,hH m.slots x) W (hb:Below w.heap.size w W) (hr:Rd W W.heap.size 1 A n (ah xs))=>jL v m A n c xs W (h.next hb) hr (by omega) (fp SS) (λx hx=>ut (hv x hx)) h40)
 have HRL:=zh (my he)
 have h1s:=SS.cbd.one
 have HI:=zh h
 have HS:=zh SS
 have HE:=zh he
 have HSN:=zh hsn
 have HPN:=zh hpn
 have HFN:=zh hfn
 obtain⟨rA,rn,rc,sA,sn,sc,fA,fn,fc,pA,pn,pc⟩:=v
 dsimp only[ae]at*
 have HB1:=aa (ac w (.cells #[.int .i64 m.guest,.slice rA rn rc,.slice sA sn sc,.slice fA fn fc,.slice pA pn pc] 34)) (ac _ (.cells #[.int .i64 0,.slice none 0 0,.slice none 0 0,.slice none 0 0,.slice none 0 0] 34))
 have HZ:=zh (ZB.new (w.alloc (.cells #[.int .i64 m.guest,.slice rA rn rc,.slice sA sn sc,.slice fA fn fc,.slice pA pn pc] 34)))
 have HX:=(Box.new w m.guest ⟨rA,rn,rc,sA,sn,sc,fA,fn,fc,pA,pn,pc⟩ 34).keep (ac _ (.cells #[.int .i64 0,.slice none 0 0,.slice none 0 0,.slice none 0 0,.slice none 0 0] 34)) (by simp)
 have hz2:w.heap.size+2<=((w.alloc (.cells #[.int .i64 m.guest,.slice rA rn rc,.slice sA sn sc,.slice fA fn fc,.slice pA pn pc] 34)).alloc (.cells #[.int .i64 0,.slice none 0 0,.slice none 0 0,.slice none 0 0,.slice none 0 0] 34)).heap.size:=by simp<;>omega
 rw[World.size_alloc]at HZ
 have hm1:=mD
 have hm2:=kY
 generalize hf:ren m.slots=f at KR KA
 have HF:=zh hf
 clear h he SS hsn hpn hrn hfn hf
 go_enter func46,ntmps46
 go_upto_region 1 with fail
 generalize (w.alloc (.cells #[.int .i64 m.guest,.slice rA rn rc,.slice sA sn sc,.slice fA fn fc,.slice pA pn pc] 34)).alloc (.cells #[.int .i64 0,.slice none 0 0,.slice none 0 0,.slice none 0 0,.slice none 0 0] 34)=wa at*
 have HXw:=zh HX
 obtain⟨b0,b1,b2,b3,b4⟩:=HX
 dsimp only at b0 b1 b2 b3 b4
 have hzz:w.heap.size<=wa.heap.size:=by omega
 have lw:w.heap.size<wa.heap.size:=by omega
 go_cut [3] (λs3 wx=>DV wa m f s3 wx)
 case first=>
  have mvT:=zh (λ(W':World) (hb2:Below wa.heap.size wa W')=>(show W'.cell? ⟨w.heap.size,0,none⟩=some (.int .i64 m.guest)/\W'.cell? ⟨w.heap.size,1,none⟩=some (.slice rA rn rc)/\W'.cell? ⟨w.heap.size,2,none⟩=some (.slice sA sn sc)/\W'.cell? ⟨w.heap.size,3,none⟩=some (.slice fA fn fc)/\W'.cell? ⟨w.heap.size,4,none⟩=some (.slice pA pn pc)from⟨(hb2.cell (p:=⟨w.heap.size,0,none⟩) lw).trans b0,(hb2.cell (p:=⟨w.heap.size,1,none⟩) lw).trans b1,(hb2.cell (p:=⟨w.heap.size,2,none⟩) lw).trans b2,(hb2.cell (p:=⟨w.heap.size,3,none⟩) lw).trans b3,(hb2.cell (p:=⟨w.heap.size,4,none⟩) lw).trans b4⟩))
  have U0:Below wa.heap.size wa wa.drew:=(Below.refl _ _).drew
  clear b0 b1 b2 b3 b4
  refine eS (λW'=>W'.cell? ⟨w.heap.size,0,none⟩=some (.int .i64 m.guest)/\W'.cell? ⟨w.heap.size,1,none⟩=some (.slice rA rn rc)/\W'.cell? ⟨w.heap.size,2,none⟩=some (.slice sA sn sc)/\W'.cell? ⟨w.heap.size,3,none⟩=some (.slice fA fn fc)/\W'.cell? ⟨w.heap.size,4,none⟩=some (.slice pA pn pc)) 10 ?_
  have hSS:=mvT.o wa.drew U0
  generalize wa.drew=W0 at*
  refine zgo 0 ?_
  refine zgo 1 ?_
  refine zgo 2 ?_
  refine zgo 3 ?_
  refine zgo 4 ?_
  clear hSS
  go_simp
  refine D1 10 (PkI wa m f rn) ?_ ?_ ?_ ⟨false,false,false,false,false,undef,undef,undef,undef,undef,rfl,rfl,U0,nofun,nofun,nofun,nofun,nofun,nofun⟩
  ·rintro l a w' ⟨b5,b6,b7,b8,b9,x5,x6,x7,x8,x9,rfl,rfl,_⟩
   cases b5<;>cases b6<;>cases b7<;>cases b8<;>cases b9<;>decide+kernel
  ·rintro l a w' i ⟨b5,b6,b7,b8,b9,x5,x6,x7,x8,x9,rfl,rfl,hU,h5,h6,h7,h8,h9,hd⟩ hi hn
   have hj:(i=5/\b5=false)\/(i=6/\b6=false)\/(i=7/\b7=false)\/(i=8/\b8=false/\b5=true/\b6=true/\b7=true)\/(i=9/\b9=false):=by
    clear hU h5 h6 h7 h8 h9 hd
    revert i
    cases b5<;>cases b6<;>cases b7<;>cases b8<;>cases b9<;>decide+kernel
   clear hi hn
   have H5:=zh h5
   have H6:=zh h6
   have H7:=zh h7
   have H8:=zh h8
   have H9:=zh h9
   have HD:=zh hd
   clear h5 h6 h7 h8 h9 hd
   rcases hj with⟨rfl,rfl⟩|⟨rfl,rfl⟩|⟨rfl,rfl⟩|⟨rfl,rfl,rfl,rfl,rfl⟩|⟨rfl,rfl⟩
   ·refine zs λK' hK=>?_
    go_simp
    refine(KR.o _ (HB1.trans (hU.mono hzz))).mono ?_
    rintro e w5 ⟨A5,c5,rfl,ho5,hb,hc5,hm5⟩
    exact hK.o _ _ ⟨λ_=>mvT.o _ (aa hU hb),true,b6,b7,b8,b9,.slice A5 rn c5,x6,x7,x8,x9,rfl,rfl,aa hU hb,λ_=>⟨A5,c5,_,rfl,ho5,hc5,hm5,hU.size⟩,λe=>(H6.o e).next hb,λe=>(H7.o e).next hb,(λe=>by cases (H8.o e).1),λe=>(H9.o e).next hb,λ_ e x k hx hk=>by
     obtain⟨k',h1,h2,_⟩:=H7.o e
     have h3:=(za h2)
     have h4:=ho5.lt x hx
     rw[hk]at h1
     injection h1 with h1
     injection h1 with h1
     injection h1 with h1
     omega⟩
   ·refine zs λK' hK=>?_
    go_simp
    have hb:=ac w' (.cells #[.int .i64 0,.string {data:=#[]},.slice none 0 0] 108)
    have g:=heap_alloc_new w' (.cells #[.int .i64 0,.string {data:=#[]},.slice none 0 0] 108)
    exact hK.o _ _ ⟨λ_=>mvT.o _ (aa hU hb),b5,true,b7,b8,b9,x5,.slice (some ⟨w'.heap.size,0,none⟩) 1 1,x7,x8,x9,rfl,rfl,aa hU hb,λe=>(H5.o e).next hb,λ_=>⟨_,rfl,g,hU.size⟩,λe=>(H7.o e).next hb,(λe=>by cases (H8.o e).2.1),λe=>(H9.o e).next hb,HD.o⟩
   ·refine zs λK' hK=>?_
    go_simp
    have hb:=ac w' (.cells #[.int .i64 0] 3)
    have g:=heap_alloc_new w' (.cells #[.int .i64 0] 3)
    exact hK.o _ _ ⟨λ_=>mvT.o _ (aa hU hb),b5,b6,true,b8,b9,x5,x6,.slice (some ⟨w'.heap.size,0,none⟩) 1 1,x8,x9,rfl,rfl,aa hU hb,λe=>(H5.o e).next hb,λe=>(H6.o e).next hb,λ_=>⟨_,rfl,g,hU.size⟩,(λe=>by cases (H8.o e).2.2.1),λe=>(H9.o e).next hb,λe _ x k hx hk=>by
     obtain⟨A5,c5,B5,rfl,ho5,_⟩:=H5.o e
     have h4:=ho5.lt x hx
     injection hk with hk
     injection hk with hk
     injection hk with hk
     omega⟩
   ·obtain⟨A5,c5,B5,rfl,q5⟩:=H5.o rfl
    obtain⟨k6,rfl,q6⟩:=H6.o rfl
    obtain⟨k7,rfl,q7⟩:=H7.o rfl
    refine zs λK' hK=>?_
    go_simp
    exact hK.o _ _ ⟨λ_=>mvT.o _ hU,true,true,true,true,b9,_,_,_,.agg #[.int .i64 m.guest,.slice A5 rn c5,.slice (some ⟨k6,0,none⟩) 1 1,.slice (some ⟨k7,0,none⟩) 1 1,.slice none 0 0],x9,rfl,rfl,hU,H5.o,H6.o,H7.o,λ_=>⟨rfl,rfl,rfl,rfl⟩,H9.o,HD.o⟩
   ·refine zs λK' hK=>?_
    go_simp
    have hb:=ac w' (.cells #[.int .i64 0,.slice none 0 0,.slice none 0 0,.slice none 0 0,.slice none 0 0] 34)
    have z:=ZB.new w'
    exact hK.o _ _ ⟨λ_=>mvT.o _ (aa hU hb),b5,b6,b7,b8,true,x5,x6,x7,x8,.pointer (some ⟨w'.heap.size,0,none⟩),rfl,rfl,aa hU hb,λe=>(H5.o e).next hb,λe=>(H6.o e).next hb,λe=>(H7.o e).next hb,H8.o,λ_=>⟨_,rfl,z,hU.size⟩,HD.o⟩
  ·rintro l a w' ⟨b5,b6,b7,b8,b9,x5,x6,x7,x8,x9,rfl,rfl,hU,h5,h6,h7,h8,h9,hd⟩ hi
   have hj:b5=true/\b6=true/\b7=true/\b8=true/\b9=true:=by
    clear hU h5 h6 h7 h8 h9 hd
    revert hi
    cases b5<;>cases b6<;>cases b7<;>cases b8<;>cases b9<;>decide+kernel
   obtain⟨rfl,rfl,rfl,rfl,rfl⟩:=hj
   obtain⟨A5,c5,B5,rfl,o5,hc5,hm5,l5⟩:=h5 rfl
   obtain⟨k6,rfl,g6,l6⟩:=h6 rfl
   obtain⟨k7,rfl,g7,l7⟩:=h7 rfl
   obtain⟨_,_,_,rfl⟩:=h8 rfl
   obtain⟨k9,rfl,z9,l9⟩:=h9 rfl
   have HP:=zh (CX (m:=m) (f:=f) o5 hc5 hm5 hrle l5 g6 g7 z9 l6 l7 l9 (λx hx=>hd rfl rfl x k7 hx rfl) hU)
   obtain⟨z0,z1,z2,z3,z4⟩:=z9.cells
   obtain⟨y0,y1,y2,y3,y4⟩:=z9.froz
   clear hi h5 h6 h7 h8 h9 hd o5 g6 g7 z9 hU
   refine zs λK' hK=>?_
   go_simp
   refine hK.o _ _ ⟨λh=>absurd h (by decide),?_⟩
   clear hK
   go_wp2_with fail
   go_meet
   exact HP.o
 case rest=>
  obtain⟨bo,A3,n3,c3,sb,fb,tg0,rfl,HO0,hbx,hBB,hbo,hBw⟩:=hcut
  obtain⟨is0,his,hsz0,hsz1,hsz2⟩:=info_parts infoSlot
  obtain⟨ip0,hip,hpz0,hpz1,hpz2⟩:=info_parts infoSnap
  have HP0:=zh HO0
  have HBX:=zh hbx
  have HZA:=zh (show ZB wa (w.heap.size+1)from HZ.o)
  have hfs:sn=fn:=(HFN.o.symm.trans (HRL.o.trans HSN.o)).symm
  subst hfs
  have h1sn:1<=sn:=Nat.le_trans h1s (Nat.le_of_eq HSN.o)
  have hsn40:sn<=40:=Nat.le_trans (Nat.le_of_eq HSN.o.symm) h40
  clear HO0 b0 b1 b2 b3 b4 KR hbx HZ hm1 hm2
  go_wp2_with fail
  go_loopw [4] (λi wr=>∃(k ns nf:Nat) (sA' fA':Option Addr) (sc' fc':Nat) (tg:Nat->Nat) (q:List SV),1<=k/\k<=sn/\i=.int .i64 k/\ns<=k/\1<=nf/\nf<=k/\OwnI wr wa.heap.size tg ⟨A3,n3,c3,sA',ns,sc',fA',nf,fc',none,0,0⟩ q [] ⟨m.guest,m.root.map f,jM m.slots k,dN (m.slots.take k) (m.refs.take k),[]⟩/\Box wr bo m.guest ⟨A3,n3,c3,sA',ns,sc',fA',nf,fc',none,0,0⟩/\BoxB wr bo/\Below wa.heap.size wa wr) (λi _=>sn-(intOf i).toNat)
  case atStart=>exact⟨1,1,1,some ⟨sb,0,none⟩,some ⟨fb,0,none⟩,1,1,tg0,[freeSV],Nat.le_refl _,h1sn,rfl,Nat.le_refl _,Nat.le_refl _,Nat.le_refl _,by rw[zI (fp HS.o),zK (fp HS.o)];exact HP0.o,HBX.o,hBB,hBw⟩
  case round=>
   obtain⟨k,ns,nf,sA',fA',sc',fc',tg,q,hk1,hk,rfl,hns,hnf1,hnf,ho,hbx,hBr,hbw⟩:=hrel
   have HO:=zh ho
   have HBR:=zh hbx
   clear ho hbx hBB hBw
   have X:=HXw.o.keep hbw (by omega)
   obtain⟨b0,b1,b2,b3,b4⟩:=X
   dsimp only at b0 b1 b2 b3 b4
   have TW:=HB1.trans (hbw.mono hzz)
   by_cases hlt:k<sn
   ·obtain⟨b,o,s,tA,tn,tc,rfl,hb,hx,d0,d1,d2,hsv⟩:=HI.o.slots.at_ (k:=k) hlt
    obtain⟨b6,o6,r,rfl,hb6,hx6,c6⟩:=HI.o.refs.at1 (k:=k) hlt
    have d0':=(TW.cell (p:=⟨b,o+k*3,none⟩) hb).trans d0
    have d1':=(TW.cell (p:=⟨b,o+k*3+1,none⟩) hb).trans d1
    have d2':=(TW.cell (p:=⟨b,o+k*3+2,none⟩) hb).trans d2
    have ht4:tn<=4:=by have:=HS.o.cbd.tables s (List.mem_of_getElem? hx);have:=hsv.table.len;omega
    have HSV:=zh hsv
    have e0:(0:Int)<=(k:Int):=by omega
    have e1:(k:Int)<(sn:Int):=by omega
    have hbol:=hBr.ty.lt
    have W5:=ac wr (.cells #[.int .i64 s.kind,.string s.data,.slice tA tn tc] 108)
    by_cases hkind:s.kind=0
    ·have hkb:(s.kind==0)=true:=by simp[hkind]
     have HK0:=zh (wP hx hkind)
     have HR0:=zh (om hx hx6 hkind)
     have O5:=zh (HO.o.next W5)
     have X5:=zh (HBR.o.keep W5 hbol)
     have B5:=hBr.next W5
     have L5:=aa hbw W5
     clear hkind hx hx6 d0 d1 d2 hsv c6
     go_wp2_with fail
     go_roundw
     case rel=>exact⟨k+1,ns,nf,sA',fA',sc',fc',tg,q,by omega,by omega,by go_num,by omega,hnf1,by omega,by rw[HK0.o,HR0.o];exact O5.o,X5.o,B5,L5⟩
     case measure=>simp[intOf];omega
    ·have hkb:(s.kind==0)=false:=by simpa using hkind
     have HK0:=zh (wQ hx hkind)
     have HR0:=zh (oo hx hx6 hkind)
     have hmem:=List.mem_of_getElem? hx
     have KT:=zh (KA.o tA tn tc s.table ht4 (λy hy=>jD HS.o hmem hy) (wr.alloc (.cells #[.int .i64 s.kind,.string s.data,.slice tA tn tc] 108)) (aa TW W5) ((Rd.next HSV.o.table TW).next W5))
     have G5:=heap_alloc_new wr (.cells #[.int .i64 s.kind,.string s.data,.slice tA tn tc] 108)
     have l5:wr.heap.size<(wr.alloc (.cells #[.int .i64 s.kind,.string s.data,.slice tA tn tc] 108)).heap.size:=by simp
     have mvT:=zh (λ(W':World) (hb2:Below wa.heap.size wa W')=>(show W'.cell? ⟨w.heap.size,3,none⟩=some (.slice (some ⟨b6,o6,none⟩) sn fc)/\W'.cell? ⟨b6,o6+k,none⟩=some (.int .i64 r)from
      ⟨(hb2.cell (p:=⟨w.heap.size,3,none⟩) lw).trans (HXw.o.2.2.2.1),(hb2.cell (p:=⟨b6,o6+k,none⟩) (Nat.lt_of_lt_of_le hb6 hzz)).trans ((HB1.cell (p:=⟨b6,o6+k,none⟩) hb6).trans c6)⟩))
     obtain⟨a0,a1,a2,a3,a4⟩:=(HXw.o.keep hbw lw).keep W5 (Nat.lt_of_lt_of_le lw hbw.size)
     dsimp only at a0 a1 a2 a3 a4
     clear hkind hx hx6 d0 d1 d2 hsv c6 hmem
     go_upto_region 6 with fail
     generalize wr.alloc (.cells #[.int .i64 s.kind,.string s.data,.slice tA tn tc] 108)=w5 at*
     have v0:=cell_of_row _ _ 0 _ _ _ G5
     have v1:=cell_of_row _ _ 1 _ _ _ G5
     have v2:=cell_of_row _ _ 2 _ _ _ G5
     simp only[List.getElem?_toArray,List.getElem?_cons_zero,List.getElem?_cons_succ]at v0 v1 v2
     have HXM:=zf a0 a1 a2 a3 a4
     have HG5:=zh G5
     have HBW:=zh hbw
     have HW5:=zh W5
     have HTW:=zh TW
     clear a0 a1 a2 a3 a4 b0 b1 b2 b3 b4 d0' d1' d2' G5 hbw W5 TW
     go_upto_region 7 with fail
     clear v0 v1
     obtain⟨a0,a1,a2,a3,a4⟩:=HXM.o
     go_wp2_with fail
     have hbw:=HBW.o
     have W5:=HW5.o
     have TW:=HTW.o
     refine KT.o.mono ?_
     rintro e w7 ⟨A7,c7,rfl,r2,r3,r4,r5⟩
     clear KT a0 a1 a2 a3 a4 v2
     have TB7:=TabO.made (base:=wa.heap.size) (tg:=tg) (t:=2*ns+4) (.inr r2) (by have:=hbw.size;have:=W5.size;omega) (by omega) r4 r5
     have O7:=((HO.o.next W5).retag (tg':= λg=>if w5.heap.size<=g then 2*ns+4 else tg g) (λb' hb'=>if_neg (by omega))).next r3
     generalize (λg=>if w5.heap.size<=g then 2*ns+4 else tg g)=tg7 at*
     have W07:=aa W5 r3
     have u0:=(r3.cell (p:=⟨wr.heap.size,0,none⟩) l5).trans (cell_of_row _ _ 0 _ _ _ HG5.o)
     have u1:=(r3.cell (p:=⟨wr.heap.size,1,none⟩) l5).trans (cell_of_row _ _ 1 _ _ _ HG5.o)
     have u2:=(r3.cell (p:=⟨wr.heap.size,2,none⟩) l5).trans (cell_of_row _ _ 2 _ _ _ HG5.o)
     have x2:=(r3.frozen (p:=⟨wr.heap.size,2,none⟩) l5).trans (frozen_of_row _ _ 2 _ _ HG5.o)
     have T5T:TypeB w7 wr.heap.size 108:=(show TypeB w5 wr.heap.size 108 from⟨_,_,HG5.o⟩).next r3
     simp only[List.getElem?_toArray,List.getElem?_cons_zero,List.getElem?_cons_succ]at u0 u1 u2
     have hg8:=ai w7 wr.heap.size 2 (.slice A7 tn c7)
     have hsd:some wr.heap.size≠(Value.slice sA' ns sc').ownBlock:= λe=>by have:=(HO.o.slots.lt _ e.symm).2;omega
     have O8:=O7.keptAt hg8 T5T (by decide) (λe=>hsd e.symm) (by simp[Value.ownBlock])
     have TB8:=TB7.kept hg8 (λb' e hl=>.inl ⟨_,by injection e with e;subst e;exact T5T,by decide⟩)
     have L8:Below wa.heap.size wa (w7.setCell ⟨wr.heap.size,2,none⟩ (.slice A7 tn c7)):=(aa hbw W07).setCell (p:=⟨wr.heap.size,2,none⟩) hbw.size _
     obtain⟨A2,c2,w9,q1,q2,q3,q4,q5,q6,_⟩:=cK (P:=prog) (w7.setCell ⟨wr.heap.size,2,none⟩ (.slice A7 tn c7)) wa.heap.size 31 31 108 is0 _ 3 48 underlying31 his hsz0 hsz1 hsz2 rfl (by omega) _ _ _ O8.slots #[.int .i64 s.kind,.string s.data,.slice A7 tn c7] rfl
      (by intro u hu;simp at hu;rcases hu with rfl|rfl|rfl<;>rfl) (by show(ns+1)*48<=_;omega) (by show ns+1<=_;unfold maxLen;omega) L8.size
     dsimp only at q1
     simp only[World.size_setCell]at q1
     have HR:=zh q1
     have W9:=ac (w7.setCell ⟨wr.heap.size,2,none⟩ (.slice A7 tn c7)) (.cells #[.int .i64 s.kind,.string s.data,.slice A7 tn c7] 108)
     have O9:=(O8.next W9).pushSlot (x:=⟨⟨s.kind,s.data,s.table.map f⟩,A7,tn,c7⟩) q2 q6 q4 q5 (by show ns<=_;omega) HSV.o.data (TB8.next W9)
     have hbo8:some bo≠(Value.slice sA' ns sc').ownBlock:= λe=>(hBr.ty.ne (au HO.o.slots e.symm) (by decide)) rfl
     have hbo5:some bo≠some wr.heap.size:= λe=>by injection e;omega
     have BB9:=(((hBr.next W07).kept hg8 hbo5).next W9).kept q6 hbo8
     have hbol8:bo<(w7.setCell ⟨wr.heap.size,2,none⟩ (.slice A7 tn c7)).heap.size:=((hBr.next W07).kept hg8 hbo5).ty.lt
     have X8:=((HBR.o.keep W07 hbol).kept hg8 hbo5)
     obtain⟨f0,f1,f2,f3,f4⟩:=(X8.keep W9 hbol8).kept q6 hbo8
     obtain⟨g0,g1,g2,g3,g4⟩:=X8
     dsimp only at f0 f1 f2 f3 f4 g0 g1 g2 g3 g4
     have y2:=BB9.fz 2
     have hgs:=ai w9 bo 2 (.slice A2 (ns+1) c2)
     have OA:=O9.kept hgs BB9.ty (by decide) (by decide) (by decide)
     have BXA:Box (w9.setCell ⟨bo,2,none⟩ (.slice A2 (ns+1) c2)) bo m.guest ⟨A3,n3,c3,A2,ns+1,c2,fA',nf,fc',none,0,0⟩:=by
      refine⟨?_,?_,?_,?_,?_⟩<;>go_simp
     have BBA:=BB9.set 2 (.slice A2 (ns+1) c2)
     have LA:=((aa hbw W07).setCell (p:=⟨wr.heap.size,2,none⟩) hbw.size (.slice A7 tn c7)|>.trans q3).setCell (p:=⟨bo,2,none⟩) hbo (.slice A2 (ns+1) c2)
     have HOA:=zh OA
     have HBA:=zh BXA
     clear r2 TB7 O7 W07 hsd O8 TB8 q1 q2 O9 W9 hbo8 hbo5 hgs OA BXA hg8 W5 r3 HG5 HXM HBW HW5 HTW
     go_wp2_with (at_builtin;refine aA rfl _ _ _ _ rfl rfl rfl rfl HR.o ?_)
     clear f0 f1 f2 f3 f4 g0 g1 g2 g3 g4 y2 u0 u1 u2 x2 HR q3 q6 BB9 L8 hbol8 T5T
     generalize w9.setCell ⟨bo,2,none⟩ (.slice A2 (ns+1) c2)=WA at*
     have UD:Below wa.heap.size wa WA.drew:=LA.drew
     have dd:Below WA.heap.size WA WA.drew:=(Below.refl WA.heap.size WA).drew
     have OD:=HOA.o.next dd
     have XD:=HBA.o.keep dd BBA.ty.lt
     have BD:=BBA.next dd
     refine eS (λW'=>W'.cell? ⟨bo,3,none⟩=some (.slice fA' nf fc')/\W'.cell? ⟨w.heap.size,3,none⟩=some (.slice (some ⟨b6,o6,none⟩) sn fc)/\W'.cell? ⟨b6,o6+k,none⟩=some (.int .i64 r)) 10 ?_
     generalize WA.drew=WD at*
     obtain⟨A9,c9,wB,tgB,p1,p2,p3,p4,p5⟩:=OD.pushRef r UD.size hnf1 (by show nf<=_;omega)
     dsimp only at p1 p2 p4 p5
     have hne:some bo≠(Value.slice fA' nf fc').ownBlock:= λe=>(BD.ty.ne (p5 _ e.symm) (by decide)) rfl
     have b7:=ac WD (.cells #[.int .i64 r] 3)
     have X7:=XD.keep b7 BD.ty.lt
     have B7:=BD.next b7
     have XB:=X7.kept p4 hne
     have BB:=B7.kept p4 hne
     have m0:=XD.2.2.2.1
     have m7:=X7.2.2.2.1
     have m8:=XB.2.2.2.1
     dsimp only at m0 m7 m8
     have UB:=UD.trans p3
     have U7:=aa UD b7
     have HP:=zh p1
     have HPO:=zh p2
     have HXB:=zh XB
     clear p1 p2 p4 p5 X7 B7 XB OD XD
     have hSS:=And.intro m0 (mvT.o WD UD)
     refine zgo 0 ?_
     refine zgo 1 ?_
     refine zgo 2 ?_
     refine zgo 3 ?_
     refine zgo 4 ?_
     refine zgo 5 ?_
     refine zgo 6 ?_
     clear hSS
     refine aP 7 λK' hK=>?_
     go_simp
     refine hK.o _ _ (λ_=>⟨m7,mvT.o _ U7⟩) ?_
     clear hK
     refine aP 8 λK' hK=>?_
     refine iq rfl _ _ _ _ _ rfl rfl rfl rfl HP.o ?_
     refine hK.o _ _ (λ_=>⟨m8,mvT.o _ UB⟩) ?_
     clear hK
     have y3:=BB.fz 3
     have hgs:=ai wB bo 3 (.slice A9 (nf+1) c9)
     have OF:=zh (HPO.o.kept hgs BB.ty (by decide) (by decide) (by decide))
     have BF:=BB.set 3 (.slice A9 (nf+1) c9)
     have LF:=UB.setCell (p:=⟨bo,3,none⟩) hbo (.slice A9 (nf+1) c9)
     have XF:Hid (Box (wB.setCell ⟨bo,3,none⟩ (.slice A9 (nf+1) c9)) bo m.guest ⟨A3,n3,c3,A2,ns+1,c2,A9,nf+1,c9,none,0,0⟩):=zh (by
      obtain⟨f0,f1,f2,f3,f4⟩:=HXB.o
      dsimp only at f0 f1 f2 f3 f4
      refine⟨?_,?_,?_,?_,?_⟩<;>go_simp)
     clear hgs
     refine aP 9 λK' hK=>?_
     go_simp
     refine hK.o _ _ (λ_=>⟨m8,mvT.o _ UB⟩) ?_
     clear hK
     refine aP 10 λK' hK=>?_
     go_simp
     refine hK.nx ?_
     clear hK
     refine cT ?_
     clear mvT
     go_wp2_with fail
     go_roundw
     case rel=>exact⟨k+1,ns+1,nf+1,A2,A9,c2,c9,tgB,_,by omega,by omega,by go_num,by omega,by omega,by omega,by rw[HK0.o,HR0.o];unfold eV;rw[HF.o];exact OF.o,XF.o,BF,LF⟩
     case measure=>simp[intOf];omega
   ·have HKA:=zh (show jM m.slots k=di m.slots from zJ (by have:=HSN.o;omega))
    have HRA:=zh (show dN (m.slots.take k) (m.refs.take k)=dN m.slots m.refs from by rw[List.take_of_length_le (by have:=HSN.o;omega),List.take_of_length_le (by have:=HRL.o;have:=HSN.o;omega)])
    obtain rfl:k=sn:=by omega
    rw[HKA.o,HRA.o]at HO
    clear HKA HRA
    go_wp2_with fail
    clear b0 b1 b2 b3 b4
    have HO1:=zh HO.o
    have HB1R:=zh HBR.o
    go_loopw [6] (λi wr=>∃(l:Nat) (pA':Option Addr) (pc':Nat) (tg:Nat->Nat) (p:List PV),l<=pn/\i=.int .i64 l/\OwnI wr wa.heap.size tg ⟨A3,n3,c3,sA',ns,sc',fA',nf,fc',pA',l,pc'⟩ q p ⟨m.guest,m.root.map f,di m.slots,dN m.slots m.refs,(m.snaps.take l).map (ja m.slots)⟩/\Box wr bo m.guest ⟨A3,n3,c3,sA',ns,sc',fA',nf,fc',pA',l,pc'⟩/\BoxB wr bo/\Below wa.heap.size wa wr) (λi _=>pn-(intOf i).toNat)
    case atStart=>exact⟨0,none,0,tg,[],Nat.zero_le _,rfl,HO1.o,HB1R.o,hBr,hbw⟩
    case round=>
     clear HO HBR hBr hbw TW HO1 HB1R
     obtain⟨l,pA',pc',tg,p,hl,rfl,ho,hbx,hBr,hbw⟩:=hrel
     have HO:=zh ho
     have HBR:=zh hbx
     clear ho hbx
     have X:=HXw.o.keep hbw (by omega)
     obtain⟨b0,b1,b2,b3,b4⟩:=X
     dsimp only at b0 b1 b2 b3 b4
     have TW:=HB1.trans (hbw.mono hzz)
     have hpn4:pn<=4:=Nat.le_trans (Nat.le_of_eq HPN.o.symm) h4
     by_cases hlt:l<pn
     ·obtain⟨b,o,s,tA,tn,tc,rfl,hb,hx,d0,d1,d2,hsv⟩:=HI.o.snaps.at_ (k:=l) hlt
      have d0':=(TW.cell (p:=⟨b,o+l*3,none⟩) hb).trans d0
      have d1':=(TW.cell (p:=⟨b,o+l*3+1,none⟩) hb).trans d1
      have d2':=(TW.cell (p:=⟨b,o+l*3+2,none⟩) hb).trans d2
      have HTK:=zh (show(m.snaps.take (l+1)).map (ja m.slots)=(m.snaps.take l).map (ja m.slots)++[⟨s.name,s.guest,s.root.map f⟩]from by rw[List.take_add_one,hx,List.map_append];rw[<-HF.o];rfl)
      have hmem:=List.mem_of_getElem? hx
      have ht4:tn<=4:=by have:=HS.o.cbd.roots s hmem;have:=hsv.root.len;omega
      have HSV:=zh hsv
      have e0:(0:Int)<=(l:Int):=by omega
      have e1:(l:Int)<(pn:Int):=by omega
      have hbol:=hBr.ty.lt
      have W5:=ac wr (.cells #[.string s.name,.int .i64 s.guest,.slice tA tn tc] 102)
      have KT:=zh (KA.o tA tn tc s.root ht4 (λy hy=>gI HS.o (List.mem_cons_of_mem _ (List.mem_map_of_mem hmem)) hy) (wr.alloc (.cells #[.string s.name,.int .i64 s.guest,.slice tA tn tc] 102)) (aa TW W5) ((Rd.next HSV.o.root TW).next W5))
      have G5:=heap_alloc_new wr (.cells #[.string s.name,.int .i64 s.guest,.slice tA tn tc] 102)
      have l5:wr.heap.size<(wr.alloc (.cells #[.string s.name,.int .i64 s.guest,.slice tA tn tc] 102)).heap.size:=by simp
      obtain⟨a0,a1,a2,a3,a4⟩:=(HXw.o.keep hbw lw).keep W5 (Nat.lt_of_lt_of_le lw hbw.size)
      dsimp only at a0 a1 a2 a3 a4
      clear hx d0 d1 d2 hsv hmem
      go_upto_region 14 with fail
      generalize wr.alloc (.cells #[.string s.name,.int .i64 s.guest,.slice tA tn tc] 102)=w5 at*
      have v2:=cell_of_row _ _ 2 _ _ _ G5
      simp only[List.getElem?_toArray,List.getElem?_cons_zero,List.getElem?_cons_succ]at v2
      have HG5:=zh G5
      have HBW:=zh hbw
      have HW5:=zh W5
      have HTW:=zh TW
      clear b0 b1 b2 b3 b4 d0' d1' d2' G5 hbw W5 TW
      go_wp2_with fail
      have hbw:=HBW.o
      have W5:=HW5.o
      have TW:=HTW.o
      refine KT.o.mono ?_
      rintro e w7 ⟨A7,c7,rfl,r2,r3,r4,r5⟩
      clear KT a0 a1 a2 a3 a4 v2
      have TB7:=TabO.made (base:=wa.heap.size) (tg:=tg) (t:=2*l+5) (.inr r2) (by have:=hbw.size;have:=W5.size;omega) (by omega) r4 r5
      have O7:=((HO.o.next W5).retag (tg':= λg=>if w5.heap.size<=g then 2*l+5 else tg g) (λb' hb'=>if_neg (by omega))).next r3
      generalize (λg=>if w5.heap.size<=g then 2*l+5 else tg g)=tg7 at*
      have W07:=aa W5 r3
      have u0:=(r3.cell (p:=⟨wr.heap.size,0,none⟩) l5).trans (cell_of_row _ _ 0 _ _ _ HG5.o)
      have u1:=(r3.cell (p:=⟨wr.heap.size,1,none⟩) l5).trans (cell_of_row _ _ 1 _ _ _ HG5.o)
      have u2:=(r3.cell (p:=⟨wr.heap.size,2,none⟩) l5).trans (cell_of_row _ _ 2 _ _ _ HG5.o)
      have x2:=(r3.frozen (p:=⟨wr.heap.size,2,none⟩) l5).trans (frozen_of_row _ _ 2 _ _ HG5.o)
      have T5T:TypeB w7 wr.heap.size 102:=(show TypeB w5 wr.heap.size 102 from⟨_,_,HG5.o⟩).next r3
      simp only[List.getElem?_toArray,List.getElem?_cons_zero,List.getElem?_cons_succ]at u0 u1 u2
      have hg8:=ai w7 wr.heap.size 2 (.slice A7 tn c7)
      have hsd:some wr.heap.size≠(Value.slice pA' l pc').ownBlock:= λe=>by have:=(HO.o.snaps.lt _ e.symm).2;omega
      have hsl:(Value.slice sA' ns sc').ownBlock≠some wr.heap.size:= λe=>by have:=(HO.o.slots.lt _ e).2;omega
      have O8:=O7.keptAt hg8 T5T (by decide) hsl (λe=>hsd e.symm)
      have TB8:=TB7.kept hg8 (λb' e hl=>.inl ⟨_,by injection e with e;subst e;exact T5T,by decide⟩)
      have L8:Below wa.heap.size wa (w7.setCell ⟨wr.heap.size,2,none⟩ (.slice A7 tn c7)):=(aa hbw W07).setCell (p:=⟨wr.heap.size,2,none⟩) hbw.size _
      obtain⟨A2,c2,w9,q1,q2,q3,q4,q5,q6,_⟩:=cK (P:=prog) (w7.setCell ⟨wr.heap.size,2,none⟩ (.slice A7 tn c7)) wa.heap.size 32 32 102 ip0 _ 3 48 underlying32 hip hpz0 hpz1 hpz2 rfl (by omega) _ _ _ O8.snaps #[.string s.name,.int .i64 s.guest,.slice A7 tn c7] rfl
       (by intro u hu;simp at hu;rcases hu with rfl|rfl|rfl<;>rfl) (by show(l+1)*48<=_;omega) (by show l+1<=_;unfold maxLen;omega) L8.size
      dsimp only at q1
      simp only[World.size_setCell]at q1
      have HR:=zh q1
      have W9:=ac (w7.setCell ⟨wr.heap.size,2,none⟩ (.slice A7 tn c7)) (.cells #[.string s.name,.int .i64 s.guest,.slice A7 tn c7] 102)
      have O9:=(O8.next W9).pushSnap (x:=⟨⟨s.name,s.guest,s.root.map f⟩,A7,tn,c7⟩) q2 q6 q4 q5 (by show l<=_;omega) HSV.o.name (TB8.next W9)
      have hbo8:some bo≠(Value.slice pA' l pc').ownBlock:= λe=>(hBr.ty.ne (au HO.o.snaps e.symm) (by decide)) rfl
      have hbo5:some bo≠some wr.heap.size:= λe=>by injection e;omega
      have BB9:=(((hBr.next W07).kept hg8 hbo5).next W9).kept q6 hbo8
      have hbol8:bo<(w7.setCell ⟨wr.heap.size,2,none⟩ (.slice A7 tn c7)).heap.size:=((hBr.next W07).kept hg8 hbo5).ty.lt
      have X8:=((HBR.o.keep W07 hbol).kept hg8 hbo5)
      obtain⟨f0,f1,f2,f3,f4⟩:=(X8.keep W9 hbol8).kept q6 hbo8
      obtain⟨g0,g1,g2,g3,g4⟩:=X8
      dsimp only at f0 f1 f2 f3 f4 g0 g1 g2 g3 g4
      have y2:=BB9.fz 4
      have hgs:=ai w9 bo 4 (.slice A2 (l+1) c2)
      have OA:=O9.kept hgs BB9.ty (by decide) (by decide) (by decide)
      have BXA:Box (w9.setCell ⟨bo,4,none⟩ (.slice A2 (l+1) c2)) bo m.guest ⟨A3,n3,c3,sA',ns,sc',fA',nf,fc',A2,l+1,c2⟩:=by
       refine⟨?_,?_,?_,?_,?_⟩<;>go_simp
      have BBA:=BB9.set 4 (.slice A2 (l+1) c2)
      have LA:=(L8.trans q3).setCell (p:=⟨bo,4,none⟩) hbo (.slice A2 (l+1) c2)
      have HOA:=zh OA
      have HBA:=zh BXA
      clear r2 TB7 O7 W07 hsd O8 TB8 q1 q2 O9 W9 hbo8 hbo5 hgs OA BXA hg8 W5 hsl r3 HG5 HBW HW5 HTW
      go_wp2_with (at_builtin;refine aA rfl _ _ _ _ rfl rfl rfl rfl HR.o ?_)
      go_roundw
      case rel=>exact⟨l+1,A2,c2,tg7,_,by omega,by go_num,by rw[HTK.o];exact HOA.o,HBA.o,BBA,LA⟩
      case measure=>simp[intOf];omega
     ·have hall:(m.snaps.take l).map (ja m.slots)=m.snaps.map (ja m.slots):=by rw[List.take_of_length_le (by have:=HPN.o;omega)]
      rw[hall]at HO
      clear hall
      have hlt1:w.heap.size+1<wa.heap.size:=by omega
      have Z9:ZB wr (w.heap.size+1):=⟨(hbw.block _ hlt1).trans HZA.o.heap⟩
      have h5:=dr Z9.box.1 Z9.box.2 m.guest ⟨A3,n3,c3,sA',ns,sc',fA',nf,fc',pA',l,pc'⟩
      have hfin:=zh ((HO.o.kept h5.2.2 Z9.box.1.ty (by decide) (by decide) (by decide)).lower hzz)
      have hbf:=zh (TW.grown h5.2.2 TW.size (λj e=>by injection e with e;omega))
      have HK:=zh h5.1
      obtain⟨y0,y1,y2,y3,y4⟩:=Z9.cells
      obtain⟨x0,x1,x2,x3,x4⟩:=Z9.froz
      obtain⟨g0,g1,g2,g3,g4⟩:=HBR.o
      dsimp only at g0 g1 g2 g3 g4
      clear h5
      go_wp2_with fail
      obtain⟨k0,k1,k2,k3,k4⟩:=HK.o
      refine bodyPost_ret (v:=ae (cL m) ⟨A3,n3,c3,sA',ns,sc',fA',nf,fc',pA',l,pc'⟩) ?_ rfl ⟨_,tg,q,p,rfl,by unfold cL;rw[HF.o];exact hfin.o,hbf.o⟩
      simp[results,results46,go_sem,ae,cL,k0,k1,k2,k3,k4]
end Go.Proofs.YtdbneghfbkjinaaGreatDoor
