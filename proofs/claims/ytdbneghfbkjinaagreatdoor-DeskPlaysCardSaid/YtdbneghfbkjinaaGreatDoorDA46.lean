/- Texts of the proof of deskPlays_holds: RResizes. Conditions: as each text says. -/
import Derived.Test.YtdbneghfbkjinaaGreatDoorDA1
import Derived.Test.YtdbneghfbkjinaaGreatDoorDA45
set_option maxRecDepth 100000
set_option maxHeartbeats 4000000
namespace Go.Proofs.YtdbneghfbkjinaaGreatDoor
open Go.Proofs.Tryz hiding bare
open Go.RowKit Sl
theorem BS (T:Nat->Prop) (w:World) (base:Nat) (A:Option Addr) (n c:Nat) (xs:List Int) (h:(n=0/\xs=[]/\c=0)\/(w.ownsRow base 3 1 (.slice A n c) n (ah xs)/\ ∀b,(Value.slice A n c).ownBlock=some b->T b)) (hn:n<=1000000) (hb:base<=w.heap.size):
  ∃g c' w' row,(Builtin.append_ #[30,30] 30 #[.slice A n c,.slice (some ⟨w.heap.size,0,none⟩) 1 1]).run prog (w.alloc (.cells #[.int .i64 0] 3))=.ok (.slice (some ⟨g,0,none⟩) (n+1) c') w'/\
   w'.ownsRow base 3 1 (.slice (some ⟨g,0,none⟩) (n+1) c') (n+1) (ah (xs++[0]))/\n+1<=c'/\c'<=maxLen/\(w.alloc (.cells #[.int .i64 0] 3)).grownBy w' row/\(∀b,row=some b->base<=b/\TypeB w b 3/\T b)/\(w.heap.size+1<=g\/(g<w.heap.size/\T g)):=by
 obtain⟨i0,hi0,hz0,hz1,hz2⟩:=info_parts infoInt
 have hb1:(n+1)*8<=140737488355328:=by omega
 have hm1:n+1<=maxLen:=by unfold maxLen;omega
 have hs1:(w.alloc (.cells #[.int .i64 0] 3)).heap.size=w.heap.size+1:=World.size_alloc _ _
 have e0:ah (xs++[0])=ah xs++#[Value.int .i64 0].toList:=by simp[ah]
 have blk:∀{v':Value} {w':World},w'.ownsRow base 3 1 v' (n+1) (ah xs++#[Value.int .i64 0].toList)->∃g c',v'=.slice (some ⟨g,0,none⟩) (n+1) c'/\n+1<=c'/\c'<=maxLen:= λho=>by
  rcases ho.2 with⟨_,h0⟩|⟨g,cap,cur,hv,_,_,h1,h2,_⟩
  ·omega
  ·exact⟨g,cap,hv,h1,h2⟩
 rcases h with⟨rfl,rfl,rfl⟩|⟨h,hT⟩
 ·cases A with
  |none=>
   obtain⟨A',c',w',q1,q2,q3,q4,q5,q6,q7⟩:=cK (P:=prog) w base 30 30 3 i0 _ 1 8 underlying30 hi0 hz0 hz1 hz2 rfl (by omega) (.slice none 0 0) 0 [] (World.ownsRow_nil _ _ _ _) #[.int .i64 0] rfl (by intro u hu;simp at hu;subst hu;rfl) hb1 hm1 hb
   obtain⟨g,c2,hv,h1,h2⟩:=blk q2
   simp only[Value.slice.injEq]at hv
   obtain⟨rfl,_,rfl⟩:=hv
   refine⟨g,c',w',_,q1,by rw[e0];exact q2,q4,q5,q6,(λb e=>by cases e),.inl ?_⟩
   rcases q7 with e|e
   ·cases e
   ·injection e with e;exact Nat.le_of_eq e.symm
  |some b=>
   obtain⟨v',w',q1,q2,q3⟩:=run_append_arg_grows (P:=prog) (w:=w.alloc (.cells #[.int .i64 0] 3)) 30 30 3 i0 _ 1 8 underlying30 hi0 hz0 hz1 hz2 rfl (by omega) b 0 0 [] rfl (λj u e=>by simp at e) ⟨w.heap.size,0,none⟩ 1 1 #[Value.int .i64 0].toList rfl (λj u e=>by
    have hc:=cell_of_row (w.alloc (.cells #[.int .i64 0] 3)) w.heap.size j _ _ _ (heap_alloc_new w _)
    rw[Addr.add_lit,Nat.zero_add,hc,<-Array.getElem?_toList];exact e) (by omega) (by unfold maxLen;omega) (by omega)
   have q2':w'.ownsRow base 3 1 v' (0+1) ([]++#[Value.int .i64 0].toList):=⟨q2.1,q2.2.imp id λ⟨g,cap,cur,h1,h2,h3⟩=>⟨g,cap,cur,h1,by omega,h3⟩⟩
   obtain⟨g,c2,rfl,h1,h2⟩:=blk q2'
   refine⟨g,c2,w',_,q1,by rw[e0];exact q2',h1,h2,q3,(λb e=>by cases e),.inl ?_⟩
   have:=(q2.lt g rfl).1
   omega
 ·obtain⟨A',c',w',q1,q2,q3,q4,q5,q6,q7⟩:=cK (P:=prog) w base 30 30 3 i0 _ 1 8 underlying30 hi0 hz0 hz1 hz2 rfl (by omega) (.slice A n c) n (ah xs) h #[.int .i64 0] rfl (by intro u hu;simp at hu;subst hu;rfl) hb1 hm1 hb
  obtain⟨g,c2,hv,h1,h2⟩:=blk q2
  simp only[Value.slice.injEq]at hv
  obtain⟨rfl,_,rfl⟩:=hv
  refine⟨g,c',w',_,q1,by rw[e0];exact q2,q4,q5,q6,λb e=>⟨(h.lt b e).1,au h e,hT b e⟩,?_⟩
  rcases q7 with e|e
  ·exact .inr ⟨(h.lt g e.symm).2,hT g e.symm⟩
  ·left;injection e with e;exact Nat.le_of_eq e.symm
section
variable {w w':World} {base:Nat} {tg:Nat->Nat} {v:IV} {q:List SV} {p:List PV} {m:Img}
theorem OwnI.push0 (h:OwnI w base tg v q p m) (hb:base<=w.heap.size) (hn:v.rn<=1000000):∃g c' w' tg',(Builtin.append_ #[30,30] 30 #[.slice v.rA v.rn v.rc,.slice (some ⟨w.heap.size,0,none⟩) 1 1]).run prog (w.alloc (.cells #[.int .i64 0] 3))=.ok (.slice (some ⟨g,0,none⟩) (v.rn+1) c') w'/\
  OwnI w' base tg' {v with rA:=some ⟨g,0,none⟩,rn:=v.rn+1,rc:=c'} q p {m with root:=m.root++[0]}/\Below base w w'/\ ∀b T,TypeB w b T->T≠3->w'.heap[b]? =w.heap[b]? :=by
 obtain⟨g,c',w',row,r1,r2,r3,r4,r5,r6,r7⟩:=BS (λb=>tg b=0) w base v.rA v.rn v.rc m.root (h.root.2.2.imp (λhh=>⟨hh.1,hh.2.1,hh.2.2.resolve_left (by decide)⟩) id) hn hb
 have hm:c'<=9223372036854775807:=by unfold maxLen at r4;omega
 have hs1:(w.alloc (.cells #[.int .i64 0] 3)).heap.size=w.heap.size+1:=World.size_alloc _ _
 have hW:=ac w (.cells #[.int .i64 0] 3)
 have h1:=(h.next hW).retag (tg':= λj=>if w.heap.size+1<=j then 0 else tg j) λj hj=>if_neg (by omega)
 have hty:∀b,row=some b->TypeB (w.alloc (.cells #[.int .i64 0] 3)) b 3:= λb e=>(r6 b e).2.1.next hW
 have ht:∀{t n c:Nat} {A:Option Addr} {xs:List Int},TabO (w.alloc (.cells #[.int .i64 0] 3)) base (λj=>if w.heap.size+1<=j then 0 else tg j) t A n c xs->t≠0->TabO w' base (λj=>if w.heap.size+1<=j then 0 else tg j) t A n c xs:= λhh hn=>hh.kept r5 λb' e _=>.inr (by
  have:=(r6 b' e).2.2
  have:=(r6 b' e).2.1.lt
  rw[if_neg (by omega)];omega)
 have hf:∀{e:TypeId} {size n:Nat} {x:Value} {xs:List Value},(w.alloc (.cells #[.int .i64 0] 3)).ownsRow base e size x n xs->3≠e->w'.ownsRow base e size x n xs:= λho hne=>ho.kept r5 (by
  cases hr:row with
  |none=>exact xo
  |some b=>exact bH ho (hty b hr) hne)
 have hrt:TabO w' base (λj=>if w.heap.size+1<=j then 0 else tg j) 0 (some ⟨g,0,none⟩) (v.rn+1) c' (m.root++[0]):=⟨r3,⟨by omega,hm⟩,.inr ⟨r2,λj e=>by
  simp only[Value.ownBlock,Option.some.injEq]at e
  subst e
  show(if _ then _ else _)=_
  rcases r7 with e|⟨e,e2⟩
  ·rw[if_pos (by omega)]
  ·rw[if_neg (by omega)];exact e2⟩⟩
 refine⟨g,c',w',_,r1,⟨hrt,ht h1.refs (by decide),hf h1.slots (by decide),h1.sle,h1.scap,hf h1.snaps (by decide),h1.ple,h1.pcap,h1.hq,h1.hp,λk x hx=>⟨(h1.tabs k x hx).1,ht (h1.tabs k x hx).2 (by omega)⟩,λk x hx=>⟨(h1.roots k x hx).1,ht (h1.roots k x hx).2 (by omega)⟩⟩,
  (hW.mono hb).grown r5 (by omega) (λk e=>(r6 k e).1),λb T hT hne=>?_⟩
 refine(r5.block b (by have:=hT.lt;omega) λe=>?_).trans (hW.block b hT.lt)
 exact(hT.next hW).ne (hty b e.symm) hne rfl
theorem TabO.take {n c k:Nat} {A:Option Addr} {xs:List Int} (h:TabO w base tg 0 A n c xs) (hk:k<=n):TabO w base tg 0 A k c (xs.take k):=by
 refine⟨by have:=h.1;omega,⟨by have:=h.2.1;omega,h.2.1.2⟩,?_⟩
 rcases h.2.2 with⟨h1,h2,h3⟩|⟨ho,ht⟩
 ·subst h2;exact .inl ⟨by omega,by simp,h3⟩
 ·right
  refine⟨?_,λb e=>ht b ?_⟩
  ·cases A with
   |none=>
    rcases ho.2 with⟨_,h0⟩|⟨g,cap,cur,hv,_⟩
    ·have:xs=[]:=by have:=ho.1;simp[ah]at this;exact List.eq_nil_of_length_eq_zero (by omega)
     subst this
     obtain rfl:k=0:=by omega
     subst h0
     simpa using ho
    ·simp at hv
   |some a=>
    rcases ho.2 with⟨hv,_⟩|⟨g,cap,cur,hv,_⟩
    ·simp at hv
    ·simp only[Value.slice.injEq,Option.some.injEq]at hv
     obtain⟨rfl,_,rfl⟩:=hv
     exact nW ho hk
  ·cases A with
   |none=>exact e
   |some a=>exact e
end
def xE (w:World) (b:Nat):Nat:=match w.cell? ⟨b,1,none⟩with
 |some (.slice _ n _)=>n
 |_=>0
theorem uj {w:World} {b n c:Nat} {A:Option Addr} (h:w.cell? ⟨b,1,none⟩=some (.slice A n c)):xE w b=n:=by unfold xE;rw[h]
theorem BT {l:List Int} {k W:Nat} (hk:k<=16) (hW:W<=l.length+k):(l++List.replicate k 0).take W=(l++List.replicate 16 0).take W:=by
 rw[List.take_append,List.take_append,List.take_replicate,List.take_replicate]
 congr 2;omega
def BU (m:Img) (g:Nat) (w w5:World) (bo:Nat) (p:List PV) (wx:World):Prop:=∃(x:Img) (v:IV) (q:List SV) (tg:Nat->Nat),OwnI wx w5.heap.size tg v q p x/\Box wx bo x.guest v/\BoxB wx bo/\ZB wx (w.heap.size+1)/\Below w.heap.size w wx/\w5.heap.size<=wx.heap.size/\bW m g=some (eO x g)/\x.root.length<=4
theorem uk (v:IV) (m:Img) (g:Nat) (w:World) (h:ImgR w w.heap.size v m) (hm:ab m=0) (hg:g<=16) (X:Img) (er:Int) (hX0:kP (bW m g)=X) (hE0:iM (bW m g)=er):
  Calls prog 95 #[ae m v,.int .i64 g] w (aF w.heap.size X er w):=by
 have S:=ay (aq hm).1
 have hg16:=(gi hm).2.1
 have hmod:((g%4:Nat):Int)=(g:Int)%4:=by omega
 have hdiv:((g/4:Nat):Int)=(g:Int)/4:=by omega
 have htm:(g:Int).tmod 4=(g:Int)%4:=Int.tmod_eq_emod_of_nonneg (by omega)
 have htd:(g:Int).tdiv 4=(g:Int)/4:=Int.tdiv_eq_ediv_of_nonneg (by omega)
 have hrl:=dw hm
 have K1':= λW (hb:Below w.heap.size w W)=>bg v m W (h.next hb)
 rw[hm]at K1'
 have KO':= λW (hb:Below w.heap.size w W)=>fs v m W (h.next hb) S.cbd (by rw[hrl];exact S.cbd.slots)
 have KW':= λW=>aW (g:Int) 0 16 W
 have g0:decide ((0:Int)<=(g:Int))=true:=decide_eq_true (by omega)
 have g1:decide ((g:Int)<=16)=true:=decide_eq_true (by omega)
 rw[g0,g1,Bool.and_self]at KW'
 have KV':= λW=>iA (g:Int) W (by omega) (by omega)
 rw[j9 g]at KV'
 obtain⟨W2,hW,f1,f2,_,f4,f5⟩:=eU w m.guest v
 have hrn':=h.rlen
 have hrc:=h.rcap.1
 have HR4:m.root.length<=4:=by have h1:=(dY (gi hm).2.2).1;unfold a6 at h1;omega
 have KE1:= λW (hb:Below w.heap.size w W) (h2:g/4<m.root.length)=>jK v m (g/4) W (h.next hb) hm h2
 have HRT:=zh h.root
 obtain⟨rA,rn,rc,sA,sn,sc,fA,fn,fc,pA,pn,pc⟩:=v
 dsimp only[ae]at*
 have KE0:=zh KE1
 have HM:=zh hm
 obtain⟨x0,x1,x2,x3,x4⟩:=f2
 dsimp only at x0 x1 x2 x3 x4
 have K1:=zh (K1' _ f1)
 have KO:=zh KO'
 have KW:=zh KW'
 have KV:=zh KV'
 have F1:=zh f1
 have FZ:=zh f4
 have HX0:=zh hX0
 have HE0:=zh hE0
 have HS:=zh S
 have hrn:=zh hrn'
 clear h KE1 hm K1' KO' KW' KV' hX0 hE0 S hrn' g0 g1
 go_enter func95,ntmps95
 go_wp2_with fail
 rw[hW.o]
 refine K1.o.mono ?_
 rintro e' w5 ⟨rfl,hb5⟩
 have B5:=aa F1.o hb5
 have hs5:=hb5.size
 have hl0:w.heap.size<W2.heap.size:=by omega
 have z0:=(hb5.cell (p:=⟨w.heap.size,0,none⟩) hl0).trans x0
 have z1:=(hb5.cell (p:=⟨w.heap.size,1,none⟩) hl0).trans x1
 have z2:=(hb5.cell (p:=⟨w.heap.size,2,none⟩) hl0).trans x2
 have z3:=(hb5.cell (p:=⟨w.heap.size,3,none⟩) hl0).trans x3
 have z4:=(hb5.cell (p:=⟨w.heap.size,4,none⟩) hl0).trans x4
 have HB5:=zh hb5
 have HT5:=zh B5
 clear x0 x1 x2 x3 x4 hb5 B5 K1
 go_wp2_with fail
 refine(KW.o _).mono ?_
 rintro e' w6 ⟨rfl,rfl⟩
 have KO5:=zh (KO.o _ HT5.o)
 clear KO KW
 go_wp2_with fail
 refine KO5.o.mono ?_
 rintro e' w7 ⟨⟨rA7,rn7,rc7,sA7,sn7,sc7,fA7,fn7,fc7,pA7,pn7,pc7⟩,tg,q,p,rfl,hO7,hb7⟩
 have hb8:=ac w7 (.cells #[.int .i64 m.guest,.slice rA7 rn7 rc7,.slice sA7 sn7 sc7,.slice fA7 fn7 fc7,.slice pA7 pn7 pc7] 34)
 have T8:=aa hb7 hb8
 have HX8:=zh (Box.new w7 m.guest ⟨rA7,rn7,rc7,sA7,sn7,sc7,fA7,fn7,fc7,pA7,pn7,pc7⟩ 34)
 have HB8:=zh (BoxB.new w7 #[.int .i64 m.guest,.slice rA7 rn7 rc7,.slice sA7 sn7 sc7,.slice fA7 fn7 fc7,.slice pA7 pn7 pc7])
 have HO8:=zh (hO7.next hb8)
 have hs7:=hb7.size
 have HU8:=zh (aa HT5.o T8)
 have HZ8:=zh (FZ.o.nextB (aa HB5.o T8) (by omega))
 have HT8:=zh T8
 have hl8:w7.heap.size<(w7.alloc (.cells #[.int .i64 m.guest,.slice rA7 rn7 rc7,.slice sA7 sn7 sc7,.slice fA7 fn7 fc7,.slice pA7 pn7 pc7] 34)).heap.size:=by simp
 have hl2:w.heap.size<w5.heap.size:=by omega
 have y0:=(T8.cell (p:=⟨w.heap.size,0,none⟩) hl2).trans z0
 have y1:=(T8.cell (p:=⟨w.heap.size,1,none⟩) hl2).trans z1
 have y2:=(T8.cell (p:=⟨w.heap.size,2,none⟩) hl2).trans z2
 have y3:=(T8.cell (p:=⟨w.heap.size,3,none⟩) hl2).trans z3
 have y4:=(T8.cell (p:=⟨w.heap.size,4,none⟩) hl2).trans z4
 dsimp only[ae]
 clear z0 z1 z2 z3 z4 hO7 hb7 hb8 T8 KO5
 go_upto_region 8 with fail
 generalize (w7.alloc (.cells #[.int .i64 m.guest,.slice rA7 rn7 rc7,.slice sA7 sn7 sc7,.slice fA7 fn7 fc7,.slice pA7 pn7 pc7] 34))=w8 at*
 have hrnm:m.root.length=rn:=hrn.o
 go_cut [36] (λb wx=>w8=wx/\b=.bool (decide (0<g%4/\g/4<m.root.length)))
 case first=>
  by_cases h1:0<g%4
  ·have e4:((g:Int)%4 !=0)=true:=by simp;omega
   by_cases h2:g/4<rn
   ·have e5:decide ((g:Int)/4<(rn:Int))=true:=decide_eq_true (by omega)
    go_wp2_with fail
    go_meet
    case rel=>exact⟨rfl,by simp[h1,hrnm,h2]⟩
   ·have e5:decide ((g:Int)/4<(rn:Int))=false:=decide_eq_false (by omega)
    go_wp2_with fail
    go_meet
    case rel=>exact⟨rfl,by simp[hrnm,h2]⟩
  ·have e4:((g:Int)%4 !=0)=false:=by simp;omega
   go_wp2_with fail
   go_meet
   case rel=>exact⟨rfl,by simp[h1]⟩
 obtain⟨rfl,rfl⟩:=hcut
 go_upto_if 36 with fail
 go_cut [12] (λ_ wx=>BU m g w w5 w7.heap.size p wx)
 case first=>
  by_cases hc:0<g%4/\g/4<m.root.length
  case neg=>
   have hcd:decide (0<g%4/\g/4<m.root.length)=false:=decide_eq_false hc
   go_wp2_with fail
   go_meet
   case rel=>exact⟨m,⟨rA7,rn7,rc7,sA7,sn7,sc7,fA7,fn7,fc7,pA7,pn7,pc7⟩,q,tg,HO8.o,HX8.o,HB8.o,HZ8.o,HU8.o,HT8.o.size,mO hc,HR4⟩
  have hcd:decide (0<g%4/\g/4<m.root.length)=true:=decide_eq_true hc
  obtain⟨rb,ro,t,hA,hrb,hti,hct⟩:=HRT.o.at1 (k:=g/4) (by omega)
  have hit:=bG hti
  have KE':= λW hb=>KE0.o W hb hc.2
  rw[hit]at KE'
  obtain⟨f41,f42,f43⟩:=dC HM.o hc.2
  obtain⟨j1,j2,j3⟩:=mM f41 (n:=g%4) (by omega)
  subst hA
  have hk0:(0:Int)<=(g:Int)/4:=by omega
  have hk1:(g:Int)/4<(rn:Int):=by omega
  have hct2:=(F1.o.cell (p:=⟨rb,ro+g/4,none⟩) hrb).trans hct
  have KE:=zh KE'
  have HJ1:=zh j1
  have HJ2:=zh j2
  have H4:=zh (aU f41).1
  clear KE' j1 j2 j3 f41 f42 f43 hti hct hit
  go_upto_region 9 with fail
  have c5:=(HT8.o.cell (p:=⟨rb,ro+g/4,none⟩) (show rb<w5.heap.size by omega)).trans ((HB5.o.cell (p:=⟨rb,ro+g/4,none⟩) (show rb<W2.heap.size by omega)).trans hct2)
  clear hct2
  have hbd:Hid (Below w.heap.size w w8.drew):=zh HU8.o.drew
  have hto:((g:Int)/4).toNat=g/4:=by omega
  have c6:w8.cell? ⟨rb,ro+((g:Int)/4).toNat,none⟩=some (.int .i64 t):=by rw[hto];exact c5
  have hlw:w.heap.size<w8.heap.size:=by omega
  have hlr:rb<w8.heap.size:=by omega
  have mvS:=zh (λ(W':World) (hb:Below w8.drew.heap.size w8.drew W')=>(show(W'.cell? ⟨w.heap.size,0,none⟩=some (.int .i64 m.guest)/\W'.cell? ⟨w.heap.size,1,none⟩=some (.slice (some ⟨rb,ro,none⟩) rn rc)/\W'.cell? ⟨w.heap.size,2,none⟩=some (.slice sA sn sc)/\W'.cell? ⟨w.heap.size,3,none⟩=some (.slice fA fn fc)/\W'.cell? ⟨w.heap.size,4,none⟩=some (.slice pA pn pc)/\W'.cell? ⟨rb,ro+((g:Int)/4).toNat,none⟩=some (.int .i64 t)/\W'.cell? ⟨rb,ro+g/4,none⟩=some (.int .i64 t))from
   ⟨(hb.cell (p:=⟨w.heap.size,0,none⟩) hlw).trans y0,(hb.cell (p:=⟨w.heap.size,1,none⟩) hlw).trans y1,(hb.cell (p:=⟨w.heap.size,2,none⟩) hlw).trans y2,(hb.cell (p:=⟨w.heap.size,3,none⟩) hlw).trans y3,(hb.cell (p:=⟨w.heap.size,4,none⟩) hlw).trans y4,(hb.cell (p:=⟨rb,ro+((g:Int)/4).toNat,none⟩) hlr).trans c6,(hb.cell (p:=⟨rb,ro+g/4,none⟩) hlr).trans c5⟩))
  go_region_held3 (λW'=>(W'.cell? ⟨w.heap.size,0,none⟩=some (.int .i64 m.guest)/\W'.cell? ⟨w.heap.size,1,none⟩=some (.slice (some ⟨rb,ro,none⟩) rn rc)/\W'.cell? ⟨w.heap.size,2,none⟩=some (.slice sA sn sc)/\W'.cell? ⟨w.heap.size,3,none⟩=some (.slice fA fn fc)/\W'.cell? ⟨w.heap.size,4,none⟩=some (.slice pA pn pc)/\W'.cell? ⟨rb,ro+((g:Int)/4).toNat,none⟩=some (.int .i64 t)/\W'.cell? ⟨rb,ro+g/4,none⟩=some (.int .i64 t)))
   (first|exact⟨y0,y1,y2,y3,y4,c6,c5⟩|exact mvS.o _ hb9)
   (first|(go_at_call 152;refine(KE.o _ hbd.o).mono ?_;rintro e' w9 ⟨A9,c9,rfl,ho9,hb9,hc9,hm9⟩))
  have hdd:Below w8.heap.size w8 w9:=aa (Below.refl w8.heap.size w8).drew hb9
  have hRd9:=Rd.of_own ho9
  have KT':=AU A9 4 c9 (af m (g/4)) ((g%4:Nat):Int) w9 hRd9 (by unfold maxLen;omega)
  rw[HJ1.o,HJ2.o,hmod]at KT'
  have KT:=zh KT'
  have HRd9:=zh hRd9
  have Hho9:=zh ho9
  have Hdd:=zh hdd
  have Hhb9:=zh hb9
  clear KT' hRd9 ho9 hdd hb9 y0 y1 y2 y3 y4 c5 c6 mvS hbd
  go_wp2_with fail
  refine KT.o.mono ?_
  rintro e' w10 ⟨A10,n10,c10,rfl,ho10,hb10,hn10,hc10⟩
  have hl10:n10=4:=by
   have h1:=ho10.1
   have h2:=H4.o
   simp[ah]at h1
   omega
  subst hl10
  have KS':=qT A10 A9 4 4 c10 c9 _ _ w10 (Rd.of_own ho10) (HRd9.o.next hb10) (by omega) (by omega)
  by_cases hsm:(af m (g/4)).take (g%4)++List.replicate (4-g%4) 0=af m (g/4)
  ·rw[decide_eq_true hsm]at KS'
   have KS:=zh KS'
   clear KS'
   go_wp2_with fail
   refine KS.o.mono ?_
   rintro e' w11 ⟨rfl,hb11⟩
   have D:Below w8.heap.size w8 w11:=aa (aa Hdd.o hb10) hb11
   have hRz:BU m g w w5 w7.heap.size p w11:=⟨m,⟨rA7,rn7,rc7,sA7,sn7,sc7,fA7,fn7,fc7,pA7,pn7,pc7⟩,q,tg,HO8.o.next D,HX8.o.keep D hl8,HB8.o.next D,HZ8.o.next D,aa HU8.o D,by have h1:=HT8.o.size;have h2:=D.size;omega,gS hc (pS (by simp[hsm])),HR4⟩
   have HRz:=zh hRz
   clear hRz D
   go_wp2_with fail
   go_meet
   case rel=>exact HRz.o
  rw[decide_eq_false hsm]at KS'
  have HPO:fT m (g/4) ((af m (g/4)).take (g%4)++List.replicate (4-g%4) 0)=rB m (g/4) ((af m (g/4)).take (g%4)++List.replicate (4-g%4) 0):=by
   have hne:((af m (g/4)).take (g%4)++List.replicate (4-g%4) 0==af m (g/4))=false:=by simpa using hsm
   unfold rB
   by_cases hbr:bare ((af m (g/4)).take (g%4)++List.replicate (4-g%4) 0)=true
   ·rw[mr hne hbr,if_pos hbr]
   ·rw[kO hne (by simpa using hbr),if_neg hbr]
  have HN7:=zh (λ(e:fT m (g/4) ((af m (g/4)).take (g%4)++List.replicate (4-g%4) 0)=none)=>mN hc e)
  have HS7:=zh (λx (e:fT m (g/4) ((af m (g/4)).take (g%4)++List.replicate (4-g%4) 0)=some x)=>And.intro (gS hc e) (And.intro (iG HM.o hg (gS hc e)).sound (pT e)))
  rw[HPO]at HN7 HS7
  clear HPO
  have KS:=zh KS'
  clear KS'
  go_wp2_with fail
  refine KS.o.mono ?_
  rintro e' w11 ⟨rfl,hb11⟩
  obtain⟨tg5,O5,R5⟩:=HO8.o.fresh (by have:=HT8.o.size;omega) Hdd.o hb10 ho10 (by omega) hn10 hc10
  have D:Below w8.heap.size w8 w11:=aa (aa Hdd.o hb10) hb11
  have X11:=HX8.o.keep D hl8
  have B11:=HB8.o.next D
  have O11:=HO8.o.next D
  have Z11:=HZ8.o.next D
  have U11:=aa HU8.o D
  have O6:=O5.next hb11
  have R6:=R5.next hb11
  have hk3:g/4<rn7:=by have:=O6.imgR.rlen;dsimp only at this;have:=hc.2;omega
  have hsz11:w5.heap.size<=w11.heap.size:=by have h1:=HT8.o.size;have h2:=D.size;omega
  have KT2':=oy w5.heap.size tg5 _ q p m (g/4) _ A10 4 c10 w11 O6 hsz11 HM.o hk3 R6
  rw[hdiv]at KT2'
  dsimp only[ae]at KT2'
  have KT2:=zh KT2'
  clear HX8 HB8 HO8 HZ8 HU8 HT8 Hdd Hhb9 Hho9 HRd9 ho10 hb10 hb11 KS KT KE KT2' O5 R5 O6 R6 D O11
  have HX6:=zh X11
  have HB6':=zh B11
  have HZ6:=zh Z11
  have HB6:=zh U11
  clear B11 Z11 U11
  obtain⟨a0,a1,a2,a3,a4⟩:=X11
  dsimp only at a0 a1 a2 a3 a4
  generalize rB m (g/4) ((af m (g/4)).take (g%4)++List.replicate (4-g%4) 0)=o at*
  go_wp2_with fail
  cases o
  ·have R:=HN7.o rfl
   have RX0:=HX0.o.symm
   have RE0:=HE0.o.symm
   rw[R]at RX0 RE0
   have RX1:=zh RX0
   have RE1:=zh RE0
   clear RX0 RE0 R HN7 HS7
   refine KT2.o.mono ?_
   rintro e' w12 ⟨⟨rA9,rn9,rc9,sA9,sn9,sc9,fA9,fn9,fc9,pA9,pn9,pc9⟩,rfl,hb12,hKI⟩
   obtain⟨X7,B7⟩:=hKI.box HB6'.o HX6.o
   have Z7:=hKI.zb HZ6.o
   have h5:=dr B7 ⟨_,_,X7⟩ m.guest ⟨rA9,rn9,rc9,sA9,sn9,sc9,fA9,fn9,fc9,pA9,pn9,pc9⟩
   dsimp only at h5
   have Z8:ZB _ (w.heap.size+1):=⟨(h5.2.2.block _ Z7.box.1.ty.lt (λe=>by injection e with e;omega)).trans Z7.heap⟩
   have s7:=hb12.size
   have s6:=HB6.o.size
   have LB:=((HB6.o.trans (hb12.mono (by omega)))).grown h5.2.2 (by omega) (λj e=>by injection e with e;omega)
   have O:=ix Z8 (X:=aj) (v:=noV) (B:=w.heap.size) (.inl ⟨rfl,rfl⟩) LB (by omega) (by omega)
   dsimp only[aj,noV]at O
   obtain⟨⟨k0,k1,k2,k3,k4⟩,hF,hB⟩:=O
   obtain⟨u0,u1,u2,u3,u4⟩:=Z8.cells
   obtain⟨q0,q1,q2,q3,q4⟩:=Z8.froz
   obtain⟨x0,x1,x2,x3,x4⟩:=X7
   have y0:=B7.fz 0
   have y1:=B7.fz 1
   have y2:=B7.fz 2
   have y3:=B7.fz 3
   have y4:=B7.fz 4
   have HK:=zf k0 k1 k2 k3 k4
   have HF:=zh hF
   have HLB:=zh hB
   dsimp only[ae]at x0 x1 x2 x3 x4⊢
   clear Z7 Z8 h5 hb12 hKI B7 LB k0 k1 k2 k3 k4 hF hB KT2 HX6 HB6' HZ6
   go_wp2_with fail
   obtain⟨k0,k1,k2,k3,k4⟩:=HK.o
   refine bodyPost_ret (v:=.tuple #[ae aj noV,.int .i64 7]) ?_ rfl ⟨noV,by rw[RX1.o,RE1.o];rfl,by rw[RX1.o];exact HF.o,HLB.o⟩
   simp[results,results95,go_sem,ae,aj,noV,k0,k1,k2,k3,k4]
  ·rename_i x
   obtain⟨R,hsx,hrx⟩:=HS7.o x rfl
   have HR:=zh R
   have HRX4:x.root.length<=4:=by omega
   clear R HN7 HS7 hsx hrx
   refine KT2.o.mono ?_
   rintro e' w12 ⟨tg7,⟨rA9,rn9,rc9,sA9,sn9,sc9,fA9,fn9,fc9,pA9,pn9,pc9⟩,q7,rfl,hO12,hb12,hKI⟩
   obtain⟨X7,B7⟩:=hKI.box HB6'.o HX6.o
   have Z7:=hKI.zb HZ6.o
   have h5:=dr B7 ⟨_,_,X7⟩ x.guest ⟨rA9,rn9,rc9,sA9,sn9,sc9,fA9,fn9,fc9,pA9,pn9,pc9⟩
   dsimp only at h5
   have s7:=hb12.size
   have s6:=HB6.o.size
   have hs8:=h5.2.2.size
   have HRz:=zh (show BU m g w w5 w7.heap.size p _ from⟨x,_,q7,tg7,hO12.kept h5.2.2 B7.ty (by decide) (by decide) (by decide),h5.1,h5.2.1,⟨(h5.2.2.block _ Z7.box.1.ty.lt (λe=>by injection e with e;omega)).trans Z7.heap⟩,((HB6.o.trans (hb12.mono (by omega)))).grown h5.2.2 (by omega) (λj e=>by injection e with e;omega),by omega,HR.o,HRX4⟩)
   obtain⟨x0,x1,x2,x3,x4⟩:=X7
   have y0:=B7.fz 0
   have y1:=B7.fz 1
   have y2:=B7.fz 2
   have y3:=B7.fz 3
   have y4:=B7.fz 4
   dsimp only[ae]at x0 x1 x2 x3 x4⊢
   clear Z7 h5 hb12 hKI B7 hO12 KT2 HX6 HB6' HZ6 HB6
   go_wp2_with fail
   go_meet
   case rel=>exact HRz.o
 obtain⟨x,⟨rA7,rn7,rc7,sA7,sn7,sc7,fA7,fn7,fc7,pA7,pn7,pc7⟩,q,tg,HOc,HXc,HBc,HZc,HUc,hsz11,R,hrs⟩:=hcut
 have RX0:=HX0.o.symm
 have RE0:=HE0.o.symm
 have HRS:=iG HM.o hg R
 rw[R]at RX0 RE0
 have RX1:=zh RX0
 have RE1:=zh RE0
 have HRX:=zh HRS.sound
 have HX8:=zh HXc
 have HB8:=zh HBc
 have HO8:=zh HOc
 have HZ8:=zh HZc
 have HU8:=zh HUc
 clear RX0 RE0 R HRS HXc HBc HOc HZc HUc y0 y1 y2 y3 y4 hl8
 rename World=>w11
 have X9:Box (w11.setCell ⟨w7.heap.size,0,none⟩ (.int .i64 g)) w7.heap.size (g:Nat) ⟨rA7,rn7,rc7,sA7,sn7,sc7,fA7,fn7,fc7,pA7,pn7,pc7⟩:=by
  obtain⟨a0,a1,a2,a3,a4⟩:=HX8.o
  dsimp only at a0 a1 a2 a3 a4
  refine⟨?_,?_,?_,?_,?_⟩<;>go_simp
 have B9:=HB8.o.set 0 (.int .i64 g)
 have hg9:=ai w11 w7.heap.size 0 (.int .i64 (g:Nat))
 have O9:=(HO8.o.newGuest (g:Nat)).kept hg9 HB8.o.ty (by decide) (by decide) (by decide)
 have Z9:ZB _ (w.heap.size+1):=⟨(hg9.block _ HZ8.o.box.1.ty.lt (λe=>by injection e with e;omega)).trans HZ8.o.heap⟩
 have U9:=HU8.o.setCell (p:=⟨w7.heap.size,0,none⟩) (show w.heap.size<=w7.heap.size by omega) (.int .i64 (g:Nat))
 have hs9:w5.heap.size<=(w11.setCell ⟨w7.heap.size,0,none⟩ (.int .i64 (g:Nat))).heap.size:=by have:=hg9.size;omega
 have hrl9:=O9.imgR.rlen
 dsimp only at hrl9
 have HX9:=zh X9
 have HB9:=zh B9
 have HO9:=zh O9
 have HZ9:=zh Z9
 have HU9:=zh U9
 have HRL:=zh hrl9
 have hr4:rn7<=4:=by omega
 obtain⟨a0,a1,a2,a3,a4⟩:=HX8.o
 have b0:=HB8.o.fz 0
 dsimp only at a0 a1 a2 a3 a4
 clear X9 B9 O9 Z9 U9 hg9 hrl9
 go_wp2_with fail
 generalize (w11.setCell ⟨w7.heap.size,0,none⟩ (.int .i64 (g:Nat)))=w9 at*
 clear a0 a1 a2 a3 a4 b0 HX8 HB8 HO8 HZ8 HU8
 go_loopw [67] (λ_ wr=>∃(k:Nat) (A:Option Addr) (c:Nat) (tg:Nat->Nat),(k=0\/rn7+k<=(g+3)/4)/\OwnI wr w5.heap.size tg ⟨A,rn7+k,c,sA7,sn7,sc7,fA7,fn7,fc7,pA7,pn7,pc7⟩ q p {x with guest:=(g:Nat),root:=x.root++List.replicate k 0}/\Box wr w7.heap.size (g:Nat) ⟨A,rn7+k,c,sA7,sn7,sc7,fA7,fn7,fc7,pA7,pn7,pc7⟩/\BoxB wr w7.heap.size/\ZB wr (w.heap.size+1)/\Below w.heap.size w wr/\w9.heap.size<=wr.heap.size) (λ_ wr=>(g+3)/4-xE wr w7.heap.size)
 case atStart=>exact⟨0,_,_,tg,.inl rfl,by simpa using HO9.o,HX9.o,HB9.o,HZ9.o,HU9.o,Nat.le_refl _⟩
 case round=>
  obtain⟨k,A,c,tgk,hk,hO,hX,hB,hZ,hU,hsz⟩:=hrel
  clear HX9 HB9 HO9 HZ9 HU9
  have hnn:rn7+k<=8:=by omega
  have HKK:=zh hk
  have HO:=zh hO
  have HX:=zh hX
  have HB:=zh hB
  have HZ:=zh hZ
  have HU:=zh hU
  have hln:({x with guest:=(g:Nat),root:=x.root++List.replicate k 0}:Img).root.length=rn7+k:=hO.imgR.rlen
  have hk16:k<=16:=by omega
  generalize hN:rn7+k=N at*
  have HN:=zh hN
  obtain⟨a0,a1,a2,a3,a4⟩:=hX
  have b1:=hB.fz 1
  dsimp only at a0 a1 a2 a3 a4
  have hml:xE wr w7.heap.size=N:=uj a1
  clear hO hB hZ hU hk hN
  generalize hG:(g+3)/4=W at*
  have HG:=zh hG
  clear hG
  by_cases hlt:N<W
  ·have c0:decide ((N:Int)<(W:Int))=true:=decide_eq_true (by omega)
   obtain⟨g',c',w',tg',r1,O',U',K'⟩:=(HO.o.next (Below.refl wr.heap.size wr).drew).push0 (by show _<=wr.heap.size;omega) (by show N<=_;omega)
   dsimp only at r1 O'
   have HR:=zh r1
   have heq:=K' _ _ HB.o.ty (by decide)
   have B1:BoxB w' w7.heap.size:=by obtain⟨cur,e⟩:=HB.o;exact⟨cur,(K' _ _ HB.o.ty (by decide)).trans e⟩
   have X1:Box w' w7.heap.size (g:Nat) ⟨A,N,c,sA7,sn7,sc7,fA7,fn7,fc7,pA7,pn7,pc7⟩:=by
    obtain⟨cur,e⟩:=HB.o
    have e':w'.heap[w7.heap.size]? =_:=heq.trans e
    have cc:= λj=>(cell_of_row w' w7.heap.size j _ _ _ e').trans (cell_of_row wr w7.heap.size j _ _ _ e).symm
    exact⟨(cc 0).trans a0,(cc 1).trans a1,(cc 2).trans a2,(cc 3).trans a3,(cc 4).trans a4⟩
   have Z1:ZB w' (w.heap.size+1):=⟨(K' _ _ HZ.o.box.1.ty (by decide)).trans HZ.o.heap⟩
   have hgs:=ai w' w7.heap.size 1 (.slice (some ⟨g',0,none⟩) (N+1) c')
   have O2:=O'.kept hgs B1.ty (by decide) (by decide) (by decide)
   have B2:=B1.set 1 (.slice (some ⟨g',0,none⟩) (N+1) c')
   have Z2:ZB _ (w.heap.size+1):=⟨(hgs.block _ Z1.box.1.ty.lt (λe=>by injection e with e;omega)).trans Z1.heap⟩
   have U2:=(HU.o.drew.trans (U'.mono (by omega))).setCell (p:=⟨w7.heap.size,1,none⟩) (show w.heap.size<=w7.heap.size by omega) (.slice (some ⟨g',0,none⟩) (N+1) c')
   have hsz2:w9.heap.size<=(w'.setCell ⟨w7.heap.size,1,none⟩ (.slice (some ⟨g',0,none⟩) (N+1) c')).heap.size:=by have h1:=U'.size;have h2:=hgs.size;have h3:wr.drew.heap.size=wr.heap.size:=rfl;omega
   obtain⟨d0,d1,d2,d3,d4⟩:=X1
   dsimp only at d0 d1 d2 d3 d4
   have X2:Box (w'.setCell ⟨w7.heap.size,1,none⟩ (.slice (some ⟨g',0,none⟩) (N+1) c')) w7.heap.size (g:Nat) ⟨some ⟨g',0,none⟩,N+1,c',sA7,sn7,sc7,fA7,fn7,fc7,pA7,pn7,pc7⟩:=by
    refine⟨?_,?_,?_,?_,?_⟩<;>go_simp
   have e1:=B1.fz 1
   have HO2:=zh O2
   have HX2:=zh X2
   have HB2:=zh B2
   have HZ2:=zh Z2
   have HU2:=zh U2
   clear O' K' heq B1 Z1 hgs O2 B2 Z2 U2 X2 r1 U'
   go_wp2_with fail
   refine eS (λW'=>W'.cell? ⟨w7.heap.size,1,none⟩=some (.slice A N c)) 5 ?_
   have hSS:wr.drew.cell? ⟨w7.heap.size,1,none⟩=some (.slice A N c):=a1
   refine zgo 0 ?_
   refine zgo 1 ?_
   refine zgo 2 ?_
   refine zgo 3 ?_
   refine aP 4 λK' hK=>?_
   go_simp
   refine(KV.o _).mono ?_
   rintro e' w11 ⟨rfl,rfl⟩
   refine hK.nx ?_
   clear hK
   refine aP 5 λK' hK=>?_
   go_simp
   refine hK.nx ?_
   clear hK
   refine cT ?_
   clear hSS
   go_wp2_with (at_builtin;refine aA rfl _ _ _ _ rfl rfl rfl rfl HR.o ?_)
   have hm2:=uj HX2.o.2.1
   dsimp only at hm2
   have hN:=HN.o
   subst hN
   go_roundw
   case rel=>exact⟨k+1,some ⟨g',0,none⟩,c',tg',.inr (by omega),by rw[List.replicate_succ',<-List.append_assoc];exact HO2.o,HX2.o,HB2.o,HZ2.o,HU2.o,hsz2⟩
   case measure=>omega
  ·have c0:decide ((N:Int)<(W:Int))=false:=decide_eq_false (by omega)
   go_wp2_with fail
   refine eS (λW'=>W'.cell? ⟨w7.heap.size,1,none⟩=some (.slice A N c)) 5 ?_
   have hSS:wr.drew.cell? ⟨w7.heap.size,1,none⟩=some (.slice A N c):=a1
   refine zgo 0 ?_
   refine zgo 1 ?_
   refine zgo 2 ?_
   refine zgo 3 ?_
   refine aP 4 λK' hK=>?_
   go_simp
   refine(KV.o _).mono ?_
   rintro e' w11 ⟨rfl,rfl⟩
   refine hK.nx ?_
   clear hK
   refine aP 5 λK' hK=>?_
   go_simp
   refine hK.nx ?_
   clear hK
   refine cT ?_
   clear hSS
   go_wp2_with fail
   have hcap:N<=c:=HO.o.root.1
   have hi1:(W:Int)<=(c:Int):=by omega
   have hi0:(0:Int)<=(W:Int):=by omega
   refine eS (λW'=>W'.cell? ⟨w7.heap.size,1,none⟩=some (.slice A N c)) 6 ?_
   have hSS:wr.drew.drew.cell? ⟨w7.heap.size,1,none⟩=some (.slice A N c):=a1
   refine zgo 0 ?_
   refine zgo 1 ?_
   refine zgo 2 ?_
   refine aP 3 λK' hK=>?_
   go_simp
   refine(KV.o _).mono ?_
   rintro e' w11 ⟨rfl,rfl⟩
   refine hK.nx ?_
   clear hK
   have hWN:W<=N:=by omega
   have HER:=zh (show({x with guest:=(g:Nat),root:=(x.root++List.replicate k 0).take W}:Img)=eO x g from by
    unfold eO
    rw[<-HG.o,BT hk16 (by have h1:=hln;have h2:=HG.o;rw[List.length_append,List.length_replicate]at h1;omega)])
   have fz1:=HB.o.fz 1
   have hff:wr.drew.drew.frozen? ⟨w7.heap.size,1,none⟩=false:=fz1
   rcases A with _|a
   ·refine aP 4 λK' hK=>?_
    go_simp
    refine hK.nx ?_
    clear hK
    refine aP 5 λK' hK=>?_
    go_simp
    refine hK.nx ?_
    clear hK
    refine aP 6 λK' hK=>?_
    go_simp
    refine hK.nx ?_
    clear hK
    refine cT ?_
    have hgs:=ai wr w7.heap.size 1 (.slice none W c)
    have O3:=HO.o.newRoot (TabO.take HO.o.root hWN)
    have O4:=((O3.kept hgs HB.o.ty (by decide) (by decide) (by decide)).next (Below.refl _ _).drew).next (Below.refl _ _).drew
    dsimp only at O4
    rw[HER.o]at O4
    have X5:Box ((wr.setCell ⟨w7.heap.size,1,none⟩ (.slice none W c)).drew.drew) w7.heap.size (g:Nat) ⟨none,W,c,sA7,sn7,sc7,fA7,fn7,fc7,pA7,pn7,pc7⟩:=by
     refine⟨?_,?_,?_,?_,?_⟩<;>go_simp
    have Z5:ZB ((wr.setCell ⟨w7.heap.size,1,none⟩ (.slice none W c)).drew.drew) (w.heap.size+1):=⟨(hgs.block _ HZ.o.box.1.ty.lt (λe=>by injection e with e;omega)).trans HZ.o.heap⟩
    have U5:=(HU.o.setCell (p:=⟨w7.heap.size,1,none⟩) (show w.heap.size<=w7.heap.size by omega) (.slice none W c)).drew.drew
    have hsz5:w5.heap.size<=((wr.setCell ⟨w7.heap.size,1,none⟩ (.slice none W c)).drew.drew).heap.size:=by have h2:=hgs.size;show _<=(wr.setCell ⟨w7.heap.size,1,none⟩ (.slice none W c)).heap.size;omega
    have HO5:=zh O4
    have HZ5:=zh Z5
    have HU5:=zh U5
    clear hgs O3 O4 Z5 U5 hSS HX HB HZ HU HO a0 a1 a2 a3 a4 fz1 hff b1 hml hln hsz
    obtain⟨a0,a1,a2,a3,a4⟩:=X5
    dsimp only at a0 a1 a2 a3 a4
    generalize ((wr.setCell ⟨w7.heap.size,1,none⟩ (.slice none W c)).drew.drew)=w13 at*
    have KC':=cU w5.heap.size tgk _ q p _ _ HO5.o hsz5 HRX.o.cbd
    dsimp only[ae,eO]at KC'
    have KC:=zh KC'
    clear KC'
    go_wp2_with fail
    refine KC.o.mono ?_
    rintro e' w14 ⟨⟨zrA,zrn,zrc,zsA,zsn,zsc,zfA,zfn,zfc,zpA,zpn,zpc⟩,tg12,q12,p12,rfl,hO12,hb12⟩
    have Z12:=HZ5.o.nextB hb12 (by omega)
    have hsX:ap {guest:=(g:Nat),root:=(x.root++List.replicate 16 0).take ((g+3)/4),slots:=x.slots,refs:=x.refs,snaps:=x.snaps}=X:=RX1.o.symm
    rw[hsX]at hO12⊢
    obtain⟨⟨k0,k1,k2,k3,k4⟩,hO2,hg2⟩:=kv Z12 hO12
    have s12:=hb12.size
    have s13:=HU5.o.size
    have LB2:=(HU5.o.trans (hb12.mono (by omega))).grown hg2 (by omega) (λj e=>by injection e with e;omega)
    obtain⟨u0,u1,u2,u3,u4⟩:=Z12.cells
    dsimp only at k1 k2 k3 k4
    obtain⟨q0,q1,q2,q3,q4⟩:=Z12.froz
    have HK:=zf k0 k1 k2 k3 k4
    have HOO:=zh hO2
    have HLB2:=zh LB2
    dsimp only[ae]
    clear Z12 hO12 hb12 hO2 hg2 LB2 k0 k1 k2 k3 k4 KC a0 a1 a2 a3 a4
    go_wp2_with fail
    obtain⟨k0,k1,k2,k3,k4⟩:=HK.o
    refine bodyPost_ret (v:=.tuple #[ae X ⟨zrA,zrn,zrc,zsA,zsn,zsc,zfA,zfn,zfc,zpA,zpn,zpc⟩,.int .i64 0]) ?_ rfl ⟨_,by rw[RE1.o];rfl,.inr ⟨w5.heap.size,_,_,_,by omega,HOO.o⟩,HLB2.o⟩
    simp[results,results95,go_sem,k0,k1,k2,k3,k4,ae]
   ·refine aP 4 λK' hK=>?_
    go_simp
    refine hK.nx ?_
    clear hK
    refine aP 5 λK' hK=>?_
    go_simp
    refine hK.nx ?_
    clear hK
    refine aP 6 λK' hK=>?_
    go_simp
    refine hK.nx ?_
    clear hK
    refine cT ?_
    have hgs:=ai wr w7.heap.size 1 (.slice (some a) W c)
    have O3:=HO.o.newRoot (TabO.take HO.o.root hWN)
    have O4:=((O3.kept hgs HB.o.ty (by decide) (by decide) (by decide)).next (Below.refl _ _).drew).next (Below.refl _ _).drew
    dsimp only at O4
    rw[HER.o]at O4
    have X5:Box ((wr.setCell ⟨w7.heap.size,1,none⟩ (.slice (some a) W c)).drew.drew) w7.heap.size (g:Nat) ⟨(some a),W,c,sA7,sn7,sc7,fA7,fn7,fc7,pA7,pn7,pc7⟩:=by
     refine⟨?_,?_,?_,?_,?_⟩<;>go_simp
    have Z5:ZB ((wr.setCell ⟨w7.heap.size,1,none⟩ (.slice (some a) W c)).drew.drew) (w.heap.size+1):=⟨(hgs.block _ HZ.o.box.1.ty.lt (λe=>by injection e with e;omega)).trans HZ.o.heap⟩
    have U5:=(HU.o.setCell (p:=⟨w7.heap.size,1,none⟩) (show w.heap.size<=w7.heap.size by omega) (.slice (some a) W c)).drew.drew
    have hsz5:w5.heap.size<=((wr.setCell ⟨w7.heap.size,1,none⟩ (.slice (some a) W c)).drew.drew).heap.size:=by have h2:=hgs.size;show _<=(wr.setCell ⟨w7.heap.size,1,none⟩ (.slice (some a) W c)).heap.size;omega
    have HO5:=zh O4
    have HZ5:=zh Z5
    have HU5:=zh U5
    clear hgs O3 O4 Z5 U5 hSS HX HB HZ HU HO a0 a1 a2 a3 a4 fz1 hff b1 hml hln hsz
    obtain⟨a0,a1,a2,a3,a4⟩:=X5
    dsimp only at a0 a1 a2 a3 a4
    generalize ((wr.setCell ⟨w7.heap.size,1,none⟩ (.slice (some a) W c)).drew.drew)=w13 at*
    have KC':=cU w5.heap.size tgk _ q p _ _ HO5.o hsz5 HRX.o.cbd
    dsimp only[ae,eO]at KC'
    have KC:=zh KC'
    clear KC'
    go_wp2_with fail
    refine KC.o.mono ?_
    rintro e' w14 ⟨⟨zrA,zrn,zrc,zsA,zsn,zsc,zfA,zfn,zfc,zpA,zpn,zpc⟩,tg12,q12,p12,rfl,hO12,hb12⟩
    have Z12:=HZ5.o.nextB hb12 (by omega)
    have hsX:ap {guest:=(g:Nat),root:=(x.root++List.replicate 16 0).take ((g+3)/4),slots:=x.slots,refs:=x.refs,snaps:=x.snaps}=X:=RX1.o.symm
    rw[hsX]at hO12⊢
    obtain⟨⟨k0,k1,k2,k3,k4⟩,hO2,hg2⟩:=kv Z12 hO12
    have s12:=hb12.size
    have s13:=HU5.o.size
    have LB2:=(HU5.o.trans (hb12.mono (by omega))).grown hg2 (by omega) (λj e=>by injection e with e;omega)
    obtain⟨u0,u1,u2,u3,u4⟩:=Z12.cells
    dsimp only at k1 k2 k3 k4
    obtain⟨q0,q1,q2,q3,q4⟩:=Z12.froz
    have HK:=zf k0 k1 k2 k3 k4
    have HOO:=zh hO2
    have HLB2:=zh LB2
    dsimp only[ae]
    clear Z12 hO12 hb12 hO2 hg2 LB2 k0 k1 k2 k3 k4 KC a0 a1 a2 a3 a4
    go_wp2_with fail
    obtain⟨k0,k1,k2,k3,k4⟩:=HK.o
    refine bodyPost_ret (v:=.tuple #[ae X ⟨zrA,zrn,zrc,zsA,zsn,zsc,zfA,zfn,zfc,zpA,zpn,zpc⟩,.int .i64 0]) ?_ rfl ⟨_,by rw[RE1.o];rfl,.inr ⟨w5.heap.size,_,_,_,by omega,HOO.o⟩,HLB2.o⟩
    simp[results,results95,go_sem,k0,k1,k2,k3,k4,ae]
theorem ul (v:IV) (m:Img) (g:Int) (w:World) (h:ImgR w w.heap.size v m) (hm:ab m≠0):
  Calls prog 95 #[ae m v,.int .i64 g] w (aF w.heap.size aj (ab m) w):=by
 have K1':= λW (hb:Below w.heap.size w W)=>bg v m W (h.next hb)
 obtain⟨W4,hW,f1,f2,_,f4,f5⟩:=eU w m.guest v
 have lz:(ab m !=0)=true:=by simpa using hm
 generalize ab m=er at*
 obtain⟨rA,rn,rc,sA,sn,sc,fA,fn,fc,pA,pn,pc⟩:=v
 dsimp only[ae]at*
 have K1:=zh (K1' _ f1)
 obtain⟨x0,x1,x2,x3,x4⟩:=f2
 dsimp only at x0 x1 x2 x3 x4
 clear K1' h hm
 go_enter func95,ntmps95
 go_wp2_with fail
 rw[hW.o]
 refine K1.o.mono ?_
 rintro e w5 ⟨rfl,hb5⟩
 have B5:=aa f1 hb5
 have Z5:=f4.nextB hb5 (by omega)
 obtain⟨y0,y1,y2,y3,y4⟩:=Z5.cells
 obtain⟨q0,q1,q2,q3,q4⟩:=Z5.froz
 have O:=ix Z5 (X:=aj) (v:=noV) (B:=w.heap.size) (.inl ⟨rfl,rfl⟩) B5 (Nat.le_refl _) (by omega)
 dsimp only[aj,noV]at O
 obtain⟨⟨k0,k1,k2,k3,k4⟩,hF,hB⟩:=O
 have HK:=zg k0 k1 k2 k3 k4 hF hB
 clear x0 x1 x2 x3 x4 f1 f4 K1 Z5 B5 hb5 k0 k1 k2 k3 k4 hF hB
 go_wp2_with fail
 obtain⟨k0,k1,k2,k3,k4,hF,hB⟩:=HK.o
 refine bodyPost_ret (v:=.tuple #[ae aj noV,.int .i64 er]) ?_ rfl ⟨noV,rfl,hF,hB⟩
 simp[results,results95,go_sem,ae,aj,noV,k0,k1,k2,k3,k4]
theorem oB (v:IV) (m:Img) (g:Int) (w:World) (h:ImgR w w.heap.size v m) (hm:ab m=0) (hr:¬(0<=g/\g<=16)):
  Calls prog 95 #[ae m v,.int .i64 g] w (aF w.heap.size aj 3 w):=by
 have K1':= λW (hb:Below w.heap.size w W)=>bg v m W (h.next hb)
 obtain⟨W4,hW,f1,f2,_,f4,f5⟩:=eU w m.guest v
 rw[hm]at K1'
 have KW':= λW=>aW g 0 16 W
 have hb':(decide ((0:Int)<=g)&&decide (g<=16))=false:=by simp;omega
 rw[hb']at KW'
 have KW:=zh KW'
 obtain⟨rA,rn,rc,sA,sn,sc,fA,fn,fc,pA,pn,pc⟩:=v
 dsimp only[ae]at*
 have K1:=zh (K1' _ f1)
 obtain⟨x0,x1,x2,x3,x4⟩:=f2
 dsimp only at x0 x1 x2 x3 x4
 clear K1' h hm
 go_enter func95,ntmps95
 go_wp2_with fail
 rw[hW.o]
 refine K1.o.mono ?_
 rintro e w5 ⟨rfl,hb5⟩
 have B5:=aa f1 hb5
 have Z5:=f4.nextB hb5 (by omega)
 obtain⟨y0,y1,y2,y3,y4⟩:=Z5.cells
 obtain⟨q0,q1,q2,q3,q4⟩:=Z5.froz
 have O:=ix Z5 (X:=aj) (v:=noV) (B:=w.heap.size) (.inl ⟨rfl,rfl⟩) B5 (Nat.le_refl _) (by omega)
 dsimp only[aj,noV]at O
 obtain⟨⟨k0,k1,k2,k3,k4⟩,hF,hB⟩:=O
 have HK:=zg k0 k1 k2 k3 k4 hF hB
 clear x0 x1 x2 x3 x4 f1 f4 K1 Z5 B5 hb5 k0 k1 k2 k3 k4 hF hB
 go_wp2_with fail
 refine(KW.o _).mono ?_
 rintro e' w6 ⟨rfl,rfl⟩
 go_wp2_with fail
 obtain⟨k0,k1,k2,k3,k4,hF,hB⟩:=HK.o
 refine bodyPost_ret (v:=.tuple #[ae aj noV,.int .i64 3]) ?_ rfl ⟨noV,rfl,hF,hB⟩
 simp[results,results95,go_sem,ae,aj,noV,k0,k1,k2,k3,k4]
theorem rC (v:IV) (m:Img) (g:Int) (w:World) (h:ImgR w w.heap.size v m):
  Calls prog 95 #[ae m v,.int .i64 g] w (aF w.heap.size (eQ m g) (dG m g) w):=by
 unfold eQ dG
 by_cases hm:ab m=0
 ·by_cases hr:0<=g/\g<=16
  ·rw[if_pos hm,if_pos ⟨hm,hr⟩,if_pos hr]
   obtain⟨k,rfl⟩:=Int.eq_ofNat_of_zero_le hr.1
   rw[Int.toNat_natCast]
   have hg:k<=16:=by omega
   exact uk v m k w h hm hg _ _ rfl rfl
  ·rw[if_pos hm,if_neg (λhh=>hr hh.2),if_neg hr]
   exact oB v m g w h hm hr
 ·rw[if_neg hm,if_neg (λhh=>hm hh.1)]
  exact ul v m g w h hm
end Go.Proofs.YtdbneghfbkjinaaGreatDoor
