/- Texts of the proof of deskPlays_holds: PkWalk. Conditions: as each text says. -/
import Derived.Test.YtdbneghfbkjinaaGreatDoorDA1
import Derived.Test.YtdbneghfbkjinaaGreatDoorDA31
import Derived.Test.YtdbneghfbkjinaaGreatDoorDA28
set_option maxRecDepth 100000
set_option maxHeartbeats 4000000
namespace Go.Proofs.YtdbneghfbkjinaaGreatDoor
open Go.Proofs.Tryz
open Go.RowKit Sl
theorem tE {m:Img} (S:Sound m) {r:List Int} (hr:r∈am m) {x:Int} (hx:x∈r): -1<=x:=by
 obtain⟨q,_,rfl⟩:=mP hx
 rcases dn S.wired hr q with h0|h2
 ·omega
 ·obtain⟨n,_,e,n1,_⟩:=gH h2 (by omega)
  omega
theorem DQ (W:World) (b:Nat) (hb:W.heap.size=b) (v:Value):(Instr.mapUpdate 116 (.map (some b)) (.int .i64 0) v).run prog (W.alloc (.map #[] 0))=.ok () (W.alloc (.map #[⟨.int .i64 0,v,0⟩] 1)):=
 fD (P:=prog) underlying116 underlying3 W b hb #[] 0 0 v (by simp)
theorem DR (W:World) (b:Nat) (hb:W.heap.size=b) (v v0:Value):(Instr.mapUpdate 116 (.map (some b)) (.int .i64 (-1)) v).run prog (W.alloc (.map #[⟨.int .i64 0,v0,0⟩] 1))=.ok () (W.alloc (.map #[⟨.int .i64 0,v0,0⟩,⟨.int .i64 (-1),v,1⟩] 2)):=
 fD (P:=prog) underlying116 underlying3 W b hb #[⟨.int .i64 0,v0,0⟩] 1 (-1) v (by simp)
theorem Br {w3 w5:World} {base:Nat} {tg:Nat->Nat} {v:IV} {q:List SV} {p:List PV} {m:Img} {x0:SV} (h:OwnI w5 base tg v q p m) (hb:Below base w3 w5) (hl:base<=w3.heap.size) (hx0:q[0]? =some x0) (hr0:m.refs[0]? =some 0):
  PkAt w3 (((w5.alloc (.cells #[.int .i64 m.guest,.slice v.rA v.rn v.rc,.slice v.sA v.sn v.sc,.slice v.fA v.fn v.fc,.slice v.pA v.pn v.pc] 34)).alloc (.map #[⟨.int .i64 0,.int .i64 0,0⟩,⟨.int .i64 (-1),.int .i64 (-1),1⟩] 2)).alloc (.cells #[.map (some (w5.heap.size+1))] 116)) base tg v q p m x0
   w5.heap.size (w5.heap.size+1+1) (w5.heap.size+1) 0 q m.refs/\Below w5.heap.size w5 (((w5.alloc (.cells #[.int .i64 m.guest,.slice v.rA v.rn v.rc,.slice v.sA v.sn v.sc,.slice v.fA v.fn v.fc,.slice v.pA v.pn v.pc] 34)).alloc (.map #[⟨.int .i64 0,.int .i64 0,0⟩,⟨.int .i64 (-1),.int .i64 (-1),1⟩] 2)).alloc (.cells #[.map (some (w5.heap.size+1))] 116)):=by
 have b1:=ac w5 (.cells #[.int .i64 m.guest,.slice v.rA v.rn v.rc,.slice v.sA v.sn v.sc,.slice v.fA v.fn v.fc,.slice v.pA v.pn v.pc] 34)
 have x1:=Box.new w5 m.guest v 34
 have g1:BoxB (w5.alloc (.cells #[.int .i64 m.guest,.slice v.rA v.rn v.rc,.slice v.sA v.sn v.sc,.slice v.fA v.fn v.fc,.slice v.pA v.pn v.pc] 34)) w5.heap.size:=BoxB.new w5 _
 have s1:(w5.alloc (.cells #[.int .i64 m.guest,.slice v.rA v.rn v.rc,.slice v.sA v.sn v.sc,.slice v.fA v.fn v.fc,.slice v.pA v.pn v.pc] 34)).heap.size=w5.heap.size+1:=World.size_alloc _ _
 generalize w5.alloc (.cells #[.int .i64 m.guest,.slice v.rA v.rn v.rc,.slice v.sA v.sn v.sc,.slice v.fA v.fn v.fc,.slice v.pA v.pn v.pc] 34)=w6 at*
 have b2:=ac w6 (.map #[⟨.int .i64 0,.int .i64 0,0⟩,⟨.int .i64 (-1),.int .i64 (-1),1⟩] 2)
 have m2:MapAt (w6.alloc (.map #[⟨.int .i64 0,.int .i64 0,0⟩,⟨.int .i64 (-1),.int .i64 (-1),1⟩] 2)) w6.heap.size (ksl m.slots 0):=⟨_,_,heap_alloc_new w6 _,rfl⟩
 have s2:(w6.alloc (.map #[⟨.int .i64 0,.int .i64 0,0⟩,⟨.int .i64 (-1),.int .i64 (-1),1⟩] 2)).heap.size=w6.heap.size+1:=World.size_alloc _ _
 generalize w6.alloc (.map #[⟨.int .i64 0,.int .i64 0,0⟩,⟨.int .i64 (-1),.int .i64 (-1),1⟩] 2)=w7 at*
 have b3:=ac w7 (.cells #[.map (some (w5.heap.size+1))] 116)
 have c3:=cell_of_row _ _ 0 _ _ _ (heap_alloc_new w7 (.cells #[.map (some (w5.heap.size+1))] 116))
 have g3:BoxG (w7.alloc (.cells #[.map (some (w5.heap.size+1))] 116)) w7.heap.size 116:=BoxG.new w7 _ _
 generalize w7.alloc (.cells #[.map (some (w5.heap.size+1))] 116)=w8 at*
 have bb:=aa (aa b1 b2) b3
 have e7:w7.heap.size=w5.heap.size+1+1:=by omega
 rw[e7]at c3 g3
 have hO:=h.next bb
 have hql:=h.qlen
 have hfl:=h.imgR.flen
 have m2':=m2.next b3
 rw[s1]at m2'
 refine⟨⟨⟨hO.root,hO.snaps,λk x hx=>(hO.tabs k x hx).2,λk x hx=>(hO.roots k x hx).2,(x1.keep b2 (by omega)).keep b3 (by omega),(g1.next b2).next b3,c3,g3,hb.trans (bb.mono (Nat.le_trans hl hb.size))⟩,hO.slots,hql,?_,λ_ _=>rfl,?_,hfl,?_,λ_ _=>rfl,m2'⟩,bb⟩
 ·cases hq:q with
  |nil=>rw[hq]at hx0;cases hx0
  |cons a q2=>rw[hq]at hx0;have:a=x0:=by simpa using hx0
              subst this;simp[used]
 ·rcases hO.refs.2.2 with⟨h1,h2,_⟩|⟨h1,_⟩
  ·rw[h2]at hr0;cases hr0
  ·exact h1
 ·cases hf:m.refs with
  |nil=>rw[hf]at hr0;cases hr0
  |cons a f2=>rw[hf]at hr0;have:a=0:=by simpa using hr0
              subst this;simp[used,dN]
theorem Bs (v:IV) (m:Img) (w:World) (h:ImgR w w.heap.size v m) (he:ab m≠0):
  Calls prog 60 #[ae m v] w (aF w.heap.size aj (ab m) w):=by
 have K1':= λW (hb:Below w.heap.size w W)=>bq v m W (h.next hb)
 obtain⟨W4,hW,f1,f2,f3,f4⟩:=bd w m.guest v
 have lz:(ab m !=0)=true:=by simpa using he
 generalize ab m=er at*
 obtain⟨rA,rn,rc,sA,sn,sc,fA,fn,fc,pA,pn,pc⟩:=v
 dsimp only[ae]at K1' f1 f2 f3 f4 hW⊢
 have K1:=zh K1'
 clear K1' h he
 obtain⟨x0,x1,x2,x3,x4⟩:=f2
 dsimp only at x0 x1 x2 x3 x4
 go_enter func60,ntmps60
 go_wp2_with fail
 rw[hW.o]
 refine(K1.o _ f1).mono ?_
 rintro e w5 ⟨rfl,hb5⟩
 have B5:=aa f1 hb5
 have Z5:=f3.nextB hb5 (by omega)
 obtain⟨y0,y1,y2,y3,y4⟩:=Z5.cells
 obtain⟨q0,q1,q2,q3,q4⟩:=Z5.froz
 have O:=cA Z5 (X:=aj) (v:=noV) (B:=w.heap.size) (.inl ⟨rfl,rfl⟩) B5 (Nat.le_refl _) (by omega)
 dsimp only[aj,noV]at O
 obtain⟨⟨k0,k1,k2,k3,k4⟩,hF,hB⟩:=O
 have HK:=zg k0 k1 k2 k3 k4 hF hB
 clear x0 x1 x2 x3 x4 f1 f3 f4 K1 Z5 B5 hb5 k0 k1 k2 k3 k4 hF hB
 go_wp2_with fail
 obtain⟨k0,k1,k2,k3,k4,hF,hB⟩:=HK.o
 refine bodyPost_ret (v:=.tuple #[ae aj noV,.int .i64 er]) ?_ rfl ⟨noV,rfl,hF,hB⟩
 simp[results,results60,go_sem,ae,aj,noV,k0,k1,k2,k3,k4]
theorem Bt (v:IV) (m:Img) (w:World) (h:ImgR w w.heap.size v m) (he:ab m=0):
  Calls prog 60 #[ae m v] w (aF w.heap.size (cL m) 0 w):=by
 have S:=ay (aq he).1
 have hrl:=my he
 have h40:=S.cbd.slots
 have h1s:=S.cbd.one
 have hr4:=S.cbd.root
 have hsn:=h.slen
 have hfn:=h.flen
 have K1':= λW (hb:Below w.heap.size w W)=>bq v m W (h.next hb)
 have K2':= λW (hb:Below w.heap.size w W)=>lE v m W (h.next hb) S.cbd (by omega)
 rw[he]at K1'
 have K1:=zh K1'
 have K2:=zh K2'
 have HI:=zh h
 have HE:=zh he
 obtain⟨W4,hW,f1,f2,f3,f4⟩:=bd w m.guest v
 obtain⟨rA,rn,rc,sA,sn,sc,fA,fn,fc,pA,pn,pc⟩:=v
 dsimp only[ae]at K1 K2 f1 f2 f3 f4 hsn hfn hW⊢
 clear K1' K2' h he
 have X2:=f2
 obtain⟨x0,x1,x2,x3,x4⟩:=f2
 dsimp only at x0 x1 x2 x3 x4
 have hmm:= λW=>run_makeMap (P:=prog) 116 W
 have u1:=DQ
 have u2:=DR
 go_enter func60,ntmps60
 go_wp2_with fail
 rw[hW.o]
 refine(K1.o _ f1).mono ?_
 rintro e w3 ⟨rfl,hb3⟩
 have l3:=hb3.size
 have T3:=aa f1 hb3
 have Z3:=zh (f3.nextB hb3 (by omega))
 have X3:=X2.keep hb3 (by omega)
 clear x0 x1 x2 x3 x4 X2 f3 hb3 K1
 have X3':=X3
 obtain⟨x0,x1,x2,x3,x4⟩:=X3'
 dsimp only at x0 x1 x2 x3 x4
 go_wp2_with fail
 refine(K2.o _ T3).mono ?_
 rintro e w5 ⟨⟨orA,orn,orc,osA,osn,osc,ofA,ofn,ofc,opA,opn,opc⟩,tg,q,p,rfl,hO,hb5⟩
 have l5:=hb5.size
 obtain⟨z0,hz0⟩:∃z0,q[0]? =some z0:=⟨_,List.getElem?_eq_getElem (by have:=hO.qlen;have:=hO.imgR.slen;dsimp only at*;omega)⟩
 have hr0:m.refs[0]? =some 0:=by
  have hl0:0<m.refs.length:=by omega
  rw[List.getElem?_eq_getElem hl0]
  have:=jo HE.o (j:=0) (by omega)
  rw[bG (List.getElem?_eq_getElem hl0)]at this
  rw[this];rfl
 obtain⟨pk0,bb0⟩:=Br hO hb5 (Nat.le_refl _) hz0 hr0
 have PK:=zh pk0
 have X5:=Box.keep (v:=⟨rA,rn,rc,sA,sn,sc,fA,fn,fc,pA,pn,pc⟩) ⟨x0,x1,x2,x3,x4⟩ hb5 (by omega)
 have ho1:osn=sn:=by have:=hO.imgR.slen;dsimp only at this;omega
 have ho2:ofn=fn:=by have:=hO.imgR.flen;dsimp only at this;omega
 subst ho1 ho2
 obtain⟨sb,hsA,hsb,hsl⟩:=bK hO.slots (by dsimp only;omega)
 have hFO:w5.ownsRow w3.heap.size 3 1 (.slice ofA ofn ofc) ofn (ah m.refs):=by
  rcases hO.refs.2.2 with⟨h1,h2,_⟩|⟨h1,_⟩
  ·rw[h2]at hr0;cases hr0
  ·exact h1
 obtain⟨fb,hfA,hfb,hfl⟩:=bK hFO (by omega)
 have hsle:=hO.sle
 have hscap:=hO.scap
 have hfle:=hO.refs.1
 have hfcap:=hO.refs.2.1
 dsimp only at hsA hsle hscap hfle hfcap
 subst hsA hfA
 have HFT:=zh (show∀b,some b=some fb->tg b=1 from by
  rcases hO.refs.2.2 with⟨_,h2,_⟩|⟨_,ht⟩
  ·rw[h2]at hr0;cases hr0
  ·exactλb e=>ht b (by rw[e];rfl))
 have HO:=zh hO
 have HX5:=zh X5
 have HB5:=zh hb5
 have HZ0:=zh hz0
 have T5:=zh (T3.trans (hb5.mono (by omega)))
 have s24:∀W:World,(sizeOf 108).run prog W=.ok 3 W:= λW=>by obtain⟨i0,hi0,hz0,hz1,hz2⟩:=info_parts infoSlot;simp[sizeOf,typeInfo,hi0,hz1]
 have s23:∀W:World,(sizeOf 3).run prog W=.ok 1 W:= λW=>by obtain⟨i0,hi0,hz0,hz1,hz2⟩:=info_parts infoInt;simp[sizeOf,typeInfo,hi0,hz1]
 have us:= λW=>nt (P:=prog) 31 108 3 underlying31 s24 (some ⟨sb,0,none⟩) osn osc 1 (by omega) W
 have uf:= λW=>nt (P:=prog) 30 3 1 underlying30 s23 (some ⟨fb,0,none⟩) ofn ofc 1 (by omega) W
 clear hO X5 hb5 hz0 hr0 x0 x1 x2 x3 x4 s24 s23 K2
 have F0:=PK.o.frame
 obtain⟨y0,y1,y2,y3,y4⟩:=F0.box
 have yN:=F0.nbox
 dsimp only at y0 y1 y2 y3 y4
 have lb:=F0.boxB.ty.lt
 dsimp only at bb0
 obtain⟨x0,x1,x2,x3,x4⟩:=HX5.o.keep bb0 (by omega)
 dsimp only at x0 x1 x2 x3 x4
 clear pk0
 have HX3:=zh X3
 have HU:=zh S
 clear x0 x1 x2 x3 x4
 obtain⟨x0,x1,x2,x3,x4⟩:=HX5.o.keep bb0 (by omega)
 dsimp only at x0 x1 x2 x3 x4
 go_wp2_with fail
 generalize (((w5.alloc (.cells #[.int .i64 m.guest,.slice orA orn orc,.slice (some ⟨sb,0,none⟩) osn osc,.slice (some ⟨fb,0,none⟩) ofn ofc,.slice opA opn opc] 34)).alloc (.map #[⟨.int .i64 0,.int .i64 0,0⟩,⟨.int .i64 (-1),.int .i64 (-1),1⟩] 2)).alloc (.cells #[.map (some (w5.heap.size+1))] 116))=W8 at*
 clear x0 x1 x2 x3 x4 y0 y1 y2 y3 y4 yN u1 u2 hmm us uf F0 X3 S
 go_loopw [7,8,35] (λt7 t8 i wr=>∃(n:Nat) (q':List SV) (f':List Int),n<=osn/\i=.int .i64 n/\t7=.slice (some ⟨sb,0,none⟩) (used (m.slots.take n)+1) osc/\t8=.slice (some ⟨fb,0,none⟩) (used (m.slots.take n)+1) ofc/\
  PkAt w3 wr w3.heap.size tg ⟨orA,orn,orc,some ⟨sb,0,none⟩,osn,osc,some ⟨fb,0,none⟩,ofn,ofc,opA,opn,opc⟩ q p m z0 w5.heap.size (w5.heap.size+1+1) (w5.heap.size+1) n q' f') (λ_ _ i _=>osn-(intOf i).toNat)
 case atStart=>exact⟨0,q,m.refs,Nat.zero_le _,rfl,rfl,rfl,PK.o⟩
 case round=>
  obtain⟨n,q',f',hn,rfl,rfl,rfl,hP⟩:=hrel
  have HP:=zh hP
  clear hP
  by_cases hlt:n<osn
  ·have hu0:used (m.slots.take n)<=n:=Nat.le_trans (fY _) (by rw[List.length_take];omega)
   obtain⟨b,o,s,tA,tn,tc,rfl,hbl,hsx,d0,d1,d2,hsv⟩:=(HI.o.next (T3.trans (HP.o.frame.below.mono (by omega)))).slots.at_ hlt
   have HSX:=zh hsx
   have hxq:n<q.length:=by have:=HO.o.qlen;dsimp only at this;omega
   have hx:=List.getElem?_eq_getElem hxq
   generalize q[n]=x at hx
   have hxs:x.s=s:=by
    have e:=HO.o.hq
    have:(q.map (·.s))[n]? =m.slots[n]? :=by rw[e]
    rw[List.getElem?_map,hx,hsx]at this
    injection this
   have hr:=List.getElem?_eq_getElem (show n<m.refs.length by omega)
   generalize m.refs[n]=r at hr
   have e0:(0:Int)<=(n:Int):=by omega
   have e1:(n:Int)<(osn:Int):=by omega
   have HXX:=zh (And.intro hx (And.intro hxs hr))
   have ba:=ac wr (.cells #[.int .i64 s.kind,.string s.data,.slice tA tn tc] 108)
   have P0:=zh (HP.o.next ba (Nat.le_refl _))
   clear hsx hx hxs hr ba
   by_cases hk:s.kind=0
   ·have hkb:(s.kind==0)=true:=by simpa using hk
    go_wp2_with fail
    go_roundw
    case rel=>
     obtain⟨hx,hxs,hr⟩:=HXX.o
     have hu:=bp m.slots n s HSX.o
     rw[if_pos hk,Nat.add_zero]at hu
     have PS:=P0.o.skip HO.o.hq hx hr (by rw[hxs];exact hk)
     rw[hk]at PS
     refine⟨n+1,q',f',by omega,by go_num,by rw[hu],by rw[hu],PS⟩
    case measure=>simp[intOf];omega
   ·have hkb:(s.kind==0)=false:=by simpa using hk
    obtain⟨hx,hxs,hr⟩:=HXX.o
    have hn1:1<=n:=lN HU.o HSX.o hk
    have hu1:used (m.slots.take n)+1<=n:=by
     have:=rh (l:=m.slots) HSX.o hk (show n<n+1 by omega)
     have h0:=lL HU.o.slots
     have hs0:=List.getElem?_eq_getElem (show 0<m.slots.length by omega)
     rw[aL hs0]at h0
     have h2:=bp m.slots 0 _ hs0
     rw[if_pos h0]at h2
     have e:used (m.slots.take n)<=used (m.slots.take 1)+(n-1):=by
      have h3:m.slots.take n=m.slots.take 1++(m.slots.drop 1).take (n-1):=by
       rw[<-List.take_append_drop 1 (m.slots.take n),List.take_take,Nat.min_eq_left hn1,List.drop_take]
      rw[h3,sY]
      have:=fY ((m.slots.drop 1).take (n-1))
      rw[List.length_take]at this
      omega
     simp[used]at h2
     rw[h2]at e
     omega
    obtain⟨W1,hput,hM1,g1⟩:=Bn (P:=prog) (v:=((used (m.slots.take n)+1:Nat):Int)) underlying116 underlying3 P0.o.map (k:=(n:Nat)) (λp hp=>by rcases Bo m.slots n p hp with h|h<;>omega)
    obtain⟨F1,s1,r1⟩:=P0.o.mid1 (Nat.le_refl _) (by omega) g1
    have cN:=P0.o.frame.nbox
    have cN0:=HP.o.frame.nbox
    have hs5:TypeB W1 w5.heap.size 34:=F1.boxB.ty
    obtain⟨y0,y1,y2,y3,y4⟩:=F1.box
    have a0:=s1.cellAt (n*3) (by dsimp only;omega)
    have a1:=s1.cellAt (n*3+1) (by dsimp only;omega)
    have a2:=s1.cellAt (n*3+2) (by dsimp only;omega)
    have hqn:=P0.o.qrest n (Nat.le_refl _)
    rw[hx]at hqn
    have t0:=av SV.cells SV.cells_len _ n x hqn 0 (by omega)
    rw[Nat.add_zero]at t0
    rw[t0]at a0
    rw[av SV.cells SV.cells_len _ n x hqn 1 (by omega)]at a1
    rw[av SV.cells SV.cells_len _ n x hqn 2 (by omega)]at a2
    simp only[SV.cells,bE,List.getElem?_cons_zero,List.getElem?_cons_succ]at a0 a1 a2
    obtain⟨i1,hi1,hz1,hzs1,hzb1⟩:=info_parts infoSlot
    obtain⟨i2,hi2,hz2,hzs2,hzb2⟩:=info_parts infoInt
    have ba:=ac W1 (.cells #[.int .i64 x.s.kind,.string x.s.data,.slice x.A x.n x.c] 108)
    have hca:∀j u,x.cells[j]? =some u->(W1.alloc (.cells #[.int .i64 x.s.kind,.string x.s.data,.slice x.A x.n x.c] 108)).cell? ((⟨W1.heap.size,0,none⟩:Addr).add j)=some u:=by
     intro j u hu
     have hh:=cell_of_row _ _ j _ _ _ (heap_alloc_new W1 (.cells #[.int .i64 x.s.kind,.string x.s.data,.slice x.A x.n x.c] 108))
     have e:(⟨W1.heap.size,0,none⟩:Addr).add j=⟨W1.heap.size,j,none⟩:=by unfold Addr.add;split<;>simp_all
     rw[e,hh,<-hu];unfold SV.cells bE;rw[<-Array.getElem?_toList]
    obtain⟨W2,hr2,o2,g2⟩:=ol (P:=prog) (W1.alloc (.cells #[.int .i64 x.s.kind,.string x.s.data,.slice x.A x.n x.c] 108)) w3.heap.size 31 31 108 i1 3 underlying31 hi1 hzs1 sb osn osc (used (m.slots.take n)+1) _ (aI s1 ba) (by omega) ⟨W1.heap.size,0,none⟩ 1 x.cells rfl hca
     (by intro u hu;simp[SV.cells,bE]at hu;rcases hu with rfl|rfl|rfl<;>rfl)
    obtain⟨F2,r2⟩:=(F1.next ba (Nat.le_refl _)).mid2 (Nat.le_refl _) (aI s1 ba) rfl (aI r1 ba) g2
    have bc:=ac W2 (.cells #[.int .i64 r] 3)
    obtain⟨z0',z1',z2',z3',z4'⟩:=F2.box
    have b0:=r2.cellAt n (by dsimp only;omega)
    have hfn':=P0.o.frest n (Nat.le_refl _)
    rw[hr]at hfn'
    have b1:(ah f')[n]? =some (.int .i64 r):=by unfold ah;rw[List.getElem?_map,hfn'];rfl
    rw[b1]at b0
    have hcb:∀j u,[Value.int .i64 r][j]? =some u->(W2.alloc (.cells #[.int .i64 r] 3)).cell? ((⟨W2.heap.size,0,none⟩:Addr).add j)=some u:=cell_one_new W2 (.int .i64 r) 3
    obtain⟨W4,hr4,o4,g4⟩:=ol (P:=prog) (W2.alloc (.cells #[.int .i64 r] 3)) w3.heap.size 30 30 3 i2 1 underlying30 hi2 hzs2 fb ofn ofc (used (m.slots.take n)+1) _ (aI r2 bc) (by omega) ⟨W2.heap.size,0,none⟩ 1 [.int .i64 r] rfl hcb
     (by intro u hu;simp at hu;subst hu;rfl)
    have PF:=zh (P0.o.take (Nat.le_refl _) HO.o.hq hx hr (by rw[hxs];exact hk) hlt (by dsimp only;omega) hu1 rfl rfl (by omega) (HFT.o fb rfl) g1 hM1 ba g2 o2 bc g4 o4)
    have HR2:=zh hr2
    have HR4:=zh hr4
    have hlk:((used (m.slots.take n):Int)+1)=((used (m.slots.take n)+1:Nat):Int):=by omega
    rw[<-hxs]at d0 d1 hkb hput cN
    dsimp only at y0 y1 y2 y3 y4 z0' z1' z2' z3' z4'
    have e2:(n:Int)<(ofn:Int):=by omega
    have hlen:used (m.slots.take n)+1<=4611686018427387903:=by omega
    clear hr2 hr4 o2 o4 g1 g2 g4 hM1 F1 F2 s1 r1 r2 ba bc hca hcb hqn t0 hfn' b1 hi1 hz1 hzs1 hzb1 hi2 hz2 hzs2 hzb2 hs5 hx hxs hr hu1
    have HKK:=zh (show used (m.slots.take (n+1))+1=used (m.slots.take n)+1+1 from by have hu:=bp m.slots n s HSX.o;rw[if_neg hk]at hu;omega)
    clear hlk
    generalize hkk:used (m.slots.take n)+1=k at*
    clear hkk
    go_upto_region 13 with fail
    go_wp2_with (at_builtin;first|(refine aA rfl _ _ _ _ rfl rfl rfl rfl HR2.o ?_)|(refine aA rfl _ _ _ _ rfl rfl rfl rfl HR4.o ?_))
    go_roundw
    case rel=>exact⟨n+1,_,_,by omega,by go_num,by rw[HKK.o],by rw[HKK.o],PF.o⟩
    case measure=>simp[intOf];omega
  ·obtain rfl:n=osn:=by omega
   have S:=HU.o
   have hall:m.slots.take n=m.slots:=List.take_of_length_le (by omega)
   have hP:=HP.o
   have hul:=gU S
   have OC:=HO.o.cut (w1:=wr) (k:=used m.slots+1) HZ0.o (by
     have h1:=fp S
     have h2:m.slots[0]? =some z0.s:=by rw[<-HO.o.hq,List.getElem?_map,HZ0.o];rfl
     rw[List.head?_eq_getElem?,h2]at h1
     injection h1) rfl rfl rfl (by dsimp only;omega) (by dsimp only;omega) hP.ql hP.fl hP.slots hP.refs
     (by have:=hP.qpre;rw[hall,List.take_of_length_le (l:=q) (by have:=HO.o.qlen;dsimp only at this;omega)]at this;exact this)
     (by have:=hP.fpre;rw[hall,List.take_of_length_le (l:=m.refs) (by omega)]at this;exact this)
     hP.frame.root (λb e=>HFT.o b (by rw[<-e];rfl)) hP.frame.snaps hP.frame.tabs hP.frame.roots
   have R0:PkR w3 wr w3.heap.size _ _ _ _ _ w5.heap.size (w5.heap.size+1+1) (w5.heap.size+1) ⟨orA,orn,orc,some ⟨sb,0,none⟩,n,osc,some ⟨fb,0,none⟩,ofn,ofc,opA,opn,opc⟩ m.guest (ksl m.slots n):=
    ⟨OC,hP.frame.box,hP.frame.boxB,hP.frame.nbox,hP.frame.nG,hP.map,hP.frame.below⟩
   rw[hall]
   have en:n=m.slots.length:=by omega
   have HM:=zh R0
   clear R0 OC hP hall HP HFT PK
   dsimp only at HM
   have hk40:used m.slots+1<=40:=by omega
   have hfind:∀x,hH m.slots x-> -1<=x->∃k',(ksl m.slots n).find? (λp=>p.1==x)=some (k',ren m.slots x):= λx hv h1=>by rw[en];exact CM hv h1
   have HRoot:∀x∈m.root,∃k',(ksl m.slots n).find? (λp=>p.1==x)=some (k',ren m.slots x):= λx hx=>hfind x (gI S (cy m) hx) (tE S (cy m) hx)
   have HTab:∀(j:Nat) (y:SV),(z0::q.filter eT)[j]? =some y->(∀x∈y.s.table,∃k',(ksl m.slots n).find? (λp=>p.1==x)=some (k',ren m.slots x))/\y.s.table.length<=4:= λj y hy=>by
    have hq:y∈q:=by
     have:=List.mem_of_getElem? hy
     rcases List.mem_cons.1 this with rfl|h1
     ·exact List.mem_of_getElem? HZ0.o
     ·exact(List.mem_filter.1 h1).1
    have hm:y.s∈m.slots:=by rw[<-HO.o.hq];exact List.mem_map.2 ⟨y,hq,rfl⟩
    have hf:aD y.s=true:=List.all_eq_true.1 (bR S.slots) _ hm
    exact⟨λx hx=>hfind x (jD S hm hx) (ni hf hx).1,S.cbd.tables y.s hm⟩
   have HSn:∀(j:Nat) (y:PV),p[j]? =some y->(∀x∈y.s.root,∃k',(ksl m.slots n).find? (λp=>p.1==x)=some (k',ren m.slots x))/\y.s.root.length<=4:= λj y hy=>by
    have hm:y.s∈m.snaps:=by rw[<-HO.o.hp];exact List.mem_map.2 ⟨y,List.mem_of_getElem? hy,rfl⟩
    exact⟨λx hx=>hfind x (gI S (fG hm) hx) (tE S (fG hm) hx),S.cbd.roots y.s hm⟩
   have HRoot:=zh HRoot
   have HTab:=zh HTab
   have HSn:=zh HSn
   have hsl:(freeSlot::m.slots.filter ci).length=used m.slots+1:=by rw[List.length_cons,oa]
   have hqk:(z0::q.filter eT).length=used m.slots+1:=by have:=HM.o.own.qlen;dsimp only at this;exact this
   have hpk:p.length=opn:=by have:=HM.o.own.plen;dsimp only at this;exact this
   have hp4:opn<=4:=by have h1:=HO.o.hp;have h2:=S.cbd.snaps;have h3:p.length=m.snaps.length:=by rw[<-h1,List.length_map]
                       omega
   have horn:m.root.length=orn:=by have:=HM.o.own.imgR.rlen;dsimp only at this;exact this
   have horn4:orn<=1000000:=by omega
   have HPK:=zh (show cL m={guest:=m.guest,root:=m.root.map (ren m.slots),slots:=(freeSlot::m.slots.filter ci).map (eV m.slots),refs:=dN m.slots m.refs,snaps:=m.snaps.map (ja m.slots)}from rfl)
   generalize cL m=PM at*
   generalize (λb=>kS m.slots (tg b))=tgc at*
   generalize ksl m.slots n=ks at*
   generalize hql:z0::q.filter eT=ql at*
   generalize freeSlot::m.slots.filter ci=sl at*
   generalize dN m.slots m.refs=fl at*
   have HSP:=zh HM.o.own.hp
   dsimp only at HSP
   generalize m.snaps=pl at*
   generalize m.root=rl at*
   generalize hgg:m.guest=mg at*
   generalize m.slots=l0 at*
   have HU0:=S
   clear S HU HO hul horn hfind hql en hsn hrl h40 h1s hr4 HE HI HX5
   generalize hkk:used l0+1=k at*
   clear hkk
   have hR:=HM.o
   obtain⟨y0,y1,y2,y3,y4⟩:=hR.box
   dsimp only at y0 y1 y2 y3 y4
   have KRoot:=zh (kT (w5.heap.size+1+1) (w5.heap.size+1) w3.heap.size 0 tgc orA orn orc (ren l0) ks rl wr hR.nbox hR.map HRoot.o hR.own.root hR.nG.ty (by decide) horn4)
   clear hR
   go_wp2_with fail
   refine KRoot.o.mono ?_
   rintro e w7 ⟨rfl,row,hg,hr,ht⟩
   have R1:=zh (HM.o.put hg (λb e=>⟨(hr b e).2.1,(hr b e).2.2⟩) (Nat.le_refl _) (HM.o.own.putRoot hg (λb e=>⟨(hr b e).1,(hr b e).2.1⟩) ht))
   clear hg hr ht KRoot HM y0 y1 y2 y3 y4
   dsimp only at R1
   have hkl:k<=4611686018427387903:=by omega
   go_wp2_with fail
   go_loopw [71] (λi wr=>∃j:Nat,j<=k/\i=.int .i64 j/\PkR w3 wr w3.heap.size tgc ⟨orA,orn,orc,some ⟨sb,0,none⟩,k,osc,some ⟨fb,0,none⟩,k,ofc,opA,opn,opc⟩ ((ql.take j).map (λx=>⟨eV l0 x.s,x.A,x.n,x.c⟩)++ql.drop j) p
    {guest:=mg,root:=rl.map (ren l0),slots:=(sl.take j).map (eV l0)++sl.drop j,refs:=fl,snaps:=pl} w5.heap.size (w5.heap.size+1+1) (w5.heap.size+1) ⟨orA,orn,orc,some ⟨sb,0,none⟩,n,osc,some ⟨fb,0,none⟩,ofn,ofc,opA,opn,opc⟩ mg ks) (λi _=>k-(intOf i).toNat)
   case atStart=>exact⟨0,Nat.zero_le _,rfl,by simpa using R1.o⟩
   case round=>
    obtain⟨j,hjk,rfl,hR0⟩:=hrel
    have HR:=zh hR0
    clear hR0
    by_cases hlt:j<k
    ·have hyl:j<ql.length:=by omega
     have hy:=List.getElem?_eq_getElem hyl
     generalize ql[j]=y at hy
     have hyq:((ql.take j).map (λx=>(⟨eV l0 x.s,x.A,x.n,x.c⟩:SV))++ql.drop j)[j]? =some y:=(renG_at (f:= λx=>(⟨eV l0 x.s,x.A,x.n,x.c⟩:SV))).trans hy
     have s1:=HR.o.own.slots
     have a0:=s1.cellAt (j*3) (by dsimp only;omega)
     have a1:=s1.cellAt (j*3+1) (by dsimp only;omega)
     have a2:=s1.cellAt (j*3+2) (by dsimp only;omega)
     have t0:=av SV.cells SV.cells_len _ j y hyq 0 (by omega)
     rw[Nat.add_zero]at t0
     rw[t0]at a0
     rw[av SV.cells SV.cells_len _ j y hyq 1 (by omega)]at a1
     rw[av SV.cells SV.cells_len _ j y hyq 2 (by omega)]at a2
     simp only[SV.cells,bE,List.getElem?_cons_zero,List.getElem?_cons_succ]at a0 a1 a2
     have ba:=ac wr (.cells #[.int .i64 y.s.kind,.string y.s.data,.slice y.A y.n y.c] 108)
     have RA:=zh (HR.o.next ba (Nat.le_refl _))
     have hn4:y.n<=1000000:=by
      have h1:=(HTab.o j y hy).2
      have h2:=(RA.o.own.tabs j y hyq).2.rd.len
      omega
     have KT:=zh (kT (w5.heap.size+1+1) (w5.heap.size+1) w3.heap.size (2*j+4) tgc y.A y.n y.c (ren l0) ks y.s.table _ RA.o.nbox RA.o.map (HTab.o j y hy).1 (RA.o.own.tabs j y hyq).2 RA.o.nG.ty (by decide) hn4)
     have HY:=zh (And.intro hy hyq)
     have e0:(0:Int)<=(j:Int):=by omega
     have e1:(j:Int)<(k:Int):=by omega
     clear s1 t0 hyq hy ba hyl
     go_wp2_with fail
     refine KT.o.mono ?_
     rintro e w8 ⟨rfl,row,hg,hr,ht⟩
     obtain⟨hy,hyq⟩:=HY.o
     have hso:((sl.take j).map (eV l0)++sl.drop j)[j]? =some y.s:=by
      have e:=RA.o.own.hq
      dsimp only at e
      rw[<-e,List.getElem?_map,hyq];rfl
     have hs:=renG_at.symm.trans hso
     have R8:=RA.o.put hg (λb e=>⟨(hr b e).2.1,(hr b e).2.2⟩) (Nat.le_refl _) (RA.o.own.putTab hyq hg (λb e=>⟨(hr b e).1,(hr b e).2.1⟩) ht)
     have R9':PkR w3 w8 w3.heap.size tgc ⟨orA,orn,orc,some ⟨sb,0,none⟩,k,osc,some ⟨fb,0,none⟩,k,ofc,opA,opn,opc⟩ ((ql.take (j+1)).map (λx=>(⟨eV l0 x.s,x.A,x.n,x.c⟩:SV))++ql.drop (j+1)) p
       {guest:=mg,root:=rl.map (ren l0),slots:=(sl.take (j+1)).map (eV l0)++sl.drop (j+1),refs:=fl,snaps:=pl} w5.heap.size (w5.heap.size+1+1) (w5.heap.size+1) ⟨orA,orn,orc,some ⟨sb,0,none⟩,n,osc,some ⟨fb,0,none⟩,ofn,ofc,opA,opn,opc⟩ mg ks:=by
      rw[<-lP (f:= λx=>(⟨eV l0 x.s,x.A,x.n,x.c⟩:SV)) hy,<-lP (f:=eV l0) hs]
      exact R8
     have R9:=zh R9'
     clear R8 R9' hg hr ht hy hyq hso hs a0 a1 a2 KT
     go_wp2_with fail
     go_roundw
     case rel=>exact⟨j+1,by omega,by go_num,R9.o⟩
     case measure=>simp[intOf];omega
    ·obtain rfl:j=k:=by omega
     have hR0:=HR.o
     rw[List.take_of_length_le (by omega),List.drop_of_length_le (by omega),List.append_nil,List.take_of_length_le (l:=sl) (by omega),List.drop_of_length_le (l:=sl) (by omega),List.append_nil]at hR0
     have R2:=zh hR0
     obtain⟨y0,y1,y2,y3,y4⟩:=hR0.box
     dsimp only at y0 y1 y2 y3 y4
     have hpl:opn<=4611686018427387903:=by omega
     clear hR0 HR R1 HTab
     generalize ql.map (λx=>(⟨eV l0 x.s,x.A,x.n,x.c⟩:SV))=qr at*
     go_wp2_with fail
     go_loopw [83] (λi wr=>∃i':Nat,i'<=opn/\i=.int .i64 i'/\PkR w3 wr w3.heap.size tgc ⟨orA,orn,orc,some ⟨sb,0,none⟩,j,osc,some ⟨fb,0,none⟩,j,ofc,opA,opn,opc⟩ qr ((p.take i').map (λx=>⟨ja l0 x.s,x.A,x.n,x.c⟩)++p.drop i')
      {guest:=mg,root:=rl.map (ren l0),slots:=sl.map (eV l0),refs:=fl,snaps:=(pl.take i').map (ja l0)++pl.drop i'} w5.heap.size (w5.heap.size+1+1) (w5.heap.size+1) ⟨orA,orn,orc,some ⟨sb,0,none⟩,n,osc,some ⟨fb,0,none⟩,ofn,ofc,opA,opn,opc⟩ mg ks) (λi _=>opn-(intOf i).toNat)
     case atStart=>exact⟨0,Nat.zero_le _,rfl,by simpa using R2.o⟩
     case round=>
      obtain⟨i',hik,rfl,hR0⟩:=hrel
      have HR:=zh hR0
      by_cases hlt:i'<opn
      ·have hyl:i'<p.length:=by omega
       have hy:=List.getElem?_eq_getElem hyl
       generalize p[i']=y at hy
       have hyq:((p.take i').map (λx=>(⟨ja l0 x.s,x.A,x.n,x.c⟩:PV))++p.drop i')[i']? =some y:=(renG_at (f:= λx=>(⟨ja l0 x.s,x.A,x.n,x.c⟩:PV))).trans hy
       obtain⟨pb,hpA,_,_⟩:=bK HR.o.own.snaps (by dsimp only;omega)
       dsimp only at hpA
       subst hpA
       have s1:=HR.o.own.snaps
       have a0:=s1.cellAt (i'*3) (by dsimp only;omega)
       have a1:=s1.cellAt (i'*3+1) (by dsimp only;omega)
       have a2:=s1.cellAt (i'*3+2) (by dsimp only;omega)
       have t0:=av PV.cells PV.cells_len _ i' y hyq 0 (by omega)
       rw[Nat.add_zero]at t0
       rw[t0]at a0
       rw[av PV.cells PV.cells_len _ i' y hyq 1 (by omega)]at a1
       rw[av PV.cells PV.cells_len _ i' y hyq 2 (by omega)]at a2
       simp only[PV.cells,List.getElem?_cons_zero,List.getElem?_cons_succ]at a0 a1 a2
       have ba:=ac wr (.cells #[.string y.s.name,.int .i64 y.s.guest,.slice y.A y.n y.c] 102)
       have RA:=zh (HR.o.next ba (Nat.le_refl _))
       have hn4:y.n<=1000000:=by
        have h1:=(HSn.o i' y hy).2
        have h2:=(RA.o.own.roots i' y hyq).2.rd.len
        omega
       have KT:=zh (kT (w5.heap.size+1+1) (w5.heap.size+1) w3.heap.size (2*i'+5) tgc y.A y.n y.c (ren l0) ks y.s.root _ RA.o.nbox RA.o.map (HSn.o i' y hy).1 (RA.o.own.roots i' y hyq).2 RA.o.nG.ty (by decide) hn4)
       have HY:=zh (And.intro hy hyq)
       have e0:(0:Int)<=(i':Int):=by omega
       have e1:(i':Int)<(opn:Int):=by omega
       clear s1 t0 hyq hy ba hyl hR0
       go_wp2_with fail
       refine KT.o.mono ?_
       rintro e w8 ⟨rfl,row,hg,hr,ht⟩
       obtain⟨hy,hyq⟩:=HY.o
       have hso:((pl.take i').map (ja l0)++pl.drop i')[i']? =some y.s:=by
        have e:=RA.o.own.hp
        dsimp only at e
        rw[<-e,List.getElem?_map,hyq];rfl
       have hs:=renG_at.symm.trans hso
       have R8:=RA.o.put hg (λb e=>⟨(hr b e).2.1,(hr b e).2.2⟩) (Nat.le_refl _) (RA.o.own.putSnap hyq hg (λb e=>⟨(hr b e).1,(hr b e).2.1⟩) ht)
       have R9':PkR w3 w8 w3.heap.size tgc ⟨orA,orn,orc,some ⟨sb,0,none⟩,j,osc,some ⟨fb,0,none⟩,j,ofc,some ⟨pb,0,none⟩,opn,opc⟩ qr ((p.take (i'+1)).map (λx=>(⟨ja l0 x.s,x.A,x.n,x.c⟩:PV))++p.drop (i'+1))
         {guest:=mg,root:=rl.map (ren l0),slots:=sl.map (eV l0),refs:=fl,snaps:=(pl.take (i'+1)).map (ja l0)++pl.drop (i'+1)} w5.heap.size (w5.heap.size+1+1) (w5.heap.size+1) ⟨orA,orn,orc,some ⟨sb,0,none⟩,n,osc,some ⟨fb,0,none⟩,ofn,ofc,some ⟨pb,0,none⟩,opn,opc⟩ mg ks:=by
        rw[<-lP (f:= λx=>(⟨ja l0 x.s,x.A,x.n,x.c⟩:PV)) hy,<-lP (f:=ja l0) hs]
        exact R8
       have R9:=zh R9'
       clear R8 R9' hg hr ht hy hyq hso hs a0 a1 a2 KT
       go_wp2_with fail
       go_roundw
       case rel=>exact⟨i'+1,by omega,by go_num,R9.o⟩
       case measure=>simp[intOf];omega
      ·obtain rfl:i'=opn:=by omega
       have hpl2:pl.length=i':=by rw[<-HSP.o,List.length_map];exact hpk
       rw[List.take_of_length_le (l:=pl) (by omega),List.drop_of_length_le (l:=pl) (by omega),List.append_nil]at hR0
       have R3:=zh hR0
       obtain⟨y0,y1,y2,y3,y4⟩:=hR0.box
       dsimp only at y0 y1 y2 y3 y4
       have qz2:=hR0.boxB.fz 2
       have qz3:=hR0.boxB.fz 3
       have g2:=ai wr w5.heap.size 2 (.slice (some ⟨sb,0,none⟩) j osc)
       have b2:=hR0.boxB.set 2 (.slice (some ⟨sb,0,none⟩) j osc)
       have g3:=ai (wr.setCell ⟨w5.heap.size,2,none⟩ (.slice (some ⟨sb,0,none⟩) j osc)) w5.heap.size 3 (.slice (some ⟨fb,0,none⟩) j ofc)
       have gg:=g2.trans g3
       have hO9:=hR0.own.kept gg hR0.boxB.ty (by decide) (by decide) (by decide)
       have hB9:=hR0.below.grown gg (by have:=hR0.below.size;omega) (λb e=>by injection e with e;omega)
       have hF9:Fresh _ w.heap.size ⟨orA,orn,orc,some ⟨sb,0,none⟩,j,osc,some ⟨fb,0,none⟩,j,ofc,opA,i',opc⟩ {guest:=mg,root:=rl.map (ren l0),slots:=sl.map (eV l0),refs:=fl,snaps:=pl.map (ja l0)}:=.inr ⟨w3.heap.size,tgc,qr,_,by omega,hO9⟩
       have zs:=Z3.o.nextB hB9 (by omega)
       have th:=T3.trans (hB9.mono (show w.heap.size<=w3.heap.size by omega))
       have c0:((wr.setCell ⟨w5.heap.size,2,none⟩ (.slice (some ⟨sb,0,none⟩) j osc)).setCell ⟨w5.heap.size,3,none⟩ (.slice (some ⟨fb,0,none⟩) j ofc)).cell? ⟨w5.heap.size,0,none⟩=some (.int .i64 mg):=by go_simp
       have c1:((wr.setCell ⟨w5.heap.size,2,none⟩ (.slice (some ⟨sb,0,none⟩) j osc)).setCell ⟨w5.heap.size,3,none⟩ (.slice (some ⟨fb,0,none⟩) j ofc)).cell? ⟨w5.heap.size,1,none⟩=some (.slice orA orn orc):=by go_simp
       have c2:((wr.setCell ⟨w5.heap.size,2,none⟩ (.slice (some ⟨sb,0,none⟩) j osc)).setCell ⟨w5.heap.size,3,none⟩ (.slice (some ⟨fb,0,none⟩) j ofc)).cell? ⟨w5.heap.size,2,none⟩=some (.slice (some ⟨sb,0,none⟩) j osc):=by go_simp
       have c3:((wr.setCell ⟨w5.heap.size,2,none⟩ (.slice (some ⟨sb,0,none⟩) j osc)).setCell ⟨w5.heap.size,3,none⟩ (.slice (some ⟨fb,0,none⟩) j ofc)).cell? ⟨w5.heap.size,3,none⟩=some (.slice (some ⟨fb,0,none⟩) j ofc):=by go_simp
       have c4:((wr.setCell ⟨w5.heap.size,2,none⟩ (.slice (some ⟨sb,0,none⟩) j osc)).setCell ⟨w5.heap.size,3,none⟩ (.slice (some ⟨fb,0,none⟩) j ofc)).cell? ⟨w5.heap.size,4,none⟩=some (.slice opA i' opc):=by go_simp
       have O:=cA zs hF9 th (Nat.le_refl _) (by omega)
       dsimp only at O
       obtain⟨⟨k0,k1,k2,k3,k4⟩,hF,hB'⟩:=O
       obtain⟨v0,v1,v2,v3,v4⟩:=zs.cells
       obtain⟨q0,q1,q2,q3,q4⟩:=zs.froz
       have HK:=zh (And.intro k0 (And.intro k1 (And.intro k2 (And.intro k3 (And.intro k4 (And.intro hF hB'))))))
       clear k0 k1 k2 k3 k4 hF hB' zs th hF9 hO9 hB9 g2 g3 gg b2 hR0
       go_upto_region 29 with fail
       clear y0 y1 y2 y3 y4 qz2 qz3
       generalize ((wr.setCell ⟨w5.heap.size,2,none⟩ (.slice (some ⟨sb,0,none⟩) j osc)).setCell ⟨w5.heap.size,3,none⟩ (.slice (some ⟨fb,0,none⟩) j ofc))=w9 at*
       go_wp2_with fail
       obtain⟨k0,k1,k2,k3,k4,hF,hB'⟩:=HK.o
       refine bodyPost_ret (v:=.tuple #[ae PM ⟨orA,orn,orc,some ⟨sb,0,none⟩,j,osc,some ⟨fb,0,none⟩,j,ofc,opA,i',opc⟩,.int .i64 0]) ?_ rfl ⟨_,rfl,by rw[HPK.o];exact hF,hB'⟩
       simp[results,results60,go_sem,ae,HPK.o,k0,k1,k2,k3,k4]
theorem yV (v:IV) (m:Img) (w:World) (h:ImgR w w.heap.size v m):
  Calls prog 60 #[ae m v] w (aF w.heap.size (tk m) (ab m) w):=by
 by_cases he:ab m=0
 ·rw[tl he,he];exact Bt v m w h he
 ·rw[Bi he];exact Bs v m w h he
end Go.Proofs.YtdbneghfbkjinaaGreatDoor
