/- Texts of the proof of deskPlays_holds: RPut. Conditions: as each text says. -/
import Derived.Test.YtdbneghfbkjinaaGreatDoorDA1
import Derived.Test.YtdbneghfbkjinaaGreatDoorDA38
import Derived.Test.YtdbneghfbkjinaaGreatDoorDA33
import Derived.Test.YtdbneghfbkjinaaGreatDoorDA34
set_option maxRecDepth 100000
set_option maxHeartbeats 2000000
namespace Go.Proofs.YtdbneghfbkjinaaGreatDoor
section
open Go.Proofs.Tryz hiding bare
open Go.RowKit Sl
def KeepI (w w':World):Prop:=∀b,b<w.heap.size->TypeB w b 34->w'.heap[b]? =w.heap[b]?
theorem KeepI.box {w w':World} (h:KeepI w w') {b:Nat} {g:Int} {v:IV} (hB:BoxB w b) (hx:Box w b g v):Box w' b g v/\BoxB w' b:=by
 obtain⟨cur,e⟩:=hB
 have e':=(h b (za e) ⟨cur,_,e⟩).trans e
 have c:= λj=>(cell_of_row w' b j _ _ _ e').trans (cell_of_row w b j _ _ _ e).symm
 exact⟨⟨(c 0).trans hx.1,(c 1).trans hx.2.1,(c 2).trans hx.2.2.1,(c 3).trans hx.2.2.2.1,(c 4).trans hx.2.2.2.2⟩,⟨cur,e'⟩⟩
theorem KeepI.zb {w w':World} (h:KeepI w w') {b:Nat} (hB:ZB w b):ZB w' b:=⟨(h b (za hB.heap) ⟨_,_,hB.heap⟩).trans hB.heap⟩
def rz (base:Nat) (tg:Nat->Nat) (v:IV) (p:List PV) (m2:Img) (w:World) (e:Ending) (w':World):Prop:=
 ∃v' q',e=.returned (ae m2 v')/\OwnI w' base tg v' q' p m2/\v'.rA=v.rA/\v'.rn=v.rn/\v'.rc=v.rc/\(∀t A n c xs,TabO w base tg t A n c xs->TabO w' base tg t A n c xs)/\Below base w w'/\KeepI w w'
theorem Du (w:World) (g:Int) (v:IV) (a b c:Value):∃W,Hid (((w.alloc (.cells #[.int .i64 g,.slice v.rA v.rn v.rc,.slice v.sA v.sn v.sc,.slice v.fA v.fn v.fc,.slice v.pA v.pn v.pc] 34)).alloc (.cells #[a,b,c] 108)).alloc (.cells #[.int .i64 0,.slice none 0 0,.slice none 0 0,.slice none 0 0,.slice none 0 0] 34)=W)/\Below w.heap.size w W/\Box W w.heap.size g v/\BoxB W w.heap.size/\(∀j:Nat,W.cell? ⟨w.heap.size+1,j,none⟩=#[a,b,c][j]?)/\ZB W (w.heap.size+1+1)/\W.heap.size=w.heap.size+1+1+1:=by
 have s1:=World.size_alloc w (.cells #[.int .i64 g,.slice v.rA v.rn v.rc,.slice v.sA v.sn v.sc,.slice v.fA v.fn v.fc,.slice v.pA v.pn v.pc] 34)
 have hX:=Box.new w g v 34
 have hB:=ac w (.cells #[.int .i64 g,.slice v.rA v.rn v.rc,.slice v.sA v.sn v.sc,.slice v.fA v.fn v.fc,.slice v.pA v.pn v.pc] 34)
 have hBB:=BoxB.new w #[.int .i64 g,.slice v.rA v.rn v.rc,.slice v.sA v.sn v.sc,.slice v.fA v.fn v.fc,.slice v.pA v.pn v.pc]
 refine⟨_,zh rfl,?_⟩
 generalize w.alloc (.cells #[.int .i64 g,.slice v.rA v.rn v.rc,.slice v.sA v.sn v.sc,.slice v.fA v.fn v.fc,.slice v.pA v.pn v.pc] 34)=w1 at*
 have c2:= λj=>cell_of_row _ _ j _ _ _ (heap_alloc_new w1 (.cells #[a,b,c] 108))
 have b2:=ac w1 (.cells #[a,b,c] 108)
 have s2:=World.size_alloc w1 (.cells #[a,b,c] 108)
 generalize w1.alloc (.cells #[a,b,c] 108)=w2 at*
 have z3:=ZB.new w2
 have b3:=ac w2 (.cells #[.int .i64 0,.slice none 0 0,.slice none 0 0,.slice none 0 0,.slice none 0 0] 34)
 rw[s2,s1]at z3
 exact⟨aa (aa hB b2) b3,(hX.keep b2 (by omega)).keep b3 (by omega),(hBB.next b2).next b3,λj=>by rw[<-s1];exact(b3.cell (p:=⟨w1.heap.size,j,none⟩) (show w1.heap.size<_ by omega)).trans (c2 j),z3,by rw[World.size_alloc,s2,s1]⟩
theorem m3 (base:Nat) (tg:Nat->Nat) (v:IV) (q:List SV) (p:List PV) (m:Img) (g:Nat) (s:Slot) (A:Option Addr) (n c:Nat) (w:World) (h:OwnI w base tg v q p m) (hbase:base<=w.heap.size) (hg:g<=m.slots.length) (h40:m.slots.length<=40) (hgp:1<=g)
  (hd:s.data.size<=4611686018427387903) (ht:TabO w base tg (2*g+4) A n c s.table):
  Calls prog 151 #[ae m v,.int .i64 (g:Nat),.agg #[.int .i64 s.kind,.string s.data,.slice A n c]] w (rz base tg v p {m with slots:=laid m.slots g s} w):=by
 have hsn:m.slots.length=v.sn:=h.imgR.slen
 obtain⟨_,hW,f1,f2,fb,f3,f4,f5⟩:=Du w m.guest v (.int .i64 s.kind) (.string s.data) (.slice A n c)
 obtain rfl:=hW.o
 have O3':=h.next f1
 have T3':=ht.next f1
 have KT':∀t A n c xs,TabO w base tg t A n c xs->TabO _ base tg t A n c xs:= λt A n c xs hh=>hh.next f1
 obtain⟨sb,hsA,hsb,hsl⟩:=bK h.slots (by omega)
 obtain⟨rA,rn,rc,sA,sn,sc,fA,fn,fc,pA,pn,pc⟩:=v
 dsimp only[ae]at*
 subst hsA
 have u0:=f3 0
 have u1:=f3 1
 have u2:=f3 2
 simp only[List.getElem?_toArray,List.getElem?_cons_zero,List.getElem?_cons_succ]at u0 u1 u2
 have O3:=zh O3'
 have T3:=zh T3'
 have KT:=zh KT'
 have X3:=zh f2
 have B3:=zh fb
 have Z3:=zh f4
 have F1:=zh f1
 have HSN:=zh hsn
 clear h ht O3' T3' KT' f3 f4 fb f1
 obtain⟨x0,x1,x2,x3,x4⟩:=f2
 dsimp only at x0 x1 x2 x3 x4
 go_enter func151,ntmps151
 by_cases hn:g=sn
 ·subst hn
  have hgg:((g:Int)==(g:Int))=true:=by simp
  obtain⟨is0,his,hsz0,hsz1,hsz2⟩:=info_parts infoSlot
  obtain⟨A2,c2,w5,q1,q2,q3,q4,q5,q6,q7⟩:=cK (P:=prog) (((w.alloc (.cells #[.int .i64 m.guest,.slice rA rn rc,.slice (some ⟨sb,0,none⟩) g sc,.slice fA fn fc,.slice pA pn pc] 34)).alloc (.cells #[.int .i64 s.kind,.string s.data,.slice A n c] 108)).alloc (.cells #[.int .i64 0,.slice none 0 0,.slice none 0 0,.slice none 0 0,.slice none 0 0] 34)) base 31 31 108 is0 _ 3 48 underlying31 his hsz0 hsz1 hsz2 rfl (by omega) _ _ _ O3.o.slots #[.int .i64 s.kind,.string s.data,.slice A n c] rfl
   (by intro u hu;simp at hu;rcases hu with rfl|rfl|rfl<;>rfl) (by show(g+1)*48<=_;omega) (by show g+1<=_;unfold maxLen;omega) (by rw[f5];omega)
  dsimp only at q1
  rw[f5]at q1
  have HR:=zh q1
  have W5:=ac (((w.alloc (.cells #[.int .i64 m.guest,.slice rA rn rc,.slice (some ⟨sb,0,none⟩) g sc,.slice fA fn fc,.slice pA pn pc] 34)).alloc (.cells #[.int .i64 s.kind,.string s.data,.slice A n c] 108)).alloc (.cells #[.int .i64 0,.slice none 0 0,.slice none 0 0,.slice none 0 0,.slice none 0 0] 34)) (.cells #[.int .i64 s.kind,.string s.data,.slice A n c] 108)
  have O5:=(O3.o.next W5).pushSlot (x:=⟨s,A,n,c⟩) q2 q6 q4 q5 (by show g<=_;omega) hd (T3.o.next W5)
  have hne1:some w.heap.size≠(Value.slice (some ⟨sb,0,none⟩) g sc).ownBlock:= λe=>(B3.o.ty.ne (au O3.o.slots e.symm) (by decide)) rfl
  have hne2:some (w.heap.size+1+1)≠(Value.slice (some ⟨sb,0,none⟩) g sc).ownBlock:= λe=>(Z3.o.box.1.ty.ne (au O3.o.slots e.symm) (by decide)) rfl
  have X5:=(X3.o.keep W5 (by omega)).kept q6 hne1
  have B5:=(B3.o.next W5).kept q6 hne1
  have Z5:ZB w5 (w.heap.size+1+1):=⟨(q6.block _ (by have:=W5.size;omega) hne2).trans (Z3.o.next W5).heap⟩
  have hgs:=ai w5 w.heap.size 2 (.slice A2 (g+1) c2)
  have O6:=O5.kept hgs B5.ty (by decide) (by decide) (by decide)
  obtain⟨x5,x6,x7,x8,x9⟩:=X5
  dsimp only at x5 x6 x7 x8 x9
  have X6:Box (w5.setCell ⟨w.heap.size,2,none⟩ (.slice A2 (g+1) c2)) w.heap.size m.guest ⟨rA,rn,rc,A2,g+1,c2,fA,fn,fc,pA,pn,pc⟩:=by
   refine⟨?_,?_,?_,?_,?_⟩<;>go_simp
  have Z6:ZB (w5.setCell ⟨w.heap.size,2,none⟩ (.slice A2 (g+1) c2)) (w.heap.size+1+1):=⟨(hgs.block _ (za Z5.heap) (λe=>by injection e with e;omega)).trans Z5.heap⟩
  have fz2:=B5.fz 2
  have h5:=dr Z6.box.1 Z6.box.2 m.guest ⟨rA,rn,rc,A2,g+1,c2,fA,fn,fc,pA,pn,pc⟩
  have O7:=O6.kept h5.2.2 Z6.box.1.ty (by decide) (by decide) (by decide)
  have TT:∀t A n c xs,TabO w base tg t A n c xs->TabO _ base tg t A n c xs:= λt A n' c' xs hh=>
   ((((KT.o t A n' c' xs hh).next W5).far (O3.o.next W5).slots (by decide) q6).kept hgs (λb' e hl=>.inl ⟨_,by injection e with e;subst e;exact B5.ty,by decide⟩)).kept h5.2.2 (λb' e hl=>.inl ⟨_,by injection e with e;subst e;exact Z6.box.1.ty,by decide⟩)
  have LB:=(((F1.o.mono hbase).trans q3).setCell (p:=⟨w.heap.size,2,none⟩) hbase (.slice A2 (g+1) c2)).grown h5.2.2 (by have:=(((F1.o.mono hbase).trans q3).setCell (p:=⟨w.heap.size,2,none⟩) hbase (.slice A2 (g+1) c2)).size;omega) (λj e=>by injection e with e;omega)
  have KH:KeepI w _:= λb hl hT=>(((h5.2.2.block b (by have:=F1.o.size;have:=W5.size;have:=q6.size;have:=hgs.size;omega) (λe=>by injection e with e;omega)).trans (hgs.block b (by have:=F1.o.size;have:=W5.size;have:=q6.size;omega) (λe=>by injection e with e;omega))).trans (q6.block b (by have:=W5.size;omega) (λe=>((hT.next F1.o).ne (au O3.o.slots e.symm) (by decide)) rfl))).trans ((W5.block b (by omega)).trans (F1.o.block b hl))
  have LD:m.slots++[s]=laid m.slots g s:=by unfold laid;rw[if_pos HSN.o.symm]
  dsimp only at h5
  obtain⟨⟨k0,k1,k2,k3,k4⟩,_,_⟩:=h5
  obtain⟨z0,z1,z2,z3,z4⟩:=Z6.cells
  obtain⟨b0,b1,b2,b3,b4⟩:=Z6.froz
  obtain⟨y5,y6,y7,y8,y9⟩:=X6
  dsimp only at y5 y6 y7 y8 y9
  have HO:=zh O7
  have HTT:=zh TT
  have HLB:=zh LB
  have HKH:=zh KH
  have HLD:=zh LD
  have HK:=zf k0 k1 k2 k3 k4
  clear q1 q2 q3 q6 q7 W5 O5 hne1 hne2 B5 Z5 hgs O6 Z6 O7 TT LB LD KH k0 k1 k2 k3 k4 O3 T3 KT X3 B3 Z3 F1 f5
  go_wp2_with (at_builtin;refine aA rfl _ _ _ _ rfl rfl rfl rfl HR.o ?_)
  obtain⟨k0,k1,k2,k3,k4⟩:=HK.o
  refine bodyPost_ret (v:=ae {m with slots:=laid m.slots g s} ⟨rA,rn,rc,A2,g+1,c2,fA,fn,fc,pA,pn,pc⟩) ?_ rfl ⟨_,_,rfl,by rw[<-HLD.o];exact HO.o,rfl,rfl,rfl,HTT.o,HLB.o,HKH.o⟩
  simp[results,results151,go_sem,k0,k1,k2,k3,k4,ae]
 ·have hgg:((g:Int)==(sn:Int))=false:=by simp;omega
  have hsl3:=O3.o.slots
  have hq1:g<q.length:=by have:=O3.o.qlen;dsimp only at this;omega
  have hqk:=List.getElem?_eq_getElem hq1
  generalize q[g]=xk at hqk
  have c0:=hsl3.cellAt (g*3) (by dsimp only;omega)
  have c1:=hsl3.cellAt (g*3+1) (by dsimp only;omega)
  have c2:=hsl3.cellAt (g*3+2) (by dsimp only;omega)
  have p0:=hsl3.frozenAt (g*3)
  have p1:=hsl3.frozenAt (g*3+1)
  have p2:=hsl3.frozenAt (g*3+2)
  have y0:=av SV.cells SV.cells_len _ g xk hqk 0 (by omega)
  rw[Nat.add_zero]at y0
  rw[y0]at c0
  rw[av SV.cells SV.cells_len _ g xk hqk 1 (by omega)]at c1
  rw[av SV.cells SV.cells_len _ g xk hqk 2 (by omega)]at c2
  simp only[SV.cells,bE,List.getElem?_cons_zero,List.getElem?_cons_succ]at c0 c1 c2
  have e0:(0:Int)<=(g:Int):=by omega
  have e1:(g:Int)<(sn:Int):=by omega
  obtain⟨n1,n2⟩:=O3.o.set3 (x':=⟨s,A,n,c⟩) rfl hqk hd T3.o
  have hTy:=au O3.o.slots (b:=sb) rfl
  have hne:w.heap.size≠sb:=B3.o.ty.ne hTy (by decide)
  have hne2:w.heap.size+1+1≠sb:=Z3.o.box.1.ty.ne hTy (by decide)
  have X4:=X3.o.kept n2 (λe=>hne (by injection e))
  have KH0:∀b,b<w.heap.size->TypeB w b 34->b≠sb:= λb hl hT=>(hT.next F1.o).ne hTy (by decide)
  have LD:(m.slots.set g s)=laid m.slots g s:=by unfold laid;rw[if_neg (by have:=HSN.o;omega)]
  have Z4:ZB _ (w.heap.size+1+1):=⟨(n2.block _ (by omega) (λe=>hne2 (by injection e))).trans Z3.o.heap⟩
  have h5:=dr Z4.box.1 Z4.box.2 m.guest ⟨rA,rn,rc,some ⟨sb,0,none⟩,sn,sc,fA,fn,fc,pA,pn,pc⟩
  have O5:=n1.kept h5.2.2 Z4.box.1.ty (by decide) (by decide) (by decide)
  have TT:∀t A n c xs,TabO w base tg t A n c xs->TabO _ base tg t A n c xs:= λt A n' c' xs hh=>((KT.o t A n' c' xs hh).kept n2 (λb' e hl=>.inl ⟨_,by injection e with e;subst e;exact hTy,by decide⟩)).kept h5.2.2 (λb' e hl=>.inl ⟨_,by injection e with e;subst e;exact Z4.box.1.ty,by decide⟩)
  have LB:=((F1.o.mono hbase).grown n2 (by omega) (λj e=>by injection e with e;omega)).grown h5.2.2 (by have:=n2.size;omega) (λj e=>by injection e with e;omega)
  have KH:KeepI w _:= λb hl hT=>((h5.2.2.block b (by have:=n2.size;omega) (λe=>by injection e with e;omega)).trans (n2.block b (by omega) (λe=>KH0 b hl hT (by injection e)))).trans (F1.o.block b hl)
  dsimp only at h5
  obtain⟨⟨k0,k1,k2,k3,k4⟩,_,_⟩:=h5
  obtain⟨z0,z1,z2,z3,z4⟩:=Z4.cells
  obtain⟨b0,b1,b2,b3,b4⟩:=Z4.froz
  obtain⟨x5,x6,x7,x8,x9⟩:=X4
  dsimp only at x5 x6 x7 x8 x9
  have HO:=zh O5
  have HTT:=zh TT
  have HLB:=zh LB
  have HKH:=zh KH
  have HLD:=zh LD
  have HK:=zf k0 k1 k2 k3 k4
  clear hsl3 hq1 hqk y0 n1 n2 hTy LD Z4 O5 TT LB KH KH0 k0 k1 k2 k3 k4 O3 T3 KT X3 B3 Z3 F1
  go_wp2_with fail
  obtain⟨k0,k1,k2,k3,k4⟩:=HK.o
  refine bodyPost_ret (v:=ae {m with slots:=laid m.slots g s} ⟨rA,rn,rc,some ⟨sb,0,none⟩,sn,sc,fA,fn,fc,pA,pn,pc⟩) ?_ rfl ⟨_,_,rfl,by rw[<-HLD.o];exact HO.o,rfl,rfl,rfl,HTT.o,HLB.o,HKH.o⟩
  simp[results,results151,go_sem,k0,k1,k2,k3,k4,ae]
end
section
open Go.Proofs.Tryz hiding bare
open Go.RowKit Sl
theorem jK (v:IV) (m:Img) (k:Nat) (w:World) (h:ImgR w w.heap.size v m) (hm:ab m=0) (hk:k<m.root.length):
  Calls prog 152 #[ae m v,.int .i64 (int m.root k)] w (dJ w.heap.size 3 1 4 (ah (af m k)) w):=by
 have HB1:=ac w (.cells #[.int .i64 m.guest,.slice v.rA v.rn v.rc,.slice v.sA v.sn v.sc,.slice v.fA v.fn v.fc,.slice v.pA v.pn v.pc] 34)
 have hX:=Box.new w m.guest v 34
 have s1:(w.alloc (.cells #[.int .i64 m.guest,.slice v.rA v.rn v.rc,.slice v.sA v.sn v.sc,.slice v.fA v.fn v.fc,.slice v.pA v.pn v.pc] 34)).heap.size=w.heap.size+1:=World.size_alloc _ _
 rcases dM hm hk with h0|⟨j,s,hj,hj1,hs,hk2,h4⟩
 ·have R:=zh (iL (m:=m) (k:=k) (by omega))
  rw[h0]
  have HM:∀W:World,(Instr.makeSlice 30 (.int .i64 4) (.int .i64 4)).run prog W=.ok (.slice (some ⟨W.heap.size,0,none⟩) 4 4) (W.alloc (.cells (ah (List.replicate 4 0)).toArray 3)):= λW=>dQ 4 (by omega) W
  obtain⟨rA,rn,rc,sA,sn,sc,fA,fn,fc,pA,pn,pc⟩:=v
  dsimp only[ae]at*
  have hown:=cQ (heap_alloc_new (w.alloc (.cells #[.int .i64 m.guest,.slice rA rn rc,.slice sA sn sc,.slice fA fn fc,.slice pA pn pc] 34)) (.cells (ah (List.replicate 4 0)).toArray 3)) (Nat.le_refl _) (show(ah (List.replicate 4 0)).length=4 from rfl) (by unfold maxLen;omega)
  have HO:=zh (bL hown (show w.heap.size<=_ by omega))
  have HBB:=zh (aa HB1 (ac (w.alloc (.cells #[.int .i64 m.guest,.slice rA rn rc,.slice sA sn sc,.slice fA fn fc,.slice pA pn pc] 34)) (.cells (ah (List.replicate 4 0)).toArray 3)))
  rw[s1]at HO
  clear h hm hown HB1 hX
  go_enter func152,ntmps152
  go_wp2_with fail
  go_ret
  exact⟨_,_,rfl,by rw[R.o];exact HO.o,HBB.o,Nat.le_refl _,by unfold maxLen;omega⟩
 ·have hjl:j<v.sn:=by have:=h.slen;have:=(zl hs);omega
  obtain⟨b2,o2,s2,tA,tn,tc,hA,hb2,hx2,d0,d1,d2,hsv⟩:=h.slots.at_ (k:=j) hjl
  rw[hs]at hx2
  injection hx2 with hx2
  subst hx2
  obtain rfl:tn=4:=by have:=hsv.table.len;omega
  have R:=zh (fJ hj hj1 hs)
  rw[hj]
  have HB2:=ac (w.alloc (.cells #[.int .i64 m.guest,.slice v.rA v.rn v.rc,.slice v.sA v.sn v.sc,.slice v.fA v.fn v.fc,.slice v.pA v.pn v.pc] 34)) (.cells #[] 3)
  have T2:=aa HB1 HB2
  have he:EB ((w.alloc (.cells #[.int .i64 m.guest,.slice v.rA v.rn v.rc,.slice v.sA v.sn v.sc,.slice v.fA v.fn v.fc,.slice v.pA v.pn v.pc] 34)).alloc (.cells #[] 3)) (w.heap.size+1):=by rw[<-s1];exact⟨heap_alloc_new _ _⟩
  obtain⟨A',c',w',q1,q2,q3,q4,q5⟩:=jI _ _ he tA 4 tc s.table (hsv.table.next T2) (by omega)
  have q6:w'.ownsRow w.heap.size 3 1 (.slice A' 4 c') 4 (ah s.table):=by
   rcases q2 with⟨h0,_⟩|q2
   ·omega
   ·exact bL q2 (by rw[World.size_alloc];omega)
  have e8:=(T2.cell (p:=⟨b2,o2+j*3+2,none⟩) hb2).trans d2
  have hX2:=hX.keep HB2 (by omega)
  obtain⟨rA,rn,rc,sA,sn,sc,fA,fn,fc,pA,pn,pc⟩:=v
  dsimp only[ae]at*
  subst hA
  obtain⟨x0,x1,x2,x3,x4⟩:=hX2
  dsimp only at x0 x1 x2 x3 x4
  have HR:=zh q1
  have HO:=zh q6
  have HBB:=zh (aa T2 q3)
  have hj0:((j:Int)==0)=false:=by simp;omega
  have e2:(0:Int)<=(j:Int):=by omega
  have e3:(j:Int)<(sn:Int):=by omega
  clear h hm hs hsv hX HB1 HB2 T2 he q1 q2 q3 q6 d0 d1 d2 hj h4
  go_enter func152,ntmps152
  go_wp2_with (at_builtin;refine aA rfl _ _ _ _ rfl rfl rfl rfl HR.o ?_)
  go_ret
  exact⟨_,_,rfl,by rw[R.o];exact HO.o,HBB.o,q4,q5⟩
end
section
open Go.Proofs.Tryz hiding bare
open Go.RowKit Sl
theorem OwnI.setRootO {w:World} {base:Nat} {tg:Nat->Nat} {v:IV} {q:List SV} {p:List PV} {m:Img} (h:OwnI w base tg v q p m) {k:Nat} (hk:k<v.rn) (y:Int):∃g,v.rA=some ⟨g,0,none⟩/\base<=g/\TypeB w g 3/\w.frozen? ⟨g,k,none⟩=false/\(∃x,w.cell? ⟨g,k,none⟩=some (.int .i64 x))/\
  OwnI (w.setCell ⟨g,k,none⟩ (.int .i64 y)) base tg v q p {m with root:=m.root.set k y}:=by
 obtain⟨g,hA,h1,h2,h3,h4,⟨x,_,hx⟩,h6,h7⟩:=h.root.stored hk y
 have hg:=ai w g k (.int .i64 y)
 have ht:∀{t n c:Nat} {A:Option Addr} {xs:List Int},TabO w base tg t A n c xs->t≠0->TabO (w.setCell ⟨g,k,none⟩ (.int .i64 y)) base tg t A n c xs:= λhh hn=>hh.kept hg λb' e _=>by injection e with e;subst e;exact .inr (by omega)
 exact⟨g,hA,h1,h4,h6,⟨x,hx⟩,⟨h7,ht h.refs (by decide),h.slots.kept hg (bH h.slots h4 (by decide)),h.sle,h.scap,h.snaps.kept hg (bH h.snaps h4 (by decide)),h.ple,h.pcap,h.hq,h.hp,
  λk x hx=>⟨(h.tabs k x hx).1,ht (h.tabs k x hx).2 (by omega)⟩,λk x hx=>⟨(h.roots k x hx).1,ht (h.roots k x hx).2 (by omega)⟩⟩⟩
theorem eU (w:World) (g:Int) (v:IV):∃W,Hid ((w.alloc (.cells #[.int .i64 g,.slice v.rA v.rn v.rc,.slice v.sA v.sn v.sc,.slice v.fA v.fn v.fc,.slice v.pA v.pn v.pc] 34)).alloc (.cells #[.int .i64 0,.slice none 0 0,.slice none 0 0,.slice none 0 0,.slice none 0 0] 34)=W)/\Below w.heap.size w W/\Box W w.heap.size g v/\BoxB W w.heap.size/\ZB W (w.heap.size+1)/\W.heap.size=w.heap.size+1+1:=
 let ⟨W,h0,h1,h2,h3,h4⟩:=bd w g v
 ⟨W,h0,h1,h2,by rw[<-h0.o];exact(BoxB.new w _).next (ac _ _),h3,h4⟩
def kh (base:Nat) (p:List PV) (m:Img) (o:Option Img) (w:World) (e:Ending) (w':World):Prop:=
 match o with
 |none=>∃v',e=.returned (.tuple #[ae m v',.bool false])/\Below base w w'/\KeepI w w'
 |some x=>∃tg v' q,e=.returned (.tuple #[ae x v',.bool true])/\OwnI w' base tg v' q p x/\Below base w w'/\KeepI w w'
theorem kv {W:World} {base ob:Nat} {tg:Nat->Nat} {v:IV} {q:List SV} {p:List PV} {m:Img} (hz:ZB W ob) (hO:OwnI W base tg v q p m):
  Box (((((W.setCell ⟨ob,0,none⟩ (.int .i64 m.guest)).setCell ⟨ob,1,none⟩ (.slice v.rA v.rn v.rc)).setCell ⟨ob,2,none⟩ (.slice v.sA v.sn v.sc)).setCell ⟨ob,3,none⟩ (.slice v.fA v.fn v.fc)).setCell ⟨ob,4,none⟩ (.slice v.pA v.pn v.pc)) ob m.guest v/\
  OwnI (((((W.setCell ⟨ob,0,none⟩ (.int .i64 m.guest)).setCell ⟨ob,1,none⟩ (.slice v.rA v.rn v.rc)).setCell ⟨ob,2,none⟩ (.slice v.sA v.sn v.sc)).setCell ⟨ob,3,none⟩ (.slice v.fA v.fn v.fc)).setCell ⟨ob,4,none⟩ (.slice v.pA v.pn v.pc)) base tg v q p m/\
  W.grownBy (((((W.setCell ⟨ob,0,none⟩ (.int .i64 m.guest)).setCell ⟨ob,1,none⟩ (.slice v.rA v.rn v.rc)).setCell ⟨ob,2,none⟩ (.slice v.sA v.sn v.sc)).setCell ⟨ob,3,none⟩ (.slice v.fA v.fn v.fc)).setCell ⟨ob,4,none⟩ (.slice v.pA v.pn v.pc)) (some ob):=by
 have h5:=dr hz.box.1 hz.box.2 m.guest v
 exact⟨h5.1,hO.kept h5.2.2 hz.box.1.ty (by decide) (by decide) (by decide),h5.2.2⟩
theorem uh (base:Nat) (tg:Nat->Nat) (v:IV) (q:List SV) (p:List PV) (m:Img) (k:Nat) (l:List Int) (A:Option Addr) (n c:Nat) (w:World) (h:OwnI w base tg v q p m) (hbase:base<=w.heap.size) (hk:k<v.rn) (ht:TabO w base tg 3 A n c l) (hb:bare l=true):
  Calls prog 155 #[ae m v,.int .i64 (k:Nat),.slice A n c] w (kh base p m (some {m with root:=m.root.set k 0}) w):=by
 obtain⟨W2,hW,f1,f2,fb,f4,f5⟩:=eU w m.guest v
 have hrn:v.rn<=4611686018427387903:=h.imgR.rcap.1
 obtain⟨g,hA,hgb,hgT,hgf,⟨y,hgc⟩,hO⟩:=(h.next f1).setRootO hk 0
 have hgl:=hgT.lt
 have KB':= λW (hh:Below w.heap.size w W)=>jP A n c W.heap.size l W (ht.next hh).rd (by unfold maxLen;have:=ht.2.1;omega)
 rw[hb]at KB'
 obtain⟨rA,rn,rc,sA,sn,sc,fA,fn,fc,pA,pn,pc⟩:=v
 dsimp only[ae]at*
 subst hA
 have KB:=zh (KB' _ f1)
 have hne:w.heap.size≠g:=fb.ty.ne hgT (by decide)
 have hne2:w.heap.size+1≠g:=f4.box.1.ty.ne hgT (by decide)
 have hg:=ai W2 g k (.int .i64 0)
 have X2:=f2.kept hg (λe=>hne (by injection e))
 have Z2:ZB _ (w.heap.size+1):=⟨(hg.block _ (by omega) (λe=>hne2 (by injection e))).trans f4.heap⟩
 obtain⟨⟨k0,k1,k2,k3,k4⟩,hO2,hg2⟩:=kv Z2 hO
 have LB:=((f1.mono hbase).setCell (p:=⟨g,k,none⟩) hgb (.int .i64 0)).grown hg2 (by have:=((f1.mono hbase).setCell (p:=⟨g,k,none⟩) hgb (.int .i64 0)).size;omega) (λj e=>by injection e with e;omega)
 have KH:KeepI w _:= λb hl hT=>((hg2.block b (by have:=hg.size;have:=f1.size;omega) (λe=>by injection e with e;omega)).trans (hg.block b (by have:=f1.size;omega) (λe=>((hT.next f1).ne hgT (by decide)) (by injection e)))).trans (f1.block b hl)
 have HKH:=zh KH
 clear KH
 obtain⟨z0,z1,z2,z3,z4⟩:=Z2.cells
 obtain⟨b0,b1,b2,b3,b4⟩:=Z2.froz
 obtain⟨x0,x1,x2,x3,x4⟩:=f2
 obtain⟨x5,x6,x7,x8,x9⟩:=X2
 dsimp only at x0 x1 x2 x3 x4 x5 x6 x7 x8 x9
 have HK:=zf k0 k1 k2 k3 k4
 have HO:=zh hO2
 have HLB:=zh LB
 have e0:(0:Int)<=(k:Int):=by omega
 have e1:(k:Int)<(rn:Int):=by omega
 clear h ht hO f1 fb f4 f5 hgT KB' hg Z2 hO2 hg2 LB k0 k1 k2 k3 k4
 go_enter func155,ntmps155
 go_upto_region 1 with fail
 rw[hW.o]
 go_wp2_with fail
 refine KB.o.mono ?_
 rintro e w5 ⟨rfl,rfl⟩
 go_wp2_with fail
 obtain⟨k0,k1,k2,k3,k4⟩:=HK.o
 refine bodyPost_ret (v:=.tuple #[ae {m with root:=m.root.set k 0} ⟨some ⟨g,0,none⟩,rn,rc,sA,sn,sc,fA,fn,fc,pA,pn,pc⟩,.bool true]) ?_ rfl ⟨_,_,_,rfl,HO.o,HLB.o,HKH.o⟩
 simp[results,results155,go_sem,k0,k1,k2,k3,k4,ae]
theorem wy (base:Nat) (tg:Nat->Nat) (v:IV) (q:List SV) (p:List PV) (m:Img) (k:Nat) (l:List Int) (A:Option Addr) (n c:Nat) (w:World) (h:OwnI w base tg v q p m) (hbase:base<=w.heap.size) (hm:ab m=0) (hk:k<v.rn) (ht:TabO w base tg 3 A n c l) (hb:bare l=false) (j:Nat) (hj:int m.root k=(j:Nat)) (hj1:1<=j) (hjl:j<m.slots.length) (hr1:int m.refs j=1):
  Calls prog 155 #[ae m v,.int .i64 (k:Nat),.slice A n c] w (kh base p m (some {m with slots:=m.slots.set j (aC l)}) w):=by
 obtain⟨W2,hW,f1,f2,fb,f4,f5⟩:=eU w m.guest v
 have hrn:v.rn<=4611686018427387903:=h.imgR.rcap.1
 have hI:=h.imgR
 obtain⟨b1,hA,hb1,hbl,_,hbT,⟨t,hti,c1⟩,_,_⟩:=(h.next f1).root.stored hk 0
 have hit:=bG hti
 have KB':= λW (hh:Below w.heap.size w W)=>jP A n c W.heap.size l W (ht.next hh).rd (by unfold maxLen;have:=ht.2.1;omega)
 rw[hb]at KB'
 have hjr:∃b2 o2,v.fA=some ⟨b2,o2,none⟩/\b2<w.heap.size/\w.cell? ⟨b2,o2+j,none⟩=some (.int .i64 1):=by
  obtain⟨b2,o2,r,g1,g2,g3,g4⟩:=hI.refs.at1 (k:=j) (by have:=hI.flen;have:=dw hm;omega)
  have:=bG g3
  rw[hr1]at this
  subst this
  exact⟨b2,o2,g1,g2,g4⟩
 obtain⟨b2,o2,hFA,hb2,c2⟩:=hjr
 have hfn:=hI.flen
 have hrl:=dw hm
 have hsn:=hI.slen
 obtain⟨sb,hsA,hsb,hslt⟩:=bK h.slots (by omega)
 rw[hj]at hit
 subst hit
 have HMK:=(h.next f1).marked (2*j+4)
 have HTG:=((ht.next f1).given (s:=2*j+4))
 have c2':=(f1.cell (p:=⟨b2,o2+j,none⟩) hb2).trans c2
 obtain⟨rA,rn,rc,sA,sn,sc,fA,fn,fc,pA,pn,pc⟩:=v
 dsimp only[ae]at*
 subst hA hsA hFA
 have KB:=zh (KB' _ f1)
 have hq1:j<q.length:=by have:=HMK.qlen;dsimp only at this;omega
 have hqk:=List.getElem?_eq_getElem hq1
 generalize q[j]=xk at hqk
 have y0:=HMK.slots.cellAt (j*3) (by dsimp only;omega)
 have y1:=HMK.slots.cellAt (j*3+1) (by dsimp only;omega)
 have y2:=HMK.slots.cellAt (j*3+2) (by dsimp only;omega)
 have g0:=HMK.slots.frozenAt (j*3)
 have g1:=HMK.slots.frozenAt (j*3+1)
 have g2:=HMK.slots.frozenAt (j*3+2)
 have z0:=av SV.cells SV.cells_len _ j xk hqk 0 (by omega)
 rw[Nat.add_zero]at z0
 rw[z0]at y0
 rw[av SV.cells SV.cells_len _ j xk hqk 1 (by omega)]at y1
 rw[av SV.cells SV.cells_len _ j xk hqk 2 (by omega)]at y2
 simp only[SV.cells,bE,List.getElem?_cons_zero,List.getElem?_cons_succ]at y0 y1 y2
 obtain⟨n1,n2⟩:=HMK.set3 (x':=⟨aC l,A,n,c⟩) rfl hqk (show(0:Nat)<=_ by omega) HTG
 dsimp only[aC]at n1 n2
 have hTy:=au HMK.slots (b:=sb) rfl
 have hne:w.heap.size≠sb:=fb.ty.ne hTy (by decide)
 have hne2:w.heap.size+1≠sb:=f4.box.1.ty.ne hTy (by decide)
 have X2:=f2.kept n2 (λe=>hne (by injection e))
 have Z2:ZB _ (w.heap.size+1):=⟨(n2.block _ (by omega) (λe=>hne2 (by injection e))).trans f4.heap⟩
 obtain⟨⟨k0,k1,k2,k3,k4⟩,hO2,hg2⟩:=kv Z2 n1
 have LB:=((f1.mono hbase).grown n2 (by omega) (λj e=>by injection e with e;omega)).grown hg2 (by have:=n2.size;omega) (λj e=>by injection e with e;omega)
 have KH:KeepI w _:= λb hl hT=>((hg2.block b (by have:=n2.size;have:=f1.size;omega) (λe=>by injection e with e;omega)).trans (n2.block b (by have:=f1.size;omega) (λe=>((hT.next f1).ne hTy (by decide)) (by injection e)))).trans (f1.block b hl)
 have HKH:=zh KH
 clear KH
 obtain⟨z0,z1,z2,z3,z4⟩:=Z2.cells
 obtain⟨q0,q1,q2,q3,q4⟩:=Z2.froz
 obtain⟨x0,x1,x2,x3,x4⟩:=f2
 obtain⟨x5,x6,x7,x8,x9⟩:=X2
 dsimp only at x0 x1 x2 x3 x4 x5 x6 x7 x8 x9
 have HK:=zf k0 k1 k2 k3 k4
 have HO:=zh hO2
 have HLB:=zh LB
 have e0:(0:Int)<=(k:Int):=by omega
 have e1:(k:Int)<(rn:Int):=by omega
 have e2:((j:Int) !=0)=true:=by simp;omega
 have e3:(0:Int)<=(j:Int):=by omega
 have e4:(j:Int)<(fn:Int):=by omega
 have e5:(j:Int)<(sn:Int):=by omega
 clear h ht hI hti f1 fb f4 f5 KB' Z2 hO2 hg2 LB k0 k1 k2 k3 k4 HMK HTG n1 n2 hTy hq1 hqk hr1 hb c2
 go_enter func155,ntmps155
 go_upto_region 1 with fail
 rw[hW.o]
 go_wp2_with fail
 refine KB.o.mono ?_
 rintro e w5 ⟨rfl,rfl⟩
 go_wp2_with fail
 obtain⟨k0,k1,k2,k3,k4⟩:=HK.o
 refine bodyPost_ret (v:=.tuple #[ae {m with slots:=m.slots.set j (aC l)} ⟨some ⟨b1,0,none⟩,rn,rc,some ⟨sb,0,none⟩,sn,sc,some ⟨b2,o2,none⟩,fn,fc,pA,pn,pc⟩,.bool true]) ?_ rfl ⟨_,_,_,rfl,HO.o,HLB.o,HKH.o⟩
 simp[results,results155,go_sem,k0,k1,k2,k3,k4,ae]
theorem ox (base:Nat) (tg:Nat->Nat) (v:IV) (q:List SV) (p:List PV) (m:Img) (k:Nat) (l:List Int) (A:Option Addr) (n c:Nat) (w:World) (h:OwnI w base tg v q p m) (hbase:base<=w.heap.size) (hm:ab m=0) (hk:k<v.rn) (ht:TabO w base tg 3 A n c l) (hb:bare l=false) (hcase:int m.root k=0\/ ∃j:Nat,int m.root k=(j:Nat)/\1<=j/\j<m.slots.length/\int m.refs j≠1):
  Calls prog 155 #[ae m v,.int .i64 (k:Nat),.slice A n c] w (kh base p m (if aS m.slots=0 then none else some {m with slots:=laid m.slots (aS m.slots) (aC l),root:=m.root.set k (aS m.slots:Nat)}) w):=by
 obtain⟨W2,hW,f1,f2,fb,f4,f5⟩:=eU w m.guest v
 have hrn:v.rn<=4611686018427387903:=h.imgR.rcap.1
 have hI:=h.imgR
 obtain⟨b1,hA,hb1,hbl,_,hbT,⟨t,hti,c1⟩,_,_⟩:=(h.next f1).root.stored hk 0
 have hit:=bG hti
 have KB':= λW (hh:Below w.heap.size w W)=>jP A n c W.heap.size l W (ht.next hh).rd (by unfold maxLen;have:=ht.2.1;omega)
 rw[hb]at KB'
 have S:=ay (aq hm).1
 have hse:=S.slots
 have hsl:=hI.slen
 have h1l:=(aJ hse).1
 have KG':= λW (hh:Below w.heap.size w W)=>go v.sA v.sn v.sc m.slots W (hI.next hh).slots (by omega) hI.scap.1
 have hrl:=dw hm
 have HL0:= λ(hg:aS m.slots≠0)=>(let ⟨g1,g2,_,_⟩:=ec hse hg;m3 base (nV tg (2*aS m.slots+4)) v q p m (aS m.slots) (aC l) A n c _ ((h.next f1).marked _) (by have:=f1.size;omega) g2 (aJ hse).2 g1 (show(0:Nat)<=_ by omega) (ht.next f1).given)
 have hfn:=hI.flen
 have HJ:=zh (show∀j:Nat,1<=j->j<m.slots.length->int m.refs j≠1->∃b2 o2 r,v.fA=some ⟨b2,o2,none⟩/\(r==1)=false/\W2.cell? ⟨b2,o2+j,none⟩=some (.int .i64 r)fromλj hj1 hjl hr1=>by
  obtain⟨b2,o2,r,g1,g2,g3,g4⟩:=hI.refs.at1 (k:=j) (by omega)
  have:=bG g3
  exact⟨b2,o2,r,g1,by simpa[<-this]using hr1,(f1.cell (p:=⟨b2,o2+j,none⟩) g2).trans g4⟩)
 generalize hgn:aS m.slots=g at*
 obtain⟨rA,rn,rc,sA,sn,sc,fA,fn,fc,pA,pn,pc⟩:=v
 dsimp only[ae,aC]at*
 subst hA
 have KB:=zh (KB' _ f1)
 have KG:=zh (KG' _ f1)
 have HL:=zh HL0
 have HF1:=zh (f1.mono hbase)
 have HB1:=zh f1
 have HX:=zh f2
 have HBB:=zh fb
 have HZ:=zh f4
 obtain⟨x0,x1,x2,x3,x4⟩:=f2
 dsimp only at x0 x1 x2 x3 x4
 have e0:(0:Int)<=(k:Int):=by omega
 have e1:(k:Int)<(rn:Int):=by omega
 have HC:=zh hcase
 generalize hO:(if g=0 then none else some _)=o
 have HOo:=zh hO
 clear hO h ht hI hti KB' KG' HL0 hb S hse hsl hgn f1 fb f4 hcase
 go_enter func155,ntmps155
 go_upto_region 1 with fail
 rw[hW.o]
 go_wp2_with fail
 refine KB.o.mono ?_
 rintro e w5 ⟨rfl,rfl⟩
 go_upto_region 9 with fail
 go_cut [38] (λb wx=>W2=wx/\b=.bool false)
 case first=>
  rcases HC.o with hj|⟨j,hj,hj1,hjl,hr1⟩
  ·rw[hj]at hit
   subst hit
   go_wp2_with fail
   go_meet
   case rel=>exact⟨rfl,rfl⟩
  ·obtain⟨b2,o2,r,hFA,hrr,c2'⟩:=HJ.o j hj1 hjl hr1
   rw[hFA]at x3
   rw[hj]at hit
   subst hit
   have e2:((j:Int) !=0)=true:=by simp;omega
   have e3:(0:Int)<=(j:Int):=by omega
   have e4:(j:Int)<(fn:Int):=by omega
   clear hFA HJ
   go_wp2_with fail
   go_meet
   case rel=>exact⟨rfl,rfl⟩
 obtain⟨rfl,rfl⟩:=hcut
 clear HJ hit HC
 go_wp2_with fail
 refine KG.o.mono ?_
 rintro e w6 ⟨rfl,rfl⟩
 by_cases hg:g=0
 ·obtain rfl:none=o:=by rw[<-HOo.o,if_pos hg]
  subst hg
  have h6:=dr HZ.o.box.1 HZ.o.box.2 m.guest ⟨some ⟨b1,0,none⟩,rn,rc,sA,sn,sc,fA,fn,fc,pA,pn,pc⟩
  have LB:=HF1.o.grown h6.2.2 (by have:=HB1.o.size;omega) (λj e=>by injection e with e;omega)
  have HKH:=zh (show KeepI w _ fromλb hl hT=>(h6.2.2.block b (by have:=HB1.o.size;omega) (λe=>by injection e with e;omega)).trans (HB1.o.block b hl))
  have HK:=zh h6.1
  have HLB:=zh LB
  obtain⟨z0,z1,z2,z3,z4⟩:=HZ.o.cells
  obtain⟨q0,q1,q2,q3,q4⟩:=HZ.o.froz
  clear h6 LB HL
  go_wp2_with fail
  obtain⟨k0,k1,k2,k3,k4⟩:=HK.o
  dsimp only at k0 k1 k2 k3 k4
  refine bodyPost_ret (v:=.tuple #[ae m ⟨some ⟨b1,0,none⟩,rn,rc,sA,sn,sc,fA,fn,fc,pA,pn,pc⟩,.bool false]) ?_ rfl ⟨_,rfl,HLB.o,HKH.o⟩
  simp[results,results155,go_sem,k0,k1,k2,k3,k4,ae]
 ·obtain rfl:_=o:=by rw[<-HOo.o,if_neg hg]
  have hg0:((g:Int)==0)=false:=by simp;omega
  have HL:=zh (HL.o hg)
  clear hg
  go_wp2_with fail
  refine HL.o.mono ?_
  rintro e w7 ⟨⟨rA7,rn7,rc7,sA7,sn7,sc7,fA7,fn7,fc7,pA7,pn7,pc7⟩,q7,rfl,hO7,hv1,hv2,hv3,hTT,hb7,hKI⟩
  dsimp only at hv1 hv2 hv3
  subst hv1 hv2 hv3
  obtain⟨X7,B7⟩:=hKI.box HBB.o HX.o
  have Z7:=hKI.zb HZ.o
  have h5:=dr B7 ⟨_,_,X7⟩ m.guest ⟨some ⟨b1,0,none⟩,rn7,rc7,sA7,sn7,sc7,fA7,fn7,fc7,pA7,pn7,pc7⟩
  dsimp only at h5
  have O8:=hO7.kept h5.2.2 B7.ty (by decide) (by decide) (by decide)
  obtain⟨b1',hA',hb1',hT1,hfz,⟨y,hcy⟩,O9⟩:=O8.setRootO (k:=k) (by dsimp only;omega) (g:Nat)
  have hbb:b1'=b1:=(congrArg Addr.block (Option.some.inj hA')).symm
  subst hbb
  have s7:=hb7.size
  have hl0:w.heap.size<w7.heap.size:=B7.ty.lt
  have hl1:w.heap.size+1<w7.heap.size:=Z7.box.1.ty.lt
  have Z8:ZB _ (w.heap.size+1):=⟨(h5.2.2.block _ hl1 (λe=>by injection e with e;omega)).trans Z7.heap⟩
  have hg:=ai (((((w7.setCell ⟨w.heap.size,0,none⟩ (.int .i64 m.guest)).setCell ⟨w.heap.size,1,none⟩ (.slice (some ⟨b1',0,none⟩) rn7 rc7)).setCell ⟨w.heap.size,2,none⟩ (.slice sA7 sn7 sc7)).setCell ⟨w.heap.size,3,none⟩ (.slice fA7 fn7 fc7)).setCell ⟨w.heap.size,4,none⟩ (.slice pA7 pn7 pc7)) b1' k (.int .i64 (g:Nat))
  have hnb:w.heap.size≠b1':=h5.2.1.ty.ne hT1 (by decide)
  have hnb2:w.heap.size+1≠b1':=Z8.box.1.ty.ne hT1 (by decide)
  have X9:=h5.1.kept hg (λe=>hnb (by injection e))
  have Z9:ZB _ (w.heap.size+1):=⟨(hg.block _ Z8.box.1.ty.lt (λe=>hnb2 (by injection e))).trans Z8.heap⟩
  obtain⟨⟨k0,k1,k2,k3,k4⟩,hO2,hg2⟩:=kv Z9 O9
  have LB:=(((HF1.o.trans hb7).grown h5.2.2 (by omega) (λj e=>by injection e with e;omega)).setCell (p:=⟨b1',k,none⟩) hb1' (.int .i64 (g:Nat))).grown hg2 (by have:=((HF1.o.trans hb7).grown h5.2.2 (by omega) (λj e=>by injection e with e;omega)).size;have:=hg.size;omega) (λj e=>by injection e with e;omega)
  have KH:KeepI w _:= λb hl hT=>by
   have t2:=hT.next HB1.o
   have l2:b<W2.heap.size:=by omega
   have l7:b<w7.heap.size:=by omega
   have e1:=(HB1.o.block b hl)
   have e2:=hKI b l2 t2
   have t7:TypeB w7 b 34:=by obtain⟨c,f,e⟩:=t2;exact⟨c,f,e2.trans e⟩
   have e3:=h5.2.2.block b l7 (λe=>by injection e with e;omega)
   have t8:=t7.kept h5.2.2 (λe=>by injection e with e;omega)
   have e4:=hg.block b t8.lt (λe=>(t8.ne hT1 (by decide)) (by injection e))
   have e5:=hg2.block b (by have:=t8.lt;have:=hg.size;omega) (λe=>by injection e with e;omega)
   exact(((e5.trans e4).trans e3).trans e2).trans e1
  obtain⟨z0,z1,z2,z3,z4⟩:=Z9.cells
  obtain⟨q0,q1,q2,q3,q4⟩:=Z9.froz
  obtain⟨x0,x1,x2,x3,x4⟩:=X7
  obtain⟨a0,a1,a2,a3,a4⟩:=h5.1
  obtain⟨x5,x6,x7,x8,x9⟩:=X9
  have y0:=B7.fz 0
  have y1:=B7.fz 1
  have y2:=B7.fz 2
  have y3:=B7.fz 3
  have y4:=B7.fz 4
  have HK:=zf k0 k1 k2 k3 k4
  have HO:=zh hO2
  have HLB:=zh LB
  have HKH:=zh KH
  dsimp only at x0 x1 x2 x3 x4 a0 a1 a2 a3 a4 x5 x6 x7 x8 x9
  clear h5 Z7 Z8 Z9 O8 O9 hO7 hg hg2 hO2 LB KH k0 k1 k2 k3 k4 B7 hT1 hTT hb7 hKI HX HBB HZ HL hA'
  go_wp2_with fail
  obtain⟨k0,k1,k2,k3,k4⟩:=HK.o
  refine bodyPost_ret (v:=.tuple #[ae {m with slots:=laid m.slots g (aC l),root:=m.root.set k (g:Nat)} ⟨some ⟨b1',0,none⟩,rn7,rc7,sA7,sn7,sc7,fA7,fn7,fc7,pA7,pn7,pc7⟩,.bool true]) ?_ rfl ⟨_,_,_,rfl,HO.o,HLB.o,HKH.o⟩
  simp[results,results155,go_sem,k0,k1,k2,k3,k4,ae]
def rB (m:Img) (k:Nat) (l:List Int):Option Img:=if bare l=true then some {m with root:=m.root.set k 0}else fj m k l
theorem oy (base:Nat) (tg:Nat->Nat) (v:IV) (q:List SV) (p:List PV) (m:Img) (k:Nat) (l:List Int) (A:Option Addr) (n c:Nat) (w:World) (h:OwnI w base tg v q p m) (hbase:base<=w.heap.size) (hm:ab m=0) (hk:k<v.rn) (ht:TabO w base tg 3 A n c l):
  Calls prog 155 #[ae m v,.int .i64 (k:Nat),.slice A n c] w (kh base p m (rB m k l) w):=by
 unfold rB
 by_cases hb:bare l=true
 ·rw[if_pos hb]
  exact uh base tg v q p m k l A n c w h hbase hk ht hb
 ·have hb:bare l=false:=by simpa using hb
  rw[hb,if_neg (by decide)]
  have hkr:k<m.root.length:=by have:=h.imgR.rlen;omega
  rcases dM hm hkr with h0|⟨j,s,hj,hj1,hs,_,_⟩
  ·have:=ox base tg v q p m k l A n c w h hbase hm hk ht hb (.inl h0)
   by_cases hg:aS m.slots=0
   ·rw[kN (lJ h0) hg]
    rwa [if_pos hg]at this
   ·rw[mq (lJ h0) hg]
    rwa [if_neg hg]at this
  ·have hjl:=(zl hs)
   by_cases hr:int m.refs j=1
   ·rw[pQ hj hj1 hr]
    exact wy base tg v q p m k l A n c w h hbase hm hk ht hb j hj hj1 hjl hr
   ·have:=ox base tg v q p m k l A n c w h hbase hm hk ht hb (.inr ⟨j,hj,hj1,hjl,hr⟩)
    by_cases hg:aS m.slots=0
    ·rw[kN (lK hj hr) hg]
     rwa [if_pos hg]at this
    ·rw[mq (lK hj hr) hg]
     rwa [if_neg hg]at this
end
section
open Go.Proofs.Tryz hiding bare
open Go.RowKit Sl
theorem ix {w W:World} {ob base B:Nat} {v:IV} {X:Img} (hz:ZB W ob) (hF:Fresh W B v X) (hb:Below base w W) (hbw:base<=w.heap.size) (hl:base<=ob):
  Box (((((W.setCell ⟨ob,0,none⟩ (.int .i64 X.guest)).setCell ⟨ob,1,none⟩ (.slice v.rA v.rn v.rc)).setCell ⟨ob,2,none⟩ (.slice v.sA v.sn v.sc)).setCell ⟨ob,3,none⟩ (.slice v.fA v.fn v.fc)).setCell ⟨ob,4,none⟩ (.slice v.pA v.pn v.pc)) ob X.guest v/\
  Fresh (((((W.setCell ⟨ob,0,none⟩ (.int .i64 X.guest)).setCell ⟨ob,1,none⟩ (.slice v.rA v.rn v.rc)).setCell ⟨ob,2,none⟩ (.slice v.sA v.sn v.sc)).setCell ⟨ob,3,none⟩ (.slice v.fA v.fn v.fc)).setCell ⟨ob,4,none⟩ (.slice v.pA v.pn v.pc)) B v X/\
  Below base w (((((W.setCell ⟨ob,0,none⟩ (.int .i64 X.guest)).setCell ⟨ob,1,none⟩ (.slice v.rA v.rn v.rc)).setCell ⟨ob,2,none⟩ (.slice v.sA v.sn v.sc)).setCell ⟨ob,3,none⟩ (.slice v.fA v.fn v.fc)).setCell ⟨ob,4,none⟩ (.slice v.pA v.pn v.pc)):=by
 have h5:=dr hz.box.1 hz.box.2 X.guest v
 exact⟨h5.1,hF.kept h5.2.2 hz.box.1.ty (by decide) (by decide) (by decide),hb.grown h5.2.2 (Nat.le_trans hbw hb.size) (λj e=>by injection e with e;omega)⟩
theorem zD {l:List Int} {i:Nat} {a:Int} (h:l[i]? =some a):l.set i a=l:=by
 apply List.ext_getElem?
 intro j
 rw[List.getElem?_set]
 split
 ·rename_i e;subst e
  split
  ·rw[h]
  ·rename_i hl;rw[List.getElem?_eq_none (by omega)]
 ·rfl
theorem OwnI.fresh {w W W':World} {base n c:Nat} {tg:Nat->Nat} {v:IV} {q:List SV} {p:List PV} {m:Img} {A:Option Addr} {l:List Int} (h:OwnI w base tg v q p m) (hbw:base<=w.heap.size) (T:Below w.heap.size w W) (hb:Below W.heap.size W W') (ho:W'.ownsRow W.heap.size 3 1 (.slice A n c) n (ah l))
  (hn:n<=1000000) (hc:n<=c) (hm:c<=maxLen):∃tg',OwnI W' base tg' v q p m/\TabO W' base tg' 3 A n c l:=by
 have:=T.size
 exact⟨λg=>if W.heap.size<=g then 3 else tg g,((h.next T).retag (λb' hb'=>if_neg (by omega))).next hb,TabO.made (.inr ho) (by omega) hn hc hm⟩
theorem OwnI.setFreeO {w:World} {base:Nat} {tg:Nat->Nat} {v:IV} {q:List SV} {p:List PV} {m:Img} (h:OwnI w base tg v q p m) {n c k:Nat} {A:Option Addr} {xs:List Int} (hr:TabO w base tg 3 A n c xs) (hk:k<n) (y:Int):∃g,A=some ⟨g,0,none⟩/\base<=g/\TypeB w g 3/\w.frozen? ⟨g,k,none⟩=false/\(∃x,xs[k]? =some x/\w.cell? ⟨g,k,none⟩=some (.int .i64 x))/\
  OwnI (w.setCell ⟨g,k,none⟩ (.int .i64 y)) base tg v q p m/\TabO (w.setCell ⟨g,k,none⟩ (.int .i64 y)) base tg 3 A n c (xs.set k y):=by
 obtain⟨g,hA,h1,h2,h3,h4,⟨x,hx1,hx⟩,h6,h7⟩:=hr.stored hk y
 have hg:=ai w g k (.int .i64 y)
 have ht:∀{t n c:Nat} {A:Option Addr} {xs:List Int},TabO w base tg t A n c xs->t≠3->TabO (w.setCell ⟨g,k,none⟩ (.int .i64 y)) base tg t A n c xs:= λhh hn=>hh.kept hg λb' e _=>by injection e with e;subst e;exact .inr (by omega)
 exact⟨g,hA,h1,h4,h6,⟨x,hx1,hx⟩,⟨ht h.root (by decide),ht h.refs (by decide),h.slots.kept hg (bH h.slots h4 (by decide)),h.sle,h.scap,h.snaps.kept hg (bH h.snaps h4 (by decide)),h.ple,h.pcap,h.hq,h.hp,
  λk x hx=>⟨(h.tabs k x hx).1,ht (h.tabs k x hx).2 (by omega)⟩,λk x hx=>⟨(h.roots k x hx).1,ht (h.roots k x hx).2 (by omega)⟩⟩,h7⟩
theorem qt (v:IV) (m:Img) (n:Nat) (e:Int) (w:World) (h:ImgR w w.heap.size v m) (hm:ab m=0) (hn:(n:Int)<m.guest) (hf:cV e=true) (h0:e<=0):
  Calls prog 156 #[ae m v,.int .i64 n,.int .i64 e] w (aF w.heap.size (kP (dP m n e)) (iM (dP m n e)) w):=by
 have HXX:Hid (kP (dP m n e)=kP (dP m n e)):=zh rfl
 have HEE:Hid (iM (dP m n e)=iM (dP m n e)):=zh rfl
 generalize hX0:kP (dP m n e)=X at HXX⊢
 generalize hE0:iM (dP m n e)=er at HEE⊢
 have HX0:=zh hX0
 have HE0:=zh hE0
 clear hX0 hE0 HXX HEE
 have hk:=iF hm hn
 have S:=ay (aq hm).1
 obtain⟨e1,e2,e3⟩:=dC hm hk
 have h4:=(aU e1).1
 have hg16:=(gi hm).2.1
 have hmod:((n%4:Nat):Int)=(n:Int)%4:=by omega
 have hdiv:((n/4:Nat):Int)=(n:Int)/4:=by omega
 have htm:(n:Int).tmod 4=(n:Int)%4:=Int.tmod_eq_emod_of_nonneg (by omega)
 have htd:(n:Int).tdiv 4=(n:Int)/4:=Int.tdiv_eq_ediv_of_nonneg (by omega)
 have hrl:=dw hm
 have KO':= λW (hb:Below w.heap.size w W)=>fs v m W (h.next hb) S.cbd (by rw[hrl];exact S.cbd.slots)
 have KE':= λW (hb:Below w.heap.size w W)=>jK v m (n/4) W (h.next hb) hm hk
 obtain⟨W2,hW,f1,f2,fb,f4,f5⟩:=eU w m.guest v
 have hI:=h.next f1
 obtain⟨rb,ro,t,hA,hrb,hti,hct⟩:=h.root.at1 (k:=n/4) (by have:=h.rlen;omega)
 have hit:=bG hti
 rw[hit]at KE'
 have hrn:=h.rlen
 have hrc:=h.rcap.1
 obtain⟨rA,rn,rc,sA,sn,sc,fA,fn,fc,pA,pn,pc⟩:=v
 dsimp only[ae]at*
 subst hA
 have KO:=zh (KO' _ f1)
 have KE:=zh KE'
 have F1:=zh f1
 have FX:=zh f2
 have FZ:=zh f4
 have hct2:=(f1.cell (p:=⟨rb,ro+n/4,none⟩) hrb).trans hct
 have HS:=zh S
 have hk0:(0:Int)<=(n:Int)/4:=by omega
 have hk1:(n:Int)/4<(rn:Int):=by omega
 have hi0:(0:Int)<=(n:Int)%4:=by omega
 have hi1:(n:Int)%4<4:=by omega
 have hi2:n%4<4:=by omega
 have hxb:n<=4611686018427387903:=by omega
 obtain⟨x0,x1,x2,x3,x4⟩:=f2
 dsimp only at x0 x1 x2 x3 x4
 clear h KO' KE' fb hI hti hct
 go_enter func156,ntmps156
 go_wp2_with fail
 rw[hW.o]
 refine KO.o.mono ?_
 rintro e' w3 ⟨⟨rA3,rn3,rc3,sA3,sn3,sc3,fA3,fn3,fc3,pA3,pn3,pc3⟩,tg,q,p,rfl,hO3,hb3⟩
 have hb4:=ac w3 (.cells #[.int .i64 m.guest,.slice rA3 rn3 rc3,.slice sA3 sn3 sc3,.slice fA3 fn3 fc3,.slice pA3 pn3 pc3] 34)
 have T4:=aa hb3 hb4
 have X9:=Box.new w3 m.guest ⟨rA3,rn3,rc3,sA3,sn3,sc3,fA3,fn3,fc3,pA3,pn3,pc3⟩ 34
 have B9:=BoxB.new w3 #[.int .i64 m.guest,.slice rA3 rn3 rc3,.slice sA3 sn3 sc3,.slice fA3 fn3 fc3,.slice pA3 pn3 pc3]
 have O4:=hO3.next hb4
 have hl9:w3.heap.size<(w3.alloc (.cells #[.int .i64 m.guest,.slice rA3 rn3 rc3,.slice sA3 sn3 sc3,.slice fA3 fn3 fc3,.slice pA3 pn3 pc3] 34)).heap.size:=by simp
 have c5:=(T4.cell (p:=⟨rb,ro+n/4,none⟩) (show rb<W2.heap.size by omega)).trans hct2
 have z0:=(T4.cell (p:=⟨w.heap.size,0,none⟩) (show w.heap.size<W2.heap.size by omega)).trans x0
 have z1:=(T4.cell (p:=⟨w.heap.size,1,none⟩) (show w.heap.size<W2.heap.size by omega)).trans x1
 have z2:=(T4.cell (p:=⟨w.heap.size,2,none⟩) (show w.heap.size<W2.heap.size by omega)).trans x2
 have z3:=(T4.cell (p:=⟨w.heap.size,3,none⟩) (show w.heap.size<W2.heap.size by omega)).trans x3
 have z4:=(T4.cell (p:=⟨w.heap.size,4,none⟩) (show w.heap.size<W2.heap.size by omega)).trans x4
 have hs3:=hb3.size
 have HB3:=zh hb3
 dsimp only[ae]
 clear x0 x1 x2 x3 x4 hct2 KO hO3 hb3
 go_wp2_with fail
 generalize w3.alloc (.cells #[.int .i64 m.guest,.slice rA3 rn3 rc3,.slice sA3 sn3 sc3,.slice fA3 fn3 fc3,.slice pA3 pn3 pc3] 34)=W4 at*
 have hbd:Hid (Below w.heap.size w W4.drew):=zh (aa F1.o T4).drew
 have HT4:=zh T4
 have HO4:=zh O4
 have HX9:=zh X9
 have HB9:=zh B9
 clear T4 O4 X9 B9 hb4
 have hto:((n:Int)/4).toNat=n/4:=by omega
 have c6:W4.cell? ⟨rb,ro+((n:Int)/4).toNat,none⟩=some (.int .i64 t):=by rw[hto];exact c5
 have hl2:w.heap.size<W4.heap.size:=by have:=HT4.o.size;omega
 have hl3:rb<W4.heap.size:=by omega
 have mvS:=zh (λ(W':World) (hb:Below W4.drew.heap.size W4.drew W')=>(show W'.cell? ⟨w.heap.size,0,none⟩=some (.int .i64 m.guest)/\W'.cell? ⟨w.heap.size,1,none⟩=some (.slice (some ⟨rb,ro,none⟩) rn rc)/\W'.cell? ⟨w.heap.size,2,none⟩=some (.slice sA sn sc)/\W'.cell? ⟨w.heap.size,3,none⟩=some (.slice fA fn fc)/\W'.cell? ⟨w.heap.size,4,none⟩=some (.slice pA pn pc)/\W'.cell? ⟨rb,ro+((n:Int)/4).toNat,none⟩=some (.int .i64 t)/\W'.cell? ⟨rb,ro+n/4,none⟩=some (.int .i64 t)from
  ⟨(hb.cell (p:=⟨w.heap.size,0,none⟩) hl2).trans z0,(hb.cell (p:=⟨w.heap.size,1,none⟩) hl2).trans z1,(hb.cell (p:=⟨w.heap.size,2,none⟩) hl2).trans z2,(hb.cell (p:=⟨w.heap.size,3,none⟩) hl2).trans z3,(hb.cell (p:=⟨w.heap.size,4,none⟩) hl2).trans z4,(hb.cell (p:=⟨rb,ro+((n:Int)/4).toNat,none⟩) hl3).trans c6,(hb.cell (p:=⟨rb,ro+n/4,none⟩) hl3).trans c5⟩))
 go_region_held3 (λw'=>w'.cell? ⟨w.heap.size,0,none⟩=some (.int .i64 m.guest)/\w'.cell? ⟨w.heap.size,1,none⟩=some (.slice (some ⟨rb,ro,none⟩) rn rc)/\w'.cell? ⟨w.heap.size,2,none⟩=some (.slice sA sn sc)/\w'.cell? ⟨w.heap.size,3,none⟩=some (.slice fA fn fc)/\w'.cell? ⟨w.heap.size,4,none⟩=some (.slice pA pn pc)/\w'.cell? ⟨rb,ro+((n:Int)/4).toNat,none⟩=some (.int .i64 t)/\w'.cell? ⟨rb,ro+n/4,none⟩=some (.int .i64 t))
  (first|exact⟨z0,z1,z2,z3,z4,c6,c5⟩|exact mvS.o _ hb5)
  (first|(go_at_call 152;refine(KE.o _ hbd.o).mono ?_;rintro e' w5 ⟨A5,c5',rfl,ho5,hb5,hc5,hm5⟩))
 have hdd:Below W4.heap.size W4 w5:=aa (Below.refl W4.heap.size W4).drew hb5
 have T5:=aa HT4.o hdd
 obtain⟨tg5,O5,R5⟩:=HO4.o.fresh (by have:=HT4.o.size;omega) (Below.refl W4.heap.size W4).drew hb5 ho5 (by omega) hc5 hm5
 have X5:=HX9.o.keep hdd hl9
 have B5:=HB9.o.next hdd
 have Z5:=FZ.o.nextB T5 (by omega)
 have s5:=T5.size
 obtain⟨g5,rfl,hg5,hgT,hgf,⟨y,hy1,hcy⟩,O6,R6⟩:=O5.setFreeO R5 hi2 e
 have HB5:=zh (aa F1.o T5)
 have hl95:w3.heap.size<w5.heap.size:=B5.ty.lt
 have e4:W2.heap.size<=w5.heap.size:=s5
 by_cases hye:y=e
 ·subst hye
  have R:dP m n y=some m:=by unfold dP fT;rw[zD hy1,if_pos rfl]
  have RX0:X=m:=HX0.o.symm.trans (by rw[R];exact nr hm)
  have RE0:er=0:=HE0.o.symm.trans (by rw[R];rfl)
  have RX1:=zh RX0
  have RE1:=zh RE0
  clear RX0 RE0
  obtain⟨⟨k0,k1,k2,k3,k4⟩,hO2,hg2⟩:=kv Z5 O5
  have LB:=HB5.o.grown hg2 (by have:=HB5.o.size;omega) (λj e=>by injection e with e;omega)
  obtain⟨u0,u1,u2,u3,u4⟩:=Z5.cells
  obtain⟨q0,q1,q2,q3,q4⟩:=Z5.froz
  obtain⟨x0,x1,x2,x3,x4⟩:=X5
  dsimp only at x0 x1 x2 x3 x4 k1 k2 k3 k4
  have HK:=zf k0 k1 k2 k3 k4
  have HO:=zh hO2
  have HLB:=zh LB
  clear mvS hdd T5 B5 Z5 O5 R5 O6 R6 HT4 HO4 HX9 HB9 k0 k1 k2 k3 k4 hO2 hg2 LB z0 z1 z2 z3 z4 c5 c6 hb5 ho5 hgT R
  go_wp2_with fail
  obtain⟨k0,k1,k2,k3,k4⟩:=HK.o
  refine bodyPost_ret (v:=.tuple #[ae m ⟨rA3,rn3,rc3,sA3,sn3,sc3,fA3,fn3,fc3,pA3,pn3,pc3⟩,.int .i64 0]) ?_ rfl ⟨_,by rw[RX1.o,RE1.o],by rw[RX1.o];exact .inr ⟨W2.heap.size,_,_,_,by omega,HO.o⟩,HLB.o⟩
  simp[results,results156,go_sem,k0,k1,k2,k3,k4,ae]
 ·have hyb:(y==e)=false:=by simpa using hye
  have R:dP m n e=rB m (n/4) ((af m (n/4)).set (n%4) e):=by
   have hne:((af m (n/4)).set (n%4) e==af m (n/4))=false:=by
    have:(af m (n/4)).set (n%4) e≠af m (n/4):= λhh=>by
     have h5:=congrArg (λl=>l[n%4]?) hh
     rw[List.getElem?_set_self (by omega),hy1]at h5
     exact hye (Option.some.inj h5).symm
    simpa using this
   unfold dP rB
   by_cases hbr:bare ((af m (n/4)).set (n%4) e)=true
   ·rw[mr hne hbr,if_pos hbr]
   ·rw[kO hne (by simpa using hbr),if_neg hbr]
  have RX:= λx (hx:rB m (n/4) ((af m (n/4)).set (n%4) e)=some x)=>(qP hm hk hn hf h0 (R.trans hx)).sound
  have RX0:=HX0.o.symm
  have RE0:=HE0.o.symm
  rw[R]at RX0 RE0
  have hgg:=ai w5 g5 (n%4) (.int .i64 e)
  have hn9:w3.heap.size≠g5:=B5.ty.ne hgT (by decide)
  have hnZ:w.heap.size+1≠g5:=Z5.box.1.ty.ne hgT (by decide)
  have X6:=X5.kept hgg (λe=>hn9 (by injection e))
  have B6:=B5.kept hgg (λe=>hn9 (by injection e))
  have Z6:ZB _ (w.heap.size+1):=⟨(hgg.block _ Z5.box.1.ty.lt (λe=>hnZ (by injection e))).trans Z5.heap⟩
  have HB6:=zh (HB5.o.setCell (p:=⟨g5,n%4,none⟩) (by dsimp only;omega) (.int .i64 e))
  have hs6:=hgg.size
  have hk3:n/4<rn3:=by have:=O5.imgR.rlen;dsimp only at this;omega
  have KT':=oy W2.heap.size tg5 _ q p m (n/4) _ _ 4 c5' _ O6 (by omega) hm hk3 R6
  rw[hdiv]at KT'
  have KT:=zh KT'
  generalize rB m (n/4) ((af m (n/4)).set (n%4) e)=o at*
  have HX6:=zh X6
  have HB6':=zh B6
  have HZ6:=zh Z6
  have HRX:=zh RX
  have RX1:=zh RX0
  have RE1:=zh RE0
  clear RX0 RE0
  obtain⟨x0,x1,x2,x3,x4⟩:=X6
  dsimp only[ae]at x0 x1 x2 x3 x4 KT
  clear mvS hdd T5 B5 Z5 O5 R5 O6 R6 HT4 HO4 HX9 HB9 z0 z1 z2 z3 z4 c5 c6 hb5 ho5 hgT R RX KT' X5 B6 Z6 hgg
  go_wp2_with fail
  generalize w5.setCell ⟨g5,n%4,none⟩ (.int .i64 e)=w6 at*
  have hl0:w.heap.size+1<W2.heap.size:=by omega
  have hs36:W2.heap.size<=w3.heap.size:=hs3
  cases o
  ·refine KT.o.mono ?_
   rintro e' w7 ⟨⟨rA7,rn7,rc7,sA7,sn7,sc7,fA7,fn7,fc7,pA7,pn7,pc7⟩,rfl,hb7,hKI⟩
   obtain⟨X7,B7⟩:=hKI.box HB6'.o HX6.o
   have Z7:=hKI.zb HZ6.o
   have h5:=dr B7 ⟨_,_,X7⟩ m.guest ⟨rA7,rn7,rc7,sA7,sn7,sc7,fA7,fn7,fc7,pA7,pn7,pc7⟩
   dsimp only at h5
   have Z8:ZB _ (w.heap.size+1):=⟨(h5.2.2.block _ Z7.box.1.ty.lt (λe=>by injection e with e;omega)).trans Z7.heap⟩
   have s7:=hb7.size
   have s6:=HB6.o.size
   have LB:=((HB6.o.trans (hb7.mono (by omega)))).grown h5.2.2 (by omega) (λj e=>by injection e with e;omega)
   have O:=ix Z8 (X:=aj) (v:=noV) (B:=w.heap.size) (.inl ⟨rfl,rfl⟩) LB (by omega) (by omega)
   dsimp only[aj,noV]at O
   obtain⟨⟨k0,k1,k2,k3,k4⟩,hF,hB⟩:=O
   obtain⟨u0,u1,u2,u3,u4⟩:=Z8.cells
   obtain⟨q0,q1,q2,q3,q4⟩:=Z8.froz
   obtain⟨x0,x1,x2,x3,x4⟩:=X7
   have y0:=B7.fz 0
   have y1:=B7.fz 1
   have y2:=B7.fz 2
   have y3:=B7.fz 3
   have y4:=B7.fz 4
   have HK:=zf k0 k1 k2 k3 k4
   have HF:=zh hF
   have HLB:=zh hB
   dsimp only[ae]at x0 x1 x2 x3 x4⊢
   clear Z7 Z8 h5 hb7 hKI B7 LB k0 k1 k2 k3 k4 hF hB KT HX6 HB6' HZ6
   go_wp2_with fail
   obtain⟨k0,k1,k2,k3,k4⟩:=HK.o
   refine bodyPost_ret (v:=.tuple #[ae aj noV,.int .i64 7]) ?_ rfl ⟨noV,by rw[RX1.o,RE1.o];rfl,by rw[RX1.o];exact HF.o,HLB.o⟩
   simp[results,results156,go_sem,ae,aj,noV,k0,k1,k2,k3,k4]
  ·rename_i x
   refine KT.o.mono ?_
   rintro e' w7 ⟨tg7,⟨rA7,rn7,rc7,sA7,sn7,sc7,fA7,fn7,fc7,pA7,pn7,pc7⟩,q7,rfl,hO7,hb7,hKI⟩
   obtain⟨X7,B7⟩:=hKI.box HB6'.o HX6.o
   have Z7:=hKI.zb HZ6.o
   have h5:=dr B7 ⟨_,_,X7⟩ x.guest ⟨rA7,rn7,rc7,sA7,sn7,sc7,fA7,fn7,fc7,pA7,pn7,pc7⟩
   dsimp only at h5
   have Z8:ZB _ (w.heap.size+1):=⟨(h5.2.2.block _ Z7.box.1.ty.lt (λe=>by injection e with e;omega)).trans Z7.heap⟩
   have O8:=hO7.kept h5.2.2 B7.ty (by decide) (by decide) (by decide)
   have s7:=hb7.size
   have s6:=HB6.o.size
   have s8:=h5.2.2.size
   have LB:=((HB6.o.trans (hb7.mono (by omega)))).grown h5.2.2 (by omega) (λj e=>by injection e with e;omega)
   have KC:=zh (cU W2.heap.size tg7 _ q7 p x _ O8 (by omega) (HRX.o x rfl).cbd)
   obtain⟨x0,x1,x2,x3,x4⟩:=X7
   obtain⟨a0,a1,a2,a3,a4⟩:=h5.1
   have y0:=B7.fz 0
   have y1:=B7.fz 1
   have y2:=B7.fz 2
   have y3:=B7.fz 3
   have y4:=B7.fz 4
   have HZ8:=zh Z8
   have HLB:=zh LB
   dsimp only[ae]at x0 x1 x2 x3 x4 a0 a1 a2 a3 a4 KC⊢
   clear Z7 Z8 h5 hb7 hKI B7 LB O8 hO7 KT HX6 HB6' HZ6
   go_wp2_with fail
   generalize (((((w7.setCell ⟨w3.heap.size,0,none⟩ (.int .i64 x.guest)).setCell ⟨w3.heap.size,1,none⟩ (.slice rA7 rn7 rc7)).setCell ⟨w3.heap.size,2,none⟩ (.slice sA7 sn7 sc7)).setCell ⟨w3.heap.size,3,none⟩ (.slice fA7 fn7 fc7)).setCell ⟨w3.heap.size,4,none⟩ (.slice pA7 pn7 pc7))=w8 at*
   refine KC.o.mono ?_
   rintro e' w9 ⟨⟨rA9,rn9,rc9,sA9,sn9,sc9,fA9,fn9,fc9,pA9,pn9,pc9⟩,tg9,q9,p9,rfl,hO9,hb9⟩
   have Z9:=HZ8.o.nextB hb9 hl0
   obtain⟨⟨k0,k1,k2,k3,k4⟩,hO2,hg2⟩:=kv Z9 hO9
   have s9:=hb9.size
   have LB2:=(HLB.o.trans (hb9.mono (by omega))).grown hg2 (by omega) (λj e=>by injection e with e;omega)
   obtain⟨u0,u1,u2,u3,u4⟩:=Z9.cells
   obtain⟨q0,q1,q2,q3,q4⟩:=Z9.froz
   have HK:=zf k0 k1 k2 k3 k4
   have HO:=zh hO2
   have HLB2:=zh LB2
   dsimp only[ae]
   clear Z9 hO9 hb9 hO2 hg2 LB2 k0 k1 k2 k3 k4 HZ8 KC x0 x1 x2 x3 x4 a0 a1 a2 a3 a4 y0 y1 y2 y3 y4
   go_wp2_with fail
   obtain⟨k0,k1,k2,k3,k4⟩:=HK.o
   refine bodyPost_ret (v:=.tuple #[ae (ap x) ⟨rA9,rn9,rc9,sA9,sn9,sc9,fA9,fn9,fc9,pA9,pn9,pc9⟩,.int .i64 0]) ?_ rfl ⟨_,by rw[RX1.o,RE1.o];rfl,by rw[RX1.o];exact .inr ⟨W2.heap.size,_,_,_,by omega,HO.o⟩,HLB2.o⟩
   simp[results,results156,go_sem,k0,k1,k2,k3,k4,ae]
end
section
open Go.Proofs.Tryz hiding bare
open Go.RowKit Sl
theorem zE (v:IV) (m:Img) (n:Int) (w:World) (h:ImgR w w.heap.size v m) (he:aE m n≠0):
  Calls prog 96 #[ae m v,.int .i64 n] w (aF w.heap.size aj (aE m n) w):=by
 have K1':= λW (hb:Below w.heap.size w W)=>dq v m n W (h.next hb)
 obtain⟨W4,hW,f1,f2,_,f4,f5⟩:=eU w m.guest v
 have lz:(aE m n !=0)=true:=by simpa using he
 generalize aE m n=er at*
 obtain⟨rA,rn,rc,sA,sn,sc,fA,fn,fc,pA,pn,pc⟩:=v
 dsimp only[ae]at*
 have K1:=zh (K1' _ f1)
 obtain⟨x0,x1,x2,x3,x4⟩:=f2
 dsimp only at x0 x1 x2 x3 x4
 clear K1' h he
 go_enter func96,ntmps96
 go_wp2_with fail
 rw[hW.o]
 refine K1.o.mono ?_
 rintro e w5 ⟨rfl,hb5⟩
 have B5:=aa f1 hb5
 have Z5:=f4.nextB hb5 (by omega)
 obtain⟨y0,y1,y2,y3,y4⟩:=Z5.cells
 obtain⟨q0,q1,q2,q3,q4⟩:=Z5.froz
 have O:=ix Z5 (X:=aj) (v:=noV) (B:=w.heap.size) (.inl ⟨rfl,rfl⟩) B5 (Nat.le_refl _) (by omega)
 dsimp only[aj,noV]at O
 obtain⟨⟨k0,k1,k2,k3,k4⟩,hF,hB⟩:=O
 have HK:=zg k0 k1 k2 k3 k4 hF hB
 clear x0 x1 x2 x3 x4 f1 f4 K1 Z5 B5 hb5 k0 k1 k2 k3 k4 hF hB
 go_wp2_with fail
 obtain⟨k0,k1,k2,k3,k4,hF,hB⟩:=HK.o
 refine bodyPost_ret (v:=.tuple #[ae aj noV,.int .i64 er]) ?_ rfl ⟨noV,rfl,hF,hB⟩
 simp[results,results96,go_sem,ae,aj,noV,k0,k1,k2,k3,k4]
theorem zF (v:IV) (m:Img) (n:Nat) (w:World) (h:ImgR w w.heap.size v m) (he:aE m n=0) (X:Img) (er:Int) (hX:kP (dP m n (-1))=X) (hE:iM (dP m n (-1))=er):
  Calls prog 96 #[ae m v,.int .i64 n] w (aF w.heap.size X er w):=by
 have K1':= λW (hb:Below w.heap.size w W)=>dq v m n W (h.next hb)
 obtain⟨W4,hW,f1,f2,_,f4,f5⟩:=eU w m.guest v
 rw[he]at K1'
 obtain⟨hm,_,hn⟩:=dm he
 have KP':= λW (hb:Below w.heap.size w W)=>qt v m n (-1) W (h.next hb) hm hn rfl (by decide)
 rw[hX,hE]at KP'
 obtain⟨rA,rn,rc,sA,sn,sc,fA,fn,fc,pA,pn,pc⟩:=v
 dsimp only[ae]at*
 have K1:=zh (K1' _ f1)
 have KP:=zh KP'
 have FX:=zh f2
 clear hX hE hm hn KP'
 obtain⟨x0,x1,x2,x3,x4⟩:=f2
 dsimp only at x0 x1 x2 x3 x4
 clear K1' h he
 go_enter func96,ntmps96
 go_wp2_with fail
 rw[hW.o]
 refine K1.o.mono ?_
 rintro e w5 ⟨rfl,hb5⟩
 have B5:=aa f1 hb5
 have Z5:=f4.nextB hb5 (by omega)
 have hz5:=hb5.size
 have mv:∀{b j:Nat} {u:Value},b<W4.heap.size->W4.cell? ⟨b,j,none⟩=some u->w5.cell? ⟨b,j,none⟩=some u:= λ{b j u} hl h=>(hb5.cell (p:=⟨b,j,none⟩) hl).trans h
 have a0:=mv (by omega) x0
 have a1:=mv (by omega) x1
 have a2:=mv (by omega) x2
 have a3:=mv (by omega) x3
 have a4:=mv (by omega) x4
 have K3:=zh (KP.o _ B5)
 have HB6:=zh B5
 have HZ6:=zh Z5
 clear mv x0 x1 x2 x3 x4 f1 f4 K1 KP Z5 B5 hb5
 go_wp2_with fail
 refine K3.o.mono ?_
 rintro e w7 ⟨v7,rfl,hF7,hb7⟩
 have Z7:=HZ6.o.nextB hb7 (by omega)
 have B7:=aa HB6.o hb7
 obtain⟨y0,y1,y2,y3,y4⟩:=Z7.cells
 obtain⟨q0,q1,q2,q3,q4⟩:=Z7.froz
 obtain⟨⟨k0,k1,k2,k3,k4⟩,hF,hB⟩:=ix Z7 (hF7.mono (show w.heap.size<=_ by omega)) B7 (Nat.le_refl _) (by omega)
 have HK:=zg k0 k1 k2 k3 k4 hF hB
 dsimp only[ae]
 clear K3 Z7 B7 hF7 hb7 k0 k1 k2 k3 k4 hF hB HB6 HZ6 a0 a1 a2 a3 a4
 go_wp2_with fail
 obtain⟨k0,k1,k2,k3,k4,hF,hB⟩:=HK.o
 refine bodyPost_ret (v:=.tuple #[ae X v7,.int .i64 er]) ?_ rfl ⟨v7,rfl,hF,hB⟩
 simp[results,results96,go_sem,k0,k1,k2,k3,k4]
theorem wH (v:IV) (m:Img) (n:Int) (w:World) (h:ImgR w w.heap.size v m):
  Calls prog 96 #[ae m v,.int .i64 n] w (aF w.heap.size (iu m n (-1)) (fm m n (-1)) w):=by
 unfold iu fm
 by_cases he:aE m n=0
 ·obtain⟨_,h0,_⟩:=dm he
  obtain⟨k,rfl⟩:=Int.eq_ofNat_of_zero_le h0
  rw[if_pos he,if_pos he]
  exact zF v m k w h he _ _ rfl rfl
 ·rw[if_neg he,if_neg he]
  exact zE v m n w h he
theorem wI (v:IV) (m:Img) (n:Int) (w:World) (h:ImgR w w.heap.size v m) (he:aE m n≠0):
  Calls prog 97 #[ae m v,.int .i64 n] w (aF w.heap.size aj (aE m n) w):=by
 have K1':= λW (hb:Below w.heap.size w W)=>dq v m n W (h.next hb)
 obtain⟨W4,hW,f1,f2,_,f4,f5⟩:=eU w m.guest v
 have lz:(aE m n !=0)=true:=by simpa using he
 generalize aE m n=er at*
 obtain⟨rA,rn,rc,sA,sn,sc,fA,fn,fc,pA,pn,pc⟩:=v
 dsimp only[ae]at*
 have K1:=zh (K1' _ f1)
 obtain⟨x0,x1,x2,x3,x4⟩:=f2
 dsimp only at x0 x1 x2 x3 x4
 clear K1' h he
 go_enter func97,ntmps97
 go_wp2_with fail
 rw[hW.o]
 refine K1.o.mono ?_
 rintro e w5 ⟨rfl,hb5⟩
 have B5:=aa f1 hb5
 have Z5:=f4.nextB hb5 (by omega)
 obtain⟨y0,y1,y2,y3,y4⟩:=Z5.cells
 obtain⟨q0,q1,q2,q3,q4⟩:=Z5.froz
 have O:=ix Z5 (X:=aj) (v:=noV) (B:=w.heap.size) (.inl ⟨rfl,rfl⟩) B5 (Nat.le_refl _) (by omega)
 dsimp only[aj,noV]at O
 obtain⟨⟨k0,k1,k2,k3,k4⟩,hF,hB⟩:=O
 have HK:=zg k0 k1 k2 k3 k4 hF hB
 clear x0 x1 x2 x3 x4 f1 f4 K1 Z5 B5 hb5 k0 k1 k2 k3 k4 hF hB
 go_wp2_with fail
 obtain⟨k0,k1,k2,k3,k4,hF,hB⟩:=HK.o
 refine bodyPost_ret (v:=.tuple #[ae aj noV,.int .i64 er]) ?_ rfl ⟨noV,rfl,hF,hB⟩
 simp[results,results97,go_sem,ae,aj,noV,k0,k1,k2,k3,k4]
theorem wJ (v:IV) (m:Img) (n:Nat) (w:World) (h:ImgR w w.heap.size v m) (he:aE m n=0) (X:Img) (er:Int) (hX:kP (dP m n 0)=X) (hE:iM (dP m n 0)=er):
  Calls prog 97 #[ae m v,.int .i64 n] w (aF w.heap.size X er w):=by
 have K1':= λW (hb:Below w.heap.size w W)=>dq v m n W (h.next hb)
 obtain⟨W4,hW,f1,f2,_,f4,f5⟩:=eU w m.guest v
 rw[he]at K1'
 obtain⟨hm,_,hn⟩:=dm he
 have KP':= λW (hb:Below w.heap.size w W)=>qt v m n 0 W (h.next hb) hm hn rfl (by decide)
 rw[hX,hE]at KP'
 obtain⟨rA,rn,rc,sA,sn,sc,fA,fn,fc,pA,pn,pc⟩:=v
 dsimp only[ae]at*
 have K1:=zh (K1' _ f1)
 have KP:=zh KP'
 have FX:=zh f2
 clear hX hE hm hn KP'
 obtain⟨x0,x1,x2,x3,x4⟩:=f2
 dsimp only at x0 x1 x2 x3 x4
 clear K1' h he
 go_enter func97,ntmps97
 go_wp2_with fail
 rw[hW.o]
 refine K1.o.mono ?_
 rintro e w5 ⟨rfl,hb5⟩
 have B5:=aa f1 hb5
 have Z5:=f4.nextB hb5 (by omega)
 have hz5:=hb5.size
 have mv:∀{b j:Nat} {u:Value},b<W4.heap.size->W4.cell? ⟨b,j,none⟩=some u->w5.cell? ⟨b,j,none⟩=some u:= λ{b j u} hl h=>(hb5.cell (p:=⟨b,j,none⟩) hl).trans h
 have a0:=mv (by omega) x0
 have a1:=mv (by omega) x1
 have a2:=mv (by omega) x2
 have a3:=mv (by omega) x3
 have a4:=mv (by omega) x4
 have K3:=zh (KP.o _ B5)
 have HB6:=zh B5
 have HZ6:=zh Z5
 clear mv x0 x1 x2 x3 x4 f1 f4 K1 KP Z5 B5 hb5
 go_wp2_with fail
 refine K3.o.mono ?_
 rintro e w7 ⟨v7,rfl,hF7,hb7⟩
 have Z7:=HZ6.o.nextB hb7 (by omega)
 have B7:=aa HB6.o hb7
 obtain⟨y0,y1,y2,y3,y4⟩:=Z7.cells
 obtain⟨q0,q1,q2,q3,q4⟩:=Z7.froz
 obtain⟨⟨k0,k1,k2,k3,k4⟩,hF,hB⟩:=ix Z7 (hF7.mono (show w.heap.size<=_ by omega)) B7 (Nat.le_refl _) (by omega)
 have HK:=zg k0 k1 k2 k3 k4 hF hB
 dsimp only[ae]
 clear K3 Z7 B7 hF7 hb7 k0 k1 k2 k3 k4 hF hB HB6 HZ6 a0 a1 a2 a3 a4
 go_wp2_with fail
 obtain⟨k0,k1,k2,k3,k4,hF,hB⟩:=HK.o
 refine bodyPost_ret (v:=.tuple #[ae X v7,.int .i64 er]) ?_ rfl ⟨v7,rfl,hF,hB⟩
 simp[results,results97,go_sem,k0,k1,k2,k3,k4]
theorem ui (v:IV) (m:Img) (n:Int) (w:World) (h:ImgR w w.heap.size v m):
  Calls prog 97 #[ae m v,.int .i64 n] w (aF w.heap.size (iu m n 0) (fm m n 0) w):=by
 unfold iu fm
 by_cases he:aE m n=0
 ·obtain⟨_,h0,_⟩:=dm he
  obtain⟨k,rfl⟩:=Int.eq_ofNat_of_zero_le h0
  rw[if_pos he,if_pos he]
  exact wJ v m k w h he _ _ rfl rfl
 ·rw[if_neg he,if_neg he]
  exact wI v m n w h he
end
end Go.Proofs.YtdbneghfbkjinaaGreatDoor
