/- Texts of the proof of deskPlays_holds: RSnCre. Conditions: as each text says. -/
import Derived.Test.YtdbneghfbkjinaaGreatDoorDA1
import Derived.Test.YtdbneghfbkjinaaGreatDoorDA39
set_option maxRecDepth 100000
set_option maxHeartbeats 2000000
namespace Go.Proofs.YtdbneghfbkjinaaGreatDoor
section
open Go.Proofs.Tryz
open Go.RowKit Sl
theorem zq {l:List Snap} {j:Nat} {y:Snap} (hy:l[j]? =some y) (x:Snap):((l.take (j+1)++x::l.drop (j+1)).set (j+1-1) x).set (j+1) y=l.take j++x::l.drop j:=by
 have hl:=(zl hy)
 have e1:l.take (j+1)=l.take j++[y]:=by rw[List.take_add_one,hy];rfl
 have e2:l.drop j=y::l.drop (j+1):=by rw[List.drop_eq_getElem_cons hl];congr 1;rw[List.getElem?_eq_getElem hl]at hy;injection hy
 have hk:(l.take j).length=j:=by rw[List.length_take];omega
 rw[e1,e2,Nat.add_sub_cancel,List.append_assoc,List.set_append_right _ _ (by omega),hk,Nat.sub_self,List.singleton_append,List.set_cons_zero,List.set_append_right _ _ (by omega),hk,show j+1-j=1 from by omega]
 rfl
theorem xD {W:World} {t:Nat} {z0 z1 z2:Value} {T:TypeId} (h:W.heap[t]? =some (.cells #[z0,z1,z2] T (0,0))) (u0 u1 u2:Value):
  (((W.setCell ⟨t,0,none⟩ u0).setCell ⟨t,1,none⟩ u1).setCell ⟨t,2,none⟩ u2).heap[t]? =some (.cells #[u0,u1,u2] T (0,0))/\W.grownBy (((W.setCell ⟨t,0,none⟩ u0).setCell ⟨t,1,none⟩ u1).setCell ⟨t,2,none⟩ u2) (some t):=by
 have h1:=heap_setCell_same W t 0 _ T u0 h
 have h2:=heap_setCell_same _ t 1 _ T u1 h1
 have h3:=heap_setCell_same _ t 2 _ T u2 h2
 exact⟨h3,((ai W t 0 u0).trans (ai _ t 1 u1)).trans (ai _ t 2 u2)⟩
theorem we (v:IV) (m:Img) (name:ByteArray) (w:World) (h:ImgR w w.heap.size v m) (he:be m name=0) (hsz:name.size<=4611686018427387903):
  Calls prog 91 #[ae m v,.string name] w (aF w.heap.size (ap (cl m name)) 0 w):=by
 have SX:=iO he
 obtain⟨he,hn,ha,h3⟩:=kb he
 have SS:=ay (aq he).1
 obtain⟨s1,s2,s3,s4,s5,S6⟩:=bB SS
 have hkl:ca m.snaps name<=m.snaps.length:=mZ _ _
 have hrn:v.rn<=1000000:=by have:=h.rlen;have:=SS.cbd.root;omega
 have hp3:¬v.pn=3:=by have:=h.plen;omega
 have hpv:=h.plen
 have KC':= λW (hb:Below w.heap.size w W)=>bg v m W (h.next hb)
 have KN':= λW (_:Below w.heap.size w W)=>(ez name W hsz).mono (R':= λe w'=>e=.returned (.bool (bj name))/\Below W.heap.size W w') (λe w' hh=>⟨hh.1,hh.2▸Below.refl _ _⟩)
 have KS':= λW (hb:Below w.heap.size w W)=>dL v m name W (h.next hb)
 have KO':= λW (hb:Below w.heap.size w W)=>fs v m W (h.next hb) SS.cbd (by rw[(dI (aq he).1).1.refs];exact SS.cbd.slots)
 obtain⟨W0,hW,f1,f2,f4,f5⟩:=bd w m.guest v
 rw[he]at KC'
 rw[hn]at KN'
 rw[(ic he ha).2.2]at KS'
 obtain⟨rA,rn,rc,sA,sn,sc,fA,fn,fc,pA,pn,pc⟩:=v
 dsimp only[ae]at KC' KN' KS' KO' f1 f2 f4 f5 hW⊢
 have KC:=zh KC'
 have KN:=zh KN'
 have KS:=zh KS'
 have KO:=zh KO'
 clear KC' KN' KS' KO'
 have HX:=zh f2
 obtain⟨x0,x1,x2,x3,x4⟩:=f2
 dsimp only at x0 x1 x2 x3 x4
 have HCX:=zh (show cl m name={m with snaps:=m.snaps.take (ca m.snaps name)++⟨name,m.guest,m.root⟩::m.snaps.drop (ca m.snaps name)}from rfl)
 have HSX:=zh SX
 have KRT:=zh (λW (hb:Below w.heap.size w W)=>(h.next hb).root)
 have HLT:=zh (λ(j:Nat) (s:Snap) (hx:m.snaps[j]? =some s) (hj:j<ca m.snaps name)=>iN hj hx)
 have HGE:=zh (λ(j:Nat) (s:Snap) (hx:m.snaps[j]? =some s) (hj:ca m.snaps name<=j)=>(show bI s.name name=false/\(s.name.toList==name.toList)=false from⟨ka S6 hj hx,by
  cases hh:(s.name.toList==name.toList)
  ·rfl
  ·rw[List.any_eq_true.2 ⟨s,List.mem_of_getElem? hx,hh⟩]at ha;cases ha⟩))
 dsimp only at hp3 hpv hrn KRT
 have hp2:pn<=2:=by omega
 have hq3:decide ((3:Int)<=(pn:Int))=false:=by simp;omega
 clear hp3
 generalize hkk:ca m.snaps name=kk at*
 clear h he hn ha SS s1 s2 s3 s4 s5 S6 hkk SX
 go_enter func91,ntmps91
 go_wp2_with fail
 rw[hW.o]
 have HL:Hid (w.heap.size<W0.heap.size):=zh (by omega)
 have HZ:=zh f4
 have HB:=zh f1
 have h2:W0.heap.size=w.heap.size+1+1:=f5
 clear f1 f4 f5
 refine(KC.o _ HB.o).mono ?_
 rintro e W1 ⟨rfl,hb⟩
 have HX':=zh (HX.o.keep hb HL.o)
 have HZ':=zh (HZ.o.next hb)
 have HB':=zh (aa HB.o hb)
 have HL':=zh (Nat.lt_of_lt_of_le HL.o hb.size)
 clear HX HZ HB HL x0 x1 x2 x3 x4 hb KC
 have HX:=HX'
 have HZ:=HZ'
 have HB:=HB'
 have HL:=HL'
 clear HX' HZ' HB' HL'
 obtain⟨x0,x1,x2,x3,x4⟩:=HX.o
 dsimp only at x0 x1 x2 x3 x4
 go_wp2_with fail
 refine(KN.o _ HB.o).mono ?_
 rintro e W2 ⟨rfl,hb⟩
 have HX':=zh (HX.o.keep hb HL.o)
 have HZ':=zh (HZ.o.next hb)
 have HB':=zh (aa HB.o hb)
 have HL':=zh (Nat.lt_of_lt_of_le HL.o hb.size)
 clear HX HZ HB HL x0 x1 x2 x3 x4 hb KN
 have HX:=HX'
 have HZ:=HZ'
 have HB:=HB'
 have HL:=HL'
 clear HX' HZ' HB' HL'
 obtain⟨x0,x1,x2,x3,x4⟩:=HX.o
 dsimp only at x0 x1 x2 x3 x4
 go_wp2_with fail
 refine(KS.o _ HB.o).mono ?_
 rintro e W3 ⟨rfl,hb⟩
 have HX':=zh (HX.o.keep hb HL.o)
 have HZ':=zh (HZ.o.next hb)
 have HB':=zh (aa HB.o hb)
 have HL':=zh (Nat.lt_of_lt_of_le HL.o hb.size)
 clear HX HZ HB HL x0 x1 x2 x3 x4 hb KS
 have HX:=HX'
 have HZ:=HZ'
 have HB:=HB'
 have HL:=HL'
 clear HX' HZ' HB' HL'
 obtain⟨x0,x1,x2,x3,x4⟩:=HX.o
 dsimp only at x0 x1 x2 x3 x4
 go_wp2_with fail
 refine(KO.o _ HB.o).mono ?_
 rintro e W4 ⟨v2,tg,q,p,rfl,ho2,hb2⟩
 have HX':=zh (HX.o.keep hb2 HL.o)
 have HZ':=zh (HZ.o.next hb2)
 have HB':=zh (aa HB.o hb2)
 have HLB:Hid (w.heap.size<=W3.heap.size):=zh HB.o.size
 have HL2:Hid (w.heap.size+1<W3.heap.size):=zh (za HZ.o.heap)
 have hbs:=hb2.size
 generalize W3.heap.size=base at*
 clear HX HZ HB HL x0 x1 x2 x3 x4 hb2 KO
 have HX:=HX'
 have HZ:=HZ'
 have HB:=HB'
 clear HX' HZ' HB'
 have hpl:=ho2.plen
 have hpm:p.length=m.snaps.length:=by have h0:=congrArg List.length ho2.hp;rw[List.length_map]at h0;exact h0
 have HO2:=zh ho2
 obtain⟨rA2,rn2,rc2,sA2,sn2,sc2,fA2,fn2,fc2,pA2,pn2,pc2⟩:=v2
 dsimp only[ae]at HO2 hpl⊢
 clear ho2
 have T3:=ac W4 (.cells #[.int .i64 m.guest,.slice rA2 rn2 rc2,.slice sA2 sn2 sc2,.slice fA2 fn2 fc2,.slice pA2 pn2 pc2] 34)
 have HX3:=zh (HX.o.keep T3 (Nat.lt_of_lt_of_le (by have:=HL2.o;omega) hbs))
 have HZ3:=zh (HZ.o.next T3)
 have HB3:=zh (aa HB.o T3)
 have HO3:=zh (HO2.o.next T3)
 have HX4:=zh (Box.new W4 m.guest ⟨rA2,rn2,rc2,sA2,sn2,sc2,fA2,fn2,fc2,pA2,pn2,pc2⟩ 34)
 have HE:=zh (BoxB.new W4 #[.int .i64 m.guest,.slice rA2 rn2 rc2,.slice sA2 sn2 sc2,.slice fA2 fn2 fc2,.slice pA2 pn2 pc2])
 have hbs3:W4.heap.size<(W4.alloc (.cells #[.int .i64 m.guest,.slice rA2 rn2 rc2,.slice sA2 sn2 sc2,.slice fA2 fn2 fc2,.slice pA2 pn2 pc2] 34)).heap.size:=by simp
 clear HO2 HX HZ HB T3
 go_upto_region 11 with fail
 generalize hbo:W4.heap.size=bo at*
 generalize W4.alloc (.cells #[.int .i64 m.guest,.slice rA2 rn2 rc2,.slice sA2 sn2 sc2,.slice fA2 fn2 fc2,.slice pA2 pn2 pc2] 34)=W5 at*
 have u0:W5.cell? ⟨bo,4,none⟩=some (.slice pA2 pn2 pc2):=HX4.o.2.2.2.2
 have u1:W5.cell? ⟨w.heap.size,0,none⟩=some (.int .i64 m.guest):=HX3.o.1
 have u2:W5.cell? ⟨w.heap.size,1,none⟩=some (.slice rA rn rc):=HX3.o.2.1
 have UD:Below W5.heap.size W5 W5.drew:=(Below.refl _ _).drew
 have HLW:Hid (w.heap.size<W5.heap.size):=zh (by have:=HL2.o;omega)
 have HLO:Hid (bo<W5.heap.size):=zh hbs3
 refine eS (λW'=>W'.cell? ⟨bo,4,none⟩=some (.slice pA2 pn2 pc2)/\W'.cell? ⟨w.heap.size,0,none⟩=some (.int .i64 m.guest)/\W'.cell? ⟨w.heap.size,1,none⟩=some (.slice rA rn rc)) 13 ?_
 have mvT:=zh (λ(W':World) (hb2:Below W5.heap.size W5 W')=>(show W'.cell? ⟨bo,4,none⟩=some (.slice pA2 pn2 pc2)/\W'.cell? ⟨w.heap.size,0,none⟩=some (.int .i64 m.guest)/\W'.cell? ⟨w.heap.size,1,none⟩=some (.slice rA rn rc)from
  ⟨(hb2.cell (p:=⟨bo,4,none⟩) HLO.o).trans u0,(hb2.cell (p:=⟨w.heap.size,0,none⟩) HLW.o).trans u1,(hb2.cell (p:=⟨w.heap.size,1,none⟩) HLW.o).trans u2⟩))
 have hSS:=mvT.o _ UD
 generalize W5.drew=W6 at*
 refine zgo 0 ?_
 refine zgo 1 ?_
 refine zgo 2 ?_
 refine zgo 3 ?_
 refine zgo 4 ?_
 refine zgo 6 ?_
 refine zgo 7 ?_
 clear hSS
 refine aP 5 λK' hK=>?_
 go_simp
 have hb7:=ac W6 (.cells #[] 3)
 have U7:=aa UD hb7
 refine hK.o _ _ (λ_=>mvT.o _ U7) ?_
 clear hK
 refine aP 8 λK' hK=>?_
 refine kg rfl _ _ rfl rfl _ rfl _ _ _ rfl _ (KRT.o _ (aa HB3.o U7)) hrn (EB.new' rfl) ?_
 intro A8 c8 W8 ho8 hb8 hc8 hm8
 have U8:=aa U7 hb8
 refine hK.o _ _ (λ_=>mvT.o _ U8) ?_
 clear hK
 refine aP 9 λK' hK=>?_
 go_simp
 refine hK.o _ _ (λ_=>mvT.o _ U8) ?_
 clear hK
 have TB:=TabO.made (base:=base) (tg:=tg) (t:=2*pn2+5) ho8 (by have:=U7.size;omega) hrn hc8 hm8
 have O8:=((HO3.o.next U7).retag (tg':= λg=>if(W6.alloc (.cells #[] 3)).heap.size<=g then 2*pn2+5 else tg g) (λb' hb'=>if_neg (by omega))).next hb8
 generalize (λg=>if(W6.alloc (.cells #[] 3)).heap.size<=g then 2*pn2+5 else tg g)=tg8 at*
 obtain⟨ip0,hip,hpz0,hpz1,hpz2⟩:=info_parts infoSnap
 obtain⟨A9,c9,W9,q1,q2,q3,q4,q5,q6,_⟩:=cK (P:=prog) W8 base 32 32 102 ip0 _ 3 48 underlying32 hip hpz0 hpz1 hpz2 rfl (by omega) _ _ _ O8.snaps #[.string name,.int .i64 m.guest,.slice A8 rn c8] rfl
  (λu hu=>AH [⟨⟨name,m.guest,m.root⟩,A8,rn,c8⟩] u (by simpa[PV.cells]using hu)) (by dsimp only;omega) (by dsimp only;unfold maxLen;omega) (by have:=U8.size;omega)
 dsimp only at q1 q2 q4 q6
 have HR:=zh q1
 have hb9:=ac W8 (.cells #[.string name,.int .i64 m.guest,.slice A8 rn c8] 102)
 have U9:=aa U8 hb9
 refine aP 10 λK' hK=>?_
 go_simp
 refine hK.o _ _ (λ_=>mvT.o _ U9) ?_
 clear hK
 have O9:=(O8.next hb9).pushSnap (x:=⟨⟨name,m.guest,m.root⟩,A8,rn,c8⟩) q2 q6 q4 q5 (by dsimp only;omega) hsz (TB.next hb9)
 have hnb:some bo≠(Value.slice pA2 pn2 pc2).ownBlock:= λe=>(HE.o.ty.ne (au HO3.o.snaps e.symm) (by decide)) rfl
 have E9:=(HE.o.next U9).kept q6 hnb
 have X9:=(HX4.o.keep U9 HLO.o).kept q6 hnb
 have G9:Below base W5 W9:=(U9.mono (by omega)).grown q6 (by have:=U9.size;omega) (λj e=>(HO3.o.snaps.lt j e).1)
 have v1:=(G9.cell (p:=⟨w.heap.size,0,none⟩) (by have:=HL2.o;show w.heap.size<_;omega)).trans u1
 have v2:=(G9.cell (p:=⟨w.heap.size,1,none⟩) (by have:=HL2.o;show w.heap.size<_;omega)).trans u2
 have hgs:=ai W9 bo 4 (.slice A9 (pn2+1) c9)
 have O10:=zh (O9.kept hgs E9.ty (by decide) (by decide) (by decide))
 have E10:=zh (E9.set 4 (.slice A9 (pn2+1) c9))
 have f4:=E9.fz 4
 obtain⟨z0,z1,z2,z3,z4⟩:=X9
 have X10:Hid (Box (W9.setCell ⟨bo,4,none⟩ (.slice A9 (pn2+1) c9)) bo m.guest ⟨rA2,rn2,rc2,sA2,sn2,sc2,fA2,fn2,fc2,A9,pn2+1,c9⟩):=zh (by
  dsimp only at z0 z1 z2 z3 z4
  refine⟨?_,?_,?_,?_,?_⟩<;>go_simp)
 have G10:=G9.setCell (p:=⟨bo,4,none⟩) (by show base<=bo;omega) (.slice A9 (pn2+1) c9)
 have HZ8:=zh (HZ3.o.nextB G10 HL2.o)
 have HB8:=zh (HB3.o.trans (G10.mono HLB.o))
 have hsz10:base<=(W9.setCell ⟨bo,4,none⟩ (.slice A9 (pn2+1) c9)).heap.size:=by have:=G10.size;omega
 clear q1 q2 q3 q4 q6 O9 O8 TB ho8 hb8 hgs
 refine aP 11 λK' hK=>?_
 refine iq rfl _ _ _ _ _ rfl rfl rfl rfl HR.o ?_
 refine hK.o _ _ (λ_=>⟨z4,v1,v2⟩) ?_
 clear hK
 dsimp only at z0 z1 z2 z3 z4
 refine aP 12 λK' hK=>?_
 go_simp
 refine hK.o _ _ (λ_=>⟨z4,v1,v2⟩) ?_
 clear hK
 refine aP 13 λK' hK=>?_
 go_simp
 refine hK.nx ?_
 clear hK
 refine cT ?_
 have HPM:=zh (show m.snaps.length=pn2 by omega)
 have hpp2:pn2<=2:=by have:=HPM.o;omega
 have hc9:pn2+1<=c9:=by have:=O10.o.ple;exact this
 have hcm9:c9<=maxLen:=by have:=O10.o.pcap.2;unfold maxLen;exact this
 have HA9:=zh (bK O10.o.snaps (by dsimp only;omega))
 have HBO:Hid (w.heap.size+1<bo):=zh (by have:=HL2.o;omega)
 clear z0 z1 z2 z3 z4 f4 v1 v2 E9 G9 G10 U9 U8 U7 UD hb9 hb7 hnb u0 u1 u2 mvT HX3 HZ3 HB3 HO3 HX4 HE HR KRT HLW HLO
 generalize W9.setCell ⟨bo,4,none⟩ (.slice A9 (pn2+1) c9)=W10 at*
 obtain⟨gs,hA9,hgs,hgl⟩:=HA9.o
 dsimp only at hA9
 subst hA9
 obtain⟨z0,z1,z2,z3,z4⟩:=X10.o
 dsimp only at z0 z1 z2 z3 z4
 have hkk:kk<=pn2:=by have:=HPM.o;omega
 go_wp2_with fail
 clear z0 z1 z2 z3 z4
 go_loopw [8] (λi wr=>∃(k:Nat) (tgl:Nat->Nat) (pl:List PV),i=.int .i64 k/\kk<=k/\k<=pn2/\OwnI wr base tgl ⟨rA2,rn2,rc2,sA2,sn2,sc2,fA2,fn2,fc2,some ⟨gs,0,none⟩,pn2+1,c9⟩ q pl {m with snaps:=m.snaps.take k++⟨name,m.guest,m.root⟩::m.snaps.drop k}/\Box wr bo m.guest ⟨rA2,rn2,rc2,sA2,sn2,sc2,fA2,fn2,fc2,some ⟨gs,0,none⟩,pn2+1,c9⟩/\BoxB wr bo/\ZB wr (w.heap.size+1)/\Below w.heap.size w wr/\base<=wr.heap.size) (λi _=>(intOf i).toNat)
 case atStart=>exact⟨pn2,tg8,p++[⟨⟨name,m.guest,m.root⟩,A8,rn,c8⟩],by go_num,hkk,Nat.le_refl _,by rw[List.take_of_length_le (by rw[HPM.o];omega),List.drop_of_length_le (by rw[HPM.o];omega)];exact O10.o,X10.o,E10.o,HZ8.o,HB8.o,hsz10⟩
 case round=>
  clear O10 X10 E10 HZ8 HB8 hsz10
  obtain⟨k,tgl,pl,rfl,hk1,hk2,ho,hx,hE,hZ,hbw,hbz⟩:=hrel
  have HO:=zh ho
  have HXB:=zh hx
  have HE:=zh hE
  have HZ8:=zh hZ
  have HB8:=zh hbw
  obtain⟨z0,z1,z2,z3,z4⟩:=hx
  dsimp only at z0 z1 z2 z3 z4
  clear ho hE hZ hbw
  have hcl:∀j,j<(pn2+1)*3->wr.cell? ⟨gs,j,none⟩=(pl.flatMap PV.cells)[j]? := λj hj=>HO.o.snaps.cellAt j hj
  have hfr:∀j,wr.frozen? ⟨gs,j,none⟩=false:= λj=>HO.o.snaps.frozenAt j
  have hpl:pl.length=pn2+1:=HO.o.plen
  have hpm:pl.map (·.s)=m.snaps.take k++⟨name,m.guest,m.root⟩::m.snaps.drop k:=HO.o.hp
  have htl:(m.snaps.take k).length=k:=by rw[List.length_take,HPM.o];omega
  by_cases h0:k=0
  ·subst h0
   obtain rfl:kk=0:=by omega
   clear hcl hfr hpl hpm htl
   go_wp2_with fail
   go_quiet (fail)
   have UQ:=zb (Below.refl wr.heap.size wr) nq
   have HO':=zh (HO.o.next UQ)
   have HX':=zh (HXB.o.keep UQ HE.o.ty.lt)
   have HE':=zh (HE.o.next UQ)
   have HZ':=zh (HZ8.o.next UQ)
   have HB':=zh (aa HB8.o UQ)
   have hbz':=Nat.le_trans hbz UQ.size
   clear HO HXB HE HZ8 HB8 hbz z0 z1 z2 z3 z4
   generalize wr.drewN nq=wq at*
   obtain⟨z0,z1,z2,z3,z4⟩:=HX'.o
   dsimp only at z0 z1 z2 z3 z4
   have HO:=HO'
   have HXB:=HX'
   have HE:=HE'
   have HZ8:=HZ'
   have HB8:=HB'
   have hbz:=hbz'
   clear HO' HX' HE' HZ' HB' hbz'
   go_upto_region 18 with fail
   rw[<-HCX.o]at HO
   have KS:=zh (cU _ _ _ _ _ _ _ HO.o hbz HSX.o.cbd)
   have HG:Hid (m.guest=(cl m name).guest):=zh rfl
   dsimp only[ae]at KS
   rw[<-HG.o]at KS
   clear HG
   go_wp2_with fail
   refine KS.o.mono ?_
   rintro e W11 ⟨v9,tg9,q9,p9,rfl,O9,hb9⟩
   have HZ:=zh (HZ8.o.nextB hb9 HL2.o)
   have HB:=zh (HB8.o.trans (hb9.mono HLB.o))
   have HF:Hid (Fresh W11 base v9 (ap (cl m name))):=zh (.inr ⟨base,tg9,q9,_,Nat.le_refl _,O9⟩)
   clear HZ8 HB8 hb9 O9 KS
   dsimp only[ae]
   obtain⟨y0,y1,y2,y3,y4⟩:=HZ.o.cells
   obtain⟨q0,q1,q2,q3,q4⟩:=HZ.o.froz
   obtain⟨⟨k0,k1,k2,k3,k4⟩,hF,hB⟩:=cA HZ.o (HF.o.mono HLB.o) HB.o (Nat.le_refl _) (by omega)
   have HK:=zg k0 k1 k2 k3 k4 hF hB
   clear k0 k1 k2 k3 k4 hF hB
   go_wp2_with fail
   obtain⟨k0,k1,k2,k3,k4,hF,hB⟩:=HK.o
   refine bodyPost_ret (v:=.tuple #[ae (ap (cl m name)) v9,.int .i64 0]) ?_ rfl ⟨v9,rfl,hF,hB⟩
   simp[results,results91,go_sem,ae,k0,k1,k2,k3,k4]
  ·obtain⟨j,rfl⟩:∃j,k=j+1:=⟨k-1,by omega⟩
   have hjl:j<pl.length:=by omega
   have hjl1:j+1<pl.length:=by omega
   obtain⟨y,hy⟩:∃y,pl[j]? =some y:=⟨_,List.getElem?_eq_getElem hjl⟩
   obtain⟨x,hx⟩:∃x,pl[j+1]? =some x:=⟨_,List.getElem?_eq_getElem hjl1⟩
   have hys:m.snaps[j]? =some y.s:=by
    have:=congrArg (λl=>l[j]?) hpm
    simp only[List.getElem?_map,hy,Option.map_some]at this
    rw[List.getElem?_append_left (by omega),List.getElem?_take_of_lt (by omega)]at this
    exact this.symm
   have hxs:x.s=⟨name,m.guest,m.root⟩:=by
    have:=congrArg (λl=>l[j+1]?) hpm
    simp only[List.getElem?_map,hx,Option.map_some]at this
    rw[List.getElem?_append_right (by omega),htl,Nat.sub_self,List.getElem?_cons_zero]at this
    injection this
   have a0:wr.cell? ⟨gs,j*3,none⟩=(PV.cells y)[0]? :=(hcl (j*3) (by omega)).trans (av PV.cells PV.cells_len pl j y hy 0 (by omega))
   have a1:=(hcl (j*3+1) (by omega)).trans (av PV.cells PV.cells_len pl j y hy 1 (by omega))
   have a2:=(hcl (j*3+2) (by omega)).trans (av PV.cells PV.cells_len pl j y hy 2 (by omega))
   have b0:wr.cell? ⟨gs,(j+1)*3,none⟩=(PV.cells x)[0]? :=(hcl ((j+1)*3) (by omega)).trans (av PV.cells PV.cells_len pl (j+1) x hx 0 (by omega))
   have b1:=(hcl ((j+1)*3+1) (by omega)).trans (av PV.cells PV.cells_len pl (j+1) x hx 1 (by omega))
   have b2:=(hcl ((j+1)*3+2) (by omega)).trans (av PV.cells PV.cells_len pl (j+1) x hx 2 (by omega))
   simp only[PV.cells,List.getElem?_cons_zero,List.getElem?_cons_succ]at a0 a1 a2 b0 b1 b2
   have e1:(0:Int)<=(j:Int):=by omega
   have e2:(j:Int)<(pn2:Int)+1:=by omega
   have e3:(0:Int)<=(j:Int)+1:=by omega
   have e4:(j:Int)+1<(pn2:Int)+1:=by omega
   have e5:(0:Int)<(j:Int)+1:=by omega
   have e6:((j:Int)+1).toNat=j+1:=by omega
   have e7:IntKind.i64.wrap (j:Int)=(j:Int):=IntWalk.i64_in _ (by omega)
   by_cases hjk:j<kk
   ·have hlt:=HLT.o j y.s hys hjk
    rw[<-im,show name=x.s.name from by rw[hxs]]at hlt
    clear hxs
    obtain rfl:kk=j+1:=by omega
    clear hcl hfr hpl hpm htl
    go_wp2_with fail
    go_quiet (fail)
    have UQ:=zb (Below.refl wr.heap.size wr) nq
    have HO':=zh (HO.o.next UQ)
    have HX':=zh (HXB.o.keep UQ HE.o.ty.lt)
    have HE':=zh (HE.o.next UQ)
    have HZ':=zh (HZ8.o.next UQ)
    have HB':=zh (aa HB8.o UQ)
    have hbz':=Nat.le_trans hbz UQ.size
    clear HO HXB HE HZ8 HB8 hbz z0 z1 z2 z3 z4
    generalize wr.drewN nq=wq at*
    obtain⟨z0,z1,z2,z3,z4⟩:=HX'.o
    dsimp only at z0 z1 z2 z3 z4
    have HO:=HO'
    have HXB:=HX'
    have HE:=HE'
    have HZ8:=HZ'
    have HB8:=HB'
    have hbz:=hbz'
    clear HO' HX' HE' HZ' HB' hbz'
    go_upto_region 18 with fail
    rw[<-HCX.o]at HO
    have KS:=zh (cU _ _ _ _ _ _ _ HO.o hbz HSX.o.cbd)
    have HG:Hid (m.guest=(cl m name).guest):=zh rfl
    dsimp only[ae]at KS
    rw[<-HG.o]at KS
    clear HG
    go_wp2_with fail
    refine KS.o.mono ?_
    rintro e W11 ⟨v9,tg9,q9,p9,rfl,O9,hb9⟩
    have HZ:=zh (HZ8.o.nextB hb9 HL2.o)
    have HB:=zh (HB8.o.trans (hb9.mono HLB.o))
    have HF:Hid (Fresh W11 base v9 (ap (cl m name))):=zh (.inr ⟨base,tg9,q9,_,Nat.le_refl _,O9⟩)
    clear HZ8 HB8 hb9 O9 KS
    dsimp only[ae]
    obtain⟨y0,y1,y2,y3,y4⟩:=HZ.o.cells
    obtain⟨q0,q1,q2,q3,q4⟩:=HZ.o.froz
    obtain⟨⟨k0,k1,k2,k3,k4⟩,hF,hB⟩:=cA HZ.o (HF.o.mono HLB.o) HB.o (Nat.le_refl _) (by omega)
    have HK:=zg k0 k1 k2 k3 k4 hF hB
    clear k0 k1 k2 k3 k4 hF hB
    go_wp2_with fail
    obtain⟨k0,k1,k2,k3,k4,hF,hB⟩:=HK.o
    refine bodyPost_ret (v:=.tuple #[ae (ap (cl m name)) v9,.int .i64 0]) ?_ rfl ⟨v9,rfl,hF,hB⟩
    simp[results,results91,go_sem,ae,k0,k1,k2,k3,k4]
   ·obtain⟨hlt,hne⟩:=HGE.o j y.s hys (by omega)
    rw[<-im,show name=x.s.name from by rw[hxs]]at hlt
    rw[show name=x.s.name from by rw[hxs]]at hne
    have HXN:=zh hxs
    clear hxs
    go_wp2_with fail
    go_quiet (fail)
    have UQ:=zb (Below.refl wr.heap.size wr) nq
    have HO':=zh (HO.o.next UQ)
    have HX':=zh (HXB.o.keep UQ HE.o.ty.lt)
    have HE':=zh (HE.o.next UQ)
    have HZ':=zh (HZ8.o.next UQ)
    have HB':=zh (aa HB8.o UQ)
    have hbz':=Nat.le_trans hbz UQ.size
    clear HO HXB HE HZ8 HB8 hbz z0 z1 z2 z3 z4
    generalize wr.drewN nq=wq at*
    obtain⟨z0,z1,z2,z3,z4⟩:=HX'.o
    dsimp only at z0 z1 z2 z3 z4
    have HO:=HO'
    have HXB:=HX'
    have HE:=HE'
    have HZ8:=HZ'
    have HB8:=HB'
    have hbz:=hbz'
    clear HO' HX' HE' HZ' HB' hbz'
    have hcl:∀i,i<(pn2+1)*3->wq.cell? ⟨gs,i,none⟩=(pl.flatMap PV.cells)[i]? := λi hi=>HO.o.snaps.cellAt i hi
    have a0:wq.cell? ⟨gs,j*3,none⟩=some (.string y.s.name):=(hcl (j*3) (by omega)).trans (av PV.cells PV.cells_len _ j y hy 0 (by omega))
    have a1:wq.cell? ⟨gs,j*3+1,none⟩=some (.int .i64 y.s.guest):=(hcl (j*3+1) (by omega)).trans (av PV.cells PV.cells_len _ j y hy 1 (by omega))
    have a2:wq.cell? ⟨gs,j*3+2,none⟩=some (.slice y.A y.n y.c):=(hcl (j*3+2) (by omega)).trans (av PV.cells PV.cells_len _ j y hy 2 (by omega))
    have b0:wq.cell? ⟨gs,(j+1)*3,none⟩=some (.string x.s.name):=(hcl ((j+1)*3) (by omega)).trans (av PV.cells PV.cells_len _ (j+1) x hx 0 (by omega))
    have b1:wq.cell? ⟨gs,(j+1)*3+1,none⟩=some (.int .i64 x.s.guest):=(hcl ((j+1)*3+1) (by omega)).trans (av PV.cells PV.cells_len _ (j+1) x hx 1 (by omega))
    have b2:wq.cell? ⟨gs,(j+1)*3+2,none⟩=some (.slice x.A x.n x.c):=(hcl ((j+1)*3+2) (by omega)).trans (av PV.cells PV.cells_len _ (j+1) x hx 2 (by omega))
    go_upto_region 15 with fail
    have hgl0:=(HO.o.snaps.lt gs rfl).2
    try dsimp only at hgl0
    have hbl0:=HE.o.ty.lt
    have UD:Below wq.heap.size wq wq.drew:=(Below.refl _ _).drew
    refine eS (λW'=>W'.cell? ⟨bo,4,none⟩=some (.slice (some ⟨gs,0,none⟩) (pn2+1) c9)/\W'.cell? ⟨gs,j*3,none⟩=some (.string y.s.name)/\W'.cell? ⟨gs,j*3+1,none⟩=some (.int .i64 y.s.guest)/\W'.cell? ⟨gs,j*3+2,none⟩=some (.slice y.A y.n y.c)/\W'.cell? ⟨gs,(j+1)*3,none⟩=some (.string x.s.name)/\W'.cell? ⟨gs,(j+1)*3+1,none⟩=some (.int .i64 x.s.guest)/\W'.cell? ⟨gs,(j+1)*3+2,none⟩=some (.slice x.A x.n x.c)) 14 ?_
    have mvT:=zh (λ(W':World) (hb2:Below wq.heap.size wq W')=>(show W'.cell? ⟨bo,4,none⟩=some (.slice (some ⟨gs,0,none⟩) (pn2+1) c9)/\W'.cell? ⟨gs,j*3,none⟩=some (.string y.s.name)/\W'.cell? ⟨gs,j*3+1,none⟩=some (.int .i64 y.s.guest)/\W'.cell? ⟨gs,j*3+2,none⟩=some (.slice y.A y.n y.c)/\W'.cell? ⟨gs,(j+1)*3,none⟩=some (.string x.s.name)/\W'.cell? ⟨gs,(j+1)*3+1,none⟩=some (.int .i64 x.s.guest)/\W'.cell? ⟨gs,(j+1)*3+2,none⟩=some (.slice x.A x.n x.c)from
     ⟨(hb2.cell (p:=⟨bo,4,none⟩) hbl0).trans z4,(hb2.cell (p:=⟨gs,j*3,none⟩) hgl0).trans a0,(hb2.cell (p:=⟨gs,j*3+1,none⟩) hgl0).trans a1,(hb2.cell (p:=⟨gs,j*3+2,none⟩) hgl0).trans a2,(hb2.cell (p:=⟨gs,(j+1)*3,none⟩) hgl0).trans b0,(hb2.cell (p:=⟨gs,(j+1)*3+1,none⟩) hgl0).trans b1,(hb2.cell (p:=⟨gs,(j+1)*3+2,none⟩) hgl0).trans b2⟩))
    have hSS:=mvT.o _ UD
    generalize wq.drew=wD at*
    refine zgo 0 ?_
    refine zgo 1 ?_
    refine zgo 2 ?_
    refine zgo 3 ?_
    refine zgo 4 ?_
    refine zgo 5 ?_
    refine zgo 6 ?_
    refine zgo 7 ?_
    refine zgo 8 ?_
    refine zgo 9 ?_
    refine zgo 10 ?_
    clear hSS
    refine zr [11,12] (zc 11 (λK' hK=>?_) (zc 12 (λK' hK=>?_) EachZ.nil))
    all_goals
     go_simp
     have hA:=ac wD (.cells #[.string {data:=#[]},.int .i64 0,.slice none 0 0] 102)
     have GA:=heap_alloc_new wD (.cells #[.string {data:=#[]},.int .i64 0,.slice none 0 0] 102)
     have UA:=aa UD hA
     refine hK.o _ _ (λ_=>mvT.o _ UA) ?_
     clear hK
     have hlA:wD.heap.size<(wD.alloc (.cells #[.string {data:=#[]},.int .i64 0,.slice none 0 0] 102)).heap.size:=by simp
     generalize hwA:wD.alloc (.cells #[.string {data:=#[]},.int .i64 0,.slice none 0 0] 102)=wA at*
    case' refine_1=>refine aP 12 λK' hK=>?_
    case' refine_2=>refine aP 11 λK' hK=>?_
    all_goals
     go_simp
     have hB:=ac wA (.cells #[.string {data:=#[]},.int .i64 0,.slice none 0 0] 102)
     have GB:=heap_alloc_new wA (.cells #[.string {data:=#[]},.int .i64 0,.slice none 0 0] 102)
     have GA':=(hB.block _ (za GA)).trans GA
     have UB:=aa UA hB
     refine hK.o _ _ (λ_=>mvT.o _ UB) ?_
     clear hK
     have hlB:wA.heap.size<(wA.alloc (.cells #[.string {data:=#[]},.int .i64 0,.slice none 0 0] 102)).heap.size:=by simp
     generalize hwB:wA.alloc (.cells #[.string {data:=#[]},.int .i64 0,.slice none 0 0] 102)=wB at*
     clear GA hwA hwB
     have qA:wq.heap.size<=wD.heap.size:=UD.size
     have qB:wq.heap.size<=wA.heap.size:=by omega
     have hne:wD.heap.size≠wA.heap.size:=by omega
     have UDs:=UD.size
    case' refine_1=>
     have FA:=GA'
     have FB:=GB
     clear GA' GB
     generalize wD.heap.size=tA at*
     generalize wA.heap.size=tB at*
    case' refine_2=>
     have FA:=GB
     have FB:=GA'
     clear GA' GB
     generalize wD.heap.size=tB at*
     generalize wA.heap.size=tA at*
    all_goals
     obtain⟨I9,J9⟩:=xD (t:=tA) FA (.string y.s.name) (.int .i64 y.s.guest) (.slice y.A y.n y.c)
     have I10:=(J9.block _ (za FB) (λe=>by injection e with e;omega)).trans FB
     have c0:=cell_of_row _ _ 0 _ _ _ FA
     have c1:=cell_of_row _ _ 1 _ _ _ FA
     have c2:=cell_of_row _ _ 2 _ _ _ FA
     simp only[List.getElem?_toArray,List.getElem?_cons_zero,List.getElem?_cons_succ]at c0 c1 c2
     have d0:=frozen_of_row _ _ 0 _ _ FA
     have d1:=frozen_of_row _ _ 1 _ _ FA
     have d2:=frozen_of_row _ _ 2 _ _ FA
     have UC:Below wq.heap.size wq _:=UB.grown J9 (by have:=UB.size;omega) (λi e=>by injection e with e;omega)
     refine aP 13 λK' hK=>?_
     go_simp
     refine hK.o _ _ (λ_=>mvT.o _ UC) ?_
     clear hK c0 c1 c2 d0 d1 d2
     have hlC:=J9.size
     generalize (((wB.setCell ⟨tA,0,none⟩ (.string y.s.name)).setCell ⟨tA,1,none⟩ (.int .i64 y.s.guest)).setCell ⟨tA,2,none⟩ (.slice y.A y.n y.c))=wC at*
     obtain⟨H10,J10⟩:=xD (t:=tB) I10 (.string x.s.name) (.int .i64 x.s.guest) (.slice x.A x.n x.c)
     have H9:=(J10.block _ (za I9) (λe=>by injection e with e;omega)).trans I9
     have c0:=cell_of_row _ _ 0 _ _ _ I10
     have c1:=cell_of_row _ _ 1 _ _ _ I10
     have c2:=cell_of_row _ _ 2 _ _ _ I10
     simp only[List.getElem?_toArray,List.getElem?_cons_zero,List.getElem?_cons_succ]at c0 c1 c2
     have d0:=frozen_of_row _ _ 0 _ _ I10
     have d1:=frozen_of_row _ _ 1 _ _ I10
     have d2:=frozen_of_row _ _ 2 _ _ I10
     have UE:Below wq.heap.size wq _:=UC.grown J10 (by have:=UC.size;omega) (λi e=>by injection e with e;omega)
     refine aP 14 λK' hK=>?_
     go_simp
     refine hK.nx ?_
     clear hK c0 c1 c2 d0 d1 d2
     refine cT ?_
     have hD9:wq.heap.size<=tA:=by omega
     generalize (((wC.setCell ⟨tB,0,none⟩ (.string x.s.name)).setCell ⟨tB,1,none⟩ (.int .i64 x.s.guest)).setCell ⟨tB,2,none⟩ (.slice x.A x.n x.c))=wE at*
     clear I9 J9 I10 J10 UC UB UA hA hB FA FB mvT
     have hgl:=(HO.o.snaps.lt gs rfl).2
     try dsimp only at hgl
     have HO':=zh (HO.o.next UE)
     have HX':=zh (HXB.o.keep UE HE.o.ty.lt)
     have HE':=zh (HE.o.next UE)
     have HZ':=zh (HZ8.o.next UE)
     have HB':=zh (aa HB8.o UE)
     have hbz':=Nat.le_trans hbz UE.size
     clear HO HXB HE HZ8 HB8 hbz z0 z1 z2 z3 z4 a0 a1 a2 b0 b1 b2 hcl
     have HO:=HO'
     have HXB:=HX'
     have HE:=HE'
     have HZ8:=HZ'
     have HB8:=HB'
     have hbz:=hbz'
     clear HO' HX' HE' HZ' HB' hbz'
     obtain⟨z0,z1,z2,z3,z4⟩:=HXB.o
     dsimp only at z0 z1 z2 z3 z4
     have hcl:∀i,i<(pn2+1)*3->wE.cell? ⟨gs,i,none⟩=(pl.flatMap PV.cells)[i]? := λi hi=>HO.o.snaps.cellAt i hi
     have a0:wE.cell? ⟨gs,j*3,none⟩=some (.string y.s.name):=(hcl (j*3) (by omega)).trans (av PV.cells PV.cells_len _ j y hy 0 (by omega))
     have a1:wE.cell? ⟨gs,j*3+1,none⟩=some (.int .i64 y.s.guest):=(hcl (j*3+1) (by omega)).trans (av PV.cells PV.cells_len _ j y hy 1 (by omega))
     have a2:wE.cell? ⟨gs,j*3+2,none⟩=some (.slice y.A y.n y.c):=(hcl (j*3+2) (by omega)).trans (av PV.cells PV.cells_len _ j y hy 2 (by omega))
     have r0:=HO.o.snaps.frozenAt (j*3)
     have r1:=HO.o.snaps.frozenAt (j*3+1)
     have r2:=HO.o.snaps.frozenAt (j*3+2)
     have t0:=cell_of_row _ _ 0 _ _ _ H10
     have t1:=cell_of_row _ _ 1 _ _ _ H10
     have t2:=cell_of_row _ _ 2 _ _ _ H10
     simp only[List.getElem?_toArray,List.getElem?_cons_zero,List.getElem?_cons_succ]at t0 t1 t2
     have o0:=HO.o.snaps
     dsimp only at o0
     obtain⟨o1,g1⟩:=o0.stored (j*3) (.string x.s.name)
     obtain⟨o2,g2⟩:=o1.stored (j*3+1) (.int .i64 x.s.guest)
     obtain⟨o3,g3⟩:=o2.stored (j*3+2) (.slice x.A x.n x.c)
     rw[gv PV.cells PV.cells_len pl j y x hy _ _ _ rfl]at o3
     have G16:=(g1.trans g2).trans g3
     have hbg:some bo≠some gs:= λe=>(HE.o.ty.ne (au HO.o.snaps (b:=gs) rfl) (by decide)) (by injection e)
     have H9':=(G16.block _ (za H9) (λe=>by injection e with e;omega)).trans H9
     have X16:=HXB.o.kept G16 hbg
     have HO16:=zh o3
     clear o0 o1 g1 o2 g2 g3 o3
     go_upto_region 17 with fail
     clear z0 z1 z2 z3 z4 a0 a1 a2 r0 r1 r2 t0 t1 t2 hcl
     generalize (((wE.setCell ⟨gs,j*3,none⟩ (.string x.s.name)).setCell ⟨gs,j*3+1,none⟩ (.int .i64 x.s.guest)).setCell ⟨gs,j*3+2,none⟩ (.slice x.A x.n x.c))=wF at*
     obtain⟨z0,z1,z2,z3,z4⟩:=X16
     dsimp only at z0 z1 z2 z3 z4
     have hxj:(pl.set j x)[j+1]? =some x:=by rw[List.getElem?_set_ne (by omega)];exact hx
     have hcl:∀i,i<(pn2+1)*3->wF.cell? ⟨gs,i,none⟩=((pl.set j x).flatMap PV.cells)[i]? := λi hi=>HO16.o.cellAt i hi
     have b0:wF.cell? ⟨gs,(j+1)*3,none⟩=some (.string x.s.name):=(hcl ((j+1)*3) (by omega)).trans (av PV.cells PV.cells_len _ (j+1) x hxj 0 (by omega))
     have r0:=HO16.o.frozenAt ((j+1)*3)
     have b1:wF.cell? ⟨gs,(j+1)*3+1,none⟩=some (.int .i64 x.s.guest):=(hcl ((j+1)*3+1) (by omega)).trans (av PV.cells PV.cells_len _ (j+1) x hxj 1 (by omega))
     have r1:=HO16.o.frozenAt ((j+1)*3+1)
     have b2:wF.cell? ⟨gs,(j+1)*3+2,none⟩=some (.slice x.A x.n x.c):=(hcl ((j+1)*3+2) (by omega)).trans (av PV.cells PV.cells_len _ (j+1) x hxj 2 (by omega))
     have r2:=HO16.o.frozenAt ((j+1)*3+2)
     have t0:=cell_of_row _ _ 0 _ _ _ H9'
     have t1:=cell_of_row _ _ 1 _ _ _ H9'
     have t2:=cell_of_row _ _ 2 _ _ _ H9'
     simp only[List.getElem?_toArray,List.getElem?_cons_zero,List.getElem?_cons_succ]at t0 t1 t2
     obtain⟨o1,g1⟩:=HO16.o.stored ((j+1)*3) (.string y.s.name)
     obtain⟨o2,g2⟩:=o1.stored ((j+1)*3+1) (.int .i64 y.s.guest)
     obtain⟨o3,g3⟩:=o2.stored ((j+1)*3+2) (.slice y.A y.n y.c)
     rw[gv PV.cells PV.cells_len (pl.set j x) (j+1) x y hxj _ _ _ rfl]at o3
     have G17:=G16.trans ((g1.trans g2).trans g3)
     have OS:=HO.o.swapSnap (k:=j+1) (by omega) hy hx o3 G17 (by omega) (by omega) hcm9
     have LSW:((m.snaps.take (j+1)++⟨name,m.guest,m.root⟩::m.snaps.drop (j+1)).set (j+1-1) x.s).set (j+1) y.s=m.snaps.take j++⟨name,m.guest,m.root⟩::m.snaps.drop j:=by rw[HXN.o];exact zq hys ⟨name,m.guest,m.root⟩
     rw[LSW]at OS
     have HOS:=zh OS
     have HXS:=zh (HXB.o.kept G17 hbg)
     have HES:=zh (HE.o.kept G17 hbg)
     have G18:Below base wE _:=fI G17 hbz (λi e=>by injection e with e;omega)
     have HZS:=zh (HZ8.o.nextB G18 HL2.o)
     have HBS:=zh (HB8.o.trans (G18.mono HLB.o))
     have HSS:=zh (Nat.le_trans hbz G18.size)
     clear o1 g1 o2 g2 g3 o3 G17 OS LSW G18 G16 H9' H9 H10 HO HXB HE HZ8 HB8 hbz HO16 UE
     go_wp2_with fail
     generalize (((wF.setCell ⟨gs,(j+1)*3,none⟩ (.string y.s.name)).setCell ⟨gs,(j+1)*3+1,none⟩ (.int .i64 y.s.guest)).setCell ⟨gs,(j+1)*3+2,none⟩ (.slice y.A y.n y.c))=wG at*
     clear z0 z1 z2 z3 z4 b0 b1 b2 r0 r1 r2 t0 t1 t2 hcl
     go_roundw
     case rel=>exact⟨j,_,_,by go_num,by omega,by omega,HOS.o,HXS.o,HES.o,HZS.o,HBS.o,HSS.o⟩
     case measure=>simp[intOf]
end
section
open Go.Proofs.Tryz
open Go.RowKit Sl
theorem wf (v:IV) (m:Img) (name:ByteArray) (w:World) (h:ImgR w w.heap.size v m) (he0:bJ m name=0):
  Calls prog 92 #[ae m v,.string name] w (aF w.heap.size (ap (n9 m name)) 0 w):=by
 have SX:=mw he0
 obtain⟨he,kd,sp,hxk,hnk,hfk,hik,hso,_⟩:=kc he0
 have SS:=ay (aq he).1
 obtain⟨s1,s2,s3,s4,s5,S6⟩:=bB SS
 have ha:m.snaps.any (named name)=true:=List.any_eq_true.2 ⟨sp,List.mem_of_getElem? hxk,hnk⟩
 have hii:bD (named name) m.snaps=(kd:Nat):=by unfold bD;rw[hfk,if_pos (zl hxk)]
 have hkl:kd<v.pn:=by have:=h.plen;have:=(zl hxk);omega
 have hp3:v.pn<=3:=by have:=h.plen;omega
 have KC':= λW (hb:Below w.heap.size w W)=>bg v m W (h.next hb)
 have KS':= λW (hb:Below w.heap.size w W)=>dL v m name W (h.next hb)
 have KO':= λW (hb:Below w.heap.size w W)=>fs v m W (h.next hb) SS.cbd (by rw[(dI (aq he).1).1.refs];exact SS.cbd.slots)
 obtain⟨W0,hW,f1,f2,f4,f5⟩:=bd w m.guest v
 rw[he]at KC'
 rw[hii]at KS'
 obtain⟨rA,rn,rc,sA,sn,sc,fA,fn,fc,pA,pn,pc⟩:=v
 dsimp only[ae]at KC' KS' KO' f1 f2 f4 f5 hW⊢
 have KC:=zh KC'
 have KS:=zh KS'
 have KO:=zh KO'
 clear KC' KS' KO'
 have HX:=zh f2
 obtain⟨x0,x1,x2,x3,x4⟩:=f2
 dsimp only at x0 x1 x2 x3 x4
 obtain⟨b,o,s',tA,tn,tc,hpA,hb,hx',d0,d1,d2,hsv⟩:=h.snaps.at_ (k:=kd) hkl
 rw[hxk]at hx'
 injection hx' with hx'
 subst hx'
 have htn:tn<=1000000:=by have:=hsv.root.len;have:=SS.cbd.roots sp (List.mem_of_getElem? hxk);omega
 have KRT:=zh (λW (hb:Below w.heap.size w W)=>hsv.root.next hb)
 have HRX:=zh (show n9 m name={m with guest:=sp.guest,root:=sp.root}from by unfold n9;rw[hso])
 have HSX:=zh SX
 dsimp only at hpA hkl hp3
 subst hpA
 have e0:(0:Int)<=(kd:Int):=by omega
 have e1:(kd:Int)<(pn:Int):=by omega
 clear h he he0 ha SS s1 s2 s3 s4 s5 S6 SX hnk hik hso hxk d0 hsv hii hfk
 go_enter func92,ntmps92
 go_wp2_with fail
 rw[hW.o]
 have HL:Hid (w.heap.size<W0.heap.size):=zh (by omega)
 have HZ:=zh f4
 have HB:=zh f1
 have h2:W0.heap.size=w.heap.size+1+1:=f5
 clear f1 f4 f5
 refine(KC.o _ HB.o).mono ?_
 rintro e W1 ⟨rfl,hb⟩
 have HX':=zh (HX.o.keep hb HL.o)
 have HZ':=zh (HZ.o.next hb)
 have HB':=zh (aa HB.o hb)
 have HL':=zh (Nat.lt_of_lt_of_le HL.o hb.size)
 clear HX HZ HB HL x0 x1 x2 x3 x4 hb KC
 have HX:=HX'
 have HZ:=HZ'
 have HB:=HB'
 have HL:=HL'
 clear HX' HZ' HB' HL'
 obtain⟨x0,x1,x2,x3,x4⟩:=HX.o
 dsimp only at x0 x1 x2 x3 x4
 go_wp2_with fail
 refine(KS.o _ HB.o).mono ?_
 rintro e W2 ⟨rfl,hb⟩
 have HX':=zh (HX.o.keep hb HL.o)
 have HZ':=zh (HZ.o.next hb)
 have HB':=zh (aa HB.o hb)
 have HL':=zh (Nat.lt_of_lt_of_le HL.o hb.size)
 clear HX HZ HB HL x0 x1 x2 x3 x4 hb KS
 have HX:=HX'
 have HZ:=HZ'
 have HB:=HB'
 have HL:=HL'
 clear HX' HZ' HB' HL'
 obtain⟨x0,x1,x2,x3,x4⟩:=HX.o
 dsimp only at x0 x1 x2 x3 x4
 go_wp2_with fail
 refine(KO.o _ HB.o).mono ?_
 rintro e W4 ⟨v2,tg,q,p,rfl,ho2,hb2⟩
 have HX':=zh (HX.o.keep hb2 HL.o)
 have HZ':=zh (HZ.o.next hb2)
 have HB':=zh (aa HB.o hb2)
 have HLB:Hid (w.heap.size<=W2.heap.size):=zh HB.o.size
 have HL2:Hid (w.heap.size+1<W2.heap.size):=zh (za HZ.o.heap)
 have hbs:=hb2.size
 generalize W2.heap.size=base at*
 clear HX HZ HB HL x0 x1 x2 x3 x4 hb2 KO
 have HX:=HX'
 have HZ:=HZ'
 have HB:=HB'
 clear HX' HZ' HB'
 have hpl:=ho2.plen
 have hpm:p.length=m.snaps.length:=by have h0:=congrArg List.length ho2.hp;rw[List.length_map]at h0;exact h0
 have HO2:=zh ho2
 obtain⟨rA2,rn2,rc2,sA2,sn2,sc2,fA2,fn2,fc2,pA2,pn2,pc2⟩:=v2
 dsimp only[ae]at HO2 hpl⊢
 clear ho2
 have T3:=ac W4 (.cells #[.int .i64 m.guest,.slice rA2 rn2 rc2,.slice sA2 sn2 sc2,.slice fA2 fn2 fc2,.slice pA2 pn2 pc2] 34)
 have HX3:=zh (HX.o.keep T3 (Nat.lt_of_lt_of_le (by have:=HL2.o;omega) hbs))
 have HZ3:=zh (HZ.o.next T3)
 have HB3:=zh (aa HB.o T3)
 have HO3:=zh (HO2.o.next T3)
 have HX4:=zh (Box.new W4 m.guest ⟨rA2,rn2,rc2,sA2,sn2,sc2,fA2,fn2,fc2,pA2,pn2,pc2⟩ 34)
 have HE:=zh (BoxB.new W4 #[.int .i64 m.guest,.slice rA2 rn2 rc2,.slice sA2 sn2 sc2,.slice fA2 fn2 fc2,.slice pA2 pn2 pc2])
 have hbs3:W4.heap.size<(W4.alloc (.cells #[.int .i64 m.guest,.slice rA2 rn2 rc2,.slice sA2 sn2 sc2,.slice fA2 fn2 fc2,.slice pA2 pn2 pc2] 34)).heap.size:=by simp
 clear HO2 HX HZ HB T3
 go_upto_region 8 with fail
 generalize hbo:W4.heap.size=bo at*
 generalize W4.alloc (.cells #[.int .i64 m.guest,.slice rA2 rn2 rc2,.slice sA2 sn2 sc2,.slice fA2 fn2 fc2,.slice pA2 pn2 pc2] 34)=W5 at*
 have HLO:Hid (bo<W5.heap.size):=zh hbs3
 have HBO:Hid (w.heap.size+1<bo):=zh (by have:=HL2.o;omega)
 have u0:W5.cell? ⟨w.heap.size,4,none⟩=some (.slice (some ⟨b,o,none⟩) pn pc):=HX3.o.2.2.2.2
 have u1:=(HB3.o.cell (p:=⟨b,o+kd*3+1,none⟩) hb).trans d1
 have f0:=HE.o.fz 0
 obtain⟨z0,z1,z2,z3,z4⟩:=HX4.o
 dsimp only at z0 z1 z2 z3 z4
 have g6:=ai W5 bo 0 (.int .i64 sp.guest)
 have U6:Below bo W5 (W5.setCell ⟨bo,0,none⟩ (.int .i64 sp.guest)):=(Below.refl _ _).setCell (p:=⟨bo,0,none⟩) (Nat.le_refl _) _
 have HO6:=zh ((HO3.o.newGuest sp.guest).kept g6 HE.o.ty (by decide) (by decide) (by decide))
 have HE6:=zh (HE.o.set 0 (.int .i64 sp.guest))
 have HX6:Hid (Box (W5.setCell ⟨bo,0,none⟩ (.int .i64 sp.guest)) bo sp.guest ⟨rA2,rn2,rc2,sA2,sn2,sc2,fA2,fn2,fc2,pA2,pn2,pc2⟩):=zh (by
  refine⟨?_,?_,?_,?_,?_⟩<;>go_simp)
 have HX6m:=zh (HX3.o.kept g6 (λe=>by injection e with e;have:=HBO.o;omega))
 have HZ6:=zh (HZ3.o.nextB U6 HBO.o)
 have HB6:=zh (HB3.o.trans (U6.mono (show w.heap.size<=bo by have:=HBO.o;omega)))
 have HL6:Hid (bo<(W5.setCell ⟨bo,0,none⟩ (.int .i64 sp.guest)).heap.size):=zh (Nat.lt_of_lt_of_le hbs3 U6.size)
 clear HX3 HZ3 HB3 HO3 HX4 HE g6
 go_upto_region 9 with fail
 clear u0 u1 f0 z0 z1 z2 z3 z4 U6 HLO
 generalize W5.setCell ⟨bo,0,none⟩ (.int .i64 sp.guest)=W6 at*
 have u0:(W6.alloc (.cells #[] 3)).cell? ⟨w.heap.size,4,none⟩=some (.slice (some ⟨b,o,none⟩) pn pc):=((ac W6 (.cells #[] 3)).cell (p:=⟨w.heap.size,4,none⟩) (by have:=HL6.o;have:=HBO.o;show w.heap.size<_;omega)).trans HX6m.o.2.2.2.2
 have u2:=((aa HB6.o (ac W6 (.cells #[] 3))).cell (p:=⟨b,o+kd*3+2,none⟩) hb).trans d2
 obtain⟨A7,c7,W7,q1,q2,q3,q4,q5⟩:=jI (W6.alloc (.cells #[] 3)) W6.heap.size (EB.new' rfl) tA tn tc sp.root (KRT.o _ (aa HB6.o (ac W6 (.cells #[] 3)))) htn
 have HR:=zh q1
 have TB:=TabO.made (base:=base) (tg:=tg) (t:=0) q2 (by have:=HL6.o;simp;omega) htn q4 q5
 have U7:=aa (ac W6 (.cells #[] 3)) q3
 have O7:=(((HO6.o.next (ac W6 (.cells #[] 3))).retag (tg':= λg=>if(W6.alloc (.cells #[] 3)).heap.size<=g then 0 else tg g) (λb' hb'=>if_neg (by omega))).next q3).rootTo TB
 have E7:=HE6.o.next U7
 obtain⟨z0,z1,z2,z3,z4⟩:=HX6.o.keep U7 HL6.o
 dsimp only at z0 z1 z2 z3 z4
 have f1:=E7.fz 1
 have g9:=ai W7 bo 1 (.slice A7 tn c7)
 have O10:=zh (O7.kept g9 E7.ty (by decide) (by decide) (by decide))
 have X9:Hid (Box (W7.setCell ⟨bo,1,none⟩ (.slice A7 tn c7)) bo sp.guest ⟨A7,tn,c7,sA2,sn2,sc2,fA2,fn2,fc2,pA2,pn2,pc2⟩):=zh (by
  refine⟨?_,?_,?_,?_,?_⟩<;>go_simp)
 have U9:Below bo W6 (W7.setCell ⟨bo,1,none⟩ (.slice A7 tn c7)):=(U7.mono (Nat.le_of_lt HL6.o)).setCell (p:=⟨bo,1,none⟩) (Nat.le_refl _) _
 have HZ8:=zh (HZ6.o.nextB U9 HBO.o)
 have HB8:=zh (HB6.o.trans (U9.mono (show w.heap.size<=bo by have:=HBO.o;omega)))
 have hsz10:base<=(W7.setCell ⟨bo,1,none⟩ (.slice A7 tn c7)).heap.size:=by have:=U9.size;have:=HL6.o;omega
 clear q1 q2 q3 TB O7 g9 U9 U7 E7 HO6 HE6 HX6 HX6m HZ6 HB6 KRT
 go_upto_region 10 with(at_builtin;refine aA rfl _ _ _ _ rfl rfl rfl rfl HR.o ?_)
 have KS:=zh (cU _ _ _ _ _ _ _ O10.o hsz10 (HRX.o▸HSX.o.cbd))
 obtain⟨z0',z1',z2',z3',z4'⟩:=X9.o
 dsimp only[ae]at KS z0' z1' z2' z3' z4'
 clear z0 z1 z2 z3 z4 f1 u0 u2 HR
 generalize W7.setCell ⟨bo,1,none⟩ (.slice A7 tn c7)=W10 at*
 go_wp2_with fail
 refine KS.o.mono ?_
 rintro e W11 ⟨v9,tg9,q9,p9,rfl,O9,hb9⟩
 have HZ:=zh (HZ8.o.nextB hb9 HL2.o)
 have HB:=zh (HB8.o.trans (hb9.mono HLB.o))
 have HF:Hid (Fresh W11 base v9 (ap {m with guest:=sp.guest,root:=sp.root})):=zh (.inr ⟨base,tg9,q9,_,Nat.le_refl _,O9⟩)
 clear HZ8 HB8 hb9 O9 KS
 dsimp only[ae]
 obtain⟨y0,y1,y2,y3,y4⟩:=HZ.o.cells
 obtain⟨q0,q1,q2,q3,q4⟩:=HZ.o.froz
 obtain⟨⟨k0,k1,k2,k3,k4⟩,hF,hB⟩:=cA HZ.o (HF.o.mono HLB.o) HB.o (Nat.le_refl _) (by omega)
 have HK:=zg k0 k1 k2 k3 k4 hF hB
 clear k0 k1 k2 k3 k4 hF hB
 go_wp2_with fail
 obtain⟨k0,k1,k2,k3,k4,hF,hB⟩:=HK.o
 refine bodyPost_ret (v:=.tuple #[ae (ap {m with guest:=sp.guest,root:=sp.root}) v9,.int .i64 0]) ?_ rfl ⟨v9,by rw[HRX.o],by rw[HRX.o];exact hF,hB⟩
 simp[results,results92,go_sem,ae,k0,k1,k2,k3,k4]
end
section
open Go.Proofs.Tryz
open Go.RowKit Sl
theorem BH {w:World} {base n c k g:Nat} {p:List PV} {cur:Array Value} (hbg:base<=g) (hg:w.heap[g]? =some (.cells cur 102 (0,0))) (hnc:n<=c) (hcs:cur.size=c*3) (hcm:c<=maxLen) (ht:cur.toList.take (n*3)=p.flatMap PV.cells)
  (hp:p.length=n) (hk:k<n):((p.drop (k+1)).flatMap PV.cells).length=(n-(k+1))*3/\
  (∃A:Addr,(if c=k+1 then some (⟨g,0,none⟩:Addr)else some ⟨g,(k+1)*3,none⟩)=some A/\(∀j u,((p.drop (k+1)).flatMap PV.cells)[j]? =some u->w.drew.cell? (A.add j)=some u))/\
  (∀j,j<((p.drop (k+1)).flatMap PV.cells).length->(w.drew.cell? ⟨g,0+k*3+j,none⟩).isSome=true/\w.drew.frozen? ⟨g,0+k*3+j,none⟩=false)/\
  w.grownBy (w.drew.setCells g (0+k*3) ((p.drop (k+1)).flatMap PV.cells)) (some g)/\(∀j,j≠g->True)/\
  (w.drew.setCells g (0+k*3) ((p.drop (k+1)).flatMap PV.cells)).ownsRow base 102 3 (.slice (some ⟨g,0,none⟩) (n-1) c) (n-1) ((p.eraseIdx k).flatMap PV.cells):=by
 have hd:((p.drop (k+1)).flatMap PV.cells).length=(n-(k+1))*3:=by rw[aO _ PV.cells_len,List.length_drop,hp]
 have hcl:cur.toList.length=c*3:=by rw[Array.length_toList,hcs]
 have hcell:∀j v,(p.flatMap PV.cells)[j]? =some v->w.cell? ⟨g,j,none⟩=some v:= λj v hj=>by
  rw[cell_of_row _ _ _ _ _ _ hg,<-Array.getElem?_toList]
  rw[<-ht,List.getElem?_take]at hj
  split at hj
  ·exact hj
  ·cases hj
 have hg1:=bX g ((p.drop (k+1)).flatMap PV.cells) (0+k*3) w.drew cur hg (by rw[hd,hcs];omega)
 have hgr1:=bZ g ((p.drop (k+1)).flatMap PV.cells) (0+k*3) w.drew
 obtain⟨l1,l2,l3⟩:=ot cur.toList p k n hp hk (by rw[hcl];omega) ht [undef,undef,undef] rfl _ _ rfl rfl
 refine⟨hd,?_,λj hj=>dx (w:=w) hg (by rw[hcs];omega),⟨hgr1.os,hgr1.tape,hgr1.output,hgr1.size,hgr1.block⟩,λ_ _=>trivial,?_⟩
 ·by_cases h:c=k+1
  ·refine⟨⟨g,0,none⟩,by simp[h],λj u hu=>?_⟩
   have h0:((p.drop (k+1)).flatMap PV.cells).length=0:=by rw[hd];omega
   rw[List.length_eq_zero_iff.1 h0]at hu
   simp at hu
  ·refine⟨⟨g,(k+1)*3,none⟩,by simp[h],λj u hu=>?_⟩
   rw[Addr.add_lit]
   refine hcell _ u ?_
   rw[<-iU,List.getElem?_drop]at hu
   exact hu
 ·refine⟨by rw[aO _ PV.cells_len,List.length_eraseIdx_of_lt (by omega),hp],.inr ⟨g,c,_,rfl,hbg,hg1,by omega,hcm,?_,?_⟩⟩
  ·rw[List.size_toArray,Nat.zero_add,l1,hcl]
  ·rw[Nat.zero_add]
   rw[List.append_assoc,List.take_append_of_le_length (by rw[List.length_take,l1,hcl];omega),List.take_take,Nat.min_self]at l3
   exact l3
theorem wh (v:IV) (m:Img) (name:ByteArray) (w:World) (h:ImgR w w.heap.size v m) (he0:bJ m name=0):
  Calls prog 93 #[ae m v,.string name] w (aF w.heap.size (ap (oX m name)) 0 w):=by
 have SX:=mx he0
 obtain⟨he,kd,sp,hxk,hnk,hfk,hik,hso,_⟩:=kc he0
 have SS:=ay (aq he).1
 obtain⟨s1,s2,s3,s4,s5,S6⟩:=bB SS
 have ha:m.snaps.any (named name)=true:=List.any_eq_true.2 ⟨sp,List.mem_of_getElem? hxk,hnk⟩
 have hii:bD (named name) m.snaps=(kd:Nat):=by unfold bD;rw[hfk,if_pos (zl hxk)]
 have hkl:kd<v.pn:=by have:=h.plen;have:=(zl hxk);omega
 have hp3:v.pn<=3:=by have:=h.plen;omega
 have KC':= λW (hb:Below w.heap.size w W)=>bg v m W (h.next hb)
 have KS':= λW (hb:Below w.heap.size w W)=>dL v m name W (h.next hb)
 have KO':= λW (hb:Below w.heap.size w W)=>fs v m W (h.next hb) SS.cbd (by rw[(dI (aq he).1).1.refs];exact SS.cbd.slots)
 obtain⟨W0,hW,f1,f2,f4,f5⟩:=bd w m.guest v
 rw[he]at KC'
 rw[hii]at KS'
 obtain⟨rA,rn,rc,sA,sn,sc,fA,fn,fc,pA,pn,pc⟩:=v
 dsimp only[ae]at KC' KS' KO' f1 f2 f4 f5 hW⊢
 have KC:=zh KC'
 have KS:=zh KS'
 have KO:=zh KO'
 clear KC' KS' KO'
 have HX:=zh f2
 obtain⟨x0,x1,x2,x3,x4⟩:=f2
 dsimp only at x0 x1 x2 x3 x4
 have HDX:=zh (show oX m name={m with snaps:=m.snaps.eraseIdx kd}from by unfold oX;rw[hfk])
 have HSX:=zh SX
 dsimp only at hkl hp3
 have e0:(0:Int)<=(kd:Int):=by omega
 have e1:(kd:Int)<(pn:Int):=by omega
 have HPM:=zh (show m.snaps.length=pn from h.plen)
 have hw1:IntKind.i64.wrap ((kd:Int)+1)=(kd:Int)+1:=by rw[IntKind.wrap_i64];omega
 clear h he he0 ha SS s1 s2 s3 s4 s5 S6 SX hnk hik hso hxk hfk hii
 go_enter func93,ntmps93
 go_wp2_with fail
 rw[hW.o]
 have HL:Hid (w.heap.size<W0.heap.size):=zh (by omega)
 have HZ:=zh f4
 have HB:=zh f1
 have h2:W0.heap.size=w.heap.size+1+1:=f5
 clear f1 f4 f5
 refine(KC.o _ HB.o).mono ?_
 rintro e W1 ⟨rfl,hb⟩
 have HX':=zh (HX.o.keep hb HL.o)
 have HZ':=zh (HZ.o.next hb)
 have HB':=zh (aa HB.o hb)
 have HL':=zh (Nat.lt_of_lt_of_le HL.o hb.size)
 clear HX HZ HB HL x0 x1 x2 x3 x4 hb KC
 have HX:=HX'
 have HZ:=HZ'
 have HB:=HB'
 have HL:=HL'
 clear HX' HZ' HB' HL'
 obtain⟨x0,x1,x2,x3,x4⟩:=HX.o
 dsimp only at x0 x1 x2 x3 x4
 go_wp2_with fail
 refine(KS.o _ HB.o).mono ?_
 rintro e W2 ⟨rfl,hb⟩
 have HX':=zh (HX.o.keep hb HL.o)
 have HZ':=zh (HZ.o.next hb)
 have HB':=zh (aa HB.o hb)
 have HL':=zh (Nat.lt_of_lt_of_le HL.o hb.size)
 clear HX HZ HB HL x0 x1 x2 x3 x4 hb KS
 have HX:=HX'
 have HZ:=HZ'
 have HB:=HB'
 have HL:=HL'
 clear HX' HZ' HB' HL'
 obtain⟨x0,x1,x2,x3,x4⟩:=HX.o
 dsimp only at x0 x1 x2 x3 x4
 go_wp2_with fail
 refine(KO.o _ HB.o).mono ?_
 rintro e W4 ⟨v2,tg,q,p,rfl,ho2,hb2⟩
 have HX':=zh (HX.o.keep hb2 HL.o)
 have HZ':=zh (HZ.o.next hb2)
 have HB':=zh (aa HB.o hb2)
 have HLB:Hid (w.heap.size<=W2.heap.size):=zh HB.o.size
 have HL2:Hid (w.heap.size+1<W2.heap.size):=zh (za HZ.o.heap)
 have hbs:=hb2.size
 generalize W2.heap.size=base at*
 clear HX HZ HB HL x0 x1 x2 x3 x4 hb2 KO
 have HX:=HX'
 have HZ:=HZ'
 have HB:=HB'
 clear HX' HZ' HB'
 have hpl:=ho2.plen
 have hpm:p.length=m.snaps.length:=by have h0:=congrArg List.length ho2.hp;rw[List.length_map]at h0;exact h0
 have HO2:=zh ho2
 obtain⟨rA2,rn2,rc2,sA2,sn2,sc2,fA2,fn2,fc2,pA2,pn2,pc2⟩:=v2
 dsimp only[ae]at HO2 hpl⊢
 clear ho2
 have T3:=ac W4 (.cells #[.int .i64 m.guest,.slice rA2 rn2 rc2,.slice sA2 sn2 sc2,.slice fA2 fn2 fc2,.slice pA2 pn2 pc2] 34)
 have HX3:=zh (HX.o.keep T3 (Nat.lt_of_lt_of_le (by have:=HL2.o;omega) hbs))
 have HZ3:=zh (HZ.o.next T3)
 have HB3:=zh (aa HB.o T3)
 have HO3:=zh (HO2.o.next T3)
 have HX4:=zh (Box.new W4 m.guest ⟨rA2,rn2,rc2,sA2,sn2,sc2,fA2,fn2,fc2,pA2,pn2,pc2⟩ 34)
 have HE:=zh (BoxB.new W4 #[.int .i64 m.guest,.slice rA2 rn2 rc2,.slice sA2 sn2 sc2,.slice fA2 fn2 fc2,.slice pA2 pn2 pc2])
 have hbs3:W4.heap.size<(W4.alloc (.cells #[.int .i64 m.guest,.slice rA2 rn2 rc2,.slice sA2 sn2 sc2,.slice fA2 fn2 fc2,.slice pA2 pn2 pc2] 34)).heap.size:=by simp
 clear HO2 HX HZ HB T3
 go_upto_region 8 with fail
 generalize hbo:W4.heap.size=bo at*
 generalize W4.alloc (.cells #[.int .i64 m.guest,.slice rA2 rn2 rc2,.slice sA2 sn2 sc2,.slice fA2 fn2 fc2,.slice pA2 pn2 pc2] 34)=W5 at*
 have HBO:Hid (w.heap.size+1<bo):=zh (by have:=HL2.o;omega)
 have hpp:p.length=pn2:=hpl
 have hkp:kd<pn2:=by have:=HPM.o;omega
 obtain⟨ip0,hip,hpz0,hpz1,hpz2⟩:=info_parts infoSnapI
 obtain⟨g,cur,hAg,hbg,hg,hnc,hcm,hcs,htake⟩:=kW HO3.o.snaps (by dsimp only;omega)
 subst hAg
 try dsimp only at hnc hcm hcs htake
 obtain⟨hd,hcell,hspare,hG,hrow,HD⟩:=BH (base:=base) (n:=pn2) (c:=pc2) (k:=kd) (p:=p) hbg hg hnc hcs hcm htake hpp hkp
 obtain⟨A,hA,hsrc⟩:=hcell
 obtain⟨z0,z1,z2,z3,z4⟩:=HX4.o
 dsimp only at z0 z1 z2 z3 z4
 have hbne:bo≠g:= λe=>(HE.o.ty.ne (T':=102) (b':=g) ⟨_,_,hg⟩ (by decide)) e
 have E7:=HE.o.kept hG (λe=>by injection e with e;exact hbne e)
 have X7:=HX4.o.kept hG (λe=>by injection e with e;exact hbne e)
 have O7:=HO3.o.delSnap HD hG (by omega) (by have:=HPM.o;omega) hcm
 have G7:Below base W5 _:=fI hG (by omega) (λj e=>by injection e with e;omega)
 obtain⟨W7,hW7⟩:∃W7,W7=W5.drew.setCells g (0+kd*3) ((p.drop (kd+1)).flatMap PV.cells):=⟨_,rfl⟩
 rw[<-hW7]at E7 X7 O7 G7
 have HW:Hid (W5.drew.setCells g (0+kd*3) ((p.drop (kd+1)).flatMap PV.cells)=W7):=zh hW7.symm
 clear hW7
 obtain⟨y0,y1,y2,y3,y4⟩:=X7
 dsimp only at y0 y1 y2 y3 y4
 have f4:=E7.fz 4
 have g9:=ai W7 bo 4 (.slice (some ⟨g,0,none⟩) (pn2-1) pc2)
 have O10:=zh (O7.kept g9 E7.ty (by decide) (by decide) (by decide))
 have X9:Hid (Box (W7.setCell ⟨bo,4,none⟩ (.slice (some ⟨g,0,none⟩) (pn2-1) pc2)) bo m.guest ⟨rA2,rn2,rc2,sA2,sn2,sc2,fA2,fn2,fc2,some ⟨g,0,none⟩,pn2-1,pc2⟩):=zh (by
  refine⟨?_,?_,?_,?_,?_⟩<;>go_simp)
 have U9:=G7.setCell (p:=⟨bo,4,none⟩) (by show base<=bo;omega) (.slice (some ⟨g,0,none⟩) (pn2-1) pc2)
 have HZ8:=zh (HZ3.o.nextB U9 HL2.o)
 have HB8:=zh (HB3.o.trans (U9.mono HLB.o))
 have hsz10:base<=(W7.setCell ⟨bo,4,none⟩ (.slice (some ⟨g,0,none⟩) (pn2-1) pc2)).heap.size:=by have:=U9.size;omega
 have hn1:kd+(pn2-(kd+1))=pn2-1:=by omega
 have hroom:kd+(pn2-(kd+1))<=pc2:=by omega
 have s3:Hid (∀u∈(p.drop (kd+1)).flatMap PV.cells,u.oneCell'=true):=zh (iT _)
 have s1:Hid (((p.drop (kd+1)).flatMap PV.cells).length=(pn2-(kd+1))*3):=zh hd
 have HSP:=zh hspare
 have hc63:pc2<=9223372036854775807:=by unfold maxLen at hcm;exact hcm
 have e2:(kd:Int)<=(pc2:Int):=by omega
 have e3:(kd:Int)+1<=(pn2:Int):=by omega
 have htn:((kd:Int)+1).toNat=kd+1:=by omega
 have hb1:(0:Int)<=(kd:Int)+1:=by omega
 have hkc:kd<=pc2:=by omega
 have HV:=zh (World.cell?_setCells_out (w:=W5.drew) g ((p.drop (kd+1)).flatMap PV.cells) (0+kd*3))
 clear hd hspare hG HD O7 g9 U9 hg htake hcs HX3 HZ3 HB3 HO3 HX4 HE E7 G7
 go_region_law (first|(refine step_append_room rfl _ _ 32 rfl 102 ip0 3 underlying32 hip hpz1 g 0 kd pc2 (by simp[Act.eval,Act.put]) A (pn2-(kd+1)) (pc2-(kd+1)) _ (by simp[Act.eval,Act.put]) s1.o hsrc s3.o hroom HSP.o ?_;rw[HW.o,hn1]))
 all_goals
  have KS:=zh (cU _ _ _ _ _ _ _ O10.o hsz10 (HDX.o▸HSX.o.cbd))
  obtain⟨z0',z1',z2',z3',z4'⟩:=X9.o
  dsimp only[ae]at KS z0' z1' z2' z3' z4'
  clear y0 y1 y2 y3 y4 f4 z0 z1 z2 z3 z4
  generalize W7.setCell ⟨bo,4,none⟩ (.slice (some ⟨g,0,none⟩) (pn2-1) pc2)=W10 at*
  go_wp2_with fail
  refine KS.o.mono ?_
  rintro e W11 ⟨v9,tg9,q9,p9,rfl,O9,hb9⟩
  have HZ:=zh (HZ8.o.nextB hb9 HL2.o)
  have HB:=zh (HB8.o.trans (hb9.mono HLB.o))
  have HF:Hid (Fresh W11 base v9 (ap {m with snaps:=m.snaps.eraseIdx kd})):=zh (.inr ⟨base,tg9,q9,_,Nat.le_refl _,O9⟩)
  clear HZ8 HB8 hb9 O9 KS
  dsimp only[ae]
  obtain⟨y0,y1,y2,y3,y4⟩:=HZ.o.cells
  obtain⟨q0,q1,q2,q3,q4⟩:=HZ.o.froz
  obtain⟨⟨k0,k1,k2,k3,k4⟩,hF,hB⟩:=cA HZ.o (HF.o.mono HLB.o) HB.o (Nat.le_refl _) (by omega)
  have HK:=zg k0 k1 k2 k3 k4 hF hB
  clear k0 k1 k2 k3 k4 hF hB
  go_wp2_with fail
  obtain⟨k0,k1,k2,k3,k4,hF,hB⟩:=HK.o
  refine bodyPost_ret (v:=.tuple #[ae (ap {m with snaps:=m.snaps.eraseIdx kd}) v9,.int .i64 0]) ?_ rfl ⟨v9,by rw[HDX.o],by rw[HDX.o];exact hF,hB⟩
  simp[results,results93,go_sem,ae,k0,k1,k2,k3,k4]
end
end Go.Proofs.YtdbneghfbkjinaaGreatDoor
