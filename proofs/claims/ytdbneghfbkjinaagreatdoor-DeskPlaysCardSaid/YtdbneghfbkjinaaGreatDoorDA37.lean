/- Texts of the proof of deskPlays_holds: SnCre. Conditions: as each text says. -/
import Derived.Test.YtdbneghfbkjinaaGreatDoorDA1
import Derived.Test.YtdbneghfbkjinaaGreatDoorDA36
set_option maxRecDepth 100000
set_option maxHeartbeats 2000000
namespace Go.Proofs.YtdbneghfbkjinaaGreatDoor
section
open Go.Proofs.Tryz
open Go.RowKit Sl
theorem zn (v:IV) (m:Img) (name:ByteArray) (w:World) (h:ImgR w w.heap.size v m) (he:be m name=0) (hsz:name.size<=4611686018427387903):
  Calls prog 34 #[ae m v,.string name] w (aF w.heap.size (ap (cl m name)) 0 w):=by
 have SX:=iO he
 obtain⟨he,hn,ha,h3⟩:=kb he
 have SS:=ay (aq he).1
 obtain⟨s1,s2,s3,s4,s5,S6⟩:=bB SS
 have hkl:ca m.snaps name<=m.snaps.length:=mZ _ _
 have hrn:v.rn<=1000000:=by have:=h.rlen;have:=SS.cbd.root;omega
 have hp3:¬v.pn=3:=by have:=h.plen;omega
 have hpv:=h.plen
 have KC':= λW (hb:Below w.heap.size w W)=>bq v m W (h.next hb)
 have KF':= λW (hb:Below w.heap.size w W)=>eC v m name W (h.next hb) S6 (by have:=h.plen;omega)
 have KN':= λW (_:Below w.heap.size w W)=>jr name W hsz
 have KO':= λW (hb:Below w.heap.size w W)=>lE v m W (h.next hb) SS.cbd (by rw[(dI (aq he).1).1.refs];exact SS.cbd.slots)
 have KT':= λW (hb:Below w.heap.size w W)=>ex v.rA v.rn v.rc (ah m.root) W (h.next hb).root (eN _) hrn
 obtain⟨W0,hW,f1,f2,f4,f5⟩:=bd w m.guest v
 rw[he]at KC'
 rw[hn]at KN'
 rw[ha]at KF'
 obtain⟨rA,rn,rc,sA,sn,sc,fA,fn,fc,pA,pn,pc⟩:=v
 dsimp only[ae]at KC' KF' KN' KO' KT' f1 f2 f4 f5 hW⊢
 have KC:=zh KC'
 have KF:=zh KF'
 have KN:=zh KN'
 have KO:=zh KO'
 have KT:=zh KT'
 clear KC' KF' KN' KO' KT'
 have HX:=zh f2
 obtain⟨x0,x1,x2,x3,x4⟩:=f2
 dsimp only at x0 x1 x2 x3 x4
 have HCX:=zh (show cl m name={m with snaps:=m.snaps.take (ca m.snaps name)++⟨name,m.guest,m.root⟩::m.snaps.drop (ca m.snaps name)}from rfl)
 have HSX:=zh SX
 dsimp only at hp3 hpv hrn
 have hq3:((pn:Int)==3)=false:=by simp;omega
 clear hp3
 generalize hkk:ca m.snaps name=kk at*
 clear h he hn ha SS s1 s2 s3 s4 s5 S6 hkk SX
 go_enter func34,ntmps34
 go_wp2_with fail
 rw[hW.o]
 have HL:Hid (w.heap.size<W0.heap.size):=zh (by omega)
 have HZ:=zh f4
 have HB:=zh f1
 have h2:W0.heap.size=w.heap.size+1+1:=f5
 clear f1 f4 f5
 refine(KC.o _ HB.o).mono ?_
 rintro e W1 ⟨rfl,hb⟩
 have HX':=zh (HX.o.keep hb HL.o)
 have HZ':=zh (HZ.o.next hb)
 have HB':=zh (aa HB.o hb)
 have HL':=zh (Nat.lt_of_lt_of_le HL.o hb.size)
 clear HX HZ HB HL x0 x1 x2 x3 x4 hb KC
 have HX:=HX'
 have HZ:=HZ'
 have HB:=HB'
 have HL:=HL'
 clear HX' HZ' HB' HL'
 obtain⟨x0,x1,x2,x3,x4⟩:=HX.o
 dsimp only at x0 x1 x2 x3 x4
 go_wp2_with fail
 refine(KF.o _ HB.o).mono ?_
 rintro e W2 ⟨rfl,hb⟩
 have HX':=zh (HX.o.keep hb HL.o)
 have HZ':=zh (HZ.o.next hb)
 have HB':=zh (aa HB.o hb)
 have HL':=zh (Nat.lt_of_lt_of_le HL.o hb.size)
 clear HX HZ HB HL x0 x1 x2 x3 x4 hb KF
 have HX:=HX'
 have HZ:=HZ'
 have HB:=HB'
 have HL:=HL'
 clear HX' HZ' HB' HL'
 obtain⟨x0,x1,x2,x3,x4⟩:=HX.o
 dsimp only at x0 x1 x2 x3 x4
 go_wp2_with fail
 refine(KN.o _ HB.o).mono ?_
 rintro e W3 ⟨rfl,hb⟩
 have HX':=zh (HX.o.keep hb HL.o)
 have HZ':=zh (HZ.o.next hb)
 have HB':=zh (aa HB.o hb)
 have HL':=zh (Nat.lt_of_lt_of_le HL.o hb.size)
 clear HX HZ HB HL x0 x1 x2 x3 x4 hb KN
 have HX:=HX'
 have HZ:=HZ'
 have HB:=HB'
 have HL:=HL'
 clear HX' HZ' HB' HL'
 obtain⟨x0,x1,x2,x3,x4⟩:=HX.o
 dsimp only at x0 x1 x2 x3 x4
 go_wp2_with fail
 refine(KO.o _ HB.o).mono ?_
 rintro e W4 ⟨v2,tg,q,p,rfl,ho2,hb2⟩
 have HX':=zh (HX.o.keep hb2 HL.o)
 have HZ':=zh (HZ.o.next hb2)
 have HB':=zh (aa HB.o hb2)
 have HLB:Hid (w.heap.size<=W3.heap.size):=zh HB.o.size
 have HL2:Hid (w.heap.size+1<W3.heap.size):=zh (za HZ.o.heap)
 have hbs:=hb2.size
 generalize W3.heap.size=base at*
 clear HX HZ HB HL x0 x1 x2 x3 x4 hb2 KO
 have HX:=HX'
 have HZ:=HZ'
 have HB:=HB'
 clear HX' HZ' HB'
 have hpl:=ho2.plen
 have hpm:p.length=m.snaps.length:=by have h0:=congrArg List.length ho2.hp;rw[List.length_map]at h0;exact h0
 have HO2:=zh ho2
 obtain⟨rA2,rn2,rc2,sA2,sn2,sc2,fA2,fn2,fc2,pA2,pn2,pc2⟩:=v2
 dsimp only[ae]at HO2 hpl⊢
 clear ho2
 have T3:=ac W4 (.cells #[.int .i64 m.guest,.slice rA2 rn2 rc2,.slice sA2 sn2 sc2,.slice fA2 fn2 fc2,.slice pA2 pn2 pc2] 34)
 have HX3:=zh (HX.o.keep T3 (Nat.lt_of_lt_of_le (by have:=HL2.o;omega) hbs))
 have HZ3:=zh (HZ.o.next T3)
 have HB3:=zh (aa HB.o T3)
 have HO3:=zh (HO2.o.next T3)
 have HX4:=zh (Box.new W4 m.guest ⟨rA2,rn2,rc2,sA2,sn2,sc2,fA2,fn2,fc2,pA2,pn2,pc2⟩ 34)
 have HE:=zh (BoxB.new W4 #[.int .i64 m.guest,.slice rA2 rn2 rc2,.slice sA2 sn2 sc2,.slice fA2 fn2 fc2,.slice pA2 pn2 pc2])
 have hbs3:W4.heap.size<(W4.alloc (.cells #[.int .i64 m.guest,.slice rA2 rn2 rc2,.slice sA2 sn2 sc2,.slice fA2 fn2 fc2,.slice pA2 pn2 pc2] 34)).heap.size:=by simp
 clear HO2 HX HZ HB T3
 go_upto_region 12 with fail
 generalize hbo:W4.heap.size=bo at*
 generalize W4.alloc (.cells #[.int .i64 m.guest,.slice rA2 rn2 rc2,.slice sA2 sn2 sc2,.slice fA2 fn2 fc2,.slice pA2 pn2 pc2] 34)=W5 at*
 have u0:W5.cell? ⟨bo,4,none⟩=some (.slice pA2 pn2 pc2):=HX4.o.2.2.2.2
 have u1:W5.cell? ⟨w.heap.size,0,none⟩=some (.int .i64 m.guest):=HX3.o.1
 have u2:W5.cell? ⟨w.heap.size,1,none⟩=some (.slice rA rn rc):=HX3.o.2.1
 have UD:Below W5.heap.size W5 W5.drew:=(Below.refl _ _).drew
 have HLW:Hid (w.heap.size<W5.heap.size):=zh (by have:=HL2.o;omega)
 have HLO:Hid (bo<W5.heap.size):=zh hbs3
 refine eS (λW'=>W'.cell? ⟨bo,4,none⟩=some (.slice pA2 pn2 pc2)/\W'.cell? ⟨w.heap.size,0,none⟩=some (.int .i64 m.guest)/\W'.cell? ⟨w.heap.size,1,none⟩=some (.slice rA rn rc)) 13 ?_
 have mvT:=zh (λ(W':World) (hb2:Below W5.heap.size W5 W')=>(show W'.cell? ⟨bo,4,none⟩=some (.slice pA2 pn2 pc2)/\W'.cell? ⟨w.heap.size,0,none⟩=some (.int .i64 m.guest)/\W'.cell? ⟨w.heap.size,1,none⟩=some (.slice rA rn rc)from
  ⟨(hb2.cell (p:=⟨bo,4,none⟩) HLO.o).trans u0,(hb2.cell (p:=⟨w.heap.size,0,none⟩) HLW.o).trans u1,(hb2.cell (p:=⟨w.heap.size,1,none⟩) HLW.o).trans u2⟩))
 have hSS:=mvT.o _ UD
 generalize W5.drew=W6 at*
 refine zgo 0 ?_
 refine zgo 1 ?_
 refine zgo 2 ?_
 refine zgo 3 ?_
 refine zgo 4 ?_
 refine zgo 5 ?_
 refine zgo 6 ?_
 refine zgo 7 ?_
 clear hSS
 refine aP 8 λK' hK=>?_
 go_simp
 refine(KT.o _ (aa HB3.o UD)).mono ?_
 rintro e W7 ⟨A7,c7,rfl,ho7,hb7,hc7,hm7⟩
 have U7:=aa UD hb7
 refine hK.o _ _ (λ_=>mvT.o _ U7) ?_
 clear hK
 refine aP 9 λK' hK=>?_
 go_simp
 refine hK.o _ _ (λ_=>mvT.o _ U7) ?_
 clear hK
 refine aP 10 λK' hK=>?_
 go_simp
 have hb8:=ac W7 (.cells #[.string name,.int .i64 m.guest,.slice A7 rn c7] 102)
 have U8:=aa U7 hb8
 refine hK.o _ _ (λ_=>mvT.o _ U8) ?_
 clear hK
 have TB:=TabO.made (base:=base) (tg:=tg) (t:=2) (.inr ho7) (by have:=UD.size;omega) hrn hc7 hm7
 have O7:=((HO3.o.next UD).retag (tg':= λg=>if W6.heap.size<=g then 2 else tg g) (λb' hb'=>if_neg (by omega))).next hb7
 generalize (λg=>if W6.heap.size<=g then 2 else tg g)=tg7 at*
 have O8:=O7.next hb8
 have TB8:=TB.next hb8
 have hlt7:= λb e=>(O7.snaps.lt b e).2
 have HV:=heap_alloc_new W7 (.cells #[.string name,.int .i64 m.guest,.slice A7 rn c7] 102)
 have hins:=vS base pn2 pc2 kk W7.heap.size pA2 p ⟨⟨name,m.guest,m.root⟩,A7,rn,c7⟩ (W7.alloc (.cells #[.string name,.int .i64 m.guest,.slice A7 rn c7] 102)) O8.snaps (by omega) (by omega) O8.ple (by have:=U8.size;omega) HV (λe=>by have:=hlt7 _ e;omega)
 have HINS:=zh hins
 have HO8:=zh O8
 have HTB:=zh TB8
 have HE8:=zh ((HE.o.next UD).next (aa hb7 hb8))
 have HX8:=zh ((HX4.o.keep UD HLO.o).keep (aa hb7 hb8) (Nat.lt_of_lt_of_le HLO.o UD.size))
 have HZ8':=zh ((HZ3.o.next UD).next (aa hb7 hb8))
 have HB8':=zh (aa HB3.o U8)
 have HLB8:Hid (base<=(W7.alloc (.cells #[.string name,.int .i64 m.guest,.slice A7 rn c7] 102)).heap.size):=zh (by have:=U8.size;omega)
 have HPL:Hid (kk<=p.length):=zh (by omega)
 clear hins O7 O8 TB TB8 ho7 hb7 hb8 U7 HV hlt7
 generalize W7.alloc (.cells #[.string name,.int .i64 m.guest,.slice A7 rn c7] 102)=W8 at*
 refine aP 11 λK' hK=>?_
 go_simp
 refine HINS.o.mono ?_
 rintro e W9 ⟨A9,c9,rfl,ho9,hg9,hn9,hm9⟩
 have O9:=HO8.o.putSnapN HPL.o (x:=⟨⟨name,m.guest,m.root⟩,A7,rn,c7⟩) hsz HTB.o ho9 hg9 hn9 (by omega) hm9
 have hrow:∀j,(Value.slice pA2 pn2 pc2).ownBlock=some j->base<=j:= λj e=>(HO8.o.snaps.lt j e).1
 have hnb:some bo≠(Value.slice pA2 pn2 pc2).ownBlock:= λe=>(HE8.o.ty.ne (au HO8.o.snaps e.symm) (by decide)) rfl
 have E9:=HE8.o.kept hg9 hnb
 have X9:=HX8.o.kept hg9 hnb
 have G9:Below base W8 W9:=fI hg9 HLB8.o hrow
 have v1:=(G9.cell (p:=⟨w.heap.size,0,none⟩) (by have:=HL2.o;show w.heap.size<_;omega)).trans (mvT.o _ U8).2.1
 have v2:=(G9.cell (p:=⟨w.heap.size,1,none⟩) (by have:=HL2.o;show w.heap.size<_;omega)).trans (mvT.o _ U8).2.2
 refine hK.o _ _ (λ_=>⟨X9.2.2.2.2,v1,v2⟩) ?_
 clear hK
 refine aP 12 λK' hK=>?_
 go_simp
 refine hK.o _ _ (λ_=>⟨X9.2.2.2.2,v1,v2⟩) ?_
 clear hK
 have hgs:=ai W9 bo 4 (.slice A9 (pn2+1) c9)
 have O10:=zh (O9.kept hgs E9.ty (by decide) (by decide) (by decide))
 have f4:=E9.fz 4
 obtain⟨z0,z1,z2,z3,z4⟩:=X9
 have X10:Hid (Box (W9.setCell ⟨bo,4,none⟩ (.slice A9 (pn2+1) c9)) bo m.guest ⟨rA2,rn2,rc2,sA2,sn2,sc2,fA2,fn2,fc2,A9,pn2+1,c9⟩):=zh (by
  dsimp only at z0 z1 z2 z3 z4
  refine⟨?_,?_,?_,?_,?_⟩<;>go_simp)
 have HZ8:=zh ((HZ8'.o.nextB G9 HL2.o).nextB (Below.setCell (Below.refl base _) (p:=⟨bo,4,none⟩) (by show base<=bo;omega) (.slice A9 (pn2+1) c9)) HL2.o)
 have HB8:=zh ((HB8'.o.trans (G9.mono HLB.o)).setCell (p:=⟨bo,4,none⟩) (show w.heap.size<=bo by have:=HLB.o;omega) (.slice A9 (pn2+1) c9))
 have hsz10:base<=(W9.setCell ⟨bo,4,none⟩ (.slice A9 (pn2+1) c9)).heap.size:=by have:=G9.size;have:=HLB8.o;simp;omega
 dsimp only at z0 z1 z2 z3 z4
 refine aP 13 λK' hK=>?_
 go_simp
 refine hK.nx ?_
 clear hK
 refine cT ?_
 rw[<-HCX.o]at O10
 have KS:=zh (iV _ _ _ _ _ _ _ O10.o hsz10 HSX.o.cbd HSX.o.wired)
 have HG:Hid (m.guest=(cl m name).guest):=zh rfl
 obtain⟨z0',z1',z2',z3',z4'⟩:=X10.o
 dsimp only[ae]at KS z0' z1' z2' z3' z4'
 rw[HG.o]at z0'
 clear z0 z1 z2 z3 z4 f4 hgs E9 O9 v1 v2 HX8 HE8 HO8 HTB hg9 G9 HB8' HZ8' HX3 HZ3 HB3 HO3 HX4 HE u0 u1 u2 mvT
 generalize W9.setCell ⟨bo,4,none⟩ (.slice A9 (pn2+1) c9)=W10 at*
 go_wp2_with fail
 refine KS.o.mono ?_
 rintro e W11 ⟨v9,tg9,q9,rfl,O9,hb9⟩
 have HZ:=zh (HZ8.o.nextB hb9 HL2.o)
 have HB:=zh (HB8.o.trans (hb9.mono HLB.o))
 have HF:Hid (Fresh W11 base v9 (ap (cl m name))):=zh (.inr ⟨base,tg9,q9,_,Nat.le_refl _,O9⟩)
 clear HZ8 HB8 hb9 O9 KS
 dsimp only[ae]
 obtain⟨y0,y1,y2,y3,y4⟩:=HZ.o.cells
 obtain⟨q0,q1,q2,q3,q4⟩:=HZ.o.froz
 obtain⟨⟨k0,k1,k2,k3,k4⟩,hF,hB⟩:=cA HZ.o (HF.o.mono HLB.o) HB.o (Nat.le_refl _) (by omega)
 have HK:=zg k0 k1 k2 k3 k4 hF hB
 clear k0 k1 k2 k3 k4 hF hB
 go_wp2_with fail
 obtain⟨k0,k1,k2,k3,k4,hF,hB⟩:=HK.o
 refine bodyPost_ret (v:=.tuple #[ae (ap (cl m name)) v9,.int .i64 0]) ?_ rfl ⟨v9,rfl,hF,hB⟩
 simp[results,results34,go_sem,ae,k0,k1,k2,k3,k4]
end
section
open Go.Proofs.Tryz
open Go.RowKit Sl
theorem zo (v:IV) (m:Img) (name:ByteArray) (w:World) (h:ImgR w w.heap.size v m) (he0:bJ m name=0):
  Calls prog 35 #[ae m v,.string name] w (aF w.heap.size (ap (n9 m name)) 0 w):=by
 have SX:=mw he0
 obtain⟨he,kd,sp,hxk,hnk,_,hik,hso,_⟩:=kc he0
 have SS:=ay (aq he).1
 obtain⟨s1,s2,s3,s4,s5,S6⟩:=bB SS
 have ha:m.snaps.any (named name)=true:=List.any_eq_true.2 ⟨sp,List.mem_of_getElem? hxk,hnk⟩
 have hkl:kd<v.pn:=by have:=h.plen;have:=(zl hxk);omega
 have hp3:v.pn<=3:=by have:=h.plen;omega
 have KC':= λW (hb:Below w.heap.size w W)=>bq v m W (h.next hb)
 have KF':= λW (hb:Below w.heap.size w W)=>eC v m name W (h.next hb) S6 (by have:=h.plen;omega)
 have KO':= λW (hb:Below w.heap.size w W)=>lE v m W (h.next hb) SS.cbd (by rw[(dI (aq he).1).1.refs];exact SS.cbd.slots)
 obtain⟨W0,hW,f1,f2,f4,f5⟩:=bd w m.guest v
 rw[he]at KC'
 rw[ha,hik]at KF'
 obtain⟨rA,rn,rc,sA,sn,sc,fA,fn,fc,pA,pn,pc⟩:=v
 dsimp only[ae]at KC' KF' KO' f1 f2 f4 f5 hW⊢
 have KC:=zh KC'
 have KF:=zh KF'
 have KO:=zh KO'
 clear KC' KF' KO'
 have HX:=zh f2
 obtain⟨x0,x1,x2,x3,x4⟩:=f2
 dsimp only at x0 x1 x2 x3 x4
 obtain⟨b,o,s',tA,tn,tc,hpA,hb,hx',d0,d1,d2,hsv⟩:=h.snaps.at_ (k:=kd) hkl
 rw[hxk]at hx'
 injection hx' with hx'
 subst hx'
 have htn:tn<=1000000:=by have:=hsv.root.len;have:=SS.cbd.roots sp (List.mem_of_getElem? hxk);omega
 have HSV:=zh hsv
 have KT:=zh (λW (hb:Below w.heap.size w W)=>ex tA tn tc (ah sp.root) W (hsv.root.next hb) (eN _) htn)
 have HRX:=zh (show n9 m name={m with guest:=sp.guest,root:=sp.root}from by unfold n9;rw[hso])
 have HSX:=zh SX
 dsimp only at hpA hkl hp3
 subst hpA
 have e0:(0:Int)<=(kd:Int):=by omega
 have e1:(kd:Int)<(pn:Int):=by omega
 clear h he he0 ha SS s1 s2 s3 s4 s5 S6 SX hnk hik hso hxk d0 hsv
 go_enter func35,ntmps35
 go_wp2_with fail
 rw[hW.o]
 have HL:Hid (w.heap.size<W0.heap.size):=zh (by omega)
 have HZ:=zh f4
 have HB:=zh f1
 have h2:W0.heap.size=w.heap.size+1+1:=f5
 clear f1 f4 f5
 refine(KC.o _ HB.o).mono ?_
 rintro e W1 ⟨rfl,hb⟩
 have HX':=zh (HX.o.keep hb HL.o)
 have HZ':=zh (HZ.o.next hb)
 have HB':=zh (aa HB.o hb)
 have HL':=zh (Nat.lt_of_lt_of_le HL.o hb.size)
 clear HX HZ HB HL x0 x1 x2 x3 x4 hb KC
 have HX:=HX'
 have HZ:=HZ'
 have HB:=HB'
 have HL:=HL'
 clear HX' HZ' HB' HL'
 obtain⟨x0,x1,x2,x3,x4⟩:=HX.o
 dsimp only at x0 x1 x2 x3 x4
 go_wp2_with fail
 refine(KF.o _ HB.o).mono ?_
 rintro e W2 ⟨rfl,hb⟩
 have HX':=zh (HX.o.keep hb HL.o)
 have HZ':=zh (HZ.o.next hb)
 have HB':=zh (aa HB.o hb)
 have HL':=zh (Nat.lt_of_lt_of_le HL.o hb.size)
 clear HX HZ HB HL x0 x1 x2 x3 x4 hb KF
 have HX:=HX'
 have HZ:=HZ'
 have HB:=HB'
 have HL:=HL'
 clear HX' HZ' HB' HL'
 obtain⟨x0,x1,x2,x3,x4⟩:=HX.o
 dsimp only at x0 x1 x2 x3 x4
 go_wp2_with fail
 refine(KO.o _ HB.o).mono ?_
 rintro e W4 ⟨v2,tg,q,p,rfl,ho2,hb2⟩
 have HX':=zh (HX.o.keep hb2 HL.o)
 have HZ':=zh (HZ.o.next hb2)
 have HB':=zh (aa HB.o hb2)
 have HLB:Hid (w.heap.size<=W2.heap.size):=zh HB.o.size
 have HL2:Hid (w.heap.size+1<W2.heap.size):=zh (za HZ.o.heap)
 have hbs:=hb2.size
 generalize W2.heap.size=base at*
 clear HX HZ HB HL x0 x1 x2 x3 x4 hb2 KO
 have HX:=HX'
 have HZ:=HZ'
 have HB:=HB'
 clear HX' HZ' HB'
 have hpl:=ho2.plen
 have hpm:p.length=m.snaps.length:=by have h0:=congrArg List.length ho2.hp;rw[List.length_map]at h0;exact h0
 have HO2:=zh ho2
 obtain⟨rA2,rn2,rc2,sA2,sn2,sc2,fA2,fn2,fc2,pA2,pn2,pc2⟩:=v2
 dsimp only[ae]at HO2 hpl⊢
 clear ho2
 have T3:=ac W4 (.cells #[.int .i64 m.guest,.slice rA2 rn2 rc2,.slice sA2 sn2 sc2,.slice fA2 fn2 fc2,.slice pA2 pn2 pc2] 34)
 have HX3:=zh (HX.o.keep T3 (Nat.lt_of_lt_of_le (by have:=HL2.o;omega) hbs))
 have HZ3:=zh (HZ.o.next T3)
 have HB3:=zh (aa HB.o T3)
 have HO3:=zh (HO2.o.next T3)
 have HX4:=zh (Box.new W4 m.guest ⟨rA2,rn2,rc2,sA2,sn2,sc2,fA2,fn2,fc2,pA2,pn2,pc2⟩ 34)
 have HE:=zh (BoxB.new W4 #[.int .i64 m.guest,.slice rA2 rn2 rc2,.slice sA2 sn2 sc2,.slice fA2 fn2 fc2,.slice pA2 pn2 pc2])
 have hbs3:W4.heap.size<(W4.alloc (.cells #[.int .i64 m.guest,.slice rA2 rn2 rc2,.slice sA2 sn2 sc2,.slice fA2 fn2 fc2,.slice pA2 pn2 pc2] 34)).heap.size:=by simp
 clear HO2 HX HZ HB T3
 go_upto_region 8 with fail
 generalize hbo:W4.heap.size=bo at*
 generalize W4.alloc (.cells #[.int .i64 m.guest,.slice rA2 rn2 rc2,.slice sA2 sn2 sc2,.slice fA2 fn2 fc2,.slice pA2 pn2 pc2] 34)=W5 at*
 have u0:W5.cell? ⟨w.heap.size,4,none⟩=some (.slice (some ⟨b,o,none⟩) pn pc):=HX3.o.2.2.2.2
 have u1:=(HB3.o.cell (p:=⟨b,o+kd*3+1,none⟩) hb).trans d1
 have u2:=(HB3.o.cell (p:=⟨b,o+kd*3+2,none⟩) hb).trans d2
 have UD:Below W5.heap.size W5 W5.drew:=(Below.refl _ _).drew
 have HLW:Hid (w.heap.size<W5.heap.size):=zh (by have:=HL2.o;omega)
 have HLO:Hid (bo<W5.heap.size):=zh hbs3
 have HLS:Hid (b<w.heap.size):=zh hb
 have HBO:Hid (w.heap.size+1<bo):=zh (by have:=HL2.o;omega)
 refine eS (λW'=>W'.cell? ⟨w.heap.size,4,none⟩=some (.slice (some ⟨b,o,none⟩) pn pc)/\W'.cell? ⟨b,o+kd*3+1,none⟩=some (.int .i64 sp.guest)/\W'.cell? ⟨b,o+kd*3+2,none⟩=some (.slice tA tn tc)) 16 ?_
 have mvT:=zh (λ(W':World) (hb2:Below bo W5 W')=>(show W'.cell? ⟨w.heap.size,4,none⟩=some (.slice (some ⟨b,o,none⟩) pn pc)/\W'.cell? ⟨b,o+kd*3+1,none⟩=some (.int .i64 sp.guest)/\W'.cell? ⟨b,o+kd*3+2,none⟩=some (.slice tA tn tc)from
  ⟨(hb2.cell (p:=⟨w.heap.size,4,none⟩) (by have:=HBO.o;show w.heap.size<bo;omega)).trans u0,(hb2.cell (p:=⟨b,o+kd*3+1,none⟩) (by have:=HBO.o;have:=HLS.o;show b<bo;omega)).trans u1,(hb2.cell (p:=⟨b,o+kd*3+2,none⟩) (by have:=HBO.o;have:=HLS.o;show b<bo;omega)).trans u2⟩))
 have hSS:=mvT.o _ (UD.mono (Nat.le_of_lt HLO.o))
 generalize W5.drew=W6 at*
 refine zgo 0 ?_
 refine zgo 1 ?_
 refine zgo 2 ?_
 refine zgo 3 ?_
 refine zgo 4 ?_
 refine zgo 5 ?_
 refine zgo 6 ?_
 refine zgo 7 ?_
 refine zgo 8 ?_
 refine zgo 9 ?_
 refine zgo 10 ?_
 refine zgo 11 ?_
 refine zgo 13 ?_
 clear hSS
 refine aP 12 λK' hK=>?_
 go_simp
 refine(KT.o _ (aa HB3.o UD)).mono ?_
 rintro e W7 ⟨A7,c7,rfl,ho7,hb7,hc7,hm7⟩
 have U7:=aa UD hb7
 refine hK.o _ _ (λ_=>mvT.o _ (U7.mono (Nat.le_of_lt HLO.o))) ?_
 clear hK
 have TB:=TabO.made (base:=base) (tg:=tg) (t:=0) (.inr ho7) (by have:=UD.size;omega) htn hc7 hm7
 have O7:=((HO3.o.next UD).retag (tg':= λg=>if W6.heap.size<=g then 0 else tg g) (λb' hb'=>if_neg (by omega))).next hb7
 generalize (λg=>if W6.heap.size<=g then 0 else tg g)=tg7 at*
 have O8:=(O7.newGuest sp.guest).rootTo TB
 have E7:=HE.o.next U7
 have X7:=HX4.o.keep U7 HLO.o
 obtain⟨z0,z1,z2,z3,z4⟩:=X7
 dsimp only at z0 z1 z2 z3 z4
 have f0:=E7.fz 0
 have f1:=(E7.set 0 (.int .i64 sp.guest)).fz 1
 have g8:=ai W7 bo 0 (.int .i64 sp.guest)
 have g9:=ai (W7.setCell ⟨bo,0,none⟩ (.int .i64 sp.guest)) bo 1 (.slice A7 tn c7)
 have O9:=(O8.kept g8 E7.ty (by decide) (by decide) (by decide)).kept g9 (E7.set 0 _).ty (by decide) (by decide) (by decide)
 have U8:Below bo W5 (W7.setCell ⟨bo,0,none⟩ (.int .i64 sp.guest)):=(U7.mono (Nat.le_of_lt HLO.o)).setCell (p:=⟨bo,0,none⟩) (Nat.le_refl _) _
 have U9:Below bo W5 ((W7.setCell ⟨bo,0,none⟩ (.int .i64 sp.guest)).setCell ⟨bo,1,none⟩ (.slice A7 tn c7)):=U8.setCell (p:=⟨bo,1,none⟩) (Nat.le_refl _) _
 have X9:Hid (Box ((W7.setCell ⟨bo,0,none⟩ (.int .i64 sp.guest)).setCell ⟨bo,1,none⟩ (.slice A7 tn c7)) bo sp.guest ⟨A7,tn,c7,sA2,sn2,sc2,fA2,fn2,fc2,pA2,pn2,pc2⟩):=zh (by
  refine⟨?_,?_,?_,?_,?_⟩<;>go_simp)
 have O10:=zh O9
 have s8:=mvT.o _ U8
 have HZ8:=zh (HZ3.o.nextB U9 HBO.o)
 have HB8:=zh (HB3.o.trans (U9.mono (show w.heap.size<=bo by have:=HBO.o;omega)))
 have hsz10:base<=((W7.setCell ⟨bo,0,none⟩ (.int .i64 sp.guest)).setCell ⟨bo,1,none⟩ (.slice A7 tn c7)).heap.size:=by have:=U9.size;omega
 clear O7 O8 O9 TB g8 g9
 refine aP 14 λK' hK=>?_
 go_simp
 refine hK.o _ _ (λ_=>s8) ?_
 clear hK
 refine aP 15 λK' hK=>?_
 go_simp
 refine hK.o _ _ (λ_=>s8) ?_
 clear hK
 refine aP 16 λK' hK=>?_
 go_simp
 refine hK.nx ?_
 clear hK
 refine cT ?_
 have KS:=zh (iV _ _ _ _ _ _ _ O10.o hsz10 (HRX.o▸HSX.o.cbd) (HRX.o▸HSX.o.wired))
 obtain⟨z0',z1',z2',z3',z4'⟩:=X9.o
 dsimp only[ae]at KS z0' z1' z2' z3' z4'
 clear z0 z1 z2 z3 z4 f0 f1 U8 U9 s8 u0 u1 u2 d1 d2 mvT HX3 HZ3 HB3 HO3 HX4 HE E7 ho7 hb7 U7 UD
 generalize (W7.setCell ⟨bo,0,none⟩ (.int .i64 sp.guest)).setCell ⟨bo,1,none⟩ (.slice A7 tn c7)=W10 at*
 go_wp2_with fail
 refine KS.o.mono ?_
 rintro e W11 ⟨v9,tg9,q9,rfl,O9,hb9⟩
 have HZ:=zh (HZ8.o.nextB hb9 HL2.o)
 have HB:=zh (HB8.o.trans (hb9.mono HLB.o))
 have HF:Hid (Fresh W11 base v9 (ap {m with guest:=sp.guest,root:=sp.root})):=zh (.inr ⟨base,tg9,q9,_,Nat.le_refl _,O9⟩)
 clear HZ8 HB8 hb9 O9 KS
 dsimp only[ae]
 obtain⟨y0,y1,y2,y3,y4⟩:=HZ.o.cells
 obtain⟨q0,q1,q2,q3,q4⟩:=HZ.o.froz
 obtain⟨⟨k0,k1,k2,k3,k4⟩,hF,hB⟩:=cA HZ.o (HF.o.mono HLB.o) HB.o (Nat.le_refl _) (by omega)
 have HK:=zg k0 k1 k2 k3 k4 hF hB
 clear k0 k1 k2 k3 k4 hF hB
 go_wp2_with fail
 obtain⟨k0,k1,k2,k3,k4,hF,hB⟩:=HK.o
 refine bodyPost_ret (v:=.tuple #[ae (ap {m with guest:=sp.guest,root:=sp.root}) v9,.int .i64 0]) ?_ rfl ⟨v9,by rw[HRX.o],by rw[HRX.o];exact hF,hB⟩
 simp[results,results35,go_sem,ae,k0,k1,k2,k3,k4]
end
section
open Go.Proofs.Tryz
open Go.RowKit Sl
theorem vV (base n c k:Nat) (A:Option Addr) (p:List PV) (w:World) (ho:w.ownsRow base 102 3 (.slice A n c) n (p.flatMap PV.cells)) (hk:k<n) (hn:n<=1000):
  Calls prog 79 #[.slice A n c,.int .i64 (k:Nat),.int .i64 ((k:Int)+1)] w (vT base n A c (p.eraseIdx k) w):=by
 have hp:p.length=n:=by have:=ho.1;rw[aO _ PV.cells_len]at this;omega
 obtain⟨g,cur,rfl,h1,h2,h3,h4,h5,h6⟩:=kW ho (by omega)
 exact vU base n c k g p w cur h1 h2 h3 h5 h4 h6 hp hn hk
theorem zp (v:IV) (m:Img) (name:ByteArray) (w:World) (h:ImgR w w.heap.size v m) (he0:bJ m name=0):
  Calls prog 36 #[ae m v,.string name] w (aF w.heap.size (ap (oX m name)) 0 w):=by
 have SX:=mx he0
 obtain⟨he,kd,sp,hxk,hnk,hfk,hik,hso,_⟩:=kc he0
 have SS:=ay (aq he).1
 obtain⟨s1,s2,s3,s4,s5,S6⟩:=bB SS
 have ha:m.snaps.any (named name)=true:=List.any_eq_true.2 ⟨sp,List.mem_of_getElem? hxk,hnk⟩
 have hkl:kd<v.pn:=by have:=h.plen;have:=(zl hxk);omega
 have hp3:v.pn<=3:=by have:=h.plen;omega
 have KC':= λW (hb:Below w.heap.size w W)=>bq v m W (h.next hb)
 have KF':= λW (hb:Below w.heap.size w W)=>eC v m name W (h.next hb) S6 (by have:=h.plen;omega)
 have KO':= λW (hb:Below w.heap.size w W)=>lE v m W (h.next hb) SS.cbd (by rw[(dI (aq he).1).1.refs];exact SS.cbd.slots)
 obtain⟨W0,hW,f1,f2,f4,f5⟩:=bd w m.guest v
 rw[he]at KC'
 rw[ha,hik]at KF'
 obtain⟨rA,rn,rc,sA,sn,sc,fA,fn,fc,pA,pn,pc⟩:=v
 dsimp only[ae]at KC' KF' KO' f1 f2 f4 f5 hW⊢
 have KC:=zh KC'
 have KF:=zh KF'
 have KO:=zh KO'
 clear KC' KF' KO'
 have HX:=zh f2
 obtain⟨x0,x1,x2,x3,x4⟩:=f2
 dsimp only at x0 x1 x2 x3 x4
 have HDX:=zh (show oX m name={m with snaps:=m.snaps.eraseIdx kd}from by unfold oX;rw[hfk])
 have HSX:=zh SX
 dsimp only at hkl hp3
 have e0:(0:Int)<=(kd:Int):=by omega
 have e1:(kd:Int)<(pn:Int):=by omega
 have HPM:=zh (show m.snaps.length=pn from h.plen)
 have hw1:IntKind.i64.wrap ((kd:Int)+1)=(kd:Int)+1:=by rw[IntKind.wrap_i64];omega
 clear h he he0 ha SS s1 s2 s3 s4 s5 S6 SX hnk hik hso hxk hfk
 go_enter func36,ntmps36
 go_wp2_with fail
 rw[hW.o]
 have HL:Hid (w.heap.size<W0.heap.size):=zh (by omega)
 have HZ:=zh f4
 have HB:=zh f1
 have h2:W0.heap.size=w.heap.size+1+1:=f5
 clear f1 f4 f5
 refine(KC.o _ HB.o).mono ?_
 rintro e W1 ⟨rfl,hb⟩
 have HX':=zh (HX.o.keep hb HL.o)
 have HZ':=zh (HZ.o.next hb)
 have HB':=zh (aa HB.o hb)
 have HL':=zh (Nat.lt_of_lt_of_le HL.o hb.size)
 clear HX HZ HB HL x0 x1 x2 x3 x4 hb KC
 have HX:=HX'
 have HZ:=HZ'
 have HB:=HB'
 have HL:=HL'
 clear HX' HZ' HB' HL'
 obtain⟨x0,x1,x2,x3,x4⟩:=HX.o
 dsimp only at x0 x1 x2 x3 x4
 go_wp2_with fail
 refine(KF.o _ HB.o).mono ?_
 rintro e W2 ⟨rfl,hb⟩
 have HX':=zh (HX.o.keep hb HL.o)
 have HZ':=zh (HZ.o.next hb)
 have HB':=zh (aa HB.o hb)
 have HL':=zh (Nat.lt_of_lt_of_le HL.o hb.size)
 clear HX HZ HB HL x0 x1 x2 x3 x4 hb KF
 have HX:=HX'
 have HZ:=HZ'
 have HB:=HB'
 have HL:=HL'
 clear HX' HZ' HB' HL'
 obtain⟨x0,x1,x2,x3,x4⟩:=HX.o
 dsimp only at x0 x1 x2 x3 x4
 go_wp2_with fail
 refine(KO.o _ HB.o).mono ?_
 rintro e W4 ⟨v2,tg,q,p,rfl,ho2,hb2⟩
 have HX':=zh (HX.o.keep hb2 HL.o)
 have HZ':=zh (HZ.o.next hb2)
 have HB':=zh (aa HB.o hb2)
 have HLB:Hid (w.heap.size<=W2.heap.size):=zh HB.o.size
 have HL2:Hid (w.heap.size+1<W2.heap.size):=zh (za HZ.o.heap)
 have hbs:=hb2.size
 generalize W2.heap.size=base at*
 clear HX HZ HB HL x0 x1 x2 x3 x4 hb2 KO
 have HX:=HX'
 have HZ:=HZ'
 have HB:=HB'
 clear HX' HZ' HB'
 have hpl:=ho2.plen
 have hpm:p.length=m.snaps.length:=by have h0:=congrArg List.length ho2.hp;rw[List.length_map]at h0;exact h0
 have HO2:=zh ho2
 obtain⟨rA2,rn2,rc2,sA2,sn2,sc2,fA2,fn2,fc2,pA2,pn2,pc2⟩:=v2
 dsimp only[ae]at HO2 hpl⊢
 clear ho2
 have T3:=ac W4 (.cells #[.int .i64 m.guest,.slice rA2 rn2 rc2,.slice sA2 sn2 sc2,.slice fA2 fn2 fc2,.slice pA2 pn2 pc2] 34)
 have HX3:=zh (HX.o.keep T3 (Nat.lt_of_lt_of_le (by have:=HL2.o;omega) hbs))
 have HZ3:=zh (HZ.o.next T3)
 have HB3:=zh (aa HB.o T3)
 have HO3:=zh (HO2.o.next T3)
 have HX4:=zh (Box.new W4 m.guest ⟨rA2,rn2,rc2,sA2,sn2,sc2,fA2,fn2,fc2,pA2,pn2,pc2⟩ 34)
 have HE:=zh (BoxB.new W4 #[.int .i64 m.guest,.slice rA2 rn2 rc2,.slice sA2 sn2 sc2,.slice fA2 fn2 fc2,.slice pA2 pn2 pc2])
 have hbs3:W4.heap.size<(W4.alloc (.cells #[.int .i64 m.guest,.slice rA2 rn2 rc2,.slice sA2 sn2 sc2,.slice fA2 fn2 fc2,.slice pA2 pn2 pc2] 34)).heap.size:=by simp
 clear HO2 HX HZ HB T3
 go_upto_region 8 with fail
 generalize hbo:W4.heap.size=bo at*
 generalize W4.alloc (.cells #[.int .i64 m.guest,.slice rA2 rn2 rc2,.slice sA2 sn2 sc2,.slice fA2 fn2 fc2,.slice pA2 pn2 pc2] 34)=W5 at*
 have HBO:Hid (w.heap.size+1<bo):=zh (by have:=HL2.o;omega)
 have KD:=zh (vV base pn2 pc2 kd pA2 p W5 HO3.o.snaps (by have:=HPM.o;omega) (by have:=HPM.o;omega))
 obtain⟨z0,z1,z2,z3,z4⟩:=HX4.o
 dsimp only at z0 z1 z2 z3 z4
 go_wp2_with fail
 refine KD.o.mono ?_
 rintro e W7 ⟨rfl,ho7,hg7⟩
 have hrow:∀j,(Value.slice pA2 pn2 pc2).ownBlock=some j->base<=j:= λj e=>(HO3.o.snaps.lt j e).1
 have hnb:some bo≠(Value.slice pA2 pn2 pc2).ownBlock:= λe=>(HE.o.ty.ne (au HO3.o.snaps e.symm) (by decide)) rfl
 have O7:=HO3.o.delSnap ho7 hg7 (by have:=HO3.o.ple;dsimp only at this;omega) (by have:=HPM.o;omega) (by have:=HO3.o.pcap.2;unfold maxLen;exact this)
 have E7:=HE.o.kept hg7 hnb
 have X7:=HX4.o.kept hg7 hnb
 have G7:Below base W5 W7:=fI hg7 (by omega) hrow
 obtain⟨y0,y1,y2,y3,y4⟩:=X7
 dsimp only at y0 y1 y2 y3 y4
 have f4:=E7.fz 4
 have g9:=ai W7 bo 4 (.slice pA2 (pn2-1) pc2)
 have O10:=zh (O7.kept g9 E7.ty (by decide) (by decide) (by decide))
 have X9:Hid (Box (W7.setCell ⟨bo,4,none⟩ (.slice pA2 (pn2-1) pc2)) bo m.guest ⟨rA2,rn2,rc2,sA2,sn2,sc2,fA2,fn2,fc2,pA2,pn2-1,pc2⟩):=zh (by
  refine⟨?_,?_,?_,?_,?_⟩<;>go_simp)
 have U9:=G7.setCell (p:=⟨bo,4,none⟩) (by show base<=bo;omega) (.slice pA2 (pn2-1) pc2)
 have HZ8:=zh (HZ3.o.nextB U9 HL2.o)
 have HB8:=zh (HB3.o.trans (U9.mono HLB.o))
 have hsz10:base<=(W7.setCell ⟨bo,4,none⟩ (.slice pA2 (pn2-1) pc2)).heap.size:=by have:=U9.size;omega
 clear z0 z1 z2 z3 z4 O7 hg7 ho7 hnb hrow E7 G7 U9 g9 KD HX3 HZ3 HB3 HO3 HX4 HE
 go_upto_region 9 with fail
 have KS:=zh (iV _ _ _ _ _ _ _ O10.o hsz10 (HDX.o▸HSX.o.cbd) (HDX.o▸HSX.o.wired))
 obtain⟨z0',z1',z2',z3',z4'⟩:=X9.o
 dsimp only[ae]at KS z0' z1' z2' z3' z4'
 clear y0 y1 y2 y3 y4 f4
 generalize W7.setCell ⟨bo,4,none⟩ (.slice pA2 (pn2-1) pc2)=W10 at*
 go_wp2_with fail
 refine KS.o.mono ?_
 rintro e W11 ⟨v9,tg9,q9,rfl,O9,hb9⟩
 have HZ:=zh (HZ8.o.nextB hb9 HL2.o)
 have HB:=zh (HB8.o.trans (hb9.mono HLB.o))
 have HF:Hid (Fresh W11 base v9 (ap {m with snaps:=m.snaps.eraseIdx kd})):=zh (.inr ⟨base,tg9,q9,_,Nat.le_refl _,O9⟩)
 clear HZ8 HB8 hb9 O9 KS
 dsimp only[ae]
 obtain⟨y0,y1,y2,y3,y4⟩:=HZ.o.cells
 obtain⟨q0,q1,q2,q3,q4⟩:=HZ.o.froz
 obtain⟨⟨k0,k1,k2,k3,k4⟩,hF,hB⟩:=cA HZ.o (HF.o.mono HLB.o) HB.o (Nat.le_refl _) (by omega)
 have HK:=zg k0 k1 k2 k3 k4 hF hB
 clear k0 k1 k2 k3 k4 hF hB
 go_wp2_with fail
 obtain⟨k0,k1,k2,k3,k4,hF,hB⟩:=HK.o
 refine bodyPost_ret (v:=.tuple #[ae (ap {m with snaps:=m.snaps.eraseIdx kd}) v9,.int .i64 0]) ?_ rfl ⟨v9,by rw[HDX.o],by rw[HDX.o];exact hF,hB⟩
 simp[results,results36,go_sem,ae,k0,k1,k2,k3,k4]
end
end Go.Proofs.YtdbneghfbkjinaaGreatDoor
