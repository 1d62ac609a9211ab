/- Texts of the proof of deskPlays_holds: DRChg, RPackA, RPackP. Conditions: as each text says. -/
import Derived.Test.YtdbneghfbkjinaaGreatDoorDA1
import Derived.Test.YtdbneghfbkjinaaGreatDoorDA41
import Derived.Test.YtdbneghfbkjinaaGreatDoorDA46
import Derived.Test.YtdbneghfbkjinaaGreatDoorDA47
set_option maxRecDepth 100000
set_option maxHeartbeats 2000000
namespace Go.Proofs.YtdbneghfbkjinaaGreatDoor
section
open Go.Proofs.Tryz
open Go.RowKit Sl
theorem Dv {w W:World} {ob:Nat} {g:Int} {v:IV} (hz:ZB W ob) (hb:Below w.heap.size w W) (hl:w.heap.size<=ob):Box (((((W.setCell ⟨ob,0,none⟩ (.int .i64 g)).setCell ⟨ob,1,none⟩ (.slice v.rA v.rn v.rc)).setCell ⟨ob,2,none⟩ (.slice v.sA v.sn v.sc)).setCell ⟨ob,3,none⟩ (.slice v.fA v.fn v.fc)).setCell ⟨ob,4,none⟩ (.slice v.pA v.pn v.pc)) ob g v/\Below w.heap.size w (((((W.setCell ⟨ob,0,none⟩ (.int .i64 g)).setCell ⟨ob,1,none⟩ (.slice v.rA v.rn v.rc)).setCell ⟨ob,2,none⟩ (.slice v.sA v.sn v.sc)).setCell ⟨ob,3,none⟩ (.slice v.fA v.fn v.fc)).setCell ⟨ob,4,none⟩ (.slice v.pA v.pn v.pc)):=by
 have h5:=dr hz.box.1 hz.box.2 g v
 exact⟨h5.1,hb.grown h5.2.2 hb.size (λj e=>by injection e with e;omega)⟩
def wN (v:IV) (m:Img) (w:World) (e:Ending) (w':World):Prop:=e=.returned (.tuple #[ae m v,.int .i64 1])/\Below w.heap.size w w'
section
variable (v:IV) (m:Img) (w:World) (h:ImgR w w.heap.size v m)
include h
theorem oD (r o:ByteArray) (hr:r.size<=100000) (X:Img) (er:Int) (hc:(o={data:=#[115,110,97,112]}/\bu m r=X/\be m r=er)\/(o={data:=#[98,97,99,107]}/\ce m r=X/\bJ m r=er)\/(o={data:=#[100,114,111,112]}/\cf m r=X/\bJ m r=er)):
  Calls prog 54 #[ae m v,.string o,.string r] w (aF w.heap.size X er w):=by
 obtain⟨W4,hW,f1,f2,f3,f4⟩:=bd w m.guest v
 rcases hc with⟨rfl,hz,he⟩|⟨rfl,hz,he⟩|⟨rfl,hz,he⟩
 case' inl=>have K1':= λW (hb:Below w.heap.size w W)=>tR v m r W (h.next hb) (by omega)
 case' inr.inl=>have K1':= λW (hb:Below w.heap.size w W)=>tS v m r W (h.next hb)
 case' inr.inr=>have K1':= λW (hb:Below w.heap.size w W)=>tT v m r W (h.next hb)
 all_goals
  rw[hz,he]at K1'
  obtain⟨rA,rn,rc,sA,sn,sc,fA,fn,fc,pA,pn,pc⟩:=v
  dsimp only[ae]at K1' f1 f2 f3 f4 hW⊢
  have K1:=zh K1'
  clear K1' h hz he
  have HB6:=zh f1
  have HZ6:=zh f3
  have K3:=zh (K1.o _ f1)
  obtain⟨x0,x1,x2,x3,x4⟩:=f2
  dsimp only at x0 x1 x2 x3 x4
  clear K1 f1 f3
  go_enter func54,ntmps54
  go_wp2_with fail
  rw[hW.o]
  refine K3.o.mono ?_
  rintro e w7 ⟨v7,rfl,hF7,hb7⟩
  have Z7:=HZ6.o.nextB hb7 (by omega)
  have B7:=aa HB6.o hb7
  have hs7:=HB6.o.size
  obtain⟨y0,y1,y2,y3,y4⟩:=Z7.cells
  obtain⟨q0,q1,q2,q3,q4⟩:=Z7.froz
  obtain⟨⟨k0,k1,k2,k3,k4⟩,hF,hB⟩:=cA Z7 (hF7.mono hs7) B7 (Nat.le_refl _) (by omega)
  have HK:=zg k0 k1 k2 k3 k4 hF hB
  dsimp only[ae]
  clear K3 Z7 B7 hs7 hF7 hb7 k0 k1 k2 k3 k4 hF hB HB6 HZ6 x0 x1 x2 x3 x4
  go_wp2_with fail
  obtain⟨k0,k1,k2,k3,k4,hF,hB⟩:=HK.o
  refine bodyPost_ret (v:=.tuple #[ae X v7,.int .i64 er]) ?_ rfl ⟨v7,rfl,hF,hB⟩
  simp[results,results54,go_sem,k0,k1,k2,k3,k4]
theorem wO (r o:ByteArray) (hr:r.size<=100000) (n:Nat) (hn:eD (toL r)=some n) (X:Img) (er:Int) (hc:(o={data:=#[115,105,122,101]}/\eQ m n=X/\dG m n=er)\/(o={data:=#[119,105,112,101]}/\iu m n (-1)=X/\fm m n (-1)=er)\/(o={data:=#[112,117,110,99,104]}/\iu m n 0=X/\fm m n 0=er)):
  Calls prog 54 #[ae m v,.string o,.string r] w (aF w.heap.size X er w):=by
 have KW:=zh (λW=>bQ r W (by omega))
 have KN:=zh (λW=>gC r W)
 rw[show gB (toL r)=(n:Int)from by unfold gB;rw[hn]]at KN
 have e0:(0:Int)<=(n:Int):=by omega
 obtain⟨W4,hW,f1,f2,f3,f4⟩:=bd w m.guest v
 rcases hc with⟨rfl,hz,he⟩|⟨rfl,hz,he⟩|⟨rfl,hz,he⟩
 case' inl=>have K1':= λW (hb:Below w.heap.size w W)=>rC v m (n:Int) W (h.next hb)
 case' inr.inl=>have K1':= λW (hb:Below w.heap.size w W)=>wH v m (n:Int) W (h.next hb)
 case' inr.inr=>have K1':= λW (hb:Below w.heap.size w W)=>ui v m (n:Int) W (h.next hb)
 all_goals
  rw[hz,he]at K1'
  obtain⟨rA,rn,rc,sA,sn,sc,fA,fn,fc,pA,pn,pc⟩:=v
  dsimp only[ae]at K1' f1 f2 f3 f4 hW⊢
  have K1:=zh K1'
  clear K1' h hz he
  have HB6:=zh f1
  have HZ6:=zh f3
  have HX:=zh f2
  clear f1 f3 hr hn
  generalize aR (toL r)=wd at*
  go_enter func54,ntmps54
  go_wp2_with fail
  rw[hW.o]
  refine(KW.o _).mono ?_
  rintro e w5 ⟨rfl,hb5⟩
  go_wp2_with fail
  refine(KN.o _).mono ?_
  rintro e w6 ⟨rfl,hb6⟩
  have hb6:=aa hb5 hb6
  have HX6:=zh (f2.keep hb6 (by omega))
  clear hb5 f2
  go_wp2_with fail
  refine eS (λW'=>(W'.cell? ⟨w.heap.size,0,none⟩=some (.int .i64 m.guest)/\W'.cell? ⟨w.heap.size,1,none⟩=some (.slice rA rn rc)/\W'.cell? ⟨w.heap.size,2,none⟩=some (.slice sA sn sc)/\W'.cell? ⟨w.heap.size,3,none⟩=some (.slice fA fn fc)/\W'.cell? ⟨w.heap.size,4,none⟩=some (.slice pA pn pc))) 6 ?_
  have HS:=zh (λW (hb:Below w6.heap.size w6 W)=>(show(W.cell? ⟨w.heap.size,0,none⟩=some (.int .i64 m.guest)/\W.cell? ⟨w.heap.size,1,none⟩=some (.slice rA rn rc)/\W.cell? ⟨w.heap.size,2,none⟩=some (.slice sA sn sc)/\W.cell? ⟨w.heap.size,3,none⟩=some (.slice fA fn fc)/\W.cell? ⟨w.heap.size,4,none⟩=some (.slice pA pn pc))from HX6.o.keep hb (by have:=hb6.size;omega)))
  have hSS:=HS.o w6.drew (Below.refl _ _).drew
  refine zgo 0 ?_
  refine zgo 1 ?_
  clear hSS
  refine aP 2 λK' hK=>?_;go_simp
  refine(KN.o _).mono ?_
  rintro e w7 ⟨rfl,hb7⟩
  have hb7:=aa (Below.refl w6.heap.size w6).drew hb7
  refine hK.o _ _ (λ_=>HS.o _ hb7) ?_
  clear hK
  refine aP 3 λK' hK=>?_;go_simp
  refine(K1.o _ (aa HB6.o (aa hb6 hb7))).mono ?_
  rintro e w8 ⟨v7,rfl,hF7,hb8⟩
  have hSS:=HS.o _ (aa hb7 hb8)
  have hs7:w.heap.size<=w7.heap.size:=by have:=HB6.o.size;have:=hb6.size;have:=hb7.size;omega
  have hb7:=aa hb6 (aa hb7 hb8)
  have Z7:=HZ6.o.nextB hb7 (by omega)
  have B7:=aa HB6.o hb7
  refine hK.nx ?_
  clear hK
  refine zgo 4 ?_
  refine zgo 5 ?_
  obtain⟨y0,y1,y2,y3,y4⟩:=Z7.cells
  obtain⟨q0,q1,q2,q3,q4⟩:=Z7.froz
  obtain⟨⟨k0,k1,k2,k3,k4⟩,hF,hB⟩:=cA Z7 (hF7.mono hs7) B7 (Nat.le_refl _) (by omega)
  have HK:=zg k0 k1 k2 k3 k4 hF hB
  dsimp only[ae]
  clear hSS Z7 B7 hs7 hF7 k0 k1 k2 k3 k4 hF hB HB6 HZ6 HS HX6 K1 KN KW hb6 hb7 hb8
  refine aP 6 λK' hK=>?_;go_simp
  refine hK.nx ?_
  clear hK
  refine aP 7 λK' hK=>?_;go_simp
  refine hK.nx ?_
  clear hK
  refine cT ?_
  go_wp2_with fail
  obtain⟨k0,k1,k2,k3,k4,hF,hB⟩:=HK.o
  refine bodyPost_ret (v:=.tuple #[ae X v7,.int .i64 er]) ?_ rfl ⟨v7,rfl,hF,hB⟩
  simp[results,results54,go_sem,k0,k1,k2,k3,k4]
theorem BW (r:ByteArray) (hr:r.size<=100000) (n:Nat) (a pg:List UInt8) (hw:aR (toL r)=(a,pg,true)) (hn:eD a=some n):
  Calls prog 54 #[ae m v,.string {data:=#[119,114,105,116,101]},.string r] w (aF w.heap.size (eP m n (ofL pg)) (dE m n (ofL pg)) w):=by
 have K1':= λW (hb:Below w.heap.size w W)=>uo v m (n:Int) (ofL pg) W (h.next hb)
 have KW:=zh (λW=>bQ r W (by omega))
 rw[hw]at KW
 have hsz:=(lR (toL r)).1
 rw[hw,bv]at hsz
 have KN:=zh (λW=>gC (ofL a) W)
 rw[aZ,show gB a=(n:Int)from by unfold gB;rw[hn]]at KN
 have e0:(0:Int)<=(n:Int):=by omega
 obtain⟨W4,hW,f1,f2,f3,f4⟩:=bd w m.guest v
 generalize eP m n (ofL pg)=X at*
 generalize dE m n (ofL pg)=er at*
 obtain⟨rA,rn,rc,sA,sn,sc,fA,fn,fc,pA,pn,pc⟩:=v
 dsimp only[ae]at K1' f1 f2 f3 f4 hW⊢
 have K1:=zh K1'
 clear K1' h
 have HB6:=zh f1
 have HZ6:=zh f3
 have HX:=zh f2
 clear f1 f3 hr hn hw hsz
 generalize ofL a=sa at*
 generalize ofL pg=sp at*
 go_enter func54,ntmps54
 go_wp2_with fail
 rw[hW.o]
 refine(KW.o _).mono ?_
 rintro e w5 ⟨rfl,hb5⟩
 go_wp2_with fail
 refine(KN.o _).mono ?_
 rintro e w6 ⟨rfl,hb6⟩
 have hb6:=aa hb5 hb6
 have HX6:=zh (f2.keep hb6 (by omega))
 clear hb5 f2
 go_wp2_with fail
 refine eS (λW'=>(W'.cell? ⟨w.heap.size,0,none⟩=some (.int .i64 m.guest)/\W'.cell? ⟨w.heap.size,1,none⟩=some (.slice rA rn rc)/\W'.cell? ⟨w.heap.size,2,none⟩=some (.slice sA sn sc)/\W'.cell? ⟨w.heap.size,3,none⟩=some (.slice fA fn fc)/\W'.cell? ⟨w.heap.size,4,none⟩=some (.slice pA pn pc))) 7 ?_
 have HS:=zh (λW (hb:Below w6.heap.size w6 W)=>(show(W.cell? ⟨w.heap.size,0,none⟩=some (.int .i64 m.guest)/\W.cell? ⟨w.heap.size,1,none⟩=some (.slice rA rn rc)/\W.cell? ⟨w.heap.size,2,none⟩=some (.slice sA sn sc)/\W.cell? ⟨w.heap.size,3,none⟩=some (.slice fA fn fc)/\W.cell? ⟨w.heap.size,4,none⟩=some (.slice pA pn pc))from HX6.o.keep hb (by have:=hb6.size;omega)))
 have hSS:=HS.o w6.drew (Below.refl _ _).drew
 refine zgo 0 ?_
 refine zgo 1 ?_
 refine zgo 3 ?_
 clear hSS
 refine aP 2 λK' hK=>?_;go_simp
 refine(KN.o _).mono ?_
 rintro e w7 ⟨rfl,hb7⟩
 have hb7:=aa (Below.refl w6.heap.size w6).drew hb7
 refine hK.o _ _ (λ_=>HS.o _ hb7) ?_
 clear hK
 refine aP 4 λK' hK=>?_;go_simp
 refine(K1.o _ (aa HB6.o (aa hb6 hb7))).mono ?_
 rintro e w8 ⟨v7,rfl,hF7,hb8⟩
 have hSS:=HS.o _ (aa hb7 hb8)
 have hs7:w.heap.size<=w7.heap.size:=by have:=HB6.o.size;have:=hb6.size;have:=hb7.size;omega
 have hb7:=aa hb6 (aa hb7 hb8)
 have Z7:=HZ6.o.nextB hb7 (by omega)
 have B7:=aa HB6.o hb7
 refine hK.nx ?_
 clear hK
 refine zgo 5 ?_
 refine zgo 6 ?_
 obtain⟨y0,y1,y2,y3,y4⟩:=Z7.cells
 obtain⟨q0,q1,q2,q3,q4⟩:=Z7.froz
 obtain⟨⟨k0,k1,k2,k3,k4⟩,hF,hB⟩:=cA Z7 (hF7.mono hs7) B7 (Nat.le_refl _) (by omega)
 have HK:=zg k0 k1 k2 k3 k4 hF hB
 dsimp only[ae]
 clear hSS Z7 B7 hs7 hF7 k0 k1 k2 k3 k4 hF hB HB6 HZ6 HS HX6 K1 KN KW hb6 hb7 hb8
 refine aP 7 λK' hK=>?_;go_simp
 refine hK.nx ?_
 clear hK
 refine aP 8 λK' hK=>?_;go_simp
 refine hK.nx ?_
 clear hK
 refine cT ?_
 go_wp2_with fail
 obtain⟨k0,k1,k2,k3,k4,hF,hB⟩:=HK.o
 refine bodyPost_ret (v:=.tuple #[ae X v7,.int .i64 er]) ?_ rfl ⟨v7,rfl,hF,hB⟩
 simp[results,results54,go_sem,k0,k1,k2,k3,k4]
omit h in
theorem rE (o r:ByteArray) (hr:r.size<=100000) (hn:eD (toL r)=none) (h0:toL o≠[115,110,97,112]) (h1:toL o≠[98,97,99,107]) (h2:toL o≠[100,114,111,112]) (h3:toL o≠[119,114,105,116,101]):
  Calls prog 54 #[ae m v,.string o,.string r] w (wN v m w):=by
 have g0:=bM h0
 have g1:=bM h1
 have g2:=bM h2
 have g3:=bM h3
 have KW:=zh (λW=>bQ r W (by omega))
 have KN:=zh (λW=>gC r W)
 rw[show gB (toL r)= -1 from by unfold gB;rw[hn]]at KN
 obtain⟨W4,hW,f1,f2,f3,f4⟩:=bd w m.guest v
 unfold wN
 obtain⟨rA,rn,rc,sA,sn,sc,fA,fn,fc,pA,pn,pc⟩:=v
 dsimp only[ae]at f1 f2 f3 f4 hW⊢
 have HB6:=zh f1
 have HZ6:=zh f3
 have HX:=zh f2
 clear f1 f2 f3 hr hn h0 h1 h2 h3
 go_enter func54,ntmps54
 go_wp2_with fail
 rw[hW.o]
 refine(KW.o _).mono ?_
 rintro e w5 ⟨rfl,hb5⟩
 go_wp2_with fail
 refine(KN.o _).mono ?_
 rintro e w6 ⟨rfl,hb6⟩
 have hb6:=aa hb5 hb6
 clear hb5
 obtain⟨x0,x1,x2,x3,x4⟩:=HX.o.keep hb6 (by omega)
 dsimp only at x0 x1 x2 x3 x4
 have Z7:=HZ6.o.nextB hb6 (by omega)
 obtain⟨y0,y1,y2,y3,y4⟩:=Z7.cells
 obtain⟨q0,q1,q2,q3,q4⟩:=Z7.froz
 obtain⟨⟨k0,k1,k2,k3,k4⟩,hB⟩:=Dv (g:=m.guest) (v:=⟨rA,rn,rc,sA,sn,sc,fA,fn,fc,pA,pn,pc⟩) Z7 (aa HB6.o hb6) (by omega)
 dsimp only at k0 k1 k2 k3 k4 hB
 have HK:=zh (And.intro k0 (And.intro k1 (And.intro k2 (And.intro k3 (And.intro k4 hB)))))
 clear k0 k1 k2 k3 k4 hB Z7 hb6 HB6 HZ6 HX
 go_wp2_with fail
 obtain⟨k0,k1,k2,k3,k4,hB⟩:=HK.o
 refine bodyPost_ret (v:=.tuple #[.agg #[.int .i64 m.guest,.slice rA rn rc,.slice sA sn sc,.slice fA fn fc,.slice pA pn pc],.int .i64 1]) ?_ rfl ⟨rfl,hB⟩
 simp[results,results54,go_sem,k0,k1,k2,k3,k4]
omit h in
theorem Dw (r:ByteArray) (hr:r.size<=100000) (hw:(aR (toL r)).2.2=false):
  Calls prog 54 #[ae m v,.string {data:=#[119,114,105,116,101]},.string r] w (wN v m w):=by
 have KW:=zh (λW=>bQ r W (by omega))
 rw[hw]at KW
 obtain⟨W4,hW,f1,f2,f3,f4⟩:=bd w m.guest v
 unfold wN
 obtain⟨rA,rn,rc,sA,sn,sc,fA,fn,fc,pA,pn,pc⟩:=v
 dsimp only[ae]at f1 f2 f3 f4 hW⊢
 have HB6:=zh f1
 have HZ6:=zh f3
 have HX:=zh f2
 clear f1 f2 f3 hr hw
 go_enter func54,ntmps54
 go_wp2_with fail
 rw[hW.o]
 refine(KW.o _).mono ?_
 rintro e w5 ⟨rfl,hb6⟩
 obtain⟨x0,x1,x2,x3,x4⟩:=HX.o.keep hb6 (by omega)
 dsimp only at x0 x1 x2 x3 x4
 have Z7:=HZ6.o.nextB hb6 (by omega)
 obtain⟨y0,y1,y2,y3,y4⟩:=Z7.cells
 obtain⟨q0,q1,q2,q3,q4⟩:=Z7.froz
 obtain⟨⟨k0,k1,k2,k3,k4⟩,hB⟩:=Dv (g:=m.guest) (v:=⟨rA,rn,rc,sA,sn,sc,fA,fn,fc,pA,pn,pc⟩) Z7 (aa HB6.o hb6) (by omega)
 dsimp only at k0 k1 k2 k3 k4 hB
 have HK:=zh (And.intro k0 (And.intro k1 (And.intro k2 (And.intro k3 (And.intro k4 hB)))))
 clear k0 k1 k2 k3 k4 hB Z7 hb6 HB6 HZ6 HX
 go_wp2_with fail
 obtain⟨k0,k1,k2,k3,k4,hB⟩:=HK.o
 refine bodyPost_ret (v:=.tuple #[.agg #[.int .i64 m.guest,.slice rA rn rc,.slice sA sn sc,.slice fA fn fc,.slice pA pn pc],.int .i64 1]) ?_ rfl ⟨rfl,hB⟩
 simp[results,results54,go_sem,k0,k1,k2,k3,k4]
omit h in
theorem CW (r:ByteArray) (hr:r.size<=100000) (hw:(aR (toL r)).2.2=true) (hn:eD (aR (toL r)).1=none):
  Calls prog 54 #[ae m v,.string {data:=#[119,114,105,116,101]},.string r] w (wN v m w):=by
 have KW:=zh (λW=>bQ r W (by omega))
 have KN:=zh (λW=>gC (ofL (aR (toL r)).1) W)
 rw[aZ,show gB (aR (toL r)).1= -1 from by unfold gB;rw[hn]]at KN
 rw[hw]at KW
 obtain⟨W4,hW,f1,f2,f3,f4⟩:=bd w m.guest v
 unfold wN
 obtain⟨rA,rn,rc,sA,sn,sc,fA,fn,fc,pA,pn,pc⟩:=v
 dsimp only[ae]at f1 f2 f3 f4 hW⊢
 have HB6:=zh f1
 have HZ6:=zh f3
 have HX:=zh f2
 clear f1 f2 f3 hr hw hn
 go_enter func54,ntmps54
 go_wp2_with fail
 rw[hW.o]
 refine(KW.o _).mono ?_
 rintro e w5 ⟨rfl,hb5⟩
 go_wp2_with fail
 refine(KN.o _).mono ?_
 rintro e w6 ⟨rfl,hb6⟩
 have hb6:=aa hb5 hb6
 clear hb5
 obtain⟨x0,x1,x2,x3,x4⟩:=HX.o.keep hb6 (by omega)
 dsimp only at x0 x1 x2 x3 x4
 have Z7:=HZ6.o.nextB hb6 (by omega)
 obtain⟨y0,y1,y2,y3,y4⟩:=Z7.cells
 obtain⟨q0,q1,q2,q3,q4⟩:=Z7.froz
 obtain⟨⟨k0,k1,k2,k3,k4⟩,hB⟩:=Dv (g:=m.guest) (v:=⟨rA,rn,rc,sA,sn,sc,fA,fn,fc,pA,pn,pc⟩) Z7 (aa HB6.o hb6) (by omega)
 dsimp only at k0 k1 k2 k3 k4 hB
 have HK:=zh (And.intro k0 (And.intro k1 (And.intro k2 (And.intro k3 (And.intro k4 hB)))))
 clear k0 k1 k2 k3 k4 hB Z7 hb6 HB6 HZ6 HX
 go_wp2_with fail
 obtain⟨k0,k1,k2,k3,k4,hB⟩:=HK.o
 refine bodyPost_ret (v:=.tuple #[.agg #[.int .i64 m.guest,.slice rA rn rc,.slice sA sn sc,.slice fA fn fc,.slice pA pn pc],.int .i64 1]) ?_ rfl ⟨rfl,hB⟩
 simp[results,results54,go_sem,k0,k1,k2,k3,k4]
end
def BX (m:Img) (op rest:List UInt8) (w:World) (e:Ending) (w':World):Prop:=∃z v' er,e=.returned (.tuple #[ae z v',.int .i64 er])/\Below w.heap.size w w'/\(er=0->∃base tg q p,OwnI w' base tg v' q p z)/\mz m op rest=bT z er
theorem kZ {m z:Img} {er:Int} {op rest:List UInt8} {w:World} {f:FuncId} {args:Array Value} (h:Calls prog f args w (aF w.heap.size z er w)) (hr:er=0->ab z=0) (hc:mz m op rest=bT z er):Calls prog f args w (BX m op rest w):=
 h.mono λ_ _ ⟨v',he,hf,hb⟩=>⟨z,v',er,he,hb,λe0=>hf.own (hr e0),hc⟩
theorem oE {m:Img} {v:IV} {op rest:List UInt8} {w:World} {f:FuncId} {args:Array Value} (h:Calls prog f args w (wN v m w)) (hc:mz m op rest=.no 1):Calls prog f args w (BX m op rest w):=
 h.mono λ_ _ ⟨he,hb⟩=>⟨m,v,1,he,hb,λe0=>absurd e0 (by decide),hc⟩
theorem uq (v:IV) (m:Img) (w:World) (o r:ByteArray) (h:ImgR w w.heap.size v m) (hr:r.size<=100000)
  (ho:o={data:=#[115,105,122,101]}\/o={data:=#[119,105,112,101]}\/o={data:=#[112,117,110,99,104]}\/o={data:=#[119,114,105,116,101]}\/o={data:=#[115,110,97,112]}\/o={data:=#[98,97,99,107]}\/o={data:=#[100,114,111,112]}):Calls prog 54 #[ae m v,.string o,.string r] w (BX m (toL o) (toL r) w):=by
 rcases ho with rfl|rfl|rfl|rfl|rfl|rfl|rfl
 ·cases hn:eD (toL r)with
  |none=>exact oE (rE v m w _ r hr hn (by decide) (by decide) (by decide) (by decide)) (show dt _ _=_ from by unfold dt;rw[hn])
  |some n=>exact kZ (wO v m w h r _ hr n hn _ _ (.inl ⟨rfl,rfl,rfl⟩)) (λe=>(n7 e).1) (show dt _ _=_ from by unfold dt;rw[hn])
 ·cases hn:eD (toL r)with
  |none=>exact oE (rE v m w _ r hr hn (by decide) (by decide) (by decide) (by decide)) (show dt _ _=_ from by unfold dt;rw[hn])
  |some n=>exact kZ (wO v m w h r _ hr n hn _ _ (.inr (.inl ⟨rfl,rfl,rfl⟩))) (λe=>(iw (by decide) (by decide) e).1) (show dt _ _=_ from by unfold dt;rw[hn])
 ·cases hn:eD (toL r)with
  |none=>exact oE (rE v m w _ r hr hn (by decide) (by decide) (by decide) (by decide)) (show dt _ _=_ from by unfold dt;rw[hn])
  |some n=>exact kZ (wO v m w h r _ hr n hn _ _ (.inr (.inr ⟨rfl,rfl,rfl⟩))) (λe=>(iw (by decide) (by decide) e).1) (show dt _ _=_ from by unfold dt;rw[hn])
 ·cases hb:(aR (toL r)).2.2 with
  |false=>exact oE (Dw v m w r hr hb) (show(if(aR (toL r)).2.2=true then _ else Ans.no 1)=_ from by rw[hb];rfl)
  |true=>
   cases hn:eD (aR (toL r)).1 with
   |none=>exact oE (CW v m w r hr hb hn) (show(if(aR (toL r)).2.2=true then dt (aR (toL r)).1 _ else Ans.no 1)=_ from by rw[if_pos hb];unfold dt;rw[hn])
   |some n=>exact kZ (BW v m w h r hr n _ (aR (toL r)).2.1 (by rw[<-hb]) hn) (λe=>(n0 e).1) (show(if(aR (toL r)).2.2=true then dt (aR (toL r)).1 _ else Ans.no 1)=_ from by rw[if_pos hb];unfold dt;rw[hn])
 ·exact kZ (oD v m w h r _ hr _ _ (.inl ⟨rfl,rfl,rfl⟩)) (λe=>(jz e).1) (show bT (bu m (ofL (toL r))) (be m (ofL (toL r)))=_ from by rw[cW])
 ·exact kZ (oD v m w h r _ hr _ _ (.inr (.inl ⟨rfl,rfl,rfl⟩))) (λe=>(jA e).1) (show bT (ce m (ofL (toL r))) (bJ m (ofL (toL r)))=_ from by rw[cW])
 ·exact kZ (oD v m w h r _ hr _ _ (.inr (.inr ⟨rfl,rfl,rfl⟩))) (λe=>(jB e).1) (show bT (cf m (ofL (toL r))) (bJ m (ofL (toL r)))=_ from by rw[cW])
end
section
open Go.Proofs.Tryz
open Go.RowKit Sl
theorem ur (v:IV) (m:Img) (x:Int) (w:World) (h:ImgR w w.heap.size v m) (h0:m.slots.head? =some freeSlot) (hx:x<=(m.slots.length:Int)) (h40:m.slots.length<=40):
  Calls prog 141 #[ae m v,.int .i64 x] w λe w'=>e=.returned (.int .i64 (ren m.slots x))/\Below w.heap.size w w':=by
 have HB1:=ac w (.cells #[.int .i64 m.guest,.slice v.rA v.rn v.rc,.slice v.sA v.sn v.sc,.slice v.fA v.fn v.fc,.slice v.pA v.pn v.pc] 34)
 have HX:=Box.new w m.guest v 34
 obtain⟨rA,rn,rc,sA,sn,sc,fA,fn,fc,pA,pn,pc⟩:=v
 dsimp only[ae]at*
 have HI:=zh h
 have hsn:m.slots.length=sn:=h.slen
 obtain⟨b0,b1,b2,b3,b4⟩:=HX
 dsimp only at b0 b1 b2 b3 b4
 have hz:w.heap.size<(w.alloc (.cells #[.int .i64 m.guest,.slice rA rn rc,.slice sA sn sc,.slice fA fn fc,.slice pA pn pc] 34)).heap.size:=by simp
 by_cases hp:x<=0
 ·have R:=zh (ke (l:=m.slots) hp)
  clear h h0 hx
  go_enter func141,ntmps141
  go_wp2_with fail
  go_ret
  exact⟨aw R.o,HB1⟩
 ·obtain⟨n,rfl⟩:=Int.eq_ofNat_of_zero_le (a:=x) (by omega)
  have h1n:1<=n:=by omega
  have hp':¬((n:Int)<=0):=by omega
  have R:=zh (gc (l:=m.slots) h1n)
  have U1:=zh (show used (m.slots.take 1)=0 from by
   cases hl:m.slots with
   |nil=>rfl
   |cons a t=>rw[hl]at h0;have:a=freeSlot:=by simpa using h0
              subst this;rfl)
  have hns:n<=sn:=by omega
  clear h h0 hx hp
  go_enter func141,ntmps141
  go_wp2_with fail
  generalize w.alloc (.cells #[.int .i64 m.guest,.slice rA rn rc,.slice sA sn sc,.slice fA fn fc,.slice pA pn pc] 34)=wa at*
  go_loop [5,6] (λc i=>∃k:Nat,1<=k/\k<=n/\i=.int .i64 k/\c=.int .i64 ((used (m.slots.take k)+1:Nat):Int)) (λ_ i=>n-(intOf i).toNat)
  case atStart=>exact⟨1,Nat.le_refl _,h1n,rfl,by rw[U1.o];rfl⟩
  case round=>
   obtain⟨k,hk1,hk,rfl,rfl⟩:=hrel
   by_cases hlt:k<n
   ·obtain⟨b,o,s,tA,tn,tc,rfl,hb,hs,d0,d1,d2,hsv⟩:=HI.o.slots.at_ (k:=k) (show k<sn by omega)
    have d0':=(HB1.cell (p:=⟨b,o+k*3,none⟩) hb).trans d0
    have HU:=zh (bp m.slots k s hs)
    have e0:(0:Int)<=(k:Int):=by omega
    have e1:(k:Int)<(sn:Int):=by omega
    have hub:=Nat.le_trans (sZ (l:=m.slots) (n:=k)) (fY m.slots)
    clear hs d0 d1 d2 hsv
    generalize used (m.slots.take k)=u1 at*
    by_cases hf:s.kind=0
    ·have hfb:(s.kind !=0)=false:=by simp[hf]
     have HU2:=zh (show used (m.slots.take (k+1))=u1 from by have:=HU.o;rw[if_pos hf]at this;omega)
     clear HU
     go_wp2_with fail
     go_round
     case rel=>exact⟨k+1,by omega,by omega,by go_num,by rw[HU2.o]⟩
     case measure=>simp[intOf];omega
    ·have hfb:(s.kind !=0)=true:=by simpa using hf
     have HU2:=zh (show used (m.slots.take (k+1))=u1+1 from by have:=HU.o;rw[if_neg hf]at this;omega)
     clear HU
     go_wp2_with fail
     go_round
     case rel=>exact⟨k+1,by omega,by omega,by go_num,by rw[HU2.o];go_num⟩
     case measure=>simp[intOf];omega
   ·obtain rfl:k=n:=by omega
    go_wp2_with fail
    go_ret
    exact⟨aw R.o,HB1⟩
theorem jL (v:IV) (m:Img) (A:Option Addr) (n c:Nat) (xs:List Int) (w:World) (h:ImgR w w.heap.size v m) (hr:Rd w w.heap.size 1 A n (ah xs)) (hn:n<=1000) (h0:m.slots.head? =some freeSlot)
  (hx:∀x∈xs,x<=(m.slots.length:Int)) (h40:m.slots.length<=40):
  Calls prog 85 #[ae m v,.slice A n c] w (dJ w.heap.size 3 1 n (ah (xs.map (ren m.slots))) w):=by
 obtain⟨i0,hi0,hz0,hz1,hz2⟩:=info_parts infoInt
 have hxl:xs.length=n:=hr.len
 have K1:=zh (λx (hx':x∈xs) W (hb:Below w.heap.size w W)=>ur v m x W (h.next hb) h0 (hx x hx') h40)
 have HR:=zh (λW (hb:Below w.heap.size w W)=>Rd.next hr hb)
 obtain⟨rA,rn,rc,sA,sn,sc,fA,fn,fc,pA,pn,pc⟩:=v
 dsimp only[ae]at K1⊢
 have HX:=zh (Box.new w m.guest ⟨rA,rn,rc,sA,sn,sc,fA,fn,fc,pA,pn,pc⟩ 34)
 have HB1:=ac w (.cells #[.int .i64 m.guest,.slice rA rn rc,.slice sA sn sc,.slice fA fn fc,.slice pA pn pc] 34)
 have hz:w.heap.size<(w.alloc (.cells #[.int .i64 m.guest,.slice rA rn rc,.slice sA sn sc,.slice fA fn fc,.slice pA pn pc] 34)).heap.size:=by simp
 generalize ren m.slots=f at*
 clear h hr hx h0 h40
 go_enter func85,ntmps85
 go_wp2_with fail
 generalize (w.alloc (.cells #[.int .i64 m.guest,.slice rA rn rc,.slice sA sn sc,.slice fA fn fc,.slice pA pn pc] 34))=wa at*
 go_loopw [5,6] (λo i wr=>∃(k c':Nat) (A':Option Addr),k<=n/\i=.int .i64 k/\o=.slice A' k c'/\wr.ownsRow wa.heap.size 3 1 (.slice A' k c') k (ah ((xs.take k).map f))/\Below wa.heap.size wa wr/\k<=c'/\c'<=maxLen) (λ_ i _=>n-(intOf i).toNat)
 case atStart=>exact⟨0,0,none,Nat.zero_le _,rfl,rfl,World.ownsRow_nil _ _ _ _,Below.refl _ _,Nat.le_refl _,by simp⟩
 case round=>
  obtain⟨k,c',A',hkg,rfl,rfl,ho,hbw,hc1,hc2⟩:=hrel
  have HO:=zh ho
  clear ho
  have HBr:=aa HB1 hbw
  by_cases hlt:k<n
  ·obtain⟨b0,b1,b2,b3,b4⟩:=HX.o.keep hbw hz
   dsimp only at b0 b1 b2 b3 b4
   obtain⟨b,o,x,rfl,hb,hx,cx0⟩:=(HR.o wa HB1).at1 hlt
   have cx:=(hbw.cell (p:=⟨b,o+k,none⟩) hb).trans cx0
   have KE:=zh (K1.o x (List.mem_of_getElem? hx) wr.drew HBr.drew)
   have HG:=zh (show ah ((xs.take (k+1)).map f)=ah ((xs.take k).map f)++[.int .i64 (f x)]from by rw[List.take_add_one,hx];simp[ah])
   have e0:(0:Int)<=(k:Int):=by omega
   have e1:(k:Int)<(n:Int):=by omega
   have lz:w.heap.size<wa.heap.size:=hz
   have mvT:=zh (λ(W':World) (hb2:Below wa.heap.size wr.drew W')=>(show W'.cell? ⟨w.heap.size,0,none⟩=some (.int .i64 m.guest)/\W'.cell? ⟨w.heap.size,1,none⟩=some (.slice rA rn rc)/\W'.cell? ⟨w.heap.size,2,none⟩=some (.slice sA sn sc)/\W'.cell? ⟨w.heap.size,3,none⟩=some (.slice fA fn fc)/\W'.cell? ⟨w.heap.size,4,none⟩=some (.slice pA pn pc)/\W'.cell? ⟨b,o+k,none⟩=some (.int .i64 x)from⟨(hb2.cell (p:=⟨w.heap.size,0,none⟩) lz).trans b0,(hb2.cell (p:=⟨w.heap.size,1,none⟩) lz).trans b1,(hb2.cell (p:=⟨w.heap.size,2,none⟩) lz).trans b2,(hb2.cell (p:=⟨w.heap.size,3,none⟩) lz).trans b3,(hb2.cell (p:=⟨w.heap.size,4,none⟩) lz).trans b4,(hb2.cell (p:=⟨b,o+k,none⟩) hb).trans cx⟩))
   clear hx
   go_wp2_with fail
   clear b0 b1 b2 b3 b4 cx cx0
   refine eS (λW'=>W'.cell? ⟨w.heap.size,0,none⟩=some (.int .i64 m.guest)/\W'.cell? ⟨w.heap.size,1,none⟩=some (.slice rA rn rc)/\W'.cell? ⟨w.heap.size,2,none⟩=some (.slice sA sn sc)/\W'.cell? ⟨w.heap.size,3,none⟩=some (.slice fA fn fc)/\W'.cell? ⟨w.heap.size,4,none⟩=some (.slice pA pn pc)/\W'.cell? ⟨b,o+k,none⟩=some (.int .i64 x)) 9 ?_
   have hSS:=mvT.o wr.drew (Below.refl _ _)
   refine zgo 0 ?_
   refine zgo 1 ?_
   refine zgo 2 ?_
   refine zgo 3 ?_
   refine zgo 4 ?_
   refine zgo 5 ?_
   clear hSS
   refine aP 6 λK' hK=>?_
   go_simp
   refine KE.o.mono ?_
   rintro e w7 ⟨rfl,hb7⟩
   have hb7a:Below wa.heap.size wr.drew w7:=hb7.mono hbw.size
   refine hK.o _ _ (λ_=>mvT.o _ hb7a) ?_
   clear hK
   have l7:=hb7.size
   have hd:wr.drew.heap.size=wr.heap.size:=rfl
   have hbr:Below wr.heap.size wr w7:=(Below.refl wr.heap.size wr).drew.trans hb7
   have ho7:=aI HO.o hbr
   have lw7:wa.heap.size<=w7.heap.size:=by have:=hbw.size;omega
   have hsz:(w7.alloc (.cells #[.int .i64 (f x)] 3)).heap.size=w7.heap.size+1:=World.size_alloc _ _
   obtain⟨A2,c2,w4,q1,q2,q3,q4,q5,q6,_⟩:=cK (P:=prog) w7 wa.heap.size 30 30 3 i0 _ 1 8 underlying30 hi0 hz0 hz1 hz2 rfl (by omega) _ _ _ ho7 #[.int .i64 (f x)] rfl
    (by intro u hu;simp at hu;subst hu;rfl) (by omega) (by unfold maxLen;omega) lw7
   have HR2:=zh q1
   have M8:=zh (mvT.o _ (hb7a.trans ((ac w7 (.cells #[.int .i64 (f x)] 3)).mono lw7)))
   have M9:=zh (mvT.o _ (hb7a.trans q3))
   have HO2:=zh q2
   have hbw4:=(aa hbw hbr).trans q3
   clear q1 q2 q3 q6 hb7 hbr ho7
   refine aP 7 λK' hK=>?_
   go_simp
   refine hK.o _ _ (λ_=>M8.o) ?_
   clear hK
   refine aP 8 λK' hK=>?_
   refine iq rfl _ _ _ _ _ rfl rfl rfl rfl HR2.o ?_
   refine hK.o _ _ (λ_=>M9.o) ?_
   clear hK
   refine aP 9 λK' hK=>?_
   go_simp
   refine hK.nx ?_
   clear hK
   refine cT ?_
   clear mvT
   go_wp2_with fail
   go_roundw
   case rel=>exact⟨k+1,c2,A2,by omega,by go_num,rfl,by rw[HG.o];exact HO2.o,hbw4,q4,q5⟩
   case measure=>simp[intOf];omega
  ·obtain rfl:k=n:=by omega
   have HT:xs.take k=xs:=List.take_of_length_le (by omega)
   rw[HT]at HO
   clear HT
   go_wp2_with fail
   go_ret
   exact⟨A',c',rfl,bL HO.o HB1.size,HBr,hc1,hc2⟩
end
section
open Go.Proofs.Tryz
open Go.RowKit Sl
section
variable {w w':World} {base:Nat} {tg:Nat->Nat} {v:IV} {q:List SV} {p:List PV} {m:Img}
theorem OwnI.pushRef (h:OwnI w base tg v q p m) (x:Int) (hb:base<=w.heap.size) (h1n:1<=v.fn) (hn:v.fn<=1000000):∃A' c' w' tg',(Builtin.append_ #[30,30] 30 #[.slice v.fA v.fn v.fc,.slice (some ⟨w.heap.size,0,none⟩) 1 1]).run prog (w.alloc (.cells #[.int .i64 x] 3))=.ok (.slice A' (v.fn+1) c') w'/\
  OwnI w' base tg' {v with fA:=A',fn:=v.fn+1,fc:=c'} q p {m with refs:=m.refs++[x]}/\Below base w w'/\(w.alloc (.cells #[.int .i64 x] 3)).grownBy w' (Value.slice v.fA v.fn v.fc).ownBlock/\(∀b,(Value.slice v.fA v.fn v.fc).ownBlock=some b->TypeB w b 3):=by
 obtain⟨i0,hi0,hz0,hz1,hz2⟩:=info_parts infoInt
 obtain⟨ho,hT⟩:w.ownsRow base 3 1 (.slice v.fA v.fn v.fc) v.fn (ah m.refs)/\ ∀b,(Value.slice v.fA v.fn v.fc).ownBlock=some b->tg b=1:=by
  rcases h.refs.2.2 with⟨h0,_⟩|hh
  ·omega
  ·exact hh
 obtain⟨A',c',w',q1,q2,q3,q4,q5,q6,q7⟩:=cK (P:=prog) w base 30 30 3 i0 _ 1 8 underlying30 hi0 hz0 hz1 hz2 rfl (by omega) (.slice v.fA v.fn v.fc) v.fn (ah m.refs) ho #[.int .i64 x] rfl (by intro u hu;simp at hu;subst hu;rfl) (by omega) (by unfold maxLen;omega) hb
 have hm:c'<=9223372036854775807:=by unfold maxLen at q5;omega
 have hs1:(w.alloc (.cells #[.int .i64 x] 3)).heap.size=w.heap.size+1:=World.size_alloc _ _
 have hW:=ac w (.cells #[.int .i64 x] 3)
 have h1:=(h.next hW).retag (tg':= λj=>if w.heap.size+1<=j then 1 else tg j) λj hj=>if_neg (by omega)
 have r6:∀b,(Value.slice v.fA v.fn v.fc).ownBlock=some b->base<=b/\TypeB w b 3/\tg b=1:= λb e=>⟨(ho.lt b e).1,au ho e,hT b e⟩
 have hty:∀b,(Value.slice v.fA v.fn v.fc).ownBlock=some b->TypeB (w.alloc (.cells #[.int .i64 x] 3)) b 3:= λb e=>(r6 b e).2.1.next hW
 have ht:∀{t n c:Nat} {A:Option Addr} {xs:List Int},TabO (w.alloc (.cells #[.int .i64 x] 3)) base (λj=>if w.heap.size+1<=j then 1 else tg j) t A n c xs->t≠1->TabO w' base (λj=>if w.heap.size+1<=j then 1 else tg j) t A n c xs:= λhh hn=>hh.kept q6 λb' e _=>.inr (by
  have:=(r6 b' e).2.2
  have:=(r6 b' e).2.1.lt
  rw[if_neg (by omega)];omega)
 have hf:∀{e:TypeId} {size n:Nat} {x':Value} {xs:List Value},(w.alloc (.cells #[.int .i64 x] 3)).ownsRow base e size x' n xs->3≠e->w'.ownsRow base e size x' n xs:= λho' hne=>ho'.kept q6 (by
  cases hr:(Value.slice v.fA v.fn v.fc).ownBlock with
  |none=>exact xo
  |some b=>exact bH ho' (hty b hr) hne)
 have hrt:TabO w' base (λj=>if w.heap.size+1<=j then 1 else tg j) 1 A' (v.fn+1) c' (m.refs++[x]):=⟨q4,⟨by omega,hm⟩,.inr ⟨by simpa[ah]using q2,λj e=>by
  show(if _ then _ else _)=_
  rcases q7 with e2|e2
  ·rw[e2]at e
   have:=(r6 j e).2.1.lt
   rw[if_neg (by omega)];exact hT j e
  ·rw[e2]at e
   injection e with e
   rw[if_pos (by omega)]⟩⟩
 refine⟨A',c',w',_,q1,⟨ht h1.root (by decide),hrt,hf h1.slots (by decide),h1.sle,h1.scap,hf h1.snaps (by decide),h1.ple,h1.pcap,h1.hq,h1.hp,λk y hy=>⟨(h1.tabs k y hy).1,ht (h1.tabs k y hy).2 (by omega)⟩,λk y hy=>⟨(h1.roots k y hy).1,ht (h1.roots k y hy).2 (by omega)⟩⟩,
  q3,q6,λb e=>(r6 b e).2.1⟩
end
def jM (l:List Slot) (k:Nat):List Slot:=freeSlot::((l.take k).filter ci).map (eV l)
theorem zI {l:List Slot} (h0:l.head? =some freeSlot):jM l 1=[freeSlot]:=by
 cases l with
 |nil=>cases h0
 |cons a t=>have:a=freeSlot:=by simpa using h0
            subst this;rfl
theorem wP {l:List Slot} {k:Nat} {s:Slot} (hs:l[k]? =some s) (hk:s.kind=0):jM l (k+1)=jM l k:=by
 unfold jM
 rw[List.take_add_one,hs,List.filter_append]
 have:[s].filter ci=[]:=by rw[List.filter_cons_of_neg (by rw[iP hk];decide)];rfl
 simp only[Option.toList]
 rw[this,List.append_nil]
theorem wQ {l:List Slot} {k:Nat} {s:Slot} (hs:l[k]? =some s) (hk:s.kind≠0):jM l (k+1)=jM l k++[eV l s]:=by
 unfold jM
 rw[List.take_add_one,hs,List.filter_append]
 have:[s].filter ci=[s]:=by rw[List.filter_cons_of_pos (eR hk)];rfl
 simp only[Option.toList]
 rw[this,List.map_append];rfl
theorem zJ {l:List Slot} {k:Nat} (h:l.length<=k):jM l k=di l:=by unfold jM di;rw[List.take_of_length_le h]
theorem zK {l:List Slot} {f:List Int} (h0:l.head? =some freeSlot):dN (l.take 1) (f.take 1)=[0]:=by
 cases l with
 |nil=>cases h0
 |cons a t=>have:a=freeSlot:=by simpa using h0
            subst this
            cases f<;>rfl
end
end Go.Proofs.YtdbneghfbkjinaaGreatDoor
