/- Texts of the proof of deskPlays_holds: DGiven. Conditions: as each text says. -/
import Derived.Test.YtdbneghfbkjinaaGreatDoorDA1
import Derived.Test.YtdbneghfbkjinaaGreatDoorDA49
set_option maxRecDepth 100000
set_option maxHeartbeats 1000000
namespace Go.Proofs.YtdbneghfbkjinaaGreatDoor
open Go.Proofs.Tryz
open Go.RowKit Sl
theorem ct {s:ByteArray} {l:List UInt8} (hm:(aR (toL s)).2.2=true) (hl:(aR l).2.2=false):(s.toList==l)=false:=bM λe=>by rw[e,hl]at hm;cases hm
def i8 (z:Img) (t:List UInt8) (w:World) (e:Ending) (w':World):Prop:=∃v',e=.returned (.tuple #[ae z v',.string (ofL t)])/\Fresh w' 0 v' z/\Below w.heap.size w w'
theorem fS (er:Int) (h0:0<=er) (h9:er<=9) (w:World):Calls prog 44 #[.int .i64 er] w λe w'=>e=.returned (.string (ofL (ia er)))/\Below w.heap.size w w':=by
 obtain⟨n,rfl⟩:∃n:Nat,er=n:=⟨er.toNat,by omega⟩
 have KD:=zh (λW=>eq n W (by omega))
 have hd:=cS (n:=n) (by omega)
 have n1:¬9223372036854775807<6+(ofL (Lib.decDigits n)).size:=by rw[aT];omega
 rw[show ofL (ia (n:Int))={data:=#[101,114,114,111,114,32]}++ofL (Lib.decDigits n)from by rw[show({data:=#[101,114,114,111,114,32]}:ByteArray)=ofL [101,114,114,111,114,32]from rfl,ee];rfl]
 generalize ofL (Lib.decDigits n)=t at*
 go_enter func44,ntmps44
 go_wp2_with fail
 refine(KD.o _).mono ?_
 rintro e w2 ⟨rfl,hb⟩
 go_wp2_with fail
 go_ret
 exact⟨rfl,hb⟩
section
variable {base:Nat} {tg:Nat->Nat} {v:IV} {q:List SV} {p:List PV} {m:Img} {w:World} (ho:OwnI w base tg v q p m) (hm:ab m=0)
include ho hm
theorem CY:
  Calls prog 16 #[ae m v,.string {data:=#[112,97,99,107]}] w (i8 (cL m) okT w):=by
 have KW:=zh (λW=>bQ {data:=#[112,97,99,107]} W (by decide))
 have HF:=zh (λW (hb:Below w.heap.size w W)=>(show Fresh W 0 v m from .inr ⟨base,tg,q,p,Nat.zero_le _,ho.next hb⟩))
 have KP:= λW (hb:Below w.heap.size w W)=>wR v m W (ho.next hb).imgR hm
 obtain⟨W4,hW,f1,f2,f3,f4⟩:=bd w m.guest v
 obtain⟨rA,rn,rc,sA,sn,sc,fA,fn,fc,pA,pn,pc⟩:=v
 dsimp only[ae]at f1 f2 f3 f4 KP hW⊢
 have HB6:=zh f1
 have HX:=zh f2
 have HZ6:=zh f3
 have KP:=zh KP
 clear f1 f2 f3 ho hm
 generalize cL m=z at*
 generalize aR _=wd at*
 go_enter func16,ntmps16
 go_wp2_with fail
 rw[hW.o]
 refine(KW.o _).mono ?_
 rintro e w5 ⟨rfl,hb5⟩
 obtain⟨x0,x1,x2,x3,x4⟩:=HX.o.keep hb5 (by omega)
 dsimp only at x0 x1 x2 x3 x4
 go_wp2_with fail
 refine(KP.o _ (aa HB6.o hb5)).mono ?_
 rintro e w6 ⟨v6,tg6,q6,p6,rfl,ho6,hb6⟩
 have B7:=aa hb5 hb6
 have Z7:=HZ6.o.nextB B7 (by omega)
 obtain⟨y0,y1,y2,y3,y4⟩:=Z7.cells
 obtain⟨q0,q1,q2,q3,q4⟩:=Z7.froz
 obtain⟨⟨k0,k1,k2,k3,k4⟩,hF,hB⟩:=cA Z7 (v:=v6) (B:=0) (X:=z) (.inr ⟨_,_,_,_,Nat.zero_le _,ho6⟩) (aa HB6.o B7) (Nat.le_refl _) (by omega)
 try dsimp only at k0 k1 k2 k3 k4 hF hB
 have HK:=zg k0 k1 k2 k3 k4 hF hB
 clear Z7 B7 k0 k1 k2 k3 k4 hF hB
 clear x0 x1 x2 x3 x4
 go_wp2_with fail
 obtain⟨k0,k1,k2,k3,k4,hF,hB⟩:=HK.o
 refine bodyPost_ret (v:=.tuple #[ae z v6,.string (ofL okT)]) ?_ rfl ⟨_,rfl,hF,hB⟩
 simp[results,results16,go_sem,k0,k1,k2,k3,k4]<;>rfl
theorem Dx:
  Calls prog 16 #[ae m v,.string {data:=#[109,97,112]}] w (i8 m (lH m) w):=by
 have KW:=zh (λW=>bQ {data:=#[109,97,112]} W (by decide))
 have HF:=zh (λW (hb:Below w.heap.size w W)=>(show Fresh W 0 v m from .inr ⟨base,tg,q,p,Nat.zero_le _,ho.next hb⟩))
 have KP:= λW (hb:Below w.heap.size w W)=>sL v m W (ho.next hb).imgR hm
 obtain⟨W4,hW,f1,f2,f3,f4⟩:=bd w m.guest v
 obtain⟨rA,rn,rc,sA,sn,sc,fA,fn,fc,pA,pn,pc⟩:=v
 dsimp only[ae]at f1 f2 f3 f4 KP hW⊢
 have HB6:=zh f1
 have HX:=zh f2
 have HZ6:=zh f3
 have KP:=zh KP
 clear f1 f2 f3 ho hm
 generalize lH m=z at*
 generalize aR _=wd at*
 go_enter func16,ntmps16
 go_wp2_with fail
 rw[hW.o]
 refine(KW.o _).mono ?_
 rintro e w5 ⟨rfl,hb5⟩
 go_wp2_with fail
 refine eS (λW'=>Box W' w.heap.size m.guest ⟨rA,rn,rc,sA,sn,sc,fA,fn,fc,pA,pn,pc⟩) 3 ?_
 have HS:=zh (λW (hb:Below w5.heap.size w5 W)=>HX.o.keep (aa hb5 hb) (by omega))
 have b0:=(Below.refl w5.heap.size w5).drew
 have hSS:=HS.o _ b0
 refine zgo 0 ?_
 refine zgo 1 ?_
 clear hSS
 refine aP 2 λK' hK=>?_;go_simp
 refine(KP.o _ (aa HB6.o (aa hb5 b0))).mono ?_
 rintro e v1 ⟨rfl,c1⟩
 have b1:=aa b0 c1
 have hSS:=HS.o _ b1
 refine hK.nx ?_
 clear hK b0 c1
 clear hSS
 have B7:=(aa hb5 b1)
 have Z7:=HZ6.o.nextB B7 (by omega)
 obtain⟨y0,y1,y2,y3,y4⟩:=Z7.cells
 obtain⟨q0,q1,q2,q3,q4⟩:=Z7.froz
 obtain⟨⟨k0,k1,k2,k3,k4⟩,hF,hB⟩:=cA Z7 (HF.o _ (aa HB6.o B7)) (aa HB6.o B7) (Nat.le_refl _) (by omega)
 try dsimp only at k0 k1 k2 k3 k4 hF hB
 have HK:=zg k0 k1 k2 k3 k4 hF hB
 clear Z7 B7 k0 k1 k2 k3 k4 hF hB
 refine aP 3 λK' hK=>?_;go_simp
 refine hK.nx ?_
 clear hK
 refine aP 4 λK' hK=>?_;go_simp
 refine hK.nx ?_
 clear hK
 refine cT ?_
 go_wp2_with fail
 obtain⟨k0,k1,k2,k3,k4,hF,hB⟩:=HK.o
 refine bodyPost_ret (v:=.tuple #[.agg #[.int .i64 m.guest,.slice rA rn rc,.slice sA sn sc,.slice fA fn fc,.slice pA pn pc],.string (ofL z)]) ?_ rfl ⟨_,rfl,hF,hB⟩
 simp[results,results16,go_sem,k0,k1,k2,k3,k4]
theorem CZ:
  Calls prog 16 #[ae m v,.string {data:=#[117,115,101,100]}] w (i8 m (Lib.decDigits (used m.slots)++[32]++Lib.decDigits m.slots.length) w):=by
 have KW:=zh (λW=>bQ {data:=#[117,115,101,100]} W (by decide))
 have hR:=ho.imgR
 have hsn:=hR.slen
 have h40:=(dz (aq hm).1).slots
 have hu:=fY m.slots
 have d1:(ofL (Lib.decDigits (used m.slots))).size<=9:=by rw[aT];exact cS (by omega)
 have d2:(ofL (Lib.decDigits m.slots.length)).size<=9:=by rw[aT];exact cS (by omega)
 rw[show i8 m (Lib.decDigits (used m.slots)++[32]++Lib.decDigits m.slots.length) w= λe w'=>∃v',e=.returned (.tuple #[ae m v',.string (ofL (Lib.decDigits (used m.slots))++{data:=#[32]}++ofL (Lib.decDigits m.slots.length))])/\Fresh w' 0 v' m/\Below w.heap.size w w' from by
  funext e w';rw[show({data:=#[32]}:ByteArray)=ofL [32]from rfl,ee,ee];rfl]
 have K1:= λW=>eq (used m.slots) W (by omega)
 have K2:= λW=>eq m.slots.length W (by omega)
 have n1:¬9223372036854775807<(ofL (Lib.decDigits (used m.slots))).size+1:=by omega
 have n2:¬9223372036854775807<(ofL (Lib.decDigits (used m.slots))).size+1+(ofL (Lib.decDigits m.slots.length)).size:=by omega
 generalize ofL (Lib.decDigits (used m.slots))=t1 at*
 generalize ofL (Lib.decDigits m.slots.length)=t2 at*
 have KP:= λW (hb:Below w.heap.size w W)=>yW v.sA v.sn v.sc m.slots W (ho.next hb).imgR.slots hR.scap.1
 rw[hsn]at K2
 have K1:=zh K1
 have K2:=zh K2
 generalize used m.slots=us at*
 have HF:=zh (λW (hb:Below w.heap.size w W)=>(show Fresh W 0 v m from .inr ⟨base,tg,q,p,Nat.zero_le _,ho.next hb⟩))
 obtain⟨W4,hW,f1,f2,f3,f4⟩:=bd w m.guest v
 obtain⟨rA,rn,rc,sA,sn,sc,fA,fn,fc,pA,pn,pc⟩:=v
 dsimp only[ae]at f1 f2 f3 f4 KP hW⊢
 have KP:=zh KP
 have HB6:=zh f1
 have HX:=zh f2
 have HZ6:=zh f3
 clear f1 f2 f3 ho hm h40 hu d1 d2 hsn hR
 generalize aR _=wd at*
 go_enter func16,ntmps16
 go_wp2_with fail
 rw[hW.o]
 refine(KW.o _).mono ?_
 rintro e w5 ⟨rfl,hb5⟩
 go_wp2_with fail
 refine eS (λW'=>Box W' w.heap.size m.guest ⟨rA,rn,rc,sA,sn,sc,fA,fn,fc,pA,pn,pc⟩) 13 ?_
 have HS:=zh (λW (hb:Below w5.heap.size w5 W)=>HX.o.keep (aa hb5 hb) (by omega))
 have b0:=(Below.refl w5.heap.size w5).drew
 have hSS:=HS.o _ b0
 refine zgo 0 ?_
 refine zgo 1 ?_
 refine zgo 2 ?_
 refine zgo 6 ?_
 refine zgo 7 ?_
 refine zgo 8 ?_
 refine aP 3 λK' hK=>?_;go_simp
 refine(KP.o _ (aa HB6.o (aa hb5 b0))).mono ?_
 rintro e v9 ⟨rfl,rfl⟩
 refine hK.nx ?_
 clear hK
 clear hSS
 refine aP 4 λK' hK=>?_;go_simp
 refine(K1.o _).mono ?_
 rintro e v1 ⟨rfl,c1⟩
 have b1:=aa b0 c1
 have hSS:=HS.o _ b1
 refine hK.nx ?_
 clear hK b0 c1
 refine zgo 5 ?_
 clear hSS
 refine aP 9 λK' hK=>?_;go_simp
 refine(K2.o _).mono ?_
 rintro e v2 ⟨rfl,c2⟩
 have b2:=aa b1 c2
 have hSS:=HS.o _ b2
 refine hK.nx ?_
 clear hK b1 c2
 refine zgo 10 ?_
 have B7:=(aa hb5 b2)
 have Z7:=HZ6.o.nextB B7 (by omega)
 obtain⟨y0,y1,y2,y3,y4⟩:=Z7.cells
 obtain⟨q0,q1,q2,q3,q4⟩:=Z7.froz
 have hS7:=Box.kept hSS (dr Z7.box.1 Z7.box.2 m.guest ⟨rA,rn,rc,sA,sn,sc,fA,fn,fc,pA,pn,pc⟩).2.2 (λe=>by injection e;omega)
 obtain⟨⟨k0,k1,k2,k3,k4⟩,hF,hB⟩:=cA Z7 (HF.o _ (aa HB6.o B7)) (aa HB6.o B7) (Nat.le_refl _) (by omega)
 try dsimp only at k0 k1 k2 k3 k4 hF hB
 have HK:=zg k0 k1 k2 k3 k4 hF hB
 dsimp only at hS7
 clear Z7 B7 k0 k1 k2 k3 k4 hF hB
 refine aP 11 λK' hK=>?_;go_simp
 refine hK.o _ _ (λ_=>hS7) ?_
 clear hK
 refine aP 12 λK' hK=>?_;go_simp
 refine hK.o _ _ (λ_=>hS7) ?_
 clear hK
 clear hSS hS7
 refine cT ?_
 go_wp2_with fail
 obtain⟨k0,k1,k2,k3,k4,hF,hB⟩:=HK.o
 refine bodyPost_ret (v:=.tuple #[.agg #[.int .i64 m.guest,.slice rA rn rc,.slice sA sn sc,.slice fA fn fc,.slice pA pn pc],.string (t1++{data:=#[32]}++t2)]) ?_ rfl ⟨_,rfl,hF,hB⟩
 simp[results,results16,go_sem,k0,k1,k2,k3,k4]
theorem C0:
  Calls prog 16 #[ae m v,.string {data:=#[115,97,118,101]}] w (i8 m (Lib.decDigits (ea m).length) w):=by
 have KW:=zh (λW=>bQ {data:=#[115,97,118,101]} W (by decide))
 have hs:=kG hm
 have hln:=aT (ea m)
 have K1:=zh (λW=>eq (ea m).length W (by omega))
 have HF:=zh (λW (hb:Below w.heap.size w W)=>(show Fresh W 0 v m from .inr ⟨base,tg,q,p,Nat.zero_le _,ho.next hb⟩))
 have KP:= λW (hb:Below w.heap.size w W)=>oh v m W (ho.next hb).imgR hm
 obtain⟨W4,hW,f1,f2,f3,f4⟩:=bd w m.guest v
 obtain⟨rA,rn,rc,sA,sn,sc,fA,fn,fc,pA,pn,pc⟩:=v
 dsimp only[ae]at f1 f2 f3 f4 KP hW⊢
 have HB6:=zh f1
 have HX:=zh f2
 have HZ6:=zh f3
 have KP:=zh KP
 clear f1 f2 f3 ho hm
 generalize (ea m).length=n at*
 generalize ofL (ea m)=t1 at*
 subst hln
 generalize aR _=wd at*
 go_enter func16,ntmps16
 go_wp2_with fail
 rw[hW.o]
 refine(KW.o _).mono ?_
 rintro e w5 ⟨rfl,hb5⟩
 go_wp2_with fail
 refine eS (λW'=>Box W' w.heap.size m.guest ⟨rA,rn,rc,sA,sn,sc,fA,fn,fc,pA,pn,pc⟩) 5 ?_
 have HS:=zh (λW (hb:Below w5.heap.size w5 W)=>HX.o.keep (aa hb5 hb) (by omega))
 have b0:=(Below.refl w5.heap.size w5).drew
 have hSS:=HS.o _ b0
 refine zgo 0 ?_
 refine zgo 1 ?_
 clear hSS
 refine aP 2 λK' hK=>?_;go_simp
 refine(KP.o _ (aa HB6.o (aa hb5 b0))).mono ?_
 rintro e v1 ⟨rfl,c1⟩
 have b1:=aa b0 c1
 have hSS:=HS.o _ b1
 refine hK.nx ?_
 clear hK b0 c1
 refine zgo 3 ?_
 clear hSS
 refine aP 4 λK' hK=>?_;go_simp
 refine(K1.o _).mono ?_
 rintro e v2 ⟨rfl,c2⟩
 have b2:=aa b1 c2
 have hSS:=HS.o _ b2
 refine hK.nx ?_
 clear hK b1 c2
 clear hSS
 have B7:=(aa hb5 b2)
 have Z7:=HZ6.o.nextB B7 (by omega)
 obtain⟨y0,y1,y2,y3,y4⟩:=Z7.cells
 obtain⟨q0,q1,q2,q3,q4⟩:=Z7.froz
 obtain⟨⟨k0,k1,k2,k3,k4⟩,hF,hB⟩:=cA Z7 (HF.o _ (aa HB6.o B7)) (aa HB6.o B7) (Nat.le_refl _) (by omega)
 try dsimp only at k0 k1 k2 k3 k4 hF hB
 have HK:=zg k0 k1 k2 k3 k4 hF hB
 clear Z7 B7 k0 k1 k2 k3 k4 hF hB
 refine aP 5 λK' hK=>?_;go_simp
 refine hK.nx ?_
 clear hK
 refine aP 6 λK' hK=>?_;go_simp
 refine hK.nx ?_
 clear hK
 refine cT ?_
 go_wp2_with fail
 obtain⟨k0,k1,k2,k3,k4,hF,hB⟩:=HK.o
 refine bodyPost_ret (v:=.tuple #[.agg #[.int .i64 m.guest,.slice rA rn rc,.slice sA sn sc,.slice fA fn fc,.slice pA pn pc],.string (ofL (Lib.decDigits t1.size))]) ?_ rfl ⟨_,rfl,hF,hB⟩
 simp[results,results16,go_sem,k0,k1,k2,k3,k4]
omit hm in
theorem C3 (s:ByteArray) (hs:s.size<=100000) (b:List UInt8) (hw:aR (toL s)=([114,101,97,100],b,true)) (hn:eD b=none):
  Calls prog 16 #[ae m v,.string s] w (i8 m (ia 1) w):=by
 have hmo:(aR (toL s)).2.2=true:=by rw[hw]
 have g0:=ct hmo (l:=[112,97,99,107]) (by decide)
 have g1:=ct hmo (l:=[109,97,112]) (by decide)
 have g2:=ct hmo (l:=[117,115,101,100]) (by decide)
 have g3:=ct hmo (l:=[115,97,118,101]) (by decide)
 have KW:=zh (λW=>bQ s W (by omega))
 rw[hw,show ofL [114,101,97,100]={data:=#[114,101,97,100]}from rfl]at KW
 have KN:=zh (λW=>gC (ofL b) W)
 rw[aZ,show gB b= -1 from by unfold gB;rw[hn]]at KN
 have KR:=zh (λW=>fS 1 (by decide) (by decide) W)
 have HF:=zh (λW (hb:Below w.heap.size w W)=>(show Fresh W 0 v m from .inr ⟨base,tg,q,p,Nat.zero_le _,ho.next hb⟩))
 obtain⟨W4,hW,f1,f2,f3,f4⟩:=bd w m.guest v
 obtain⟨rA,rn,rc,sA,sn,sc,fA,fn,fc,pA,pn,pc⟩:=v
 dsimp only[ae]at f1 f2 f3 f4 hW⊢
 have HB6:=zh f1
 have HX:=zh f2
 have HZ6:=zh f3
 clear f1 f2 f3 ho hw hmo hs hn
 generalize ofL b=sb at*
 go_enter func16,ntmps16
 go_wp2_with fail
 rw[hW.o]
 refine(KW.o _).mono ?_
 rintro e w5 ⟨rfl,hb5⟩
 go_wp2_with fail
 refine(KN.o _).mono ?_
 rintro e w6 ⟨rfl,hb6⟩
 have hb6:=aa hb5 hb6
 clear hb5
 go_wp2_with fail
 refine eS (λW'=>Box W' w.heap.size m.guest ⟨rA,rn,rc,sA,sn,sc,fA,fn,fc,pA,pn,pc⟩) 3 ?_
 have HS:=zh (λW (hb:Below w6.heap.size w6 W)=>HX.o.keep (aa hb6 hb) (by omega))
 have b0:=(Below.refl w6.heap.size w6).drew
 have hSS:=HS.o _ b0
 refine zgo 0 ?_
 refine zgo 1 ?_
 clear hSS
 refine aP 2 λK' hK=>?_;go_simp
 refine(KR.o _).mono ?_
 rintro e v1 ⟨rfl,c1⟩
 have b1:=aa b0 c1
 have hSS:=HS.o _ b1
 refine hK.nx ?_
 clear hK b0 c1
 clear hSS
 have B7:=(aa hb6 b1)
 have Z7:=HZ6.o.nextB B7 (by omega)
 obtain⟨y0,y1,y2,y3,y4⟩:=Z7.cells
 obtain⟨q0,q1,q2,q3,q4⟩:=Z7.froz
 obtain⟨⟨k0,k1,k2,k3,k4⟩,hF,hB⟩:=cA Z7 (HF.o _ (aa HB6.o B7)) (aa HB6.o B7) (Nat.le_refl _) (by omega)
 try dsimp only at k0 k1 k2 k3 k4 hF hB
 have HK:=zg k0 k1 k2 k3 k4 hF hB
 clear Z7 B7 k0 k1 k2 k3 k4 hF hB
 refine aP 3 λK' hK=>?_;go_simp
 refine hK.nx ?_
 clear hK
 refine aP 4 λK' hK=>?_;go_simp
 refine hK.nx ?_
 clear hK
 refine cT ?_
 go_wp2_with fail
 obtain⟨k0,k1,k2,k3,k4,hF,hB⟩:=HK.o
 refine bodyPost_ret (v:=.tuple #[.agg #[.int .i64 m.guest,.slice rA rn rc,.slice sA sn sc,.slice fA fn fc,.slice pA pn pc],.string (ofL (ia 1))]) ?_ rfl ⟨_,rfl,hF,hB⟩
 simp[results,results16,go_sem,k0,k1,k2,k3,k4]
omit hm in
theorem BZ (s:ByteArray) (hs:s.size<=100000) (b:List UInt8) (hw:aR (toL s)=([114,101,97,100],b,true)) (n:Nat) (hn:eD b=some n) (er:Int) (hl:aE m n=er) (h1:er≠0) (h9:0<=er/\er<=9):
  Calls prog 16 #[ae m v,.string s] w (i8 m (ia er) w):=by
 have hmo:(aR (toL s)).2.2=true:=by rw[hw]
 have g0:=ct hmo (l:=[112,97,99,107]) (by decide)
 have g1:=ct hmo (l:=[109,97,112]) (by decide)
 have g2:=ct hmo (l:=[117,115,101,100]) (by decide)
 have g3:=ct hmo (l:=[115,97,118,101]) (by decide)
 have KW:=zh (λW=>bQ s W (by omega))
 rw[hw,show ofL [114,101,97,100]={data:=#[114,101,97,100]}from rfl]at KW
 have KN:=zh (λW=>gC (ofL b) W)
 rw[aZ,show gB b=(n:Int)from by unfold gB;rw[hn]]at KN
 have e0:(0:Int)<=(n:Int):=by omega
 have KR:=zh (λW=>fS er h9.1 h9.2 W)
 have h1:(er !=0)=true:=by simpa using h1
 have HF:=zh (λW (hb:Below w.heap.size w W)=>(show Fresh W 0 v m from .inr ⟨base,tg,q,p,Nat.zero_le _,ho.next hb⟩))
 have KL:= λW (hb:Below w.heap.size w W)=>dq v m n W (ho.next hb).imgR
 obtain⟨W4,hW,f1,f2,f3,f4⟩:=bd w m.guest v
 obtain⟨rA,rn,rc,sA,sn,sc,fA,fn,fc,pA,pn,pc⟩:=v
 dsimp only[ae]at f1 f2 f3 f4 KL hW⊢
 rw[hl]at KL
 have HB6:=zh f1
 have HX:=zh f2
 have HZ6:=zh f3
 have KL:=zh KL
 clear f1 f2 f3 ho hw hmo hs hn h9
 generalize ofL b=sb at*
 go_enter func16,ntmps16
 go_wp2_with fail
 rw[hW.o]
 refine(KW.o _).mono ?_
 rintro e w5 ⟨rfl,hb5⟩
 go_wp2_with fail
 refine(KN.o _).mono ?_
 rintro e w6 ⟨rfl,hb6⟩
 have hb6:=aa hb5 hb6
 clear hb5
 go_wp2_with fail
 refine eS (λW'=>Box W' w.heap.size m.guest ⟨rA,rn,rc,sA,sn,sc,fA,fn,fc,pA,pn,pc⟩) 5 ?_
 have HS:=zh (λW (hb:Below w6.heap.size w6 W)=>HX.o.keep (aa hb6 hb) (by omega))
 have b0:=(Below.refl w6.heap.size w6).drew
 have hSS:=HS.o _ b0
 refine zgo 0 ?_
 refine zgo 1 ?_
 clear hSS
 refine aP 2 λK' hK=>?_;go_simp
 refine(KN.o _).mono ?_
 rintro e v1 ⟨rfl,c1⟩
 have b1:=aa b0 c1
 have hSS:=HS.o _ b1
 refine hK.nx ?_
 clear hK b0 c1
 clear hSS
 refine aP 3 λK' hK=>?_;go_simp
 refine(KL.o _ (aa HB6.o (aa hb6 b1))).mono ?_
 rintro e v2 ⟨rfl,c2⟩
 have b2:=aa b1 c2
 have hSS:=HS.o _ b2
 refine hK.nx ?_
 clear hK b1 c2
 refine aP 4 λK' hK=>?_;go_simp
 refine hK.nx ?_
 clear hK
 refine cT ?_
 have hb7:=aa hb6 b2
 clear hb6 b2 hSS HS
 go_wp2_with fail
 refine eS (λW'=>Box W' w.heap.size m.guest ⟨rA,rn,rc,sA,sn,sc,fA,fn,fc,pA,pn,pc⟩) 4 ?_
 have HS:=zh (λW (hb:Below v2.heap.size v2 W)=>HX.o.keep (aa hb7 hb) (by omega))
 have b0:=(Below.refl v2.heap.size v2).drew
 have hSS:=HS.o _ b0
 refine zgo 0 ?_
 refine zgo 1 ?_
 refine zgo 2 ?_
 clear hSS
 refine aP 3 λK' hK=>?_;go_simp
 refine(KR.o _).mono ?_
 rintro e v1 ⟨rfl,c1⟩
 have b1:=aa b0 c1
 have hSS:=HS.o _ b1
 refine hK.nx ?_
 clear hK b0 c1
 clear hSS
 have B7:=(aa hb7 b1)
 have Z7:=HZ6.o.nextB B7 (by omega)
 obtain⟨y0,y1,y2,y3,y4⟩:=Z7.cells
 obtain⟨q0,q1,q2,q3,q4⟩:=Z7.froz
 obtain⟨⟨k0,k1,k2,k3,k4⟩,hF,hB⟩:=cA Z7 (HF.o _ (aa HB6.o B7)) (aa HB6.o B7) (Nat.le_refl _) (by omega)
 try dsimp only at k0 k1 k2 k3 k4 hF hB
 have HK:=zg k0 k1 k2 k3 k4 hF hB
 clear Z7 B7 k0 k1 k2 k3 k4 hF hB
 refine aP 4 λK' hK=>?_;go_simp
 refine hK.nx ?_
 clear hK
 refine aP 5 λK' hK=>?_;go_simp
 refine hK.nx ?_
 clear hK
 refine cT ?_
 go_wp2_with fail
 obtain⟨k0,k1,k2,k3,k4,hF,hB⟩:=HK.o
 refine bodyPost_ret (v:=.tuple #[.agg #[.int .i64 m.guest,.slice rA rn rc,.slice sA sn sc,.slice fA fn fc,.slice pA pn pc],.string (ofL (ia er))]) ?_ rfl ⟨_,rfl,hF,hB⟩
 simp[results,results16,go_sem,k0,k1,k2,k3,k4]
theorem C4 (s:ByteArray) (hs:s.size<=100000) (b:List UInt8) (hw:aR (toL s)=([114,101,97,100],b,true)) (n:Nat) (hn:eD b=some n) (hl:aE m n=0):
  Calls prog 16 #[ae m v,.string s] w (i8 m (cC (toL (fC m n))) w):=by
 have hmo:(aR (toL s)).2.2=true:=by rw[hw]
 have g0:=ct hmo (l:=[112,97,99,107]) (by decide)
 have g1:=ct hmo (l:=[109,97,112]) (by decide)
 have g2:=ct hmo (l:=[117,115,101,100]) (by decide)
 have g3:=ct hmo (l:=[115,97,118,101]) (by decide)
 have KW:=zh (λW=>bQ s W (by omega))
 rw[hw,show ofL [114,101,97,100]={data:=#[114,101,97,100]}from rfl]at KW
 have KN:=zh (λW=>gC (ofL b) W)
 rw[aZ,show gB b=(n:Int)from by unfold gB;rw[hn]]at KN
 have e0:(0:Int)<=(n:Int):=by omega
 have hn0:(n:Int)<m.guest:=by unfold aE at hl;rw[if_neg (by omega)]at hl;split at hl;omega;cases hl
 have he:=je hm m.root n
 have hpg:=l8 (je hm m.root n)
 have KS:=zh (λW=>yu (ch m.slots (ag m.slots m.root n)) W (by omega))
 rw[show fC m n=ch m.slots (ag m.slots m.root n)from by unfold fC;rw[if_pos hl];rfl]
 have HF:=zh (λW (hb:Below w.heap.size w W)=>(show Fresh W 0 v m from .inr ⟨base,tg,q,p,Nat.zero_le _,ho.next hb⟩))
 have KL:= λW (hb:Below w.heap.size w W)=>dq v m n W (ho.next hb).imgR
 have KP:= λW (hb:Below w.heap.size w W)=>sH v m n W (ho.next hb).imgR (jW hm hn0) he
 obtain⟨W4,hW,f1,f2,f3,f4⟩:=bd w m.guest v
 obtain⟨rA,rn,rc,sA,sn,sc,fA,fn,fc,pA,pn,pc⟩:=v
 dsimp only[ae]at f1 f2 f3 f4 KL KP hW⊢
 rw[hl]at KL
 generalize ch m.slots (ag m.slots m.root n)=pg at*
 have HB6:=zh f1
 have HX:=zh f2
 have HZ6:=zh f3
 have KL:=zh KL
 have KP:=zh KP
 clear f1 f2 f3 ho hm hw hmo hs hn
 generalize ofL b=sb at*
 go_enter func16,ntmps16
 go_wp2_with fail
 rw[hW.o]
 refine(KW.o _).mono ?_
 rintro e w5 ⟨rfl,hb5⟩
 go_wp2_with fail
 refine(KN.o _).mono ?_
 rintro e w6 ⟨rfl,hb6⟩
 have hb6:=aa hb5 hb6
 clear hb5
 go_wp2_with fail
 refine eS (λW'=>Box W' w.heap.size m.guest ⟨rA,rn,rc,sA,sn,sc,fA,fn,fc,pA,pn,pc⟩) 5 ?_
 have HS:=zh (λW (hb:Below w6.heap.size w6 W)=>HX.o.keep (aa hb6 hb) (by omega))
 have b0:=(Below.refl w6.heap.size w6).drew
 have hSS:=HS.o _ b0
 refine zgo 0 ?_
 refine zgo 1 ?_
 clear hSS
 refine aP 2 λK' hK=>?_;go_simp
 refine(KN.o _).mono ?_
 rintro e v1 ⟨rfl,c1⟩
 have b1:=aa b0 c1
 have hSS:=HS.o _ b1
 refine hK.nx ?_
 clear hK b0 c1
 clear hSS
 refine aP 3 λK' hK=>?_;go_simp
 refine(KL.o _ (aa HB6.o (aa hb6 b1))).mono ?_
 rintro e v2 ⟨rfl,c2⟩
 have b2:=aa b1 c2
 have hSS:=HS.o _ b2
 refine hK.nx ?_
 clear hK b1 c2
 refine aP 4 λK' hK=>?_;go_simp
 refine hK.nx ?_
 clear hK
 refine cT ?_
 have hb7:=aa hb6 b2
 clear hb6 b2 hSS HS
 go_wp2_with fail
 refine eS (λW'=>Box W' w.heap.size m.guest ⟨rA,rn,rc,sA,sn,sc,fA,fn,fc,pA,pn,pc⟩) 6 ?_
 have HS:=zh (λW (hb:Below v2.heap.size v2 W)=>HX.o.keep (aa hb7 hb) (by omega))
 have b0:=(Below.refl v2.heap.size v2).drew
 have hSS:=HS.o _ b0
 refine zgo 0 ?_
 refine zgo 1 ?_
 refine zgo 2 ?_
 clear hSS
 refine aP 3 λK' hK=>?_;go_simp
 refine(KN.o _).mono ?_
 rintro e v1 ⟨rfl,c1⟩
 have b1:=aa b0 c1
 have hSS:=HS.o _ b1
 refine hK.nx ?_
 clear hK b0 c1
 clear hSS
 refine aP 4 λK' hK=>?_;go_simp
 refine(KP.o _ (aa HB6.o (aa hb7 b1))).mono ?_
 rintro e v2 ⟨rfl,c2⟩
 have b2:=aa b1 c2
 have hSS:=HS.o _ b2
 refine hK.nx ?_
 clear hK b1 c2
 clear hSS
 refine aP 5 λK' hK=>?_;go_simp
 refine(KS.o _).mono ?_
 rintro e v3 ⟨rfl,c3⟩
 have b3:=aa b2 c3
 have hSS:=HS.o _ b3
 refine hK.nx ?_
 clear hK b2 c3
 clear hSS
 have B7:=(aa hb7 b3)
 have Z7:=HZ6.o.nextB B7 (by omega)
 obtain⟨y0,y1,y2,y3,y4⟩:=Z7.cells
 obtain⟨q0,q1,q2,q3,q4⟩:=Z7.froz
 obtain⟨⟨k0,k1,k2,k3,k4⟩,hF,hB⟩:=cA Z7 (HF.o _ (aa HB6.o B7)) (aa HB6.o B7) (Nat.le_refl _) (by omega)
 try dsimp only at k0 k1 k2 k3 k4 hF hB
 have HK:=zg k0 k1 k2 k3 k4 hF hB
 clear Z7 B7 k0 k1 k2 k3 k4 hF hB
 refine aP 6 λK' hK=>?_;go_simp
 refine hK.nx ?_
 clear hK
 refine aP 7 λK' hK=>?_;go_simp
 refine hK.nx ?_
 clear hK
 refine cT ?_
 go_wp2_with fail
 obtain⟨k0,k1,k2,k3,k4,hF,hB⟩:=HK.o
 refine bodyPost_ret (v:=.tuple #[.agg #[.int .i64 m.guest,.slice rA rn rc,.slice sA sn sc,.slice fA fn fc,.slice pA pn pc],.string (ofL (cC (toL pg)))]) ?_ rfl ⟨_,rfl,hF,hB⟩
 simp[results,results16,go_sem,k0,k1,k2,k3,k4]
theorem Dy (s:ByteArray) (hs:s.size<=100000) (a b:List UInt8) (hw:aR (toL s)=(a,b,true)) (o:ByteArray) (ha:ofL a=o) (hx:o={data:=#[115,105,122,101]}\/o={data:=#[119,105,112,101]}\/o={data:=#[112,117,110,99,104]}\/o={data:=#[119,114,105,116,101]}\/o={data:=#[115,110,97,112]}\/o={data:=#[98,97,99,107]}\/o={data:=#[100,114,111,112]}):
  Calls prog 16 #[ae m v,.string s] w (λe w'=>∃z er,mz m a b=bT z er/\i8 (if er=0 then z else m) (if er=0 then okT else ia er) w e w'):=by
 have hmo:(aR (toL s)).2.2=true:=by rw[hw]
 have g0:=ct hmo (l:=[112,97,99,107]) (by decide)
 have g1:=ct hmo (l:=[109,97,112]) (by decide)
 have g2:=ct hmo (l:=[117,115,101,100]) (by decide)
 have g3:=ct hmo (l:=[115,97,118,101]) (by decide)
 have hbs:=(lR (toL s)).2
 rw[hw,bv]at hbs
 dsimp only at hbs
 have KW:=zh (λW=>bQ s W (by omega))
 rw[hw]at KW
 dsimp only at KW
 rw[ha]at KW
 have HE:=zh (λz er (hc:mz m a b=bT z er) (h0:er≠0)=>(show 0<=er/\er<=9 from by
  have:=tm hm a b
  rw[hc]at this
  unfold bT at this
  rw[if_neg h0]at this
  exact⟨by have:=this.1;omega,this.2⟩))
 have HF:=zh (λW (hb:Below w.heap.size w W)=>(show Fresh W 0 v m from .inr ⟨base,tg,q,p,Nat.zero_le _,ho.next hb⟩))
 have KC:= λW (hb:Below w.heap.size w W)=>uq v m W o (ofL b) (ho.next hb).imgR (by rw[aT];omega) hx
 obtain⟨W4,hW,f1,f2,f3,f4⟩:=bd w m.guest v
 obtain⟨rA,rn,rc,sA,sn,sc,fA,fn,fc,pA,pn,pc⟩:=v
 dsimp only[ae]at f1 f2 f3 f4 KC hW⊢
 have HB6:=zh f1
 have HX:=zh f2
 have HZ6:=zh f3
 rw[<-ha,aZ,aZ,ha]at KC
 have KC:=zh KC
 clear f1 f2 f3 ho hw hmo hs hbs hm
 rcases hx with rfl|rfl|rfl|rfl|rfl|rfl|rfl
 all_goals
  go_enter func16,ntmps16
  go_wp2_with fail
  rw[hW.o]
  refine(KW.o _).mono ?_
  rintro e w5 ⟨rfl,hb5⟩
  obtain⟨x0,x1,x2,x3,x4⟩:=HX.o.keep hb5 (by omega)
  dsimp only at x0 x1 x2 x3 x4
  go_upto_region 19 with fail
  go_wp2_with fail
  refine(KC.o _ (aa HB6.o hb5)).mono ?_
  rintro e w6 ⟨z,⟨qA,qn,qc,tA,tn,tc,uA,un,uc,oA,on,oc⟩,er,rfl,hb6,ho6,hc⟩
  have hb6:=aa hb5 hb6
  have HC:=zh hc
  clear x0 x1 x2 x3 x4 KC hb5 hc
  dsimp only[ae]
  go_upto_region 20 with fail
  have B7:=ac w6 (.cells #[.int .i64 z.guest,.slice qA qn qc,.slice tA tn tc,.slice uA un uc,.slice oA on oc] 34)
  have X7:=Box.new w6 z.guest ⟨qA,qn,qc,tA,tn,tc,uA,un,uc,oA,on,oc⟩ 34
  dsimp only at X7
  generalize w6.alloc (.cells #[.int .i64 z.guest,.slice qA qn qc,.slice tA tn tc,.slice uA un uc,.slice oA on oc] 34)=w7 at*
  have hb7:=aa hb6 B7
  by_cases h0:er=0
  ·subst h0
   obtain⟨base6,tg6,q6,p6,ho6⟩:=ho6 rfl
   obtain⟨x0,x1,x2,x3,x4⟩:=X7
   have ho7:=ho6.next B7
   clear B7 hb6 ho6
   have B7:=hb7
   have Z7:=HZ6.o.nextB B7 (by omega)
   obtain⟨y0,y1,y2,y3,y4⟩:=Z7.cells
   obtain⟨q0,q1,q2,q3,q4⟩:=Z7.froz
   obtain⟨⟨k0,k1,k2,k3,k4⟩,hF,hB⟩:=cA Z7 (v:=⟨qA,qn,qc,tA,tn,tc,uA,un,uc,oA,on,oc⟩) (B:=0) (X:=z) (.inr ⟨_,_,_,_,Nat.zero_le _,ho7⟩) (aa HB6.o B7) (Nat.le_refl _) (by omega)
   try dsimp only at k0 k1 k2 k3 k4 hF hB
   have HK:=zg k0 k1 k2 k3 k4 hF hB
   clear Z7 B7 k0 k1 k2 k3 k4 hF hB
   go_wp2_with fail
   obtain⟨k0,k1,k2,k3,k4,hF,hB⟩:=HK.o
   refine bodyPost_ret (v:=.tuple #[.agg #[.int .i64 z.guest,.slice qA qn qc,.slice tA tn tc,.slice uA un uc,.slice oA on oc],.string (ofL okT)]) ?_ rfl ⟨z,0,HC.o,by rw[if_pos rfl,if_pos rfl];exact⟨_,rfl,hF,hB⟩⟩
   simp[results,results16,go_sem,k0,k1,k2,k3,k4]<;>rfl
  ·have h1:(er !=0)=true:=by simpa using h0
   obtain⟨e0,e9⟩:=HE.o z er HC.o h0
   have KR:=zh (λW=>fS er e0 e9 W)
   clear B7 hb6 ho6 X7 e0 e9
   go_wp2_with fail
   refine eS (λW'=>Box W' w.heap.size m.guest ⟨rA,rn,rc,sA,sn,sc,fA,fn,fc,pA,pn,pc⟩) 4 ?_
   have HS:=zh (λW (hb:Below w7.heap.size w7 W)=>HX.o.keep (aa hb7 hb) (by omega))
   have b0:=(Below.refl w7.heap.size w7).drew
   have hSS:=HS.o _ b0
   refine zgo 0 ?_
   refine zgo 1 ?_
   refine zgo 2 ?_
   clear hSS
   refine aP 3 λK' hK=>?_;go_simp
   refine(KR.o _).mono ?_
   rintro e v1 ⟨rfl,c1⟩
   have b1:=aa b0 c1
   have hSS:=HS.o _ b1
   refine hK.nx ?_
   clear hK b0 c1
   clear hSS
   have B7:=(aa hb7 b1)
   have Z7:=HZ6.o.nextB B7 (by omega)
   obtain⟨y0,y1,y2,y3,y4⟩:=Z7.cells
   obtain⟨q0,q1,q2,q3,q4⟩:=Z7.froz
   obtain⟨⟨k0,k1,k2,k3,k4⟩,hF,hB⟩:=cA Z7 (HF.o _ (aa HB6.o B7)) (aa HB6.o B7) (Nat.le_refl _) (by omega)
   try dsimp only at k0 k1 k2 k3 k4 hF hB
   have HK:=zg k0 k1 k2 k3 k4 hF hB
   clear Z7 B7 k0 k1 k2 k3 k4 hF hB
   refine aP 4 λK' hK=>?_;go_simp
   refine hK.nx ?_
   clear hK
   refine aP 5 λK' hK=>?_;go_simp
   refine hK.nx ?_
   clear hK
   refine cT ?_
   go_wp2_with fail
   obtain⟨k0,k1,k2,k3,k4,hF,hB⟩:=HK.o
   refine bodyPost_ret (v:=.tuple #[.agg #[.int .i64 m.guest,.slice rA rn rc,.slice sA sn sc,.slice fA fn fc,.slice pA pn pc],.string (ofL (ia er))]) ?_ rfl ⟨z,er,HC.o,by rw[if_neg h0,if_neg h0];exact⟨_,rfl,hF,hB⟩⟩
   simp[results,results16,go_sem,k0,k1,k2,k3,k4]
omit hm in
theorem Dz (s:ByteArray) (hs:s.size<=100000) (hw:(aR (toL s)).2.2=false) (h0:toL s≠[112,97,99,107]) (h1:toL s≠[109,97,112]) (h2:toL s≠[117,115,101,100]) (h3:toL s≠[115,97,118,101]):
  Calls prog 16 #[ae m v,.string s] w (i8 m (ia 1) w):=by
 have g0:=bM h0
 have g1:=bM h1
 have g2:=bM h2
 have g3:=bM h3
 have KW:=zh (λW=>bQ s W (by omega))
 rw[hw]at KW
 generalize (aR (toL s)).1=x1 at*
 generalize (aR (toL s)).2.1=x2 at*
 have KR:=zh (λW=>fS 1 (by decide) (by decide) W)
 have HF:=zh (λW (hb:Below w.heap.size w W)=>(show Fresh W 0 v m from .inr ⟨base,tg,q,p,Nat.zero_le _,ho.next hb⟩))
 obtain⟨W4,hW,f1,f2,f3,f4⟩:=bd w m.guest v
 obtain⟨rA,rn,rc,sA,sn,sc,fA,fn,fc,pA,pn,pc⟩:=v
 dsimp only[ae]at f1 f2 f3 f4 hW⊢
 have HB6:=zh f1
 have HX:=zh f2
 have HZ6:=zh f3
 clear f1 f2 f3 ho hs hw h0 h1 h2 h3
 go_enter func16,ntmps16
 go_wp2_with fail
 rw[hW.o]
 refine(KW.o _).mono ?_
 rintro e w5 ⟨rfl,hb5⟩
 go_wp2_with fail
 refine eS (λW'=>Box W' w.heap.size m.guest ⟨rA,rn,rc,sA,sn,sc,fA,fn,fc,pA,pn,pc⟩) 3 ?_
 have HS:=zh (λW (hb:Below w5.heap.size w5 W)=>HX.o.keep (aa hb5 hb) (by omega))
 have b0:=(Below.refl w5.heap.size w5).drew
 have hSS:=HS.o _ b0
 refine zgo 0 ?_
 refine zgo 1 ?_
 clear hSS
 refine aP 2 λK' hK=>?_;go_simp
 refine(KR.o _).mono ?_
 rintro e v1 ⟨rfl,c1⟩
 have b1:=aa b0 c1
 have hSS:=HS.o _ b1
 refine hK.nx ?_
 clear hK b0 c1
 clear hSS
 have B7:=(aa hb5 b1)
 have Z7:=HZ6.o.nextB B7 (by omega)
 obtain⟨y0,y1,y2,y3,y4⟩:=Z7.cells
 obtain⟨q0,q1,q2,q3,q4⟩:=Z7.froz
 obtain⟨⟨k0,k1,k2,k3,k4⟩,hF,hB⟩:=cA Z7 (HF.o _ (aa HB6.o B7)) (aa HB6.o B7) (Nat.le_refl _) (by omega)
 try dsimp only at k0 k1 k2 k3 k4 hF hB
 have HK:=zg k0 k1 k2 k3 k4 hF hB
 clear Z7 B7 k0 k1 k2 k3 k4 hF hB
 refine aP 3 λK' hK=>?_;go_simp
 refine hK.nx ?_
 clear hK
 refine aP 4 λK' hK=>?_;go_simp
 refine hK.nx ?_
 clear hK
 refine cT ?_
 go_wp2_with fail
 obtain⟨k0,k1,k2,k3,k4,hF,hB⟩:=HK.o
 refine bodyPost_ret (v:=.tuple #[.agg #[.int .i64 m.guest,.slice rA rn rc,.slice sA sn sc,.slice fA fn fc,.slice pA pn pc],.string (ofL (ia 1))]) ?_ rfl ⟨_,rfl,hF,hB⟩
 simp[results,results16,go_sem,k0,k1,k2,k3,k4]
omit hm in
theorem DB (s:ByteArray) (hs:s.size<=100000) (a b:List UInt8) (hw:aR (toL s)=(a,b,true)) (h0:a≠[114,101,97,100]) (h1:a≠[115,105,122,101]) (h2:a≠[119,105,112,101]) (h3:a≠[112,117,110,99,104]) (h4:a≠[119,114,105,116,101]) (h5:a≠[115,110,97,112]) (h6:a≠[98,97,99,107]) (h7:a≠[100,114,111,112]):
  Calls prog 16 #[ae m v,.string s] w (i8 m (ia 1) w):=by
 have hmo:(aR (toL s)).2.2=true:=by rw[hw]
 have g0:=ct hmo (l:=[112,97,99,107]) (by decide)
 have g1:=ct hmo (l:=[109,97,112]) (by decide)
 have g2:=ct hmo (l:=[117,115,101,100]) (by decide)
 have g3:=ct hmo (l:=[115,97,118,101]) (by decide)
 have j0:=bM (s:=ofL a) (by rw[aZ];exact h0)
 have j1:=bM (s:=ofL a) (by rw[aZ];exact h1)
 have j2:=bM (s:=ofL a) (by rw[aZ];exact h2)
 have j3:=bM (s:=ofL a) (by rw[aZ];exact h3)
 have j4:=bM (s:=ofL a) (by rw[aZ];exact h4)
 have j5:=bM (s:=ofL a) (by rw[aZ];exact h5)
 have j6:=bM (s:=ofL a) (by rw[aZ];exact h6)
 have j7:=bM (s:=ofL a) (by rw[aZ];exact h7)
 have KW:=zh (λW=>bQ s W (by omega))
 rw[hw]at KW
 generalize ofL a=sa at*
 generalize ofL b=sb at*
 have KR:=zh (λW=>fS 1 (by decide) (by decide) W)
 have HF:=zh (λW (hb:Below w.heap.size w W)=>(show Fresh W 0 v m from .inr ⟨base,tg,q,p,Nat.zero_le _,ho.next hb⟩))
 obtain⟨W4,hW,f1,f2,f3,f4⟩:=bd w m.guest v
 obtain⟨rA,rn,rc,sA,sn,sc,fA,fn,fc,pA,pn,pc⟩:=v
 dsimp only[ae]at f1 f2 f3 f4 hW⊢
 have HB6:=zh f1
 have HX:=zh f2
 have HZ6:=zh f3
 clear f1 f2 f3 ho hs hw hmo h0 h1 h2 h3 h4 h5 h6 h7
 go_enter func16,ntmps16
 go_wp2_with fail
 rw[hW.o]
 refine(KW.o _).mono ?_
 rintro e w5 ⟨rfl,hb5⟩
 go_wp2_with fail
 refine eS (λW'=>Box W' w.heap.size m.guest ⟨rA,rn,rc,sA,sn,sc,fA,fn,fc,pA,pn,pc⟩) 3 ?_
 have HS:=zh (λW (hb:Below w5.heap.size w5 W)=>HX.o.keep (aa hb5 hb) (by omega))
 have b0:=(Below.refl w5.heap.size w5).drew
 have hSS:=HS.o _ b0
 refine zgo 0 ?_
 refine zgo 1 ?_
 clear hSS
 refine aP 2 λK' hK=>?_;go_simp
 refine(KR.o _).mono ?_
 rintro e v1 ⟨rfl,c1⟩
 have b1:=aa b0 c1
 have hSS:=HS.o _ b1
 refine hK.nx ?_
 clear hK b0 c1
 clear hSS
 have B7:=(aa hb5 b1)
 have Z7:=HZ6.o.nextB B7 (by omega)
 obtain⟨y0,y1,y2,y3,y4⟩:=Z7.cells
 obtain⟨q0,q1,q2,q3,q4⟩:=Z7.froz
 obtain⟨⟨k0,k1,k2,k3,k4⟩,hF,hB⟩:=cA Z7 (HF.o _ (aa HB6.o B7)) (aa HB6.o B7) (Nat.le_refl _) (by omega)
 try dsimp only at k0 k1 k2 k3 k4 hF hB
 have HK:=zg k0 k1 k2 k3 k4 hF hB
 clear Z7 B7 k0 k1 k2 k3 k4 hF hB
 refine aP 3 λK' hK=>?_;go_simp
 refine hK.nx ?_
 clear hK
 refine aP 4 λK' hK=>?_;go_simp
 refine hK.nx ?_
 clear hK
 refine cT ?_
 go_wp2_with fail
 obtain⟨k0,k1,k2,k3,k4,hF,hB⟩:=HK.o
 refine bodyPost_ret (v:=.tuple #[.agg #[.int .i64 m.guest,.slice rA rn rc,.slice sA sn sc,.slice fA fn fc,.slice pA pn pc],.string (ofL (ia 1))]) ?_ rfl ⟨_,rfl,hF,hB⟩
 simp[results,results16,go_sem,k0,k1,k2,k3,k4]
theorem zL (s:ByteArray) (hs:s.size<=100000):Calls prog 16 #[ae m v,.string s] w (i8 (eY m (toL s)).1 (eY m (toL s)).2 w):=by
 rw[qf]
 cases hmo:(aR (toL s)).2.2 with
 |false=>
  rw[show jE m (toL s)=iR m (toL s)from by unfold jE;rw[hmo];rfl]
  unfold iR
  by_cases h0:toL s=[112,97,99,107]
  ·obtain rfl:=iS h0
   rw[if_pos h0]
   exact CY ho hm
  rw[if_neg h0]
  by_cases h1:toL s=[109,97,112]
  ·obtain rfl:=iS h1
   rw[if_pos h1]
   exact Dx ho hm
  rw[if_neg h1]
  by_cases h2:toL s=[117,115,101,100]
  ·obtain rfl:=iS h2
   rw[if_pos h2]
   exact CZ ho hm
  rw[if_neg h2]
  by_cases h3:toL s=[115,97,118,101]
  ·obtain rfl:=iS h3
   rw[if_pos h3]
   exact C0 ho hm
  rw[if_neg h3]
  exact Dz ho s hs hmo h0 h1 h2 h3
 |true=>
  obtain⟨a,b,hw⟩:∃a b,aR (toL s)=(a,b,true):=⟨_,_,by rw[<-hmo]⟩
  rw[show jE m (toL s)=mz m a b from by unfold jE;rw[hw];rfl]
  by_cases hr:a=[114,101,97,100]
  ·subst hr
   rw[show mz m [114,101,97,100] b=dt b (λn=>if aE m n=0 then .yes m (cC (toL (fC m n)))else .no (aE m n))from rfl]
   unfold dt
   cases hn:eD b with
   |none=>exact C3 ho s hs b hw hn
   |some n=>
    dsimp only
    by_cases hl:aE m n=0
    ·rw[if_pos hl];exact C4 ho hm s hs b hw n hn hl
    ·rw[if_neg hl];exact BZ ho s hs b hw n hn _ rfl hl (dR hm n)
  by_cases hx:a=[115,105,122,101]\/a=[119,105,112,101]\/a=[112,117,110,99,104]\/a=[119,114,105,116,101]\/a=[115,110,97,112]\/a=[98,97,99,107]\/a=[100,114,111,112]
  ·refine(Dy ho hm s hs a b hw _ rfl (by rcases hx with rfl|rfl|rfl|rfl|rfl|rfl|rfl<;>simp[ofL])).mono ?_
   rintro e w' ⟨z,er,hc,h⟩
   rw[hc]
   unfold bT
   by_cases h0:er=0
   ·rw[if_pos h0,if_pos h0]at h;rw[if_pos h0];exact h
   ·rw[if_neg h0,if_neg h0]at h;rw[if_neg h0];exact h
  ·simp only[not_or]at hx
   obtain⟨h1,h2,h3,h4,h5,h6,h7⟩:=hx
   rw[show mz m a b=.no 1 from by unfold mz;rw[if_neg h1,if_neg h2,if_neg h3,if_neg h5,if_neg h6,if_neg h7,if_neg hr,if_neg h4]]
   exact DB ho s hs a b hw hr h1 h2 h3 h4 h5 h6 h7
end
end Go.Proofs.YtdbneghfbkjinaaGreatDoor
