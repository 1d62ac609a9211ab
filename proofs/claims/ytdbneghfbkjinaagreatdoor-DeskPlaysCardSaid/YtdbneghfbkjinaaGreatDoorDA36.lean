/- Texts of the proof of deskPlays_holds: SnApi. Conditions: as each text says. -/
import Derived.Test.YtdbneghfbkjinaaGreatDoorDA1
import Derived.Test.YtdbneghfbkjinaaGreatDoorDA33
import Derived.Test.YtdbneghfbkjinaaGreatDoorDA34
import Derived.Test.YtdbneghfbkjinaaGreatDoorDA35
set_option maxRecDepth 100000
set_option maxHeartbeats 2000000
namespace Go.Proofs.YtdbneghfbkjinaaGreatDoor
open Go.Proofs.Tryz
open Go.RowKit Sl
theorem iV (base:Nat) (tg:Nat->Nat) (v:IV) (q:List SV) (p:List PV) (m:Img) (w:World) (h:OwnI w base tg v q p m) (hb:base<=w.heap.size) (hc:CBd m) (hw:Wired m):
  Calls prog 78 #[ae m v] w λe w'=>∃v' tg' q',e=.returned (.tuple #[ae (ap m) v',.int .i64 0])/\OwnI w' base tg' v' q' p (ap m)/\Below base w w':=by
 obtain⟨W0,hW,f1,f2,f4,f5⟩:=bd w m.guest v
 have E1:=BoxB.next (BoxB.new w #[.int .i64 m.guest,.slice v.rA v.rn v.rc,.slice v.sA v.sn v.sc,.slice v.fA v.fn v.fc,.slice v.pA v.pn v.pc]) (ac _ (.cells #[.int .i64 0,.slice none 0 0,.slice none 0 0,.slice none 0 0,.slice none 0 0] 34))
 rw[hW.o]at E1
 have K':=tG w.heap.size base tg v q p m _ (h.next f1) f2 E1 hb hc hw
 obtain⟨rA,rn,rc,sA,sn,sc,fA,fn,fc,pA,pn,pc⟩:=v
 dsimp only[ae]at K' f1 f2 f4 f5 E1 hW⊢
 have K:=zh K'
 clear K' h E1
 obtain⟨x0,x1,x2,x3,x4⟩:=f2
 dsimp only at x0 x1 x2 x3 x4
 go_enter func78,ntmps78
 go_wp2_with fail
 rw[hW.o]
 refine K.o.mono ?_
 rintro e W1 ⟨rfl,v4,tg4,q4,X4,I4,E4,hb4,hk4⟩
 have Z1:ZB W1 (w.heap.size+1):=⟨(hk4 (w.heap.size+1) (by omega) (by omega) ⟨_,_,f4.heap⟩).trans f4.heap⟩
 have h5:=dr Z1.box.1 Z1.box.2 m.guest v4
 have HI5:=zh (I4.kept h5.2.2 Z1.box.1.ty (by decide) (by decide) (by decide))
 have HB5:=zh (((f1.mono hb).trans hb4).grown h5.2.2 (by have:=f1.size;have:=hb4.size;omega) (λj e=>by injection e with e;omega))
 have HK:=zh h5.1
 obtain⟨b0,b1,b2,b3,b4⟩:=X4
 obtain⟨y0,y1,y2,y3,y4⟩:=Z1.cells
 obtain⟨q0,q1,q2,q3,q4⟩:=Z1.froz
 clear h5 x0 x1 x2 x3 x4 f1 f4 hb4 hk4 I4 E4 K
 go_wp2_with fail
 obtain⟨k0,k1,k2,k3,k4⟩:=HK.o
 refine bodyPost_ret (v:=.tuple #[ae (ap m) v4,.int .i64 0]) ?_ rfl ⟨v4,tg4,_,rfl,HI5.o,HB5.o⟩
 simp[results,results78,go_sem,k0,k1,k2,k3,k4]
 rfl
theorem zj (v:IV) (m:Img) (name:ByteArray) (w:World) (h:ImgR w w.heap.size v m) (he:ab m≠0):
  Calls prog 34 #[ae m v,.string name] w (aF w.heap.size aj (ab m) w):=by
 have KC':= λW (hb:Below w.heap.size w W)=>bq v m W (h.next hb)
 obtain⟨W0,hW,f1,f2,f4,f5⟩:=bd w m.guest v
 have lz:(ab m !=0)=true:=by simpa using he
 generalize ab m=er at*
 obtain⟨rA,rn,rc,sA,sn,sc,fA,fn,fc,pA,pn,pc⟩:=v
 dsimp only[ae]at KC' f1 f2 f4 f5 hW⊢
 have KC:=zh KC'
 clear KC'
 have HX:=zh f2
 obtain⟨x0,x1,x2,x3,x4⟩:=f2
 dsimp only at x0 x1 x2 x3 x4
 clear h he
 go_enter func34,ntmps34
 go_wp2_with fail
 rw[hW.o]
 have HL:Hid (w.heap.size<W0.heap.size):=zh (by omega)
 have HZ:=zh f4
 have HB:=zh f1
 have h2:W0.heap.size=w.heap.size+1+1:=f5
 clear f1 f4 f5
 refine(KC.o _ HB.o).mono ?_
 rintro e W1 ⟨rfl,hb⟩
 have HX':=zh (HX.o.keep hb HL.o)
 have HZ':=zh (HZ.o.next hb)
 have HB':=zh (aa HB.o hb)
 have HL':=zh (Nat.lt_of_lt_of_le HL.o hb.size)
 clear HX HZ HB HL x0 x1 x2 x3 x4 hb KC
 have HX:=HX'
 have HZ:=HZ'
 have HB:=HB'
 have HL:=HL'
 clear HX' HZ' HB' HL'
 obtain⟨x0,x1,x2,x3,x4⟩:=HX.o
 dsimp only at x0 x1 x2 x3 x4
 obtain⟨y0,y1,y2,y3,y4⟩:=HZ.o.cells
 obtain⟨q0,q1,q2,q3,q4⟩:=HZ.o.froz
 have O:=cA HZ.o (X:=aj) (v:=noV) (B:=w.heap.size) (.inl ⟨rfl,rfl⟩) HB.o (Nat.le_refl _) (by omega)
 dsimp only[aj,noV]at O
 obtain⟨⟨k0,k1,k2,k3,k4⟩,hF,hB⟩:=O
 have HK:=zg k0 k1 k2 k3 k4 hF hB
 clear k0 k1 k2 k3 k4 hF hB
 go_wp2_with fail
 obtain⟨k0,k1,k2,k3,k4,hF,hB⟩:=HK.o
 refine bodyPost_ret (v:=.tuple #[ae aj noV,.int .i64 er]) ?_ rfl ⟨noV,rfl,hF,hB⟩
 simp[results,results34,go_sem,ae,aj,noV,k0,k1,k2,k3,k4]
theorem zk (v:IV) (m:Img) (name:ByteArray) (w:World) (h:ImgR w w.heap.size v m) (he:ab m≠0):
  Calls prog 35 #[ae m v,.string name] w (aF w.heap.size aj (ab m) w):=by
 have KC':= λW (hb:Below w.heap.size w W)=>bq v m W (h.next hb)
 obtain⟨W0,hW,f1,f2,f4,f5⟩:=bd w m.guest v
 have lz:(ab m !=0)=true:=by simpa using he
 generalize ab m=er at*
 obtain⟨rA,rn,rc,sA,sn,sc,fA,fn,fc,pA,pn,pc⟩:=v
 dsimp only[ae]at KC' f1 f2 f4 f5 hW⊢
 have KC:=zh KC'
 clear KC'
 have HX:=zh f2
 obtain⟨x0,x1,x2,x3,x4⟩:=f2
 dsimp only at x0 x1 x2 x3 x4
 clear h he
 go_enter func35,ntmps35
 go_wp2_with fail
 rw[hW.o]
 have HL:Hid (w.heap.size<W0.heap.size):=zh (by omega)
 have HZ:=zh f4
 have HB:=zh f1
 have h2:W0.heap.size=w.heap.size+1+1:=f5
 clear f1 f4 f5
 refine(KC.o _ HB.o).mono ?_
 rintro e W1 ⟨rfl,hb⟩
 have HX':=zh (HX.o.keep hb HL.o)
 have HZ':=zh (HZ.o.next hb)
 have HB':=zh (aa HB.o hb)
 have HL':=zh (Nat.lt_of_lt_of_le HL.o hb.size)
 clear HX HZ HB HL x0 x1 x2 x3 x4 hb KC
 have HX:=HX'
 have HZ:=HZ'
 have HB:=HB'
 have HL:=HL'
 clear HX' HZ' HB' HL'
 obtain⟨x0,x1,x2,x3,x4⟩:=HX.o
 dsimp only at x0 x1 x2 x3 x4
 obtain⟨y0,y1,y2,y3,y4⟩:=HZ.o.cells
 obtain⟨q0,q1,q2,q3,q4⟩:=HZ.o.froz
 have O:=cA HZ.o (X:=aj) (v:=noV) (B:=w.heap.size) (.inl ⟨rfl,rfl⟩) HB.o (Nat.le_refl _) (by omega)
 dsimp only[aj,noV]at O
 obtain⟨⟨k0,k1,k2,k3,k4⟩,hF,hB⟩:=O
 have HK:=zg k0 k1 k2 k3 k4 hF hB
 clear k0 k1 k2 k3 k4 hF hB
 go_wp2_with fail
 obtain⟨k0,k1,k2,k3,k4,hF,hB⟩:=HK.o
 refine bodyPost_ret (v:=.tuple #[ae aj noV,.int .i64 er]) ?_ rfl ⟨noV,rfl,hF,hB⟩
 simp[results,results35,go_sem,ae,aj,noV,k0,k1,k2,k3,k4]
theorem zm (v:IV) (m:Img) (name:ByteArray) (w:World) (h:ImgR w w.heap.size v m) (he:ab m≠0):
  Calls prog 36 #[ae m v,.string name] w (aF w.heap.size aj (ab m) w):=by
 have KC':= λW (hb:Below w.heap.size w W)=>bq v m W (h.next hb)
 obtain⟨W0,hW,f1,f2,f4,f5⟩:=bd w m.guest v
 have lz:(ab m !=0)=true:=by simpa using he
 generalize ab m=er at*
 obtain⟨rA,rn,rc,sA,sn,sc,fA,fn,fc,pA,pn,pc⟩:=v
 dsimp only[ae]at KC' f1 f2 f4 f5 hW⊢
 have KC:=zh KC'
 clear KC'
 have HX:=zh f2
 obtain⟨x0,x1,x2,x3,x4⟩:=f2
 dsimp only at x0 x1 x2 x3 x4
 clear h he
 go_enter func36,ntmps36
 go_wp2_with fail
 rw[hW.o]
 have HL:Hid (w.heap.size<W0.heap.size):=zh (by omega)
 have HZ:=zh f4
 have HB:=zh f1
 have h2:W0.heap.size=w.heap.size+1+1:=f5
 clear f1 f4 f5
 refine(KC.o _ HB.o).mono ?_
 rintro e W1 ⟨rfl,hb⟩
 have HX':=zh (HX.o.keep hb HL.o)
 have HZ':=zh (HZ.o.next hb)
 have HB':=zh (aa HB.o hb)
 have HL':=zh (Nat.lt_of_lt_of_le HL.o hb.size)
 clear HX HZ HB HL x0 x1 x2 x3 x4 hb KC
 have HX:=HX'
 have HZ:=HZ'
 have HB:=HB'
 have HL:=HL'
 clear HX' HZ' HB' HL'
 obtain⟨x0,x1,x2,x3,x4⟩:=HX.o
 dsimp only at x0 x1 x2 x3 x4
 obtain⟨y0,y1,y2,y3,y4⟩:=HZ.o.cells
 obtain⟨q0,q1,q2,q3,q4⟩:=HZ.o.froz
 have O:=cA HZ.o (X:=aj) (v:=noV) (B:=w.heap.size) (.inl ⟨rfl,rfl⟩) HB.o (Nat.le_refl _) (by omega)
 dsimp only[aj,noV]at O
 obtain⟨⟨k0,k1,k2,k3,k4⟩,hF,hB⟩:=O
 have HK:=zg k0 k1 k2 k3 k4 hF hB
 clear k0 k1 k2 k3 k4 hF hB
 go_wp2_with fail
 obtain⟨k0,k1,k2,k3,k4,hF,hB⟩:=HK.o
 refine bodyPost_ret (v:=.tuple #[ae aj noV,.int .i64 er]) ?_ rfl ⟨noV,rfl,hF,hB⟩
 simp[results,results36,go_sem,ae,aj,noV,k0,k1,k2,k3,k4]
theorem tM (v:IV) (m:Img) (name:ByteArray) (w:World) (h:ImgR w w.heap.size v m) (he:ab m=0) (hn:m.snaps.any (named name)=false):
  Calls prog 35 #[ae m v,.string name] w (aF w.heap.size aj 5 w):=by
 have SS:=ay (aq he).1
 obtain⟨s1,s2,s3,s4,s5,S6⟩:=bB SS
 have KC':= λW (hb:Below w.heap.size w W)=>bq v m W (h.next hb)
 have KF':= λW (hb:Below w.heap.size w W)=>eC v m name W (h.next hb) S6 (by have:=h.plen;omega)
 obtain⟨W0,hW,f1,f2,f4,f5⟩:=bd w m.guest v
 rw[he]at KC'
 rw[hn]at KF'
 generalize ca m.snaps name=kk at*
 obtain⟨rA,rn,rc,sA,sn,sc,fA,fn,fc,pA,pn,pc⟩:=v
 dsimp only[ae]at KC' KF' f1 f2 f4 f5 hW⊢
 have KC:=zh KC'
 have KF:=zh KF'
 clear KC' KF'
 have HX:=zh f2
 obtain⟨x0,x1,x2,x3,x4⟩:=f2
 dsimp only at x0 x1 x2 x3 x4
 clear h he hn SS s1 s2 s3 s4 s5 S6
 go_enter func35,ntmps35
 go_wp2_with fail
 rw[hW.o]
 have HL:Hid (w.heap.size<W0.heap.size):=zh (by omega)
 have HZ:=zh f4
 have HB:=zh f1
 have h2:W0.heap.size=w.heap.size+1+1:=f5
 clear f1 f4 f5
 refine(KC.o _ HB.o).mono ?_
 rintro e W1 ⟨rfl,hb⟩
 have HX':=zh (HX.o.keep hb HL.o)
 have HZ':=zh (HZ.o.next hb)
 have HB':=zh (aa HB.o hb)
 have HL':=zh (Nat.lt_of_lt_of_le HL.o hb.size)
 clear HX HZ HB HL x0 x1 x2 x3 x4 hb KC
 have HX:=HX'
 have HZ:=HZ'
 have HB:=HB'
 have HL:=HL'
 clear HX' HZ' HB' HL'
 obtain⟨x0,x1,x2,x3,x4⟩:=HX.o
 dsimp only at x0 x1 x2 x3 x4
 go_wp2_with fail
 refine(KF.o _ HB.o).mono ?_
 rintro e W2 ⟨rfl,hb⟩
 have HX':=zh (HX.o.keep hb HL.o)
 have HZ':=zh (HZ.o.next hb)
 have HB':=zh (aa HB.o hb)
 have HL':=zh (Nat.lt_of_lt_of_le HL.o hb.size)
 clear HX HZ HB HL x0 x1 x2 x3 x4 hb KF
 have HX:=HX'
 have HZ:=HZ'
 have HB:=HB'
 have HL:=HL'
 clear HX' HZ' HB' HL'
 obtain⟨x0,x1,x2,x3,x4⟩:=HX.o
 dsimp only at x0 x1 x2 x3 x4
 obtain⟨y0,y1,y2,y3,y4⟩:=HZ.o.cells
 obtain⟨q0,q1,q2,q3,q4⟩:=HZ.o.froz
 have O:=cA HZ.o (X:=aj) (v:=noV) (B:=w.heap.size) (.inl ⟨rfl,rfl⟩) HB.o (Nat.le_refl _) (by omega)
 dsimp only[aj,noV]at O
 obtain⟨⟨k0,k1,k2,k3,k4⟩,hF,hB⟩:=O
 have HK:=zg k0 k1 k2 k3 k4 hF hB
 clear k0 k1 k2 k3 k4 hF hB
 go_wp2_with fail
 obtain⟨k0,k1,k2,k3,k4,hF,hB⟩:=HK.o
 refine bodyPost_ret (v:=.tuple #[ae aj noV,.int .i64 5]) ?_ rfl ⟨noV,rfl,hF,hB⟩
 simp[results,results35,go_sem,ae,aj,noV,k0,k1,k2,k3,k4]
theorem tN (v:IV) (m:Img) (name:ByteArray) (w:World) (h:ImgR w w.heap.size v m) (he:ab m=0) (hn:m.snaps.any (named name)=false):
  Calls prog 36 #[ae m v,.string name] w (aF w.heap.size aj 5 w):=by
 have SS:=ay (aq he).1
 obtain⟨s1,s2,s3,s4,s5,S6⟩:=bB SS
 have KC':= λW (hb:Below w.heap.size w W)=>bq v m W (h.next hb)
 have KF':= λW (hb:Below w.heap.size w W)=>eC v m name W (h.next hb) S6 (by have:=h.plen;omega)
 obtain⟨W0,hW,f1,f2,f4,f5⟩:=bd w m.guest v
 rw[he]at KC'
 rw[hn]at KF'
 generalize ca m.snaps name=kk at*
 obtain⟨rA,rn,rc,sA,sn,sc,fA,fn,fc,pA,pn,pc⟩:=v
 dsimp only[ae]at KC' KF' f1 f2 f4 f5 hW⊢
 have KC:=zh KC'
 have KF:=zh KF'
 clear KC' KF'
 have HX:=zh f2
 obtain⟨x0,x1,x2,x3,x4⟩:=f2
 dsimp only at x0 x1 x2 x3 x4
 clear h he hn SS s1 s2 s3 s4 s5 S6
 go_enter func36,ntmps36
 go_wp2_with fail
 rw[hW.o]
 have HL:Hid (w.heap.size<W0.heap.size):=zh (by omega)
 have HZ:=zh f4
 have HB:=zh f1
 have h2:W0.heap.size=w.heap.size+1+1:=f5
 clear f1 f4 f5
 refine(KC.o _ HB.o).mono ?_
 rintro e W1 ⟨rfl,hb⟩
 have HX':=zh (HX.o.keep hb HL.o)
 have HZ':=zh (HZ.o.next hb)
 have HB':=zh (aa HB.o hb)
 have HL':=zh (Nat.lt_of_lt_of_le HL.o hb.size)
 clear HX HZ HB HL x0 x1 x2 x3 x4 hb KC
 have HX:=HX'
 have HZ:=HZ'
 have HB:=HB'
 have HL:=HL'
 clear HX' HZ' HB' HL'
 obtain⟨x0,x1,x2,x3,x4⟩:=HX.o
 dsimp only at x0 x1 x2 x3 x4
 go_wp2_with fail
 refine(KF.o _ HB.o).mono ?_
 rintro e W2 ⟨rfl,hb⟩
 have HX':=zh (HX.o.keep hb HL.o)
 have HZ':=zh (HZ.o.next hb)
 have HB':=zh (aa HB.o hb)
 have HL':=zh (Nat.lt_of_lt_of_le HL.o hb.size)
 clear HX HZ HB HL x0 x1 x2 x3 x4 hb KF
 have HX:=HX'
 have HZ:=HZ'
 have HB:=HB'
 have HL:=HL'
 clear HX' HZ' HB' HL'
 obtain⟨x0,x1,x2,x3,x4⟩:=HX.o
 dsimp only at x0 x1 x2 x3 x4
 obtain⟨y0,y1,y2,y3,y4⟩:=HZ.o.cells
 obtain⟨q0,q1,q2,q3,q4⟩:=HZ.o.froz
 have O:=cA HZ.o (X:=aj) (v:=noV) (B:=w.heap.size) (.inl ⟨rfl,rfl⟩) HB.o (Nat.le_refl _) (by omega)
 dsimp only[aj,noV]at O
 obtain⟨⟨k0,k1,k2,k3,k4⟩,hF,hB⟩:=O
 have HK:=zg k0 k1 k2 k3 k4 hF hB
 clear k0 k1 k2 k3 k4 hF hB
 go_wp2_with fail
 obtain⟨k0,k1,k2,k3,k4,hF,hB⟩:=HK.o
 refine bodyPost_ret (v:=.tuple #[ae aj noV,.int .i64 5]) ?_ rfl ⟨noV,rfl,hF,hB⟩
 simp[results,results36,go_sem,ae,aj,noV,k0,k1,k2,k3,k4]
theorem tO (v:IV) (m:Img) (name:ByteArray) (w:World) (h:ImgR w w.heap.size v m) (he:ab m=0) (hsz:name.size<=4611686018427387903) (hn:bj name=false):
  Calls prog 34 #[ae m v,.string name] w (aF w.heap.size aj 4 w):=by
 have SS:=ay (aq he).1
 obtain⟨s1,s2,s3,s4,s5,S6⟩:=bB SS
 have KC':= λW (hb:Below w.heap.size w W)=>bq v m W (h.next hb)
 have KF':= λW (hb:Below w.heap.size w W)=>eC v m name W (h.next hb) S6 (by have:=h.plen;omega)
 have KN':= λW (_:Below w.heap.size w W)=>jr name W hsz
 obtain⟨W0,hW,f1,f2,f4,f5⟩:=bd w m.guest v
 rw[he]at KC'
 rw[hn]at KN'
 generalize ca m.snaps name=kk at*
 generalize m.snaps.any (named name)=rb at*
 obtain⟨rA,rn,rc,sA,sn,sc,fA,fn,fc,pA,pn,pc⟩:=v
 dsimp only[ae]at KC' KF' KN' f1 f2 f4 f5 hW⊢
 have KC:=zh KC'
 have KF:=zh KF'
 have KN:=zh KN'
 clear KC' KF' KN'
 have HX:=zh f2
 obtain⟨x0,x1,x2,x3,x4⟩:=f2
 dsimp only at x0 x1 x2 x3 x4
 clear h he hn SS s1 s2 s3 s4 s5 S6 hsz
 go_enter func34,ntmps34
 go_wp2_with fail
 rw[hW.o]
 have HL:Hid (w.heap.size<W0.heap.size):=zh (by omega)
 have HZ:=zh f4
 have HB:=zh f1
 have h2:W0.heap.size=w.heap.size+1+1:=f5
 clear f1 f4 f5
 refine(KC.o _ HB.o).mono ?_
 rintro e W1 ⟨rfl,hb⟩
 have HX':=zh (HX.o.keep hb HL.o)
 have HZ':=zh (HZ.o.next hb)
 have HB':=zh (aa HB.o hb)
 have HL':=zh (Nat.lt_of_lt_of_le HL.o hb.size)
 clear HX HZ HB HL x0 x1 x2 x3 x4 hb KC
 have HX:=HX'
 have HZ:=HZ'
 have HB:=HB'
 have HL:=HL'
 clear HX' HZ' HB' HL'
 obtain⟨x0,x1,x2,x3,x4⟩:=HX.o
 dsimp only at x0 x1 x2 x3 x4
 go_wp2_with fail
 refine(KF.o _ HB.o).mono ?_
 rintro e W2 ⟨rfl,hb⟩
 have HX':=zh (HX.o.keep hb HL.o)
 have HZ':=zh (HZ.o.next hb)
 have HB':=zh (aa HB.o hb)
 have HL':=zh (Nat.lt_of_lt_of_le HL.o hb.size)
 clear HX HZ HB HL x0 x1 x2 x3 x4 hb KF
 have HX:=HX'
 have HZ:=HZ'
 have HB:=HB'
 have HL:=HL'
 clear HX' HZ' HB' HL'
 obtain⟨x0,x1,x2,x3,x4⟩:=HX.o
 dsimp only at x0 x1 x2 x3 x4
 go_wp2_with fail
 refine(KN.o _ HB.o).mono ?_
 rintro e W3 ⟨rfl,hb⟩
 have HX':=zh (HX.o.keep hb HL.o)
 have HZ':=zh (HZ.o.next hb)
 have HB':=zh (aa HB.o hb)
 have HL':=zh (Nat.lt_of_lt_of_le HL.o hb.size)
 clear HX HZ HB HL x0 x1 x2 x3 x4 hb KN
 have HX:=HX'
 have HZ:=HZ'
 have HB:=HB'
 have HL:=HL'
 clear HX' HZ' HB' HL'
 obtain⟨x0,x1,x2,x3,x4⟩:=HX.o
 dsimp only at x0 x1 x2 x3 x4
 obtain⟨y0,y1,y2,y3,y4⟩:=HZ.o.cells
 obtain⟨q0,q1,q2,q3,q4⟩:=HZ.o.froz
 have O:=cA HZ.o (X:=aj) (v:=noV) (B:=w.heap.size) (.inl ⟨rfl,rfl⟩) HB.o (Nat.le_refl _) (by omega)
 dsimp only[aj,noV]at O
 obtain⟨⟨k0,k1,k2,k3,k4⟩,hF,hB⟩:=O
 have HK:=zg k0 k1 k2 k3 k4 hF hB
 clear k0 k1 k2 k3 k4 hF hB
 go_wp2_with fail
 obtain⟨k0,k1,k2,k3,k4,hF,hB⟩:=HK.o
 refine bodyPost_ret (v:=.tuple #[ae aj noV,.int .i64 4]) ?_ rfl ⟨noV,rfl,hF,hB⟩
 simp[results,results34,go_sem,ae,aj,noV,k0,k1,k2,k3,k4]
theorem rr (v:IV) (m:Img) (name:ByteArray) (w:World) (h:ImgR w w.heap.size v m) (he:ab m=0) (hsz:name.size<=4611686018427387903) (hn:bj name=true) (ha:m.snaps.any (named name)=true):
  Calls prog 34 #[ae m v,.string name] w (aF w.heap.size aj 6 w):=by
 have SS:=ay (aq he).1
 obtain⟨s1,s2,s3,s4,s5,S6⟩:=bB SS
 have KC':= λW (hb:Below w.heap.size w W)=>bq v m W (h.next hb)
 have KF':= λW (hb:Below w.heap.size w W)=>eC v m name W (h.next hb) S6 (by have:=h.plen;omega)
 have KN':= λW (_:Below w.heap.size w W)=>jr name W hsz
 obtain⟨W0,hW,f1,f2,f4,f5⟩:=bd w m.guest v
 rw[he]at KC'
 rw[hn]at KN'
 rw[ha]at KF'
 generalize ca m.snaps name=kk at*
 obtain⟨rA,rn,rc,sA,sn,sc,fA,fn,fc,pA,pn,pc⟩:=v
 dsimp only[ae]at KC' KF' KN' f1 f2 f4 f5 hW⊢
 have KC:=zh KC'
 have KF:=zh KF'
 have KN:=zh KN'
 clear KC' KF' KN'
 have HX:=zh f2
 obtain⟨x0,x1,x2,x3,x4⟩:=f2
 dsimp only at x0 x1 x2 x3 x4
 clear h he hn ha SS s1 s2 s3 s4 s5 S6 hsz
 go_enter func34,ntmps34
 go_wp2_with fail
 rw[hW.o]
 have HL:Hid (w.heap.size<W0.heap.size):=zh (by omega)
 have HZ:=zh f4
 have HB:=zh f1
 have h2:W0.heap.size=w.heap.size+1+1:=f5
 clear f1 f4 f5
 refine(KC.o _ HB.o).mono ?_
 rintro e W1 ⟨rfl,hb⟩
 have HX':=zh (HX.o.keep hb HL.o)
 have HZ':=zh (HZ.o.next hb)
 have HB':=zh (aa HB.o hb)
 have HL':=zh (Nat.lt_of_lt_of_le HL.o hb.size)
 clear HX HZ HB HL x0 x1 x2 x3 x4 hb KC
 have HX:=HX'
 have HZ:=HZ'
 have HB:=HB'
 have HL:=HL'
 clear HX' HZ' HB' HL'
 obtain⟨x0,x1,x2,x3,x4⟩:=HX.o
 dsimp only at x0 x1 x2 x3 x4
 go_wp2_with fail
 refine(KF.o _ HB.o).mono ?_
 rintro e W2 ⟨rfl,hb⟩
 have HX':=zh (HX.o.keep hb HL.o)
 have HZ':=zh (HZ.o.next hb)
 have HB':=zh (aa HB.o hb)
 have HL':=zh (Nat.lt_of_lt_of_le HL.o hb.size)
 clear HX HZ HB HL x0 x1 x2 x3 x4 hb KF
 have HX:=HX'
 have HZ:=HZ'
 have HB:=HB'
 have HL:=HL'
 clear HX' HZ' HB' HL'
 obtain⟨x0,x1,x2,x3,x4⟩:=HX.o
 dsimp only at x0 x1 x2 x3 x4
 go_wp2_with fail
 refine(KN.o _ HB.o).mono ?_
 rintro e W3 ⟨rfl,hb⟩
 have HX':=zh (HX.o.keep hb HL.o)
 have HZ':=zh (HZ.o.next hb)
 have HB':=zh (aa HB.o hb)
 have HL':=zh (Nat.lt_of_lt_of_le HL.o hb.size)
 clear HX HZ HB HL x0 x1 x2 x3 x4 hb KN
 have HX:=HX'
 have HZ:=HZ'
 have HB:=HB'
 have HL:=HL'
 clear HX' HZ' HB' HL'
 obtain⟨x0,x1,x2,x3,x4⟩:=HX.o
 dsimp only at x0 x1 x2 x3 x4
 obtain⟨y0,y1,y2,y3,y4⟩:=HZ.o.cells
 obtain⟨q0,q1,q2,q3,q4⟩:=HZ.o.froz
 have O:=cA HZ.o (X:=aj) (v:=noV) (B:=w.heap.size) (.inl ⟨rfl,rfl⟩) HB.o (Nat.le_refl _) (by omega)
 dsimp only[aj,noV]at O
 obtain⟨⟨k0,k1,k2,k3,k4⟩,hF,hB⟩:=O
 have HK:=zg k0 k1 k2 k3 k4 hF hB
 clear k0 k1 k2 k3 k4 hF hB
 go_wp2_with fail
 obtain⟨k0,k1,k2,k3,k4,hF,hB⟩:=HK.o
 refine bodyPost_ret (v:=.tuple #[ae aj noV,.int .i64 6]) ?_ rfl ⟨noV,rfl,hF,hB⟩
 simp[results,results34,go_sem,ae,aj,noV,k0,k1,k2,k3,k4]
theorem tP (v:IV) (m:Img) (name:ByteArray) (w:World) (h:ImgR w w.heap.size v m) (he:ab m=0) (hsz:name.size<=4611686018427387903) (hn:bj name=true) (ha:m.snaps.any (named name)=false) (h3:m.snaps.length=3):
  Calls prog 34 #[ae m v,.string name] w (aF w.heap.size aj 2 w):=by
 have SS:=ay (aq he).1
 obtain⟨s1,s2,s3,s4,s5,S6⟩:=bB SS
 have hp3:v.pn=3:=by have:=h.plen;omega
 have KC':= λW (hb:Below w.heap.size w W)=>bq v m W (h.next hb)
 have KF':= λW (hb:Below w.heap.size w W)=>eC v m name W (h.next hb) S6 (by have:=h.plen;omega)
 have KN':= λW (_:Below w.heap.size w W)=>jr name W hsz
 obtain⟨W0,hW,f1,f2,f4,f5⟩:=bd w m.guest v
 rw[he]at KC'
 rw[hn]at KN'
 rw[ha]at KF'
 generalize ca m.snaps name=kk at*
 obtain⟨rA,rn,rc,sA,sn,sc,fA,fn,fc,pA,pn,pc⟩:=v
 dsimp only[ae]at KC' KF' KN' f1 f2 f4 f5 hW⊢
 have KC:=zh KC'
 have KF:=zh KF'
 have KN:=zh KN'
 clear KC' KF' KN'
 have HX:=zh f2
 obtain⟨x0,x1,x2,x3,x4⟩:=f2
 dsimp only at x0 x1 x2 x3 x4
 dsimp only at hp3
 subst hp3
 clear h he hn ha h3 SS s1 s2 s3 s4 s5 S6 hsz
 go_enter func34,ntmps34
 go_wp2_with fail
 rw[hW.o]
 have HL:Hid (w.heap.size<W0.heap.size):=zh (by omega)
 have HZ:=zh f4
 have HB:=zh f1
 have h2:W0.heap.size=w.heap.size+1+1:=f5
 clear f1 f4 f5
 refine(KC.o _ HB.o).mono ?_
 rintro e W1 ⟨rfl,hb⟩
 have HX':=zh (HX.o.keep hb HL.o)
 have HZ':=zh (HZ.o.next hb)
 have HB':=zh (aa HB.o hb)
 have HL':=zh (Nat.lt_of_lt_of_le HL.o hb.size)
 clear HX HZ HB HL x0 x1 x2 x3 x4 hb KC
 have HX:=HX'
 have HZ:=HZ'
 have HB:=HB'
 have HL:=HL'
 clear HX' HZ' HB' HL'
 obtain⟨x0,x1,x2,x3,x4⟩:=HX.o
 dsimp only at x0 x1 x2 x3 x4
 go_wp2_with fail
 refine(KF.o _ HB.o).mono ?_
 rintro e W2 ⟨rfl,hb⟩
 have HX':=zh (HX.o.keep hb HL.o)
 have HZ':=zh (HZ.o.next hb)
 have HB':=zh (aa HB.o hb)
 have HL':=zh (Nat.lt_of_lt_of_le HL.o hb.size)
 clear HX HZ HB HL x0 x1 x2 x3 x4 hb KF
 have HX:=HX'
 have HZ:=HZ'
 have HB:=HB'
 have HL:=HL'
 clear HX' HZ' HB' HL'
 obtain⟨x0,x1,x2,x3,x4⟩:=HX.o
 dsimp only at x0 x1 x2 x3 x4
 go_wp2_with fail
 refine(KN.o _ HB.o).mono ?_
 rintro e W3 ⟨rfl,hb⟩
 have HX':=zh (HX.o.keep hb HL.o)
 have HZ':=zh (HZ.o.next hb)
 have HB':=zh (aa HB.o hb)
 have HL':=zh (Nat.lt_of_lt_of_le HL.o hb.size)
 clear HX HZ HB HL x0 x1 x2 x3 x4 hb KN
 have HX:=HX'
 have HZ:=HZ'
 have HB:=HB'
 have HL:=HL'
 clear HX' HZ' HB' HL'
 obtain⟨x0,x1,x2,x3,x4⟩:=HX.o
 dsimp only at x0 x1 x2 x3 x4
 obtain⟨y0,y1,y2,y3,y4⟩:=HZ.o.cells
 obtain⟨q0,q1,q2,q3,q4⟩:=HZ.o.froz
 have O:=cA HZ.o (X:=aj) (v:=noV) (B:=w.heap.size) (.inl ⟨rfl,rfl⟩) HB.o (Nat.le_refl _) (by omega)
 dsimp only[aj,noV]at O
 obtain⟨⟨k0,k1,k2,k3,k4⟩,hF,hB⟩:=O
 have HK:=zg k0 k1 k2 k3 k4 hF hB
 clear k0 k1 k2 k3 k4 hF hB
 go_wp2_with fail
 obtain⟨k0,k1,k2,k3,k4,hF,hB⟩:=HK.o
 refine bodyPost_ret (v:=.tuple #[ae aj noV,.int .i64 2]) ?_ rfl ⟨noV,rfl,hF,hB⟩
 simp[results,results34,go_sem,ae,aj,noV,k0,k1,k2,k3,k4]
end Go.Proofs.YtdbneghfbkjinaaGreatDoor
