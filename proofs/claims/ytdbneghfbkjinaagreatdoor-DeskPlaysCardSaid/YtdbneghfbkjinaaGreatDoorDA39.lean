/- Texts of the proof of deskPlays_holds: RSnApi. Conditions: as each text says. -/
import Derived.Test.YtdbneghfbkjinaaGreatDoorDA1
import Derived.Test.YtdbneghfbkjinaaGreatDoorDA36
import Derived.Test.YtdbneghfbkjinaaGreatDoorDA38
set_option maxRecDepth 100000
set_option maxHeartbeats 2000000
namespace Go.Proofs.YtdbneghfbkjinaaGreatDoor
open Go.Proofs.Tryz
open Go.RowKit Sl
theorem vX (v:IV) (m:Img) (name:ByteArray) (w:World) (h:ImgR w w.heap.size v m) (he:ab m≠0):
  Calls prog 91 #[ae m v,.string name] w (aF w.heap.size aj (ab m) w):=by
 have KC':= λW (hb:Below w.heap.size w W)=>bg v m W (h.next hb)
 obtain⟨W0,hW,f1,f2,f4,f5⟩:=bd w m.guest v
 have lz:(ab m !=0)=true:=by simpa using he
 generalize ab m=er at*
 obtain⟨rA,rn,rc,sA,sn,sc,fA,fn,fc,pA,pn,pc⟩:=v
 dsimp only[ae]at KC' f1 f2 f4 f5 hW⊢
 have KC:=zh KC'
 clear KC'
 have HX:=zh f2
 obtain⟨x0,x1,x2,x3,x4⟩:=f2
 dsimp only at x0 x1 x2 x3 x4
 clear h he
 go_enter func91,ntmps91
 go_wp2_with fail
 rw[hW.o]
 have HL:Hid (w.heap.size<W0.heap.size):=zh (by omega)
 have HZ:=zh f4
 have HB:=zh f1
 have h2:W0.heap.size=w.heap.size+1+1:=f5
 clear f1 f4 f5
 refine(KC.o _ HB.o).mono ?_
 rintro e W1 ⟨rfl,hb⟩
 have HX':=zh (HX.o.keep hb HL.o)
 have HZ':=zh (HZ.o.next hb)
 have HB':=zh (aa HB.o hb)
 have HL':=zh (Nat.lt_of_lt_of_le HL.o hb.size)
 clear HX HZ HB HL x0 x1 x2 x3 x4 hb KC
 have HX:=HX'
 have HZ:=HZ'
 have HB:=HB'
 have HL:=HL'
 clear HX' HZ' HB' HL'
 obtain⟨x0,x1,x2,x3,x4⟩:=HX.o
 dsimp only at x0 x1 x2 x3 x4
 obtain⟨y0,y1,y2,y3,y4⟩:=HZ.o.cells
 obtain⟨q0,q1,q2,q3,q4⟩:=HZ.o.froz
 have O:=cA HZ.o (X:=aj) (v:=noV) (B:=w.heap.size) (.inl ⟨rfl,rfl⟩) HB.o (Nat.le_refl _) (by omega)
 dsimp only[aj,noV]at O
 obtain⟨⟨k0,k1,k2,k3,k4⟩,hF,hB⟩:=O
 have HK:=zg k0 k1 k2 k3 k4 hF hB
 clear k0 k1 k2 k3 k4 hF hB
 go_wp2_with fail
 obtain⟨k0,k1,k2,k3,k4,hF,hB⟩:=HK.o
 refine bodyPost_ret (v:=.tuple #[ae aj noV,.int .i64 er]) ?_ rfl ⟨noV,rfl,hF,hB⟩
 simp[results,results91,go_sem,ae,aj,noV,k0,k1,k2,k3,k4]
theorem vY (v:IV) (m:Img) (name:ByteArray) (w:World) (h:ImgR w w.heap.size v m) (he:ab m≠0):
  Calls prog 92 #[ae m v,.string name] w (aF w.heap.size aj (ab m) w):=by
 have KC':= λW (hb:Below w.heap.size w W)=>bg v m W (h.next hb)
 obtain⟨W0,hW,f1,f2,f4,f5⟩:=bd w m.guest v
 have lz:(ab m !=0)=true:=by simpa using he
 generalize ab m=er at*
 obtain⟨rA,rn,rc,sA,sn,sc,fA,fn,fc,pA,pn,pc⟩:=v
 dsimp only[ae]at KC' f1 f2 f4 f5 hW⊢
 have KC:=zh KC'
 clear KC'
 have HX:=zh f2
 obtain⟨x0,x1,x2,x3,x4⟩:=f2
 dsimp only at x0 x1 x2 x3 x4
 clear h he
 go_enter func92,ntmps92
 go_wp2_with fail
 rw[hW.o]
 have HL:Hid (w.heap.size<W0.heap.size):=zh (by omega)
 have HZ:=zh f4
 have HB:=zh f1
 have h2:W0.heap.size=w.heap.size+1+1:=f5
 clear f1 f4 f5
 refine(KC.o _ HB.o).mono ?_
 rintro e W1 ⟨rfl,hb⟩
 have HX':=zh (HX.o.keep hb HL.o)
 have HZ':=zh (HZ.o.next hb)
 have HB':=zh (aa HB.o hb)
 have HL':=zh (Nat.lt_of_lt_of_le HL.o hb.size)
 clear HX HZ HB HL x0 x1 x2 x3 x4 hb KC
 have HX:=HX'
 have HZ:=HZ'
 have HB:=HB'
 have HL:=HL'
 clear HX' HZ' HB' HL'
 obtain⟨x0,x1,x2,x3,x4⟩:=HX.o
 dsimp only at x0 x1 x2 x3 x4
 obtain⟨y0,y1,y2,y3,y4⟩:=HZ.o.cells
 obtain⟨q0,q1,q2,q3,q4⟩:=HZ.o.froz
 have O:=cA HZ.o (X:=aj) (v:=noV) (B:=w.heap.size) (.inl ⟨rfl,rfl⟩) HB.o (Nat.le_refl _) (by omega)
 dsimp only[aj,noV]at O
 obtain⟨⟨k0,k1,k2,k3,k4⟩,hF,hB⟩:=O
 have HK:=zg k0 k1 k2 k3 k4 hF hB
 clear k0 k1 k2 k3 k4 hF hB
 go_wp2_with fail
 obtain⟨k0,k1,k2,k3,k4,hF,hB⟩:=HK.o
 refine bodyPost_ret (v:=.tuple #[ae aj noV,.int .i64 er]) ?_ rfl ⟨noV,rfl,hF,hB⟩
 simp[results,results92,go_sem,ae,aj,noV,k0,k1,k2,k3,k4]
theorem vZ (v:IV) (m:Img) (name:ByteArray) (w:World) (h:ImgR w w.heap.size v m) (he:ab m≠0):
  Calls prog 93 #[ae m v,.string name] w (aF w.heap.size aj (ab m) w):=by
 have KC':= λW (hb:Below w.heap.size w W)=>bg v m W (h.next hb)
 obtain⟨W0,hW,f1,f2,f4,f5⟩:=bd w m.guest v
 have lz:(ab m !=0)=true:=by simpa using he
 generalize ab m=er at*
 obtain⟨rA,rn,rc,sA,sn,sc,fA,fn,fc,pA,pn,pc⟩:=v
 dsimp only[ae]at KC' f1 f2 f4 f5 hW⊢
 have KC:=zh KC'
 clear KC'
 have HX:=zh f2
 obtain⟨x0,x1,x2,x3,x4⟩:=f2
 dsimp only at x0 x1 x2 x3 x4
 clear h he
 go_enter func93,ntmps93
 go_wp2_with fail
 rw[hW.o]
 have HL:Hid (w.heap.size<W0.heap.size):=zh (by omega)
 have HZ:=zh f4
 have HB:=zh f1
 have h2:W0.heap.size=w.heap.size+1+1:=f5
 clear f1 f4 f5
 refine(KC.o _ HB.o).mono ?_
 rintro e W1 ⟨rfl,hb⟩
 have HX':=zh (HX.o.keep hb HL.o)
 have HZ':=zh (HZ.o.next hb)
 have HB':=zh (aa HB.o hb)
 have HL':=zh (Nat.lt_of_lt_of_le HL.o hb.size)
 clear HX HZ HB HL x0 x1 x2 x3 x4 hb KC
 have HX:=HX'
 have HZ:=HZ'
 have HB:=HB'
 have HL:=HL'
 clear HX' HZ' HB' HL'
 obtain⟨x0,x1,x2,x3,x4⟩:=HX.o
 dsimp only at x0 x1 x2 x3 x4
 obtain⟨y0,y1,y2,y3,y4⟩:=HZ.o.cells
 obtain⟨q0,q1,q2,q3,q4⟩:=HZ.o.froz
 have O:=cA HZ.o (X:=aj) (v:=noV) (B:=w.heap.size) (.inl ⟨rfl,rfl⟩) HB.o (Nat.le_refl _) (by omega)
 dsimp only[aj,noV]at O
 obtain⟨⟨k0,k1,k2,k3,k4⟩,hF,hB⟩:=O
 have HK:=zg k0 k1 k2 k3 k4 hF hB
 clear k0 k1 k2 k3 k4 hF hB
 go_wp2_with fail
 obtain⟨k0,k1,k2,k3,k4,hF,hB⟩:=HK.o
 refine bodyPost_ret (v:=.tuple #[ae aj noV,.int .i64 er]) ?_ rfl ⟨noV,rfl,hF,hB⟩
 simp[results,results93,go_sem,ae,aj,noV,k0,k1,k2,k3,k4]
theorem ru (v:IV) (m:Img) (name:ByteArray) (w:World) (h:ImgR w w.heap.size v m) (he:ab m=0) (hn:m.snaps.any (named name)=false):
  Calls prog 92 #[ae m v,.string name] w (aF w.heap.size aj 5 w):=by
 have KC':= λW (hb:Below w.heap.size w W)=>bg v m W (h.next hb)
 have KS':= λW (hb:Below w.heap.size w W)=>dL v m name W (h.next hb)
 obtain⟨W0,hW,f1,f2,f4,f5⟩:=bd w m.guest v
 rw[he]at KC'
 rw[(ic he hn).2.2]at KS'
 obtain⟨rA,rn,rc,sA,sn,sc,fA,fn,fc,pA,pn,pc⟩:=v
 dsimp only[ae]at KC' KS' f1 f2 f4 f5 hW⊢
 have KC:=zh KC'
 have KS:=zh KS'
 clear KC' KS'
 have HX:=zh f2
 obtain⟨x0,x1,x2,x3,x4⟩:=f2
 dsimp only at x0 x1 x2 x3 x4
 clear h he hn
 go_enter func92,ntmps92
 go_wp2_with fail
 rw[hW.o]
 have HL:Hid (w.heap.size<W0.heap.size):=zh (by omega)
 have HZ:=zh f4
 have HB:=zh f1
 have h2:W0.heap.size=w.heap.size+1+1:=f5
 clear f1 f4 f5
 refine(KC.o _ HB.o).mono ?_
 rintro e W1 ⟨rfl,hb⟩
 have HX':=zh (HX.o.keep hb HL.o)
 have HZ':=zh (HZ.o.next hb)
 have HB':=zh (aa HB.o hb)
 have HL':=zh (Nat.lt_of_lt_of_le HL.o hb.size)
 clear HX HZ HB HL x0 x1 x2 x3 x4 hb KC
 have HX:=HX'
 have HZ:=HZ'
 have HB:=HB'
 have HL:=HL'
 clear HX' HZ' HB' HL'
 obtain⟨x0,x1,x2,x3,x4⟩:=HX.o
 dsimp only at x0 x1 x2 x3 x4
 go_wp2_with fail
 refine(KS.o _ HB.o).mono ?_
 rintro e W2 ⟨rfl,hb⟩
 have HX':=zh (HX.o.keep hb HL.o)
 have HZ':=zh (HZ.o.next hb)
 have HB':=zh (aa HB.o hb)
 have HL':=zh (Nat.lt_of_lt_of_le HL.o hb.size)
 clear HX HZ HB HL x0 x1 x2 x3 x4 hb KS
 have HX:=HX'
 have HZ:=HZ'
 have HB:=HB'
 have HL:=HL'
 clear HX' HZ' HB' HL'
 obtain⟨x0,x1,x2,x3,x4⟩:=HX.o
 dsimp only at x0 x1 x2 x3 x4
 obtain⟨y0,y1,y2,y3,y4⟩:=HZ.o.cells
 obtain⟨q0,q1,q2,q3,q4⟩:=HZ.o.froz
 have O:=cA HZ.o (X:=aj) (v:=noV) (B:=w.heap.size) (.inl ⟨rfl,rfl⟩) HB.o (Nat.le_refl _) (by omega)
 dsimp only[aj,noV]at O
 obtain⟨⟨k0,k1,k2,k3,k4⟩,hF,hB⟩:=O
 have HK:=zg k0 k1 k2 k3 k4 hF hB
 clear k0 k1 k2 k3 k4 hF hB
 go_wp2_with fail
 obtain⟨k0,k1,k2,k3,k4,hF,hB⟩:=HK.o
 refine bodyPost_ret (v:=.tuple #[ae aj noV,.int .i64 5]) ?_ rfl ⟨noV,rfl,hF,hB⟩
 simp[results,results92,go_sem,ae,aj,noV,k0,k1,k2,k3,k4]
theorem rv (v:IV) (m:Img) (name:ByteArray) (w:World) (h:ImgR w w.heap.size v m) (he:ab m=0) (hn:m.snaps.any (named name)=false):
  Calls prog 93 #[ae m v,.string name] w (aF w.heap.size aj 5 w):=by
 have KC':= λW (hb:Below w.heap.size w W)=>bg v m W (h.next hb)
 have KS':= λW (hb:Below w.heap.size w W)=>dL v m name W (h.next hb)
 obtain⟨W0,hW,f1,f2,f4,f5⟩:=bd w m.guest v
 rw[he]at KC'
 rw[(ic he hn).2.2]at KS'
 obtain⟨rA,rn,rc,sA,sn,sc,fA,fn,fc,pA,pn,pc⟩:=v
 dsimp only[ae]at KC' KS' f1 f2 f4 f5 hW⊢
 have KC:=zh KC'
 have KS:=zh KS'
 clear KC' KS'
 have HX:=zh f2
 obtain⟨x0,x1,x2,x3,x4⟩:=f2
 dsimp only at x0 x1 x2 x3 x4
 clear h he hn
 go_enter func93,ntmps93
 go_wp2_with fail
 rw[hW.o]
 have HL:Hid (w.heap.size<W0.heap.size):=zh (by omega)
 have HZ:=zh f4
 have HB:=zh f1
 have h2:W0.heap.size=w.heap.size+1+1:=f5
 clear f1 f4 f5
 refine(KC.o _ HB.o).mono ?_
 rintro e W1 ⟨rfl,hb⟩
 have HX':=zh (HX.o.keep hb HL.o)
 have HZ':=zh (HZ.o.next hb)
 have HB':=zh (aa HB.o hb)
 have HL':=zh (Nat.lt_of_lt_of_le HL.o hb.size)
 clear HX HZ HB HL x0 x1 x2 x3 x4 hb KC
 have HX:=HX'
 have HZ:=HZ'
 have HB:=HB'
 have HL:=HL'
 clear HX' HZ' HB' HL'
 obtain⟨x0,x1,x2,x3,x4⟩:=HX.o
 dsimp only at x0 x1 x2 x3 x4
 go_wp2_with fail
 refine(KS.o _ HB.o).mono ?_
 rintro e W2 ⟨rfl,hb⟩
 have HX':=zh (HX.o.keep hb HL.o)
 have HZ':=zh (HZ.o.next hb)
 have HB':=zh (aa HB.o hb)
 have HL':=zh (Nat.lt_of_lt_of_le HL.o hb.size)
 clear HX HZ HB HL x0 x1 x2 x3 x4 hb KS
 have HX:=HX'
 have HZ:=HZ'
 have HB:=HB'
 have HL:=HL'
 clear HX' HZ' HB' HL'
 obtain⟨x0,x1,x2,x3,x4⟩:=HX.o
 dsimp only at x0 x1 x2 x3 x4
 obtain⟨y0,y1,y2,y3,y4⟩:=HZ.o.cells
 obtain⟨q0,q1,q2,q3,q4⟩:=HZ.o.froz
 have O:=cA HZ.o (X:=aj) (v:=noV) (B:=w.heap.size) (.inl ⟨rfl,rfl⟩) HB.o (Nat.le_refl _) (by omega)
 dsimp only[aj,noV]at O
 obtain⟨⟨k0,k1,k2,k3,k4⟩,hF,hB⟩:=O
 have HK:=zg k0 k1 k2 k3 k4 hF hB
 clear k0 k1 k2 k3 k4 hF hB
 go_wp2_with fail
 obtain⟨k0,k1,k2,k3,k4,hF,hB⟩:=HK.o
 refine bodyPost_ret (v:=.tuple #[ae aj noV,.int .i64 5]) ?_ rfl ⟨noV,rfl,hF,hB⟩
 simp[results,results93,go_sem,ae,aj,noV,k0,k1,k2,k3,k4]
theorem rx (v:IV) (m:Img) (name:ByteArray) (w:World) (h:ImgR w w.heap.size v m) (he:ab m=0) (hsz:name.size<=4611686018427387903) (hn:bj name=false):
  Calls prog 91 #[ae m v,.string name] w (aF w.heap.size aj 4 w):=by
 have KC':= λW (hb:Below w.heap.size w W)=>bg v m W (h.next hb)
 have KN':= λW (_:Below w.heap.size w W)=>(ez name W hsz).mono (R':= λe w'=>e=.returned (.bool (bj name))/\Below W.heap.size W w') (λe w' hh=>⟨hh.1,hh.2▸Below.refl _ _⟩)
 obtain⟨W0,hW,f1,f2,f4,f5⟩:=bd w m.guest v
 rw[he]at KC'
 rw[hn]at KN'
 obtain⟨rA,rn,rc,sA,sn,sc,fA,fn,fc,pA,pn,pc⟩:=v
 dsimp only[ae]at KC' KN' f1 f2 f4 f5 hW⊢
 have KC:=zh KC'
 have KN:=zh KN'
 clear KC' KN'
 have HX:=zh f2
 obtain⟨x0,x1,x2,x3,x4⟩:=f2
 dsimp only at x0 x1 x2 x3 x4
 clear h he hn hsz
 go_enter func91,ntmps91
 go_wp2_with fail
 rw[hW.o]
 have HL:Hid (w.heap.size<W0.heap.size):=zh (by omega)
 have HZ:=zh f4
 have HB:=zh f1
 have h2:W0.heap.size=w.heap.size+1+1:=f5
 clear f1 f4 f5
 refine(KC.o _ HB.o).mono ?_
 rintro e W1 ⟨rfl,hb⟩
 have HX':=zh (HX.o.keep hb HL.o)
 have HZ':=zh (HZ.o.next hb)
 have HB':=zh (aa HB.o hb)
 have HL':=zh (Nat.lt_of_lt_of_le HL.o hb.size)
 clear HX HZ HB HL x0 x1 x2 x3 x4 hb KC
 have HX:=HX'
 have HZ:=HZ'
 have HB:=HB'
 have HL:=HL'
 clear HX' HZ' HB' HL'
 obtain⟨x0,x1,x2,x3,x4⟩:=HX.o
 dsimp only at x0 x1 x2 x3 x4
 go_wp2_with fail
 refine(KN.o _ HB.o).mono ?_
 rintro e W2 ⟨rfl,hb⟩
 have HX':=zh (HX.o.keep hb HL.o)
 have HZ':=zh (HZ.o.next hb)
 have HB':=zh (aa HB.o hb)
 have HL':=zh (Nat.lt_of_lt_of_le HL.o hb.size)
 clear HX HZ HB HL x0 x1 x2 x3 x4 hb KN
 have HX:=HX'
 have HZ:=HZ'
 have HB:=HB'
 have HL:=HL'
 clear HX' HZ' HB' HL'
 obtain⟨x0,x1,x2,x3,x4⟩:=HX.o
 dsimp only at x0 x1 x2 x3 x4
 obtain⟨y0,y1,y2,y3,y4⟩:=HZ.o.cells
 obtain⟨q0,q1,q2,q3,q4⟩:=HZ.o.froz
 have O:=cA HZ.o (X:=aj) (v:=noV) (B:=w.heap.size) (.inl ⟨rfl,rfl⟩) HB.o (Nat.le_refl _) (by omega)
 dsimp only[aj,noV]at O
 obtain⟨⟨k0,k1,k2,k3,k4⟩,hF,hB⟩:=O
 have HK:=zg k0 k1 k2 k3 k4 hF hB
 clear k0 k1 k2 k3 k4 hF hB
 go_wp2_with fail
 obtain⟨k0,k1,k2,k3,k4,hF,hB⟩:=HK.o
 refine bodyPost_ret (v:=.tuple #[ae aj noV,.int .i64 4]) ?_ rfl ⟨noV,rfl,hF,hB⟩
 simp[results,results91,go_sem,ae,aj,noV,k0,k1,k2,k3,k4]
theorem o9 (v:IV) (m:Img) (name:ByteArray) (w:World) (h:ImgR w w.heap.size v m) (he:ab m=0) (hsz:name.size<=4611686018427387903) (hn:bj name=true) (ha:m.snaps.any (named name)=true):
  Calls prog 91 #[ae m v,.string name] w (aF w.heap.size aj 6 w):=by
 obtain⟨k0,_,hk0,_,_,hik,_,_⟩:=wX he ha
 have hk3:k0<=3:=by have:=(dj (ay (aq he).1).sizes).2.2;omega
 have KC':= λW (hb:Below w.heap.size w W)=>bg v m W (h.next hb)
 have KN':= λW (_:Below w.heap.size w W)=>(ez name W hsz).mono (R':= λe w'=>e=.returned (.bool (bj name))/\Below W.heap.size W w') (λe w' hh=>⟨hh.1,hh.2▸Below.refl _ _⟩)
 have KS':= λW (hb:Below w.heap.size w W)=>dL v m name W (h.next hb)
 obtain⟨W0,hW,f1,f2,f4,f5⟩:=bd w m.guest v
 rw[he]at KC'
 rw[hn]at KN'
 rw[hik]at KS'
 obtain⟨rA,rn,rc,sA,sn,sc,fA,fn,fc,pA,pn,pc⟩:=v
 dsimp only[ae]at KC' KN' KS' f1 f2 f4 f5 hW⊢
 have KC:=zh KC'
 have KN:=zh KN'
 have KS:=zh KS'
 clear KC' KN' KS'
 have HX:=zh f2
 obtain⟨x0,x1,x2,x3,x4⟩:=f2
 dsimp only at x0 x1 x2 x3 x4
 have e0:(0:Int)<=(k0:Int):=by omega
 clear h he hn ha hsz hik hk0
 go_enter func91,ntmps91
 go_wp2_with fail
 rw[hW.o]
 have HL:Hid (w.heap.size<W0.heap.size):=zh (by omega)
 have HZ:=zh f4
 have HB:=zh f1
 have h2:W0.heap.size=w.heap.size+1+1:=f5
 clear f1 f4 f5
 refine(KC.o _ HB.o).mono ?_
 rintro e W1 ⟨rfl,hb⟩
 have HX':=zh (HX.o.keep hb HL.o)
 have HZ':=zh (HZ.o.next hb)
 have HB':=zh (aa HB.o hb)
 have HL':=zh (Nat.lt_of_lt_of_le HL.o hb.size)
 clear HX HZ HB HL x0 x1 x2 x3 x4 hb KC
 have HX:=HX'
 have HZ:=HZ'
 have HB:=HB'
 have HL:=HL'
 clear HX' HZ' HB' HL'
 obtain⟨x0,x1,x2,x3,x4⟩:=HX.o
 dsimp only at x0 x1 x2 x3 x4
 go_wp2_with fail
 refine(KN.o _ HB.o).mono ?_
 rintro e W2 ⟨rfl,hb⟩
 have HX':=zh (HX.o.keep hb HL.o)
 have HZ':=zh (HZ.o.next hb)
 have HB':=zh (aa HB.o hb)
 have HL':=zh (Nat.lt_of_lt_of_le HL.o hb.size)
 clear HX HZ HB HL x0 x1 x2 x3 x4 hb KN
 have HX:=HX'
 have HZ:=HZ'
 have HB:=HB'
 have HL:=HL'
 clear HX' HZ' HB' HL'
 obtain⟨x0,x1,x2,x3,x4⟩:=HX.o
 dsimp only at x0 x1 x2 x3 x4
 go_wp2_with fail
 refine(KS.o _ HB.o).mono ?_
 rintro e W3 ⟨rfl,hb⟩
 have HX':=zh (HX.o.keep hb HL.o)
 have HZ':=zh (HZ.o.next hb)
 have HB':=zh (aa HB.o hb)
 have HL':=zh (Nat.lt_of_lt_of_le HL.o hb.size)
 clear HX HZ HB HL x0 x1 x2 x3 x4 hb KS
 have HX:=HX'
 have HZ:=HZ'
 have HB:=HB'
 have HL:=HL'
 clear HX' HZ' HB' HL'
 obtain⟨x0,x1,x2,x3,x4⟩:=HX.o
 dsimp only at x0 x1 x2 x3 x4
 obtain⟨y0,y1,y2,y3,y4⟩:=HZ.o.cells
 obtain⟨q0,q1,q2,q3,q4⟩:=HZ.o.froz
 have O:=cA HZ.o (X:=aj) (v:=noV) (B:=w.heap.size) (.inl ⟨rfl,rfl⟩) HB.o (Nat.le_refl _) (by omega)
 dsimp only[aj,noV]at O
 obtain⟨⟨k0,k1,k2,k3,k4⟩,hF,hB⟩:=O
 have HK:=zg k0 k1 k2 k3 k4 hF hB
 clear k0 k1 k2 k3 k4 hF hB
 go_wp2_with fail
 obtain⟨k0,k1,k2,k3,k4,hF,hB⟩:=HK.o
 refine bodyPost_ret (v:=.tuple #[ae aj noV,.int .i64 6]) ?_ rfl ⟨noV,rfl,hF,hB⟩
 simp[results,results91,go_sem,ae,aj,noV,k0,k1,k2,k3,k4]
theorem ry (v:IV) (m:Img) (name:ByteArray) (w:World) (h:ImgR w w.heap.size v m) (he:ab m=0) (hsz:name.size<=4611686018427387903) (hn:bj name=true) (ha:m.snaps.any (named name)=false) (h3:m.snaps.length=3):
  Calls prog 91 #[ae m v,.string name] w (aF w.heap.size aj 2 w):=by
 have hp3:v.pn=3:=by have:=h.plen;omega
 have KC':= λW (hb:Below w.heap.size w W)=>bg v m W (h.next hb)
 have KN':= λW (_:Below w.heap.size w W)=>(ez name W hsz).mono (R':= λe w'=>e=.returned (.bool (bj name))/\Below W.heap.size W w') (λe w' hh=>⟨hh.1,hh.2▸Below.refl _ _⟩)
 have KS':= λW (hb:Below w.heap.size w W)=>dL v m name W (h.next hb)
 obtain⟨W0,hW,f1,f2,f4,f5⟩:=bd w m.guest v
 rw[he]at KC'
 rw[hn]at KN'
 rw[(ic he ha).2.2]at KS'
 obtain⟨rA,rn,rc,sA,sn,sc,fA,fn,fc,pA,pn,pc⟩:=v
 dsimp only[ae]at KC' KN' KS' f1 f2 f4 f5 hW⊢
 have KC:=zh KC'
 have KN:=zh KN'
 have KS:=zh KS'
 clear KC' KN' KS'
 have HX:=zh f2
 obtain⟨x0,x1,x2,x3,x4⟩:=f2
 dsimp only at x0 x1 x2 x3 x4
 dsimp only at hp3
 subst hp3
 clear h he hn ha h3 hsz
 go_enter func91,ntmps91
 go_wp2_with fail
 rw[hW.o]
 have HL:Hid (w.heap.size<W0.heap.size):=zh (by omega)
 have HZ:=zh f4
 have HB:=zh f1
 have h2:W0.heap.size=w.heap.size+1+1:=f5
 clear f1 f4 f5
 refine(KC.o _ HB.o).mono ?_
 rintro e W1 ⟨rfl,hb⟩
 have HX':=zh (HX.o.keep hb HL.o)
 have HZ':=zh (HZ.o.next hb)
 have HB':=zh (aa HB.o hb)
 have HL':=zh (Nat.lt_of_lt_of_le HL.o hb.size)
 clear HX HZ HB HL x0 x1 x2 x3 x4 hb KC
 have HX:=HX'
 have HZ:=HZ'
 have HB:=HB'
 have HL:=HL'
 clear HX' HZ' HB' HL'
 obtain⟨x0,x1,x2,x3,x4⟩:=HX.o
 dsimp only at x0 x1 x2 x3 x4
 go_wp2_with fail
 refine(KN.o _ HB.o).mono ?_
 rintro e W2 ⟨rfl,hb⟩
 have HX':=zh (HX.o.keep hb HL.o)
 have HZ':=zh (HZ.o.next hb)
 have HB':=zh (aa HB.o hb)
 have HL':=zh (Nat.lt_of_lt_of_le HL.o hb.size)
 clear HX HZ HB HL x0 x1 x2 x3 x4 hb KN
 have HX:=HX'
 have HZ:=HZ'
 have HB:=HB'
 have HL:=HL'
 clear HX' HZ' HB' HL'
 obtain⟨x0,x1,x2,x3,x4⟩:=HX.o
 dsimp only at x0 x1 x2 x3 x4
 go_wp2_with fail
 refine(KS.o _ HB.o).mono ?_
 rintro e W3 ⟨rfl,hb⟩
 have HX':=zh (HX.o.keep hb HL.o)
 have HZ':=zh (HZ.o.next hb)
 have HB':=zh (aa HB.o hb)
 have HL':=zh (Nat.lt_of_lt_of_le HL.o hb.size)
 clear HX HZ HB HL x0 x1 x2 x3 x4 hb KS
 have HX:=HX'
 have HZ:=HZ'
 have HB:=HB'
 have HL:=HL'
 clear HX' HZ' HB' HL'
 obtain⟨x0,x1,x2,x3,x4⟩:=HX.o
 dsimp only at x0 x1 x2 x3 x4
 obtain⟨y0,y1,y2,y3,y4⟩:=HZ.o.cells
 obtain⟨q0,q1,q2,q3,q4⟩:=HZ.o.froz
 have O:=cA HZ.o (X:=aj) (v:=noV) (B:=w.heap.size) (.inl ⟨rfl,rfl⟩) HB.o (Nat.le_refl _) (by omega)
 dsimp only[aj,noV]at O
 obtain⟨⟨k0,k1,k2,k3,k4⟩,hF,hB⟩:=O
 have HK:=zg k0 k1 k2 k3 k4 hF hB
 clear k0 k1 k2 k3 k4 hF hB
 go_wp2_with fail
 obtain⟨k0,k1,k2,k3,k4,hF,hB⟩:=HK.o
 refine bodyPost_ret (v:=.tuple #[ae aj noV,.int .i64 2]) ?_ rfl ⟨noV,rfl,hF,hB⟩
 simp[results,results91,go_sem,ae,aj,noV,k0,k1,k2,k3,k4]
end Go.Proofs.YtdbneghfbkjinaaGreatDoor
