/- Texts of the proof of deskPlays_holds: WApi. Conditions: as each text says. -/
import Derived.Test.YtdbneghfbkjinaaGreatDoorDA1
import Derived.Test.YtdbneghfbkjinaaGreatDoorDA24
set_option maxRecDepth 100000
set_option maxHeartbeats 1000000
namespace Go.Proofs.YtdbneghfbkjinaaGreatDoor
section
open Go.Proofs.Tryz
open Go.RowKit Sl
theorem sR (base:Nat) (tg:Nat->Nat) (b:Nat) (v:IV) (q:List SV) (p:List PV) (m:Img) (nb wb pb n:Nat) (pg:ByteArray) (w:World) (h:WAt w base tg b v q p m nb wb pb n pg):
  Calls prog 83 #[.pointer (some ⟨b,0,none⟩),.pointer (some ⟨nb,0,none⟩),.pointer (some ⟨wb,0,none⟩),.pointer (some ⟨pb,0,none⟩)] w (TurnRes base b (cv m n pg) w):=by
 rcases dM h.right h.page with h0|⟨j,s,hj,hj1,hs,_,_⟩
 ·exact AY base tg b v q p m nb wb pb n pg w h (.inl h0)
 ·have hjl:=(zl hs)
  by_cases hr:int m.refs j=1
  ·obtain⟨l1,l2⟩:=pj h.right n
   by_cases he:0<ag m.slots m.root n
   ·obtain⟨d,sd,e,hd,_⟩:=l2 he
    have hd1:1<=d:=by omega
    by_cases hr2:int m.refs d=1
    ·exact Dn base tg b v q p m nb wb pb n pg w h j d sd hj hj1 hjl hr e hd1 hd hr2
    ·exact AX base tg b v q p m nb wb pb n pg w h j hj hj1 hjl hr (.inr ⟨d,sd,e,hd1,hd,hr2⟩)
   ·exact AX base tg b v q p m nb wb pb n pg w h j hj hj1 hjl hr (.inl (by omega))
  ·exact AY base tg b v q p m nb wb pb n pg w h (.inr ⟨j,hj,hj1,hjl,hr⟩)
end
section
open Go.Proofs.Tryz
open Go.RowKit Sl
theorem cA {w W:World} {ob base B:Nat} {v:IV} {X:Img} (hz:ZB W ob) (hF:Fresh W B v X) (hb:Below base w W) (hbw:base<=w.heap.size) (hl:base<=ob):
  Box (((((W.setCell ⟨ob,0,none⟩ (.int .i64 X.guest)).setCell ⟨ob,1,none⟩ (.slice v.rA v.rn v.rc)).setCell ⟨ob,2,none⟩ (.slice v.sA v.sn v.sc)).setCell ⟨ob,3,none⟩ (.slice v.fA v.fn v.fc)).setCell ⟨ob,4,none⟩ (.slice v.pA v.pn v.pc)) ob X.guest v/\
  Fresh (((((W.setCell ⟨ob,0,none⟩ (.int .i64 X.guest)).setCell ⟨ob,1,none⟩ (.slice v.rA v.rn v.rc)).setCell ⟨ob,2,none⟩ (.slice v.sA v.sn v.sc)).setCell ⟨ob,3,none⟩ (.slice v.fA v.fn v.fc)).setCell ⟨ob,4,none⟩ (.slice v.pA v.pn v.pc)) B v X/\
  Below base w (((((W.setCell ⟨ob,0,none⟩ (.int .i64 X.guest)).setCell ⟨ob,1,none⟩ (.slice v.rA v.rn v.rc)).setCell ⟨ob,2,none⟩ (.slice v.sA v.sn v.sc)).setCell ⟨ob,3,none⟩ (.slice v.fA v.fn v.fc)).setCell ⟨ob,4,none⟩ (.slice v.pA v.pn v.pc)):=by
 have h5:=dr hz.box.1 hz.box.2 X.guest v
 exact⟨h5.1,hF.kept h5.2.2 hz.box.1.ty (by decide) (by decide) (by decide),hb.grown h5.2.2 (Nat.le_trans hbw hb.size) (λj e=>by injection e with e;omega)⟩
def dE (m:Img) (n:Int) (pg:ByteArray):Int:=if aE m n=0 then(if pg.size=4 then iM (cv m n.toNat pg)else 1)else aE m n
def eP (m:Img) (n:Int) (pg:ByteArray):Img:=if aE m n=0/\pg.size=4 then kP (cv m n.toNat pg)else aj
theorem nY (w:World) (g:Int) (v:IV) (x y:Value) (T U:TypeId):∃W,Hid ((((w.alloc (.cells #[.int .i64 g,.slice v.rA v.rn v.rc,.slice v.sA v.sn v.sc,.slice v.fA v.fn v.fc,.slice v.pA v.pn v.pc] 34)).alloc (.cells #[x] T)).alloc (.cells #[y] U)).alloc (.cells #[.int .i64 0,.slice none 0 0,.slice none 0 0,.slice none 0 0,.slice none 0 0] 34)=W)/\Below w.heap.size w W/\Box W w.heap.size g v/\W.cell? ⟨w.heap.size+1,0,none⟩=some x/\W.cell? ⟨w.heap.size+1+1,0,none⟩=some y/\ZB W (w.heap.size+1+1+1)/\W.heap.size=w.heap.size+1+1+1+1:=by
 have s1:=World.size_alloc w (.cells #[.int .i64 g,.slice v.rA v.rn v.rc,.slice v.sA v.sn v.sc,.slice v.fA v.fn v.fc,.slice v.pA v.pn v.pc] 34)
 have hX:=Box.new w g v 34
 have hB:=ac w (.cells #[.int .i64 g,.slice v.rA v.rn v.rc,.slice v.sA v.sn v.sc,.slice v.fA v.fn v.fc,.slice v.pA v.pn v.pc] 34)
 refine⟨_,zh rfl,?_⟩
 generalize w.alloc (.cells #[.int .i64 g,.slice v.rA v.rn v.rc,.slice v.sA v.sn v.sc,.slice v.fA v.fn v.fc,.slice v.pA v.pn v.pc] 34)=w1 at*
 have c2:=cell_of_row _ _ 0 _ _ _ (heap_alloc_new w1 (.cells #[x] T))
 have b2:=ac w1 (.cells #[x] T)
 have s2:=World.size_alloc w1 (.cells #[x] T)
 generalize w1.alloc (.cells #[x] T)=w2 at*
 have c3:=cell_of_row _ _ 0 _ _ _ (heap_alloc_new w2 (.cells #[y] U))
 have b3:=ac w2 (.cells #[y] U)
 have s3:=World.size_alloc w2 (.cells #[y] U)
 generalize w2.alloc (.cells #[y] U)=w3 at*
 have z4:=ZB.new w3
 have b4:=ac w3 (.cells #[.int .i64 0,.slice none 0 0,.slice none 0 0,.slice none 0 0,.slice none 0 0] 34)
 rw[s3,s2,s1]at z4
 rw[s1]at c2
 rw[s2,s1]at c3
 exact⟨aa (aa (aa hB b2) b3) b4,((hX.keep b2 (by omega)).keep b3 (by omega)).keep b4 (by omega),(b4.cell (p:=⟨w.heap.size+1,0,none⟩) (show w.heap.size+1<_ by omega)).trans ((b3.cell (p:=⟨w.heap.size+1,0,none⟩) (show w.heap.size+1<_ by omega)).trans c2),(b4.cell (p:=⟨w.heap.size+1+1,0,none⟩) (show w.heap.size+1+1<_ by omega)).trans c3,z4,by rw[World.size_alloc,s3,s2,s1]⟩
theorem Do (w:World) (y:Int):Below w.heap.size w (w.alloc (.cells #[.int .i64 y] 3))/\(w.alloc (.cells #[.int .i64 y] 3)).cell? ⟨w.heap.size,0,none⟩=some (.int .i64 y)/\(w.alloc (.cells #[.int .i64 y] 3)).heap.size=w.heap.size+1:=
 ⟨ac w _,cell_of_row _ _ 0 _ _ _ (heap_alloc_new w _),World.size_alloc _ _⟩
theorem pV {m:Img} (hm:ab m=0) {n:Nat} (hn:(n:Int)<m.guest):n/4<m.root.length:=by
 have h:=(gi hm).2.2
 unfold rootFine at h
 simp only[Bool.and_eq_true,decide_eq_true_eq]at h
 have:=h.1
 unfold a6 at this
 omega
theorem AZ (v:IV) (m:Img) (n:Int) (pg:ByteArray) (w:World) (h:ImgR w w.heap.size v m) (he:aE m n≠0):
  Calls prog 40 #[ae m v,.int .i64 n,.string pg] w (aF w.heap.size aj (aE m n) w):=by
  have K1':= λW (hb:Below w.heap.size w W)=>fh v m n W (h.next hb)
  obtain⟨W4,hW,f1,f2,f3,f4,f5,f6⟩:=nY w m.guest v (.int .i64 n) (.string pg) 3 9
  have lz:(aE m n !=0)=true:=by simpa using he
  generalize aE m n=er at*
  obtain⟨rA,rn,rc,sA,sn,sc,fA,fn,fc,pA,pn,pc⟩:=v
  dsimp only[ae]at K1' f1 f2 f3 f4 f5 f6 hW⊢
  have K1:=zh K1'
  clear K1' h he
  obtain⟨x0,x1,x2,x3,x4⟩:=f2
  dsimp only at x0 x1 x2 x3 x4
  go_enter func40,ntmps40
  go_wp2_with fail
  rw[hW.o]
  refine(K1.o _ f1).mono ?_
  rintro e w5 ⟨rfl,hb5⟩
  have B5:=aa f1 hb5
  have Z5:=f5.nextB hb5 (by omega)
  obtain⟨g1,g2,g3⟩:=Do w5 (iZ m n)
  have B6:=aa B5 g1
  have Z6:=Z5.next g1
  obtain⟨y0,y1,y2,y3,y4⟩:=Z6.cells
  obtain⟨q0,q1,q2,q3,q4⟩:=Z6.froz
  have O:=cA Z6 (X:=aj) (v:=noV) (B:=w.heap.size) (.inl ⟨rfl,rfl⟩) B6 (Nat.le_refl _) (by omega)
  dsimp only[aj,noV]at O
  obtain⟨⟨k0,k1,k2,k3,k4⟩,hF,hB⟩:=O
  have HK:=zg k0 k1 k2 k3 k4 hF hB
  clear x0 x1 x2 x3 x4 f1 f3 f4 f5 K1 Z5 Z6 B5 B6 hb5 g1 k0 k1 k2 k3 k4 hF hB
  go_wp2_with fail
  obtain⟨k0,k1,k2,k3,k4,hF,hB⟩:=HK.o
  refine bodyPost_ret (v:=.tuple #[ae aj noV,.int .i64 er]) ?_ rfl ⟨noV,rfl,hF,hB⟩
  simp[results,results40,go_sem,ae,aj,noV,k0,k1,k2,k3,k4]
theorem vu (v:IV) (m:Img) (n:Int) (pg:ByteArray) (w:World) (h:ImgR w w.heap.size v m) (he:aE m n=0) (hp:pg.size≠4):
  Calls prog 40 #[ae m v,.int .i64 n,.string pg] w (aF w.heap.size aj 1 w):=by
  have K1':= λW (hb:Below w.heap.size w W)=>fh v m n W (h.next hb)
  obtain⟨W4,hW,f1,f2,f3,f4,f5,f6⟩:=nY w m.guest v (.int .i64 n) (.string pg) 3 9
  rw[he]at K1'
  have g4:((pg.size:Int) !=4)=true:=by simp;omega
  obtain⟨rA,rn,rc,sA,sn,sc,fA,fn,fc,pA,pn,pc⟩:=v
  dsimp only[ae]at K1' f1 f2 f3 f4 f5 f6 hW⊢
  have K1:=zh K1'
  clear K1' h he hp
  obtain⟨x0,x1,x2,x3,x4⟩:=f2
  dsimp only at x0 x1 x2 x3 x4
  go_enter func40,ntmps40
  go_wp2_with fail
  rw[hW.o]
  refine(K1.o _ f1).mono ?_
  rintro e w5 ⟨rfl,hb5⟩
  have B5:=aa f1 hb5
  have Z5:=f5.nextB hb5 (by omega)
  obtain⟨g1,g2,g3⟩:=Do w5 (iZ m n)
  have B6:=aa B5 g1
  have Z6:=Z5.next g1
  have hz5:=hb5.size
  have mv:∀{b j:Nat} {u:Value},b<W4.heap.size->W4.cell? ⟨b,j,none⟩=some u->(w5.alloc (.cells #[.int .i64 (iZ m n)] 3)).cell? ⟨b,j,none⟩=some u:= λ{b j u} hl h=>(g1.cell (p:=⟨b,j,none⟩) (show b<w5.heap.size by omega)).trans ((hb5.cell (p:=⟨b,j,none⟩) hl).trans h)
  have p4:=mv (by omega) f4
  obtain⟨y0,y1,y2,y3,y4⟩:=Z6.cells
  obtain⟨q0,q1,q2,q3,q4⟩:=Z6.froz
  have O:=cA Z6 (X:=aj) (v:=noV) (B:=w.heap.size) (.inl ⟨rfl,rfl⟩) B6 (Nat.le_refl _) (by omega)
  dsimp only[aj,noV]at O
  obtain⟨⟨k0,k1,k2,k3,k4⟩,hF,hB⟩:=O
  have HK:=zg k0 k1 k2 k3 k4 hF hB
  clear mv x0 x1 x2 x3 x4 f1 f3 f4 f5 K1 Z5 Z6 B5 B6 hb5 g1 k0 k1 k2 k3 k4 hF hB
  go_wp2_with fail
  obtain⟨k0,k1,k2,k3,k4,hF,hB⟩:=HK.o
  refine bodyPost_ret (v:=.tuple #[ae aj noV,.int .i64 1]) ?_ rfl ⟨noV,rfl,hF,hB⟩
  simp[results,results40,go_sem,ae,aj,noV,k0,k1,k2,k3,k4]
theorem A0 (v:IV) (m:Img) (n:Nat) (pg:ByteArray) (w:World) (h:ImgR w w.heap.size v m) (he:aE m n=0) (hp:pg.size=4) (X:Img) (er:Int) (hX:kP (cv m n pg)=X) (hE:iM (cv m n pg)=er) (hw:∀x,cv m n pg=some x->CBd x/\Wired x):
  Calls prog 40 #[ae m v,.int .i64 n,.string pg] w (aF w.heap.size X er w):=by
  have K1':= λW (hb:Below w.heap.size w W)=>fh v m n W (h.next hb)
  obtain⟨W4,hW,f1,f2,f3,f4,f5,f6⟩:=nY w m.guest v (.int .i64 n) (.string pg) 3 9
  obtain⟨hm,h0,hn⟩:=dm he
  obtain⟨_,hl⟩:=mV hm hn
  rw[he,hl]at K1'
  have g4:((pg.size:Int) !=4)=false:=by simp[hp]
  have hmf:∀(fn:Fn) (first cap:Array Value) (w:World),(Instr.makeFunc fn first cap).run prog w=.ok (.func fn first cap) w:= λ_ _ _ _=>rfl
  have KT:=zh (λ(W:World) (hi:ImgR W W.heap.size v m) (nb wb pb:Nat) (b1:nb<W.heap.size) (b2:wb<W.heap.size) (b3:pb<W.heap.size) (c1:W.cell? ⟨nb,0,none⟩=some (.int .i64 n)) (c2:W.cell? ⟨wb,0,none⟩=some (.int .i64 (ag m.slots m.root n))) (c3:W.cell? ⟨pb,0,none⟩=some (.string pg))=>
   kQ v m W hi hm 83 #[.pointer (some ⟨nb,0,none⟩),.pointer (some ⟨wb,0,none⟩),.pointer (some ⟨pb,0,none⟩)] (λ_ _=>by kernel_rfl) (cv m n pg) hw
    (λbase tg b v' q p W' hb hd hB=>sR base tg b v' q p m nb wb pb n pg W' ⟨hd,hm,pV hm hn,hp,by omega,by omega,by omega,(hB.cell (p:=⟨nb,0,none⟩) b1).trans c1,(hB.cell (p:=⟨wb,0,none⟩) b2).trans c2,(hB.cell (p:=⟨pb,0,none⟩) b3).trans c3⟩))
  rw[hX,hE]at KT
  have HI:=zh h
  obtain⟨rA,rn,rc,sA,sn,sc,fA,fn,fc,pA,pn,pc⟩:=v
  dsimp only[ae]at K1' f1 f2 f3 f4 f5 f6 hW⊢
  have K1:=zh K1'
  clear K1' h he hp hX hE hw hl
  obtain⟨x0,x1,x2,x3,x4⟩:=f2
  dsimp only at x0 x1 x2 x3 x4
  go_enter func40,ntmps40
  go_wp2_with fail
  rw[hW.o]
  refine(K1.o _ f1).mono ?_
  rintro e w5 ⟨rfl,hb5⟩
  have B5:=aa f1 hb5
  have Z5:=f5.nextB hb5 (by omega)
  obtain⟨g1,g2,g3⟩:=Do w5 (ag m.slots m.root n)
  have B6:=aa B5 g1
  have Z6:=Z5.next g1
  have hz5:=hb5.size
  have mv:∀{b j:Nat} {u:Value},b<W4.heap.size->W4.cell? ⟨b,j,none⟩=some u->(w5.alloc (.cells #[.int .i64 (ag m.slots m.root n)] 3)).cell? ⟨b,j,none⟩=some u:= λ{b j u} hl h=>(g1.cell (p:=⟨b,j,none⟩) (show b<w5.heap.size by omega)).trans ((hb5.cell (p:=⟨b,j,none⟩) hl).trans h)
  have p1:=mv (by omega) f3
  have p3:=mv (by omega) f4
  have a0:=mv (by omega) x0
  have a1:=mv (by omega) x1
  have a2:=mv (by omega) x2
  have a3:=mv (by omega) x3
  have a4:=mv (by omega) x4
  have K3:=zh (KT.o _ (HI.o.next B6) (w.heap.size+1) w5.heap.size (w.heap.size+1+1) (by omega) (by omega) (by omega) p1 g2 p3)
  have HB6:=zh B6
  have HZ6:=zh Z6
  dsimp only[ae]at K3
  clear mv x0 x1 x2 x3 x4 f1 f3 f4 f5 K1 KT HI Z5 Z6 B5 B6 hb5 g1 g2 p1 hm h0 hn
  go_wp2_with fail
  refine K3.o.mono ?_
  rintro e w7 ⟨v7,rfl,hF7,hb7⟩
  have Z7:=HZ6.o.nextB hb7 (by omega)
  have B7:=aa HB6.o hb7
  obtain⟨y0,y1,y2,y3,y4⟩:=Z7.cells
  obtain⟨q0,q1,q2,q3,q4⟩:=Z7.froz
  obtain⟨⟨k0,k1,k2,k3,k4⟩,hF,hB⟩:=cA Z7 (hF7.mono (show w.heap.size<=_ by omega)) B7 (Nat.le_refl _) (by omega)
  have HK:=zg k0 k1 k2 k3 k4 hF hB
  dsimp only[ae]
  clear K3 HB6 HZ6 Z7 B7 hF7 hb7 k0 k1 k2 k3 k4 hF hB a0 a1 a2 a3 a4 p3
  go_wp2_with fail
  obtain⟨k0,k1,k2,k3,k4,hF,hB⟩:=HK.o
  refine bodyPost_ret (v:=.tuple #[ae X v7,.int .i64 er]) ?_ rfl ⟨v7,rfl,hF,hB⟩
  simp[results,results40,go_sem,k0,k1,k2,k3,k4]
theorem yF (v:IV) (m:Img) (n:Int) (pg:ByteArray) (w:World) (h:ImgR w w.heap.size v m) (hw:∀x,aE m n=0->pg.size=4->cv m n.toNat pg=some x->CBd x/\Wired x):
  Calls prog 40 #[ae m v,.int .i64 n,.string pg] w (aF w.heap.size (eP m n pg) (dE m n pg) w):=by
 unfold eP dE
 by_cases he:aE m n=0
 ·obtain⟨_,h0,_⟩:=dm he
  obtain⟨k,rfl⟩:=Int.eq_ofNat_of_zero_le h0
  rw[if_pos he]
  by_cases hp:pg.size=4
  ·rw[if_pos hp,if_pos ⟨he,hp⟩]
   exact A0 v m k pg w h he hp _ _ rfl rfl (λx=>hw x he hp)
  ·rw[if_neg hp,if_neg (λh=>hp h.2)]
   exact vu v m k pg w h he hp
 ·rw[if_neg he,if_neg (λh=>he h.1)]
  exact AZ v m n pg w h he
end
section
open Go.Proofs.Tryz
open Go.RowKit Sl
def fm (m:Img) (n e:Int):Int:=if aE m n=0 then iM (dP m n.toNat e)else aE m n
def iu (m:Img) (n e:Int):Img:=if aE m n=0 then kP (dP m n.toNat e)else aj
def dG (m:Img) (g:Int):Int:=if ab m=0 then(if 0<=g/\g<=16 then iM (bW m g.toNat)else 3)else ab m
def eQ (m:Img) (g:Int):Img:=if ab m=0/\0<=g/\g<=16 then kP (bW m g.toNat)else aj
theorem qZ (w:World) (g:Int) (v:IV) (x:Value) (T:TypeId):∃W,Hid (((w.alloc (.cells #[.int .i64 g,.slice v.rA v.rn v.rc,.slice v.sA v.sn v.sc,.slice v.fA v.fn v.fc,.slice v.pA v.pn v.pc] 34)).alloc (.cells #[x] T)).alloc (.cells #[.int .i64 0,.slice none 0 0,.slice none 0 0,.slice none 0 0,.slice none 0 0] 34)=W)/\Below w.heap.size w W/\Box W w.heap.size g v/\W.cell? ⟨w.heap.size+1,0,none⟩=some x/\ZB W (w.heap.size+1+1)/\W.heap.size=w.heap.size+1+1+1:=by
 have s1:=World.size_alloc w (.cells #[.int .i64 g,.slice v.rA v.rn v.rc,.slice v.sA v.sn v.sc,.slice v.fA v.fn v.fc,.slice v.pA v.pn v.pc] 34)
 have hX:=Box.new w g v 34
 have hB:=ac w (.cells #[.int .i64 g,.slice v.rA v.rn v.rc,.slice v.sA v.sn v.sc,.slice v.fA v.fn v.fc,.slice v.pA v.pn v.pc] 34)
 refine⟨_,zh rfl,?_⟩
 generalize w.alloc (.cells #[.int .i64 g,.slice v.rA v.rn v.rc,.slice v.sA v.sn v.sc,.slice v.fA v.fn v.fc,.slice v.pA v.pn v.pc] 34)=w1 at*
 have c2:=cell_of_row _ _ 0 _ _ _ (heap_alloc_new w1 (.cells #[x] T))
 have b2:=ac w1 (.cells #[x] T)
 have s2:=World.size_alloc w1 (.cells #[x] T)
 generalize w1.alloc (.cells #[x] T)=w2 at*
 have z3:=ZB.new w2
 have b3:=ac w2 (.cells #[.int .i64 0,.slice none 0 0,.slice none 0 0,.slice none 0 0,.slice none 0 0] 34)
 rw[s2,s1]at z3
 exact⟨aa (aa hB b2) b3,(hX.keep b2 (by omega)).keep b3 (by omega),by rw[<-s1];exact(b3.cell (p:=⟨w1.heap.size,0,none⟩) (show w1.heap.size<_ by omega)).trans c2,z3,by rw[World.size_alloc,s2,s1]⟩
theorem bd (w:World) (g:Int) (v:IV):∃W,Hid ((w.alloc (.cells #[.int .i64 g,.slice v.rA v.rn v.rc,.slice v.sA v.sn v.sc,.slice v.fA v.fn v.fc,.slice v.pA v.pn v.pc] 34)).alloc (.cells #[.int .i64 0,.slice none 0 0,.slice none 0 0,.slice none 0 0,.slice none 0 0] 34)=W)/\Below w.heap.size w W/\Box W w.heap.size g v/\ZB W (w.heap.size+1)/\W.heap.size=w.heap.size+1+1:=
 ⟨_,zh rfl,aa (ac _ _) (ac _ _),(Box.new w g v _).keep (ac _ _) (by simp),by have:=ZB.new (w.alloc (.cells #[.int .i64 g,.slice v.rA v.rn v.rc,.slice v.sA v.sn v.sc,.slice v.fA v.fn v.fc,.slice v.pA v.pn v.pc] 34));rwa [World.size_alloc]at this,by rw[World.size_alloc,World.size_alloc]⟩
theorem Dp (v:IV) (m:Img) (n:Int) (y:Int) (w:World) (h:ImgR w w.heap.size v m) (he:aE m n≠0):
  Calls prog 72 #[ae m v,.int .i64 n,.int .i64 y] w (aF w.heap.size aj (aE m n) w):=by
 have K1':= λW (hb:Below w.heap.size w W)=>fh v m n W (h.next hb)
 obtain⟨W4,hW,f1,f2,f3,f4,f5,f6⟩:=nY w m.guest v (.int .i64 n) (.int .i64 y) 3 3
 have lz:(aE m n !=0)=true:=by simpa using he
 generalize aE m n=er at*
 obtain⟨rA,rn,rc,sA,sn,sc,fA,fn,fc,pA,pn,pc⟩:=v
 dsimp only[ae]at K1' f1 f2 f3 f4 f5 f6 hW⊢
 have K1:=zh K1'
 clear K1' h he
 obtain⟨x0,x1,x2,x3,x4⟩:=f2
 dsimp only at x0 x1 x2 x3 x4
 go_enter func72,ntmps72
 go_wp2_with fail
 rw[hW.o]
 refine(K1.o _ f1).mono ?_
 rintro e w5 ⟨rfl,hb5⟩
 have B5:=aa f1 hb5
 have Z5:=f5.nextB hb5 (by omega)
 obtain⟨y0,y1,y2,y3,y4⟩:=Z5.cells
 obtain⟨q0,q1,q2,q3,q4⟩:=Z5.froz
 have O:=cA Z5 (X:=aj) (v:=noV) (B:=w.heap.size) (.inl ⟨rfl,rfl⟩) B5 (Nat.le_refl _) (by omega)
 dsimp only[aj,noV]at O
 obtain⟨⟨k0,k1,k2,k3,k4⟩,hF,hB⟩:=O
 have HK:=zg k0 k1 k2 k3 k4 hF hB
 clear x0 x1 x2 x3 x4 f1 f3 f4 f5 K1 Z5 B5 hb5 k0 k1 k2 k3 k4 hF hB
 go_wp2_with fail
 obtain⟨k0,k1,k2,k3,k4,hF,hB⟩:=HK.o
 refine bodyPost_ret (v:=.tuple #[ae aj noV,.int .i64 er]) ?_ rfl ⟨noV,rfl,hF,hB⟩
 simp[results,results72,go_sem,ae,aj,noV,k0,k1,k2,k3,k4]
theorem Dq (v:IV) (m:Img) (n:Nat) (y:Int) (w:World) (h:ImgR w w.heap.size v m) (hy:cV y=true) (he:aE m n=0) (X:Img) (er:Int) (hX:kP (dP m n y)=X) (hE:iM (dP m n y)=er) (hw:∀x,dP m n y=some x->CBd x/\Wired x):
  Calls prog 72 #[ae m v,.int .i64 n,.int .i64 y] w (aF w.heap.size X er w):=by
 have K1':= λW (hb:Below w.heap.size w W)=>fh v m n W (h.next hb)
 obtain⟨W4,hW,f1,f2,f3,f4,f5,f6⟩:=nY w m.guest v (.int .i64 n) (.int .i64 y) 3 3
 obtain⟨hm,_,hn⟩:=dm he
 rw[he]at K1'
 have hmf:∀(fn:Fn) (first cap:Array Value) (w:World),(Instr.makeFunc fn first cap).run prog w=.ok (.func fn first cap) w:= λ_ _ _ _=>rfl
 have KT:=zh (λ(W:World) (hi:ImgR W W.heap.size v m) (nb eb:Nat) (b1:nb<W.heap.size) (b2:eb<W.heap.size) (c1:W.cell? ⟨nb,0,none⟩=some (.int .i64 n)) (c2:W.cell? ⟨eb,0,none⟩=some (.int .i64 y))=>
  kQ v m W hi hm 125 #[.pointer (some ⟨nb,0,none⟩),.pointer (some ⟨eb,0,none⟩)] (λ_ _=>by kernel_rfl) (dP m n y) hw
   (λbase tg b v' q p W' hb hd hB=>yE base tg b v' q p m nb eb n y W' hd hm (pV hm hn) hy (by omega) (by omega) ((hB.cell (p:=⟨nb,0,none⟩) b1).trans c1) ((hB.cell (p:=⟨eb,0,none⟩) b2).trans c2)))
 rw[hX,hE]at KT
 have HI:=zh h
 obtain⟨rA,rn,rc,sA,sn,sc,fA,fn,fc,pA,pn,pc⟩:=v
 dsimp only[ae]at K1' f1 f2 f3 f4 f5 f6 hW⊢
 have K1:=zh K1'
 clear K1' h he hX hE hw hm hn hy
 obtain⟨x0,x1,x2,x3,x4⟩:=f2
 dsimp only at x0 x1 x2 x3 x4
 go_enter func72,ntmps72
 go_wp2_with fail
 rw[hW.o]
 refine(K1.o _ f1).mono ?_
 rintro e w5 ⟨rfl,hb5⟩
 have B5:=aa f1 hb5
 have Z5:=f5.nextB hb5 (by omega)
 have hz5:=hb5.size
 have mv:∀{b j:Nat} {u:Value},b<W4.heap.size->W4.cell? ⟨b,j,none⟩=some u->w5.cell? ⟨b,j,none⟩=some u:= λ{b j u} hl h=>(hb5.cell (p:=⟨b,j,none⟩) hl).trans h
 have p1:=mv (by omega) f3
 have p2:=mv (by omega) f4
 have a0:=mv (by omega) x0
 have a1:=mv (by omega) x1
 have a2:=mv (by omega) x2
 have a3:=mv (by omega) x3
 have a4:=mv (by omega) x4
 have K3:=zh (KT.o _ (HI.o.next B5) (w.heap.size+1) (w.heap.size+1+1) (by omega) (by omega) p1 p2)
 have HB6:=zh B5
 have HZ6:=zh Z5
 dsimp only[ae]at K3
 clear mv x0 x1 x2 x3 x4 f1 f3 f4 f5 K1 KT HI Z5 B5 hb5 p1 p2
 go_wp2_with fail
 refine K3.o.mono ?_
 rintro e w7 ⟨v7,rfl,hF7,hb7⟩
 have Z7:=HZ6.o.nextB hb7 (by omega)
 have B7:=aa HB6.o hb7
 obtain⟨y0,y1,y2,y3,y4⟩:=Z7.cells
 obtain⟨q0,q1,q2,q3,q4⟩:=Z7.froz
 obtain⟨⟨k0,k1,k2,k3,k4⟩,hF,hB⟩:=cA Z7 (hF7.mono (show w.heap.size<=_ by omega)) B7 (Nat.le_refl _) (by omega)
 have HK:=zg k0 k1 k2 k3 k4 hF hB
 dsimp only[ae]
 clear K3 Z7 B7 hF7 hb7 k0 k1 k2 k3 k4 hF hB HB6 HZ6 a0 a1 a2 a3 a4
 go_wp2_with fail
 obtain⟨k0,k1,k2,k3,k4,hF,hB⟩:=HK.o
 refine bodyPost_ret (v:=.tuple #[ae X v7,.int .i64 er]) ?_ rfl ⟨v7,rfl,hF,hB⟩
 simp[results,results72,go_sem,k0,k1,k2,k3,k4]
theorem xt (v:IV) (m:Img) (n y:Int) (w:World) (h:ImgR w w.heap.size v m) (hy:cV y=true) (hw:∀x,aE m n=0->dP m n.toNat y=some x->CBd x/\Wired x):
  Calls prog 72 #[ae m v,.int .i64 n,.int .i64 y] w (aF w.heap.size (iu m n y) (fm m n y) w):=by
 unfold iu fm
 by_cases he:aE m n=0
 ·obtain⟨_,h0,_⟩:=dm he
  obtain⟨k,rfl⟩:=Int.eq_ofNat_of_zero_le h0
  rw[if_pos he,if_pos he]
  exact Dq v m k y w h hy he _ _ rfl rfl (λx=>hw x he)
 ·rw[if_neg he,if_neg he]
  exact Dp v m n y w h he
theorem Ba (v:IV) (m:Img) (n:Int) (w:World) (h:ImgR w w.heap.size v m) (hw:∀x,aE m n=0->dP m n.toNat (-1)=some x->CBd x/\Wired x):
  Calls prog 32 #[ae m v,.int .i64 n] w (aF w.heap.size (iu m n (-1)) (fm m n (-1)) w):=by
 have K1':= λW (hb:Below w.heap.size w W)=>xt v m n (-1) W (h.next hb) rfl hw
 obtain⟨W4,hW,f1,f2,f3,f4⟩:=bd w m.guest v
 generalize iu m n (-1)=X at*
 generalize fm m n (-1)=er at*
 obtain⟨rA,rn,rc,sA,sn,sc,fA,fn,fc,pA,pn,pc⟩:=v
 dsimp only[ae]at K1' f1 f2 f3 f4 hW⊢
 have K1:=zh K1'
 clear K1' h hw
 have K3:=zh (K1.o _ f1)
 have HB6:=zh f1
 have HZ6:=zh f3
 obtain⟨x0,x1,x2,x3,x4⟩:=f2
 dsimp only at x0 x1 x2 x3 x4
 clear K1 f1 f3
 go_enter func32,ntmps32
 go_wp2_with fail
 rw[hW.o]
 refine K3.o.mono ?_
 rintro e w7 ⟨v7,rfl,hF7,hb7⟩
 have Z7:=HZ6.o.nextB hb7 (by omega)
 have B7:=aa HB6.o hb7
 obtain⟨y0,y1,y2,y3,y4⟩:=Z7.cells
 obtain⟨q0,q1,q2,q3,q4⟩:=Z7.froz
 obtain⟨⟨k0,k1,k2,k3,k4⟩,hF,hB⟩:=cA Z7 (hF7.mono (show w.heap.size<=_ by omega)) B7 (Nat.le_refl _) (by omega)
 have HK:=zg k0 k1 k2 k3 k4 hF hB
 dsimp only[ae]
 clear K3 Z7 B7 hF7 hb7 k0 k1 k2 k3 k4 hF hB HB6 HZ6 x0 x1 x2 x3 x4
 go_wp2_with fail
 obtain⟨k0,k1,k2,k3,k4,hF,hB⟩:=HK.o
 refine bodyPost_ret (v:=.tuple #[ae X v7,.int .i64 er]) ?_ rfl ⟨v7,rfl,hF,hB⟩
 simp[results,results32,go_sem,k0,k1,k2,k3,k4]
theorem yG (v:IV) (m:Img) (n:Int) (w:World) (h:ImgR w w.heap.size v m) (hw:∀x,aE m n=0->dP m n.toNat 0=some x->CBd x/\Wired x):
  Calls prog 33 #[ae m v,.int .i64 n] w (aF w.heap.size (iu m n 0) (fm m n 0) w):=by
 have K1':= λW (hb:Below w.heap.size w W)=>xt v m n 0 W (h.next hb) rfl hw
 obtain⟨W4,hW,f1,f2,f3,f4⟩:=bd w m.guest v
 generalize iu m n 0=X at*
 generalize fm m n 0=er at*
 obtain⟨rA,rn,rc,sA,sn,sc,fA,fn,fc,pA,pn,pc⟩:=v
 dsimp only[ae]at K1' f1 f2 f3 f4 hW⊢
 have K1:=zh K1'
 clear K1' h hw
 have K3:=zh (K1.o _ f1)
 have HB6:=zh f1
 have HZ6:=zh f3
 obtain⟨x0,x1,x2,x3,x4⟩:=f2
 dsimp only at x0 x1 x2 x3 x4
 clear K1 f1 f3
 go_enter func33,ntmps33
 go_wp2_with fail
 rw[hW.o]
 refine K3.o.mono ?_
 rintro e w7 ⟨v7,rfl,hF7,hb7⟩
 have Z7:=HZ6.o.nextB hb7 (by omega)
 have B7:=aa HB6.o hb7
 obtain⟨y0,y1,y2,y3,y4⟩:=Z7.cells
 obtain⟨q0,q1,q2,q3,q4⟩:=Z7.froz
 obtain⟨⟨k0,k1,k2,k3,k4⟩,hF,hB⟩:=cA Z7 (hF7.mono (show w.heap.size<=_ by omega)) B7 (Nat.le_refl _) (by omega)
 have HK:=zg k0 k1 k2 k3 k4 hF hB
 dsimp only[ae]
 clear K3 Z7 B7 hF7 hb7 k0 k1 k2 k3 k4 hF hB HB6 HZ6 x0 x1 x2 x3 x4
 go_wp2_with fail
 obtain⟨k0,k1,k2,k3,k4,hF,hB⟩:=HK.o
 refine bodyPost_ret (v:=.tuple #[ae X v7,.int .i64 er]) ?_ rfl ⟨v7,rfl,hF,hB⟩
 simp[results,results33,go_sem,k0,k1,k2,k3,k4]
theorem yH (v:IV) (m:Img) (n:Int) (w:World) (h:ImgR w w.heap.size v m) (he:ab m≠0):
  Calls prog 30 #[ae m v,.int .i64 n] w (aF w.heap.size aj (ab m) w):=by
 have K1':= λW (hb:Below w.heap.size w W)=>bq v m W (h.next hb)
 obtain⟨W4,hW,f1,f2,f3,f4,f5⟩:=qZ w m.guest v (.int .i64 n) 3
 have lz:(ab m !=0)=true:=by simpa using he
 generalize ab m=er at*
 obtain⟨rA,rn,rc,sA,sn,sc,fA,fn,fc,pA,pn,pc⟩:=v
 dsimp only[ae]at K1' f1 f2 f3 f4 f5 hW⊢
 have K1:=zh K1'
 clear K1' h he
 obtain⟨x0,x1,x2,x3,x4⟩:=f2
 dsimp only at x0 x1 x2 x3 x4
 go_enter func30,ntmps30
 go_wp2_with fail
 rw[hW.o]
 refine(K1.o _ f1).mono ?_
 rintro e w5 ⟨rfl,hb5⟩
 have B5:=aa f1 hb5
 have Z5:=f4.nextB hb5 (by omega)
 obtain⟨y0,y1,y2,y3,y4⟩:=Z5.cells
 obtain⟨q0,q1,q2,q3,q4⟩:=Z5.froz
 have O:=cA Z5 (X:=aj) (v:=noV) (B:=w.heap.size) (.inl ⟨rfl,rfl⟩) B5 (Nat.le_refl _) (by omega)
 dsimp only[aj,noV]at O
 obtain⟨⟨k0,k1,k2,k3,k4⟩,hF,hB⟩:=O
 have HK:=zg k0 k1 k2 k3 k4 hF hB
 clear x0 x1 x2 x3 x4 f1 f3 f4 K1 Z5 B5 hb5 k0 k1 k2 k3 k4 hF hB
 go_wp2_with fail
 obtain⟨k0,k1,k2,k3,k4,hF,hB⟩:=HK.o
 refine bodyPost_ret (v:=.tuple #[ae aj noV,.int .i64 er]) ?_ rfl ⟨noV,rfl,hF,hB⟩
 simp[results,results30,go_sem,ae,aj,noV,k0,k1,k2,k3,k4]
theorem vw (v:IV) (m:Img) (n:Int) (w:World) (h:ImgR w w.heap.size v m) (he:ab m=0) (hn:n<0):
  Calls prog 30 #[ae m v,.int .i64 n] w (aF w.heap.size aj 3 w):=by
 have K1':= λW (hb:Below w.heap.size w W)=>bq v m W (h.next hb)
 obtain⟨W4,hW,f1,f2,f3,f4,f5⟩:=qZ w m.guest v (.int .i64 n) 3
 rw[he]at K1'
 obtain⟨rA,rn,rc,sA,sn,sc,fA,fn,fc,pA,pn,pc⟩:=v
 dsimp only[ae]at K1' f1 f2 f3 f4 f5 hW⊢
 have K1:=zh K1'
 clear K1' h he
 obtain⟨x0,x1,x2,x3,x4⟩:=f2
 dsimp only at x0 x1 x2 x3 x4
 go_enter func30,ntmps30
 go_wp2_with fail
 rw[hW.o]
 refine(K1.o _ f1).mono ?_
 rintro e w5 ⟨rfl,hb5⟩
 have B5:=aa f1 hb5
 have Z5:=f4.nextB hb5 (by omega)
 have hz5:=hb5.size
 have mv:∀{b j:Nat} {u:Value},b<W4.heap.size->W4.cell? ⟨b,j,none⟩=some u->w5.cell? ⟨b,j,none⟩=some u:= λ{b j u} hl h=>(hb5.cell (p:=⟨b,j,none⟩) hl).trans h
 have p1:=mv (by omega) f3
 obtain⟨y0,y1,y2,y3,y4⟩:=Z5.cells
 obtain⟨q0,q1,q2,q3,q4⟩:=Z5.froz
 have O:=cA Z5 (X:=aj) (v:=noV) (B:=w.heap.size) (.inl ⟨rfl,rfl⟩) B5 (Nat.le_refl _) (by omega)
 dsimp only[aj,noV]at O
 obtain⟨⟨k0,k1,k2,k3,k4⟩,hF,hB⟩:=O
 have HK:=zg k0 k1 k2 k3 k4 hF hB
 clear mv x0 x1 x2 x3 x4 f1 f3 f4 K1 Z5 B5 hb5 k0 k1 k2 k3 k4 hF hB
 go_wp2_with fail
 obtain⟨k0,k1,k2,k3,k4,hF,hB⟩:=HK.o
 refine bodyPost_ret (v:=.tuple #[ae aj noV,.int .i64 3]) ?_ rfl ⟨noV,rfl,hF,hB⟩
 simp[results,results30,go_sem,ae,aj,noV,k0,k1,k2,k3,k4]
theorem sS (v:IV) (m:Img) (n:Int) (w:World) (h:ImgR w w.heap.size v m) (he:ab m=0) (hn:¬n<0) (hn2:16<n):
  Calls prog 30 #[ae m v,.int .i64 n] w (aF w.heap.size aj 3 w):=by
 have K1':= λW (hb:Below w.heap.size w W)=>bq v m W (h.next hb)
 obtain⟨W4,hW,f1,f2,f3,f4,f5⟩:=qZ w m.guest v (.int .i64 n) 3
 rw[he]at K1'
 obtain⟨rA,rn,rc,sA,sn,sc,fA,fn,fc,pA,pn,pc⟩:=v
 dsimp only[ae]at K1' f1 f2 f3 f4 f5 hW⊢
 have K1:=zh K1'
 clear K1' h he
 obtain⟨x0,x1,x2,x3,x4⟩:=f2
 dsimp only at x0 x1 x2 x3 x4
 go_enter func30,ntmps30
 go_wp2_with fail
 rw[hW.o]
 refine(K1.o _ f1).mono ?_
 rintro e w5 ⟨rfl,hb5⟩
 have B5:=aa f1 hb5
 have Z5:=f4.nextB hb5 (by omega)
 have hz5:=hb5.size
 have mv:∀{b j:Nat} {u:Value},b<W4.heap.size->W4.cell? ⟨b,j,none⟩=some u->w5.cell? ⟨b,j,none⟩=some u:= λ{b j u} hl h=>(hb5.cell (p:=⟨b,j,none⟩) hl).trans h
 have p1:=mv (by omega) f3
 obtain⟨y0,y1,y2,y3,y4⟩:=Z5.cells
 obtain⟨q0,q1,q2,q3,q4⟩:=Z5.froz
 have O:=cA Z5 (X:=aj) (v:=noV) (B:=w.heap.size) (.inl ⟨rfl,rfl⟩) B5 (Nat.le_refl _) (by omega)
 dsimp only[aj,noV]at O
 obtain⟨⟨k0,k1,k2,k3,k4⟩,hF,hB⟩:=O
 have HK:=zg k0 k1 k2 k3 k4 hF hB
 clear mv x0 x1 x2 x3 x4 f1 f3 f4 K1 Z5 B5 hb5 k0 k1 k2 k3 k4 hF hB
 go_wp2_with fail
 obtain⟨k0,k1,k2,k3,k4,hF,hB⟩:=HK.o
 refine bodyPost_ret (v:=.tuple #[ae aj noV,.int .i64 3]) ?_ rfl ⟨noV,rfl,hF,hB⟩
 simp[results,results30,go_sem,ae,aj,noV,k0,k1,k2,k3,k4]
theorem yI (v:IV) (m:Img) (n:Nat) (w:World) (h:ImgR w w.heap.size v m) (hn:n<=16) (he:ab m=0) (X:Img) (er:Int) (hX:kP (bW m n)=X) (hE:iM (bW m n)=er) (hw:∀x,bW m n=some x->CBd x/\Wired x):
  Calls prog 30 #[ae m v,.int .i64 n] w (aF w.heap.size X er w):=by
 have K1':= λW (hb:Below w.heap.size w W)=>bq v m W (h.next hb)
 obtain⟨W4,hW,f1,f2,f3,f4,f5⟩:=qZ w m.guest v (.int .i64 n) 3
 rw[he]at K1'
 have hmf:∀(fn:Fn) (first cap:Array Value) (w:World),(Instr.makeFunc fn first cap).run prog w=.ok (.func fn first cap) w:= λ_ _ _ _=>rfl
 have KT:=zh (λ(W:World) (hi:ImgR W W.heap.size v m) (nb:Nat) (b1:nb<W.heap.size) (c1:W.cell? ⟨nb,0,none⟩=some (.int .i64 n))=>
  kQ v m W hi he 67 #[.pointer (some ⟨nb,0,none⟩)] (λ_ _=>by kernel_rfl) (bW m n) hw
   (λbase tg b v' q p W' hb hd hB=>qY base tg b v' q p m nb n W' hd he hn (by omega) ((hB.cell (p:=⟨nb,0,none⟩) b1).trans c1)))
 rw[hX,hE]at KT
 have HI:=zh h
 have e1:¬(n:Int)<0:=by omega
 have e2:¬(16:Int)<(n:Int):=by omega
 obtain⟨rA,rn,rc,sA,sn,sc,fA,fn,fc,pA,pn,pc⟩:=v
 dsimp only[ae]at K1' f1 f2 f3 f4 f5 hW⊢
 have K1:=zh K1'
 clear K1' h he hX hE hw hn
 obtain⟨x0,x1,x2,x3,x4⟩:=f2
 dsimp only at x0 x1 x2 x3 x4
 go_enter func30,ntmps30
 go_wp2_with fail
 rw[hW.o]
 refine(K1.o _ f1).mono ?_
 rintro e w5 ⟨rfl,hb5⟩
 have B5:=aa f1 hb5
 have Z5:=f4.nextB hb5 (by omega)
 have hz5:=hb5.size
 have mv:∀{b j:Nat} {u:Value},b<W4.heap.size->W4.cell? ⟨b,j,none⟩=some u->w5.cell? ⟨b,j,none⟩=some u:= λ{b j u} hl h=>(hb5.cell (p:=⟨b,j,none⟩) hl).trans h
 have p1:=mv (by omega) f3
 have a0:=mv (by omega) x0
 have a1:=mv (by omega) x1
 have a2:=mv (by omega) x2
 have a3:=mv (by omega) x3
 have a4:=mv (by omega) x4
 have K3:=zh (KT.o _ (HI.o.next B5) (w.heap.size+1) (by omega) p1)
 have HB6:=zh B5
 have HZ6:=zh Z5
 dsimp only[ae]at K3
 clear mv x0 x1 x2 x3 x4 f1 f3 f4 K1 KT HI Z5 B5 hb5
 go_wp2_with fail
 refine K3.o.mono ?_
 rintro e w7 ⟨v7,rfl,hF7,hb7⟩
 have Z7:=HZ6.o.nextB hb7 (by omega)
 have B7:=aa HB6.o hb7
 obtain⟨y0,y1,y2,y3,y4⟩:=Z7.cells
 obtain⟨q0,q1,q2,q3,q4⟩:=Z7.froz
 obtain⟨⟨k0,k1,k2,k3,k4⟩,hF,hB⟩:=cA Z7 (hF7.mono (show w.heap.size<=_ by omega)) B7 (Nat.le_refl _) (by omega)
 have HK:=zg k0 k1 k2 k3 k4 hF hB
 dsimp only[ae]
 clear K3 Z7 B7 hF7 hb7 k0 k1 k2 k3 k4 hF hB HB6 HZ6 a0 a1 a2 a3 a4
 go_wp2_with fail
 obtain⟨k0,k1,k2,k3,k4,hF,hB⟩:=HK.o
 refine bodyPost_ret (v:=.tuple #[ae X v7,.int .i64 er]) ?_ rfl ⟨v7,rfl,hF,hB⟩
 simp[results,results30,go_sem,k0,k1,k2,k3,k4]
theorem vx (v:IV) (m:Img) (g:Int) (w:World) (h:ImgR w w.heap.size v m) (hw:∀x,ab m=0->0<=g->g<=16->bW m g.toNat=some x->CBd x/\Wired x):
  Calls prog 30 #[ae m v,.int .i64 g] w (aF w.heap.size (eQ m g) (dG m g) w):=by
 unfold eQ dG
 by_cases he:ab m=0
 ·rw[if_pos he]
  by_cases hg:0<=g
  ·obtain⟨k,rfl⟩:=Int.eq_ofNat_of_zero_le hg
   by_cases h16:k<=16
   ·rw[if_pos ⟨he,hg,by omega⟩,if_pos ⟨hg,by omega⟩]
    exact yI v m k w h h16 he _ _ rfl rfl (λx=>hw x he hg (by omega))
   ·rw[if_neg (by omega),if_neg (by omega)]
    exact sS v m k w h he (by omega) (by omega)
  ·rw[if_neg (by omega),if_neg (by omega)]
   exact vw v m g w h he (by omega)
 ·rw[if_neg he,if_neg (λh=>he h.1)]
  exact yH v m g w h he
end
end Go.Proofs.YtdbneghfbkjinaaGreatDoor
