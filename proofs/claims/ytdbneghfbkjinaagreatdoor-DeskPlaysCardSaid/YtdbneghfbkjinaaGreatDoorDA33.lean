/- Texts of the proof of deskPlays_holds: Slots5, DAlone, DEnd, SnFind. Conditions: as each text says. -/
import Derived.Test.YtdbneghfbkjinaaGreatDoorDA1
import Derived.Test.YtdbneghfbkjinaaGreatDoorDA29
import Derived.Test.YtdbneghfbkjinaaGreatDoorDA30
import Derived.Test.YtdbneghfbkjinaaGreatDoorDA32
set_option maxRecDepth 100000
set_option maxHeartbeats 1000000
namespace Go.Proofs.YtdbneghfbkjinaaGreatDoor
section
open Go.Proofs.Tryz
open Go.RowKit Sl
theorem CN {l:List Slot} (k:Nat) (s:Slot) (h1:1<=k) (hs:l[k]? =some s) (h0:s.kind=0) (ha:((l.drop 1).take (k-1)).all (λy=> !(y.kind==0))=true):aS l=k:=by
 have hx:(l.drop 1)[k-1]? =some s:=by rw[List.getElem?_drop,show 1+(k-1)=k from by omega];exact hs
 have hf:=jb (λs:Slot=>s.kind==0) (l.drop 1) (k-1) s hx (by simp[h0]) ha
 have hl:k<l.length:=(zl hs)
 unfold aS dH
 rw[hf,if_pos (by rw[List.length_drop];omega)]
 omega
theorem Bu {l:List Slot} (ha:(l.drop 1).all (λy=> !(y.kind==0))=true):aS l=if l.length<40 then l.length else 0:=by
 have hf:=ld (λs:Slot=>s.kind==0) (l.drop 1) ha
 unfold aS dH
 rw[hf,if_neg (by omega)]
theorem go (A:Option Addr) (n c:Nat) (l:List Slot) (w:World) (h:SlotsR w w.heap.size A n l) (h1:1<=n) (hc:n<=4611686018427387903):
  Calls prog 150 #[.slice A n c] w λe w'=>e=.returned (.int .i64 (aS l))/\w=w':=by
 go_enter func150,ntmps150
 go_wp2_with fail
 go_loop [3] (λi=>∃k:Nat,1<=k/\k<=n/\i=.int .i64 k/\((l.drop 1).take (k-1)).all (λy=> !(y.kind==0))=true) (λi=>n-(intOf i).toNat)
 case atStart=>exact⟨1,Nat.le_refl _,h1,rfl,by simp⟩
 case round=>
  obtain⟨k,hk1,hkn,rfl,ha⟩:=hrel
  have HA:=zh ha
  clear ha
  by_cases hlt:k<n
  ·obtain⟨b,o,s,tA,tn,tc,rfl,hb,hx,c0,_,_,_⟩:=h.at_ hlt
   have HX:=zh hx
   clear hx
   cases hp:(s.kind==0)
   ·go_wp2_with fail
    go_round
    case rel=>exact⟨k+1,by omega,by omega,by go_num,by
     rw[show k+1-1=(k-1)+1 from by omega,bf _ (l.drop 1) (k-1) s (by rw[List.getElem?_drop,show 1+(k-1)=k from by omega];exact HX.o),HA.o,hp];rfl⟩
    case measure=>simp[intOf];omega
   ·go_wp2_with fail
    go_ret
    exact⟨aw (by rw[CN k s hk1 HX.o (by simpa using hp) HA.o]),rfl⟩
  ·have hg:=Bu (l:=l) (cP _ (l.drop 1) (k-1) (by rw[List.length_drop,h.1];omega) HA.o)
   rw[h.1]at hg
   have HG:=zh hg
   clear hg
   by_cases h40:n<40
   ·go_wp2_with fail
    go_ret
    exact⟨aw (by rw[HG.o,if_pos h40]),rfl⟩
   ·go_wp2_with fail
    go_ret
    exact⟨aw (by rw[HG.o,if_neg h40];rfl),rfl⟩
theorem yW (A:Option Addr) (n c:Nat) (l:List Slot) (w:World) (h:SlotsR w w.heap.size A n l) (hc:n<=4611686018427387903):
  Calls prog 48 #[.slice A n c] w λe w'=>e=.returned (.int .i64 (used l))/\w=w':=by
 go_enter func48,ntmps48
 go_wp2_with fail
 go_loop [4,3] (λi u=>∃k:Nat,k<=n/\i=.int .i64 k/\u=.int .i64 (used (l.take k):Nat)) (λi _=>n-(intOf i).toNat)
 case atStart=>exact⟨0,Nat.zero_le _,rfl,rfl⟩
 case round=>
  obtain⟨k,hkn,rfl,rfl⟩:=hrel
  have hu:=fY (l.take k)
  rw[List.length_take]at hu
  have hu':used (l.take k)<=n:=by omega
  clear hu
  by_cases hlt:k<n
  ·obtain⟨b,o,s,tA,tn,tc,rfl,hb,hx,c0,_,_,_⟩:=h.at_ hlt
   have HU:=zh (bp l k s hx)
   clear hx
   cases hp:(s.kind !=0)
   ·go_wp2_with fail
    go_round
    case rel=>exact⟨k+1,by omega,by go_num,by rw[HU.o,if_pos (by simpa using hp)];rfl⟩
    case measure=>simp[intOf];omega
   ·go_wp2_with fail
    go_round
    case rel=>exact⟨k+1,by omega,by go_num,by rw[HU.o,if_neg (by simpa using hp)];go_num⟩
    case measure=>simp[intOf];omega
  ·go_wp2_with fail
   go_ret
   exact⟨aw (by rw[used_all (by rw[h.1];omega)]),rfl⟩
def bl:List Slot:=[⟨0,{data:=#[]},[]⟩,⟨1,{data:=#[97,98,99,100]},[]⟩,⟨0,{data:=#[]},[]⟩,⟨2,{data:=#[]},[1,0,-1,0]⟩]
end
section
open Go.Proofs.Tryz
open Go.RowKit Sl
theorem bM {s:ByteArray} {l:List UInt8} (h:toL s≠l):(s.toList==l)=false:=by
 apply Bool.eq_false_iff.2
 intro hh
 exact h (by rw[<-eq_of_beq hh,ByteArray.toList_eq];rfl)
theorem iS {s:ByteArray} {l:List UInt8} (h:toL s=l):s=ofL l:=by rw[<-h,cW]
theorem yX:ab aj≠0:=by decide+kernel
theorem Fresh.own {w:World} {B:Nat} {v:IV} {m:Img} (h:Fresh w B v m) (hm:ab m=0):∃base tg q p,OwnI w base tg v q p m:=by
 rcases h with⟨rfl,rfl⟩|⟨base,tg,q,p,_,h⟩
 ·exact absurd hm yX
 ·exact⟨base,tg,q,p,h⟩
def LOut (tb:Nat) (m:Img) (r:Ans) (w:World) (e:Ending) (w':World):Prop:=
 match r with
 | .no er=>e=.panicked [{v:=oU er,recovered:=false}]/\Tb w' tb m/\w.grownBy w' (some tb)
 | .yes z t=>e=.returned (.string (ofL t))/\Tb w' tb z/\w.grownBy w' (some tb)
theorem aY {w w':World} {r:Option Nat} (h:Below w.heap.size w w'):w.grownBy w' r:=fi (World.grownBy.refl w r) h
theorem jH (tb:Nat) (m z:Img) (v:IV) (er:Int) (w:World) (h:Tb w tb m) (hf:er=0->∃base tg q p,OwnI w base tg v q p z):
  Calls prog 29 #[.pointer (some ⟨tb,0,none⟩),ae z v,.int .i64 er] w (LOut tb m (bT z er) w):=by
 by_cases he:er=0
 ·obtain⟨base,tg,q,p,ho⟩:=hf he
  subst he
  exact Cx tb m z v base tg q p w h ho
 ·refine(Cy tb er z v w he).mono ?_
  rintro e w' ⟨rfl,hb⟩
  rw[show bT z er=.no er from by unfold bT;rw[if_neg he]]
  exact⟨rfl,h.next hb,aY hb⟩
theorem LOut.from {tb:Nat} {m:Img} {r:Ans} {w w1 w':World} {e:Ending} (h:LOut tb m r w1 e w') (hb:Below w.heap.size w w1):LOut tb m r w e w':=by
 unfold LOut at h⊢
 cases r with
 |no er=>exact⟨h.1,h.2.1,(aY hb).trans h.2.2⟩
 |yes z t=>exact⟨h.1,h.2.1,(aY hb).trans h.2.2⟩
theorem oq (n:Nat) (hn:n<100) (w:World):Calls prog 26 #[.int .i64 n] w λe w'=>e=.returned (.string (ofL (Lib.decDigits n)))/\w'=w:=strconv_Itoa_small n hn w
theorem Bv {B:Nat} {w:World} (hG:Glob B w) (n:Nat) (hn:n<1000000):Calls prog 26 #[.int .i64 n] w λe w'=>e=.returned (.string (ofL (Lib.decDigits n)))/\Below w.heap.size w w':=by
 refine(strconv_Itoa (n:Int) (by omega) (by omega) w hG.tab).mono ?_
 rintro e w' ⟨rfl,kk,os,rfl⟩
 refine⟨?_,Lib.below_grow w.heap.size w (Nat.le_refl _) kk os⟩
 rw[show Lib.itoa (n:Int)=Lib.decDigits n from by unfold Lib.itoa;rw[if_neg (by omega),Int.toNat_natCast]]
 rfl
section
variable {tb B:Nat} {m:Img} {w:World} (h:Tb w tb m) (hm:ab m=0)
include h hm
theorem vJ:Calls prog 28 #[.pointer (some ⟨tb,0,none⟩),.string {data:=#[112,97,99,107]}] w (LOut tb m (.yes (cL m) okT) w):=by
 have hr:=od hm
 obtain⟨base,tg,v,q,p,ho,hx⟩:=h.img
 have KP:=yV v m w ho.imgR
 rw[tl hm,hm]at KP
 have KT:= λv' W (hb:Below w.heap.size w W) (hf:Fresh W w.heap.size v' (cL m))=>jH tb m (cL m) v' 0 W (h.next hb) (λ_=>hf.own hr)
 rw[show bT (cL m) 0=.yes (cL m) okT from if_pos rfl]at KT
 have KT:=zh KT
 obtain⟨rA,rn,rc,sA,sn,sc,fA,fn,fc,pA,pn,pc⟩:=v
 obtain⟨x0,x1,x2,x3,x4⟩:=hx
 dsimp only[ae]at x0 x1 x2 x3 x4 KP
 have HP:=zh KP
 clear h hm hr ho KP
 generalize cL m=z at*
 go_enter func28,ntmps28
 go_wp2_with fail
 refine HP.o.mono ?_
 rintro e w2 ⟨v',rfl,hf,hb⟩
 have K2:=zh (KT.o v' w2 hb hf)
 clear KT HP hf x0 x1 x2 x3 x4
 go_wp2_with fail
 refine K2.o.mono ?_
 rintro e w3 hL
 obtain⟨rfl,hL2⟩:=hL.from hb
 go_wp2_with fail
 go_ret
 exact⟨rfl,hL2⟩
theorem yY:Calls prog 28 #[.pointer (some ⟨tb,0,none⟩),.string {data:=#[109,97,112]}] w (LOut tb m (.yes m (lH m)) w):=by
 have KE:=zh (qW tb m w h hm)
 have HT:=zh (λW (hb:Below w.heap.size w W)=>h.next hb)
 clear h hm
 generalize lH m=t at*
 go_enter func28,ntmps28
 go_wp2_with fail
 refine KE.o.mono ?_
 rintro e w2 ⟨rfl,hb⟩
 go_wp2_with fail
 go_ret
 exact⟨rfl,HT.o _ hb,aY hb⟩
theorem vK:Calls prog 28 #[.pointer (some ⟨tb,0,none⟩),.string {data:=#[117,115,101,100]}] w (LOut tb m (.yes m (Lib.decDigits (used m.slots)++[32]++Lib.decDigits m.slots.length)) w):=by
 have h40:=(dz (aq hm).1).slots
 have hu:=fY m.slots
 have hse:=(dI (aq hm).1).1.slots
 obtain⟨base,tg,v,q,p,ho,hx⟩:=h.img
 have hR:=ho.imgR
 have hsn:=hR.slen
 have KU:=rU v.sA v.sn v.sc m.slots w hR.slots hR.scap.1
 rw[wZ hse]at KU
 have KI:=zh oq
 have HT:=zh (λW (hb:Below w.heap.size w W)=>h.next hb)
 have hl:=h.ty.ty.lt
 have HX:=zh (λW (hb:Below w.heap.size w W)=>hx.keep hb hl)
 obtain⟨rA,rn,rc,sA,sn,sc,fA,fn,fc,pA,pn,pc⟩:=v
 dsimp only at hsn KU hx HX
 rw[hsn]at h40 hu⊢
 obtain⟨x0,x1,x2,x3,x4⟩:=hx
 dsimp only at x0 x1 x2 x3 x4
 have HP:=zh KU
 have d1:(ofL (Lib.decDigits (used m.slots))).size<=9:=by rw[aT];exact cS (by omega)
 have d2:(ofL (Lib.decDigits sn)).size<=9:=by rw[aT];exact cS (by omega)
 rw[show(LOut tb m (.yes m (Lib.decDigits (used m.slots)++[32]++Lib.decDigits sn)) w)= λe w'=>e=.returned (.string (ofL (Lib.decDigits (used m.slots))++{data:=#[32]}++ofL (Lib.decDigits sn)))/\Tb w' tb m/\w.grownBy w' (some tb)from by
  funext e w';rw[show({data:=#[32]}:ByteArray)=ofL [32]from rfl,ee,ee];rfl]
 clear h hm hse hR ho hsn KU
 generalize used m.slots=a at*
 go_enter func28,ntmps28
 go_wp2_with fail
 refine HP.o.mono ?_
 rintro e w2 ⟨rfl,hb⟩
 obtain⟨y0,y1,y2,y3,y4⟩:=HX.o w2 hb
 dsimp only at y0 y1 y2 y3 y4
 clear x0 x1 x2 x3 x4 HP
 go_upto_region 8 with fail
 have n1:¬9223372036854775807<(ofL (Lib.decDigits a)).size+1:=by omega
 have n2:¬9223372036854775807<(ofL (Lib.decDigits a)).size+1+(ofL (Lib.decDigits sn)).size:=by omega
 go_region_law (first|(go_simp;go_at_call 26;refine(KI.o _ (by omega) _).mono ?_;rintro e w' ⟨rfl,rfl⟩))
 all_goals
  go_wp2_with fail
  go_ret
  exact⟨rfl,HT.o _ hb.drew,aY hb.drew⟩
theorem vL (hG:Glob B w) (hB:B<=tb):Calls prog 28 #[.pointer (some ⟨tb,0,none⟩),.string {data:=#[115,97,118,101]}] w (LOut tb m (.yes m (Lib.decDigits (ea m).length)) w):=by
 have hl:=h.ty.ty.lt
 obtain⟨base,tg,v,q,p,ho,hx⟩:=h.img
 have HL:=zh (kG hm)
 have KW:=vG v m w ho.imgR
 rw[hm,show wrS m=ofL (ea m)from if_pos hm]at KW
 have KR:= λW=>Bj (ofL (ea m)) W
 rw[show rdI (ofL (ea m))=m from by unfold rdI;rw[aZ,if_pos (by rw[aT];have:=HL.o;omega),pC hm];rfl,
  show rdE (ofL (ea m))=0 from by unfold rdE;rw[aZ,if_pos (by rw[aT];have:=HL.o;omega),pC hm];rfl]at KR
 have KM:=zh qU
 have KT:= λv' W (hb:Below w.heap.size w W) ho=>jH tb m m v' 0 W (h.next hb) ho
 rw[show bT m 0=.yes m okT from if_pos rfl]at KT
 have KI:= λW (hg:w.grownBy W (some tb))=>Bv (hG.keep λk hk=>hg.block k (by omega) (by simp;omega)) (ea m).length (by have:=HL.o;omega)
 obtain⟨rA,rn,rc,sA,sn,sc,fA,fn,fc,pA,pn,pc⟩:=v
 obtain⟨x0,x1,x2,x3,x4⟩:=hx
 dsimp only[ae]at x0 x1 x2 x3 x4 KW
 have HW:=zh KW
 have HR:=zh KR
 have HT:=zh KT
 have HI:=zh KI
 have hz:=aT (ea m)
 clear h hm hG ho KW KR KT KI
 generalize (ea m).length=N at*
 generalize ofL (ea m)=s at*
 subst hz
 go_enter func28,ntmps28
 go_wp2_with fail
 refine HW.o.mono ?_
 rintro e w2 ⟨rfl,hb⟩
 go_wp2_with fail
 refine(KM.o _).mono ?_
 rintro e w3 ⟨rfl,rfl⟩
 go_wp2_with fail
 refine(HR.o _).mono ?_
 rintro e w4 ⟨v',rfl,_,hb4,ho4⟩
 have hb4':=aa hb hb4
 obtain⟨tg4,q4,p4,ho4⟩:=ho4 rfl
 have B5:=ac w4 (.cells #[.int .i64 m.guest,.slice v'.rA v'.rn v'.rc,.slice v'.sA v'.sn v'.sc,.slice v'.fA v'.fn v'.fc,.slice v'.pA v'.pn v'.pc] 34)
 have X5:=Box.new w4 m.guest v' 34
 have K5:=HT.o v' _ (aa hb4' B5) (λ_=>⟨_,_,_,_,ho4.next B5⟩)
 have HB5:=zh (aa hb4' B5)
 obtain⟨x0,x1,x2,x3,x4⟩:=X5
 dsimp only[ae]at x0 x1 x2 x3 x4 K5⊢
 have HK5:=zh K5
 clear K5 B5 ho4 HT HR HW hb4 hb4' hb KM
 go_wp2_with fail
 refine HK5.o.mono ?_
 rintro e w6 ⟨rfl,hT,hg⟩
 have HT6:=zh hT
 have HG6:=zh ((aY (r:=some tb) HB5.o).trans hg)
 have HI6:=zh (HI.o _ HG6.o)
 clear HK5 x0 x1 x2 x3 x4 hT hg HI
 go_wp2_with fail
 refine HI6.o.mono ?_
 rintro e w7 ⟨rfl,hb7⟩
 go_wp2_with fail
 go_ret
 exact⟨rfl,HT6.o.next hb7,HG6.o.trans (aY hb7)⟩
omit hm in
theorem Bw (s:ByteArray) (h1:toL s≠[112,97,99,107]) (h2:toL s≠[109,97,112]) (h3:toL s≠[117,115,101,100]) (h4:toL s≠[115,97,118,101]):
  Calls prog 28 #[.pointer (some ⟨tb,0,none⟩),.string s] w (LOut tb m (.no 1) w):=by
 have q1:(s.toList==[112,97,99,107])=false:=bM h1
 have q2:(s.toList==[109,97,112])=false:=bM h2
 have q3:(s.toList==[117,115,101,100])=false:=bM h3
 have q4:(s.toList==[115,97,118,101])=false:=bM h4
 have KM:=zh (λW=>jZ 1 W (by decide))
 have HT:=zh h
 clear h1 h2 h3 h4 h
 go_enter func28,ntmps28
 go_wp2_with fail
 refine(KM.o _).mono ?_
 rintro e w2 ⟨rfl,rfl⟩
 exact⟨rfl,rfl,HT.o,World.grownBy.refl _ _⟩
theorem yZ (s:ByteArray) (hG:Glob B w) (hB:B<=tb):Calls prog 28 #[.pointer (some ⟨tb,0,none⟩),.string s] w (LOut tb m (iR m (toL s)) w):=by
 unfold iR
 split
 ·rename_i hs;rw[iS hs];exact vJ h hm
 split
 ·rename_i hs;rw[iS hs];exact yY h hm
 split
 ·rename_i hs;rw[iS hs];exact vK h hm
 split
 ·rename_i hs;rw[iS hs];exact vL h hm hG hB
 ·rename_i h1 h2 h3 h4
  exact Bw h s h1 h2 h3 h4
end
end
section
open Go.Proofs.Tryz
open Go.RowKit Sl
def oZ (tb:Nat) (s:Img×List UInt8) (w:World) (e:Ending) (w':World):Prop:=e=.returned (.string (ofL s.2))/\Tb w' tb s.1/\w.grownBy w' (some tb)
def kU (m:Img):Ans->Img×List UInt8
 | .no e=>(m,ia e)
 | .yes z t=>(z,t)
theorem qf (m:Img) (l:List UInt8):eY m l=kU m (jE m l):=by unfold eY kU;cases jE m l<;>rfl
structure StrB (W:World) (b:Nat) (s:ByteArray):Prop where
 heap:W.heap[b]? =some (.cells #[.string s] 9 (0,0))
section
variable {W W':World} {b:Nat} {s:ByteArray}
theorem StrB.drew (h:StrB W b s):StrB W.drew b s:=⟨h.heap⟩
theorem StrB.lt (h:StrB W b s):b<W.heap.size:=(za h.heap)
theorem StrB.new (W:World) (s:ByteArray):StrB (W.alloc (.cells #[.string s] 9)) W.heap.size s:=⟨heap_alloc_new W _⟩
theorem StrB.next (h:StrB W b s) (hb:Below W.heap.size W W'):StrB W' b s:=⟨(hb.block b h.lt).trans h.heap⟩
theorem StrB.kept {row:Option Nat} (h:StrB W b s) (hg:W.grownBy W' row) (hn:some b≠row):StrB W' b s:=⟨(hg.block b h.lt hn).trans h.heap⟩
theorem StrB.cell (h:StrB W b s):W.cell? ⟨b,0,none⟩=some (.string s):=cell_of_row W b 0 _ _ _ h.heap
theorem StrB.froz (h:StrB W b s):W.frozen? ⟨b,0,none⟩=false:=frozen_of_row W b 0 _ _ h.heap
theorem StrB.set (h:StrB W b s) (t:ByteArray):StrB (W.setCell ⟨b,0,none⟩ (.string t)) b t:=⟨heap_setCell_same W b 0 _ _ _ h.heap⟩
theorem StrB.ty (h:StrB W b s):TypeB W b 9:=⟨_,_,h.heap⟩
end
theorem Tb.kept {w w':World} {tb b:Nat} {m:Img} {T:TypeId} (h:Tb w tb m) (hg:w.grownBy w' (some b)) (hT:TypeB w b T) (h1:T≠3) (h2:T≠108) (h3:T≠102) (hn:b≠tb):Tb w' tb m:=by
 obtain⟨base,tg,v,q,p,ho,hx⟩:=h.img
 have hne:some tb≠some b:= λe=>hn (by injection e with e;exact e.symm)
 exact⟨h.ty.kept hg hne,base,tg,v,q,p,ho.kept hg hT h1 h2 h3,hx.kept hg hne⟩
theorem zd (w:World):(Instr.typeAssert .nilIface 20 58 true).run prog w=.ok (.tuple #[.agg #[.int .i64 0],.bool false]) w:=by kernel_rfl
theorem vM (er:Int) (w:World):(Instr.typeAssert (oU er) 20 58 true).run prog w=.ok (.tuple #[.agg #[.int .i64 er],.bool true]) w:=by kernel_rfl
theorem CO (ob:Nat) (w:World):
  CallsD prog 25 #[.pointer (some ⟨ob,0,none⟩)] .returning w λe u' w'=>e=.returned (.tuple #[])/\u'=.returning/\Below w.heap.size w w':=by
 have ha:=zd w
 refine callsD_of_wpS func25 rfl λc₀ cs hu=>?_
 apply wpS_seq
 apply wpS_region
 simp[wpOpsS,go_sem,recoverD,hu,ntmps25,Exit.thenS]
 apply wpS_seq
 apply wpS_region
 simp[wpOpsS,go_sem,ha,Exit.thenS]
 apply wpS_seq
 apply wpS_region
 simp[wpOpsS,go_sem,Exit.thenS]
 refine wpS_cond (t:=false) (by simp[Act.eval,Array.replicate]) ?_
 simp only[Bool.false_eq_true,if_false]
 apply wpS_seq
 apply wpS_region
 simp[wpOpsS,go_sem,Exit.thenS]
 refine wpS_cond (t:=false) (by simp[Act.eval,Array.replicate]) ?_
 simp only[Bool.false_eq_true,if_false]
 refine wpS_of_wp (wp_skip ?_)
 have hb:=ac w (.cells #[.int .i64 0] 58)
 cases c₀
 simp_all [bodyPostS,results,results25]
theorem vN (ob:Nat) (n:Nat) (hn:n<100) (s:ByteArray) (older:List PanicEntry) (w:World) (hs:StrB w ob s):
  CallsD prog 25 #[.pointer (some ⟨ob,0,none⟩)] (.panicking ({v:=oU n,recovered:=false}::older)) w λe u' w'=>e=.returned (.tuple #[])/\u'=.panicking ({v:=oU n,recovered:=true}::older)/\
   w'=(w.alloc (.cells #[.int .i64 n] 58)).setCell ⟨ob,0,none⟩ (.string (ofL (ia n))):=by
 have ha:=vM n w
 have B1:=ac w (.cells #[.int .i64 n] 58)
 have hs1:=hs.next B1
 have c1:=cell_of_row _ _ 0 _ _ _ (heap_alloc_new w (.cells #[.int .i64 (n:Int)] 58))
 have c2:=hs1.cell
 have f2:=hs1.froz
 have KI:=zh (oq n hn)
 have d1:(ofL (Lib.decDigits n)).size<=9:=by rw[aT];exact cS (by omega)
 have E:=zh (show ofL (ia n)={data:=#[101,114,114,111,114,32]}++ofL (Lib.decDigits n)from by rw[show({data:=#[101,114,114,111,114,32]}:ByteArray)=ofL [101,114,114,111,114,32]from rfl,ee];rfl)
 refine callsD_of_wpS func25 rfl λc₀ cs hu=>?_
 apply wpS_seq
 apply wpS_region
 simp[wpOpsS,go_sem,recoverD,hu,ntmps25,Exit.thenS]
 apply wpS_seq
 apply wpS_region
 simp[wpOpsS,go_sem,ha,Exit.thenS]
 apply wpS_seq
 apply wpS_region
 simp[wpOpsS,go_sem,Exit.thenS]
 refine wpS_cond (t:=true) (by simp[Act.eval,Array.replicate]) ?_
 simp only[if_true]
 refine wpS_of_wp ?_
 simp only[Array.replicate_succ,Array.replicate_zero,List.push_toArray,List.append_toArray,List.nil_append,List.cons_append,List.setIfInBounds_toArray,List.set_cons_zero,List.set_cons_succ]
 rw[E.o]
 generalize w.alloc (.cells #[.int .i64 n] 58)=w1 at*
 generalize ofL (Lib.decDigits n)=t at*
 simp only[List.getElem?_toArray,List.getElem?_cons_zero]at c1
 clear B1 hs1 ha hs hu E
 go_wp2_with fail
 refine(KI.o _).mono ?_
 rintro e w' ⟨rfl,rfl⟩
 go_wp2_with fail
 cases c₀
 simp_all [bodyPostS,results,results25]
section
variable {w W:World} {tb:Nat} {m z:Img} {tmps:Array Value} {s:ByteArray}
theorem dD {er:Int} {sr:Img×List UInt8} (hr:sr=(m,ia er)) (h0:0<=er) (h9:er<=9) (hT:Tb W tb m) (ho:StrB W w.heap.size s) (hg:w.grownBy W (some tb)) (htb:tb<w.heap.size) (h4:tmps[4]?.getD undef=.pointer (some ⟨w.heap.size,0,none⟩)):
  bodyPostD prog Tryz.f12 (oZ tb sr w) (.panic [{v:=oU er,recovered:=false}])
   {tmps:=tmps,defers:=[{target:=.fn (.func 25) #[.pointer (some ⟨w.heap.size,0,none⟩)],args:=#[]}]} W:=by
 subst hr
 obtain⟨n,rfl⟩:∃n:Nat,er=(n:Nat):=⟨er.toNat,by omega⟩
 have KC:=zh (vN w.heap.size n (by omega) s [] W ho)
 have B1:=ac W (.cells #[.int .i64 n] 58)
 have h1:=ho.next B1
 have hT1:=hT.next B1
 have hg1:=hg.trans (aY B1)
 generalize W.alloc (.cells #[.int .i64 n] 58)=W1 at*
 have hgs:=ai W1 w.heap.size 0 (.string (ofL (ia n)))
 have hT2:=hT1.kept hgs h1.ty (by decide) (by decide) (by decide) (by omega)
 have k2:=(h1.set (ofL (ia n))).cell
 have hg2:=cD hg1 (Nat.le_refl _) 0 (.string (ofL (ia n)))
 have HF:=zh (And.intro hT2 hg2)
 clear hT ho hg h1 hT1 hg1 B1 hgs hT2 hg2
 refine leaves_cons (f:=25) (args:=#[.pointer (some ⟨w.heap.size,0,none⟩)]) (by simp) (by simp[go_sem]) ?_
 refine KC.o.mono ?_
 rintro e u' w6 ⟨rfl,rfl,e6⟩
 rw[<-e6]at HF k2
 clear e6 KC
 simp[Leaves,settle,results,results12,go_sem,h4,k2]
 exact⟨rfl,HF.o.1,HF.o.2⟩
theorem lQ {t:List UInt8} {sr:Img×List UInt8} (hr:sr=(z,t)) (hT:Tb W tb z) (ho:StrB W w.heap.size (ofL t)) (hg:w.grownBy W (some tb)) (h4:tmps[4]?.getD undef=.pointer (some ⟨w.heap.size,0,none⟩)):
  bodyPostD prog Tryz.f12 (oZ tb sr w) .ret
   {tmps:=tmps,defers:=[{target:=.fn (.func 25) #[.pointer (some ⟨w.heap.size,0,none⟩)],args:=#[]}]} W:=by
 subst hr
 have KI:=zh (CO w.heap.size W)
 have HF:=zh (And.intro hT (And.intro ho hg))
 clear hT ho hg
 refine leaves_cons (f:=25) (args:=#[.pointer (some ⟨w.heap.size,0,none⟩)]) (by simp) (by simp[go_sem]) ?_
 refine KI.o.mono ?_
 rintro e u' w6 ⟨rfl,rfl,hb⟩
 have k2:=(HF.o.2.1.next hb).cell
 simp[Leaves,settle,results,results12,go_sem,h4,k2]
 exact⟨rfl,HF.o.1.next hb,HF.o.2.2.trans (aY hb)⟩
end
end
section
open Go.Proofs.Tryz
open Go.RowKit Sl
def kV (s t:ByteArray):Int:=if bI s t=true then-1 else if bI t s=true then 1 else 0
theorem xC (s t:ByteArray):decide (kV s t<0)=bI s t:=by
 unfold kV
 cases h:bI s t
 ·cases h2:bI t s<;>simp
 ·simp
theorem CP {s t:ByteArray} (h:bI s t=false):(kV s t==0)=(s.toList==t.toList):=by
 have h2:=fu s.toList t.toList
 unfold kV
 unfold bI at h⊢
 rw[h,Bool.false_or]at h2
 rw[h2,h]
 cases h3:eu t.toList s.toList<;>simp
theorem ze (s:ByteArray) (w:World):Calls prog 180 #[.string s] w λe w'=>e=.returned (.bool false)/\w'=w:=by
 go_enter func180,ntmps180
 go_wp2_with fail
 go_ret
 exact⟨by simp,rfl⟩
theorem CQ (s t:ByteArray) (w:World):Calls prog 129 #[.string s,.string t] w λe w'=>e=.returned (.int .i64 (kV s t))/\w'=w:=by
 have K:= λs W=>ze s W
 cases h1:bI s t
 ·cases h2:bI t s
  ·have R:=zh (show kV s t=0 from by unfold kV;rw[h1,h2];rfl)
   have h3:(s.toList==t.toList)= !bI t s:=by have:=fu s.toList t.toList;unfold bI at h1⊢;rw[h1,Bool.false_or]at this;exact this
   rw[h2]at h3
   rw[show(!(false:Bool))=true from rfl]at h3
   rw[<-im]at h1 h2
   go_enter func129,ntmps129
   go_wp2_with (first|(refine(K _ _).mono ?_;rintro e w' ⟨rfl,rfl⟩))
   go_ret
   exact⟨aw R.o,rfl⟩
  ·have R:=zh (show kV s t=1 from by unfold kV;rw[h1,h2];rfl)
   have h3:(s.toList==t.toList)= !bI t s:=by have:=fu s.toList t.toList;unfold bI at h1⊢;rw[h1,Bool.false_or]at this;exact this
   rw[h2]at h3
   rw[show(!(true:Bool))=false from rfl]at h3
   rw[<-im]at h1 h2
   go_enter func129,ntmps129
   go_wp2_with (first|(refine(K _ _).mono ?_;rintro e w' ⟨rfl,rfl⟩))
   go_ret
   exact⟨aw R.o,rfl⟩
 ·have R:=zh (show kV s t= -1 from by unfold kV;rw[h1];rfl)
  rw[<-im]at h1
  go_enter func129,ntmps129
  go_wp2_with (first|(refine(K _ _).mono ?_;rintro e w' ⟨rfl,rfl⟩))
  go_ret
  exact⟨aw R.o,rfl⟩
theorem vO (s:Snap) (tA:Option Addr) (tn tc:Nat) (name:ByteArray) (w:World):
  Calls prog 128 #[.agg #[.string s.name,.int .i64 s.guest,.slice tA tn tc],.string name] w λe' w'=>e'=.returned (.int .i64 (kV s.name name))/\Below w.heap.size w w':=by
 have HB1:=ac w (.cells #[.string s.name,.int .i64 s.guest,.slice tA tn tc] 102)
 have K:= λW=>CQ s.name name W
 go_enter func128,ntmps128
 go_wp2_with fail
 refine(K _).mono ?_
 rintro e w1 ⟨rfl,rfl⟩
 go_wp2_with fail
 go_ret
 exact⟨rfl,HB1⟩
theorem tF (A:Option Addr) (n c:Nat) (l:List Snap) (name:ByteArray) (w:World) (h:SnapsR w w.heap.size A n l) (hc:n<=1000000) (S:fU l)
  (hk:∀(vs:Array Value) (W:World),(callFunc 128 vs).run prog W=.ok (.enter 128 vs) W):
  Calls prog 127 #[.slice A n c,.string name,.func (.func 128) #[] #[]] w
  λe w'=>e=.returned (.tuple #[.int .i64 (ca l name:Nat),.bool (l.any (named name))])/\Below w.heap.size w w':=by
 have HS:=zh S
 have hin:ca l name<=n:=by rw[<-h.1];exact mZ _ _
 have HL:=zh h.1
 have HF:=zh (λ(s:Snap) (tA:Option Addr) (tn tc:Nat) W=>vO s tA tn tc name W)
 have HI1:=zh (λ(j:Nat) (s:Snap) (hx:l[j]? =some s) (hs:bI s.name name=true)=>show j<ca l name from by
  rcases Nat.lt_or_ge j (ca l name)with h|h
  ·exact h
  ·have:=ka S h hx;rw[this]at hs;cases hs)
 have HI2:=zh (λ(j:Nat) (s:Snap) (hx:l[j]? =some s) (hs:bI s.name name=false)=>show ca l name<=j from by
  rcases Nat.lt_or_ge j (ca l name)with h|h
  ·have:=iN h hx;rw[this]at hs;cases hs
  ·exact h)
 have HA:=zh (sV (name:=name) S)
 clear S
 generalize hK:ca l name=kk at*
 have HK:=zh hK
 clear hK
 generalize hR:l.any (named name)=rb at*
 go_enter func127,ntmps127
 go_wp2_with fail
 go_loopw [9,10] (λi j wr=>∃lo hi:Nat,i=.int .i64 lo/\j=.int .i64 hi/\lo<=hi/\hi<=n/\lo<=kk/\kk<=hi/\Below w.heap.size w wr) (λi j _=>(intOf j).toNat-(intOf i).toNat)
 case atStart=>exact⟨0,n,rfl,rfl,Nat.zero_le _,Nat.le_refl _,Nat.zero_le _,hin,Below.refl _ _⟩
 case round=>
  obtain⟨lo,hi,rfl,rfl,hlh,hhn,hlk,hkh,hbw⟩:=hrel
  by_cases hlt:lo<hi
  ·obtain⟨b,o,s,tA,tn,tc,rfl,hb,hx,h0,h1,h2,hs⟩:=(h.below hbw (Nat.le_refl _)).at_ (k:=(lo+hi)/2) (by omega)
   have HX:=zh hx
   have hz:=hbw.size
   clear hx hs
   have e1:((lo:Int)+(hi:Int))/2=(((lo+hi)/2:Nat):Int):=by omega
   have J1:=zh (HI1.o _ s HX.o)
   have J2:=zh (HI2.o _ s HX.o)
   have hm1:lo<=(lo+hi)/2:=by omega
   have hm2:(lo+hi)/2<hi:=by omega
   generalize (lo+hi)/2=mid at*
   cases hp:bI s.name name
   ·have hq:decide (kV s.name name<0)=false:=(xC _ _).trans hp
    go_wp2_with (refine(HF.o s tA tn tc _).mono ?_;rintro e w' ⟨rfl,hb'⟩)
    go_roundw
    case rel=>exact⟨lo,mid,by go_num,by go_num,by omega,by omega,hlk,J2.o hp,hbw.trans (hb'.mono hz)⟩
    case measure=>simp[intOf];omega
   ·have hq:decide (kV s.name name<0)=true:=(xC _ _).trans hp
    go_wp2_with (refine(HF.o s tA tn tc _).mono ?_;rintro e w' ⟨rfl,hb'⟩)
    go_roundw
    case rel=>exact⟨mid+1,hi,by go_num,by go_num,by omega,by omega,J1.o hp,hkh,hbw.trans (hb'.mono hz)⟩
    case measure=>simp[intOf];omega
  ·obtain rfl:lo=hi:=by omega
   obtain rfl:lo=kk:=by omega
   by_cases hkn:lo<n
   ·obtain⟨b,o,s,tA,tn,tc,rfl,hb,hx,h0,h1,h2,hs⟩:=(h.below hbw (Nat.le_refl _)).at_ (k:=lo) hkn
    have hz:=hbw.size
    have hpf:bI s.name name=false:=by
     cases hp:bI s.name name
     ·rfl
     ·have:=HI1.o _ s hx hp;omega
    have R:=zh (show(kV s.name name==0)=rb from by
     rw[CP hpf,Bool.eq_iff_iff,HA.o]
     exact⟨λhh=>⟨s,hx,hh⟩,λ⟨t,ht,hh⟩=>by rw[hx]at ht;injection ht with ht;rw[ht];exact hh⟩)
    clear hx hs hR
    go_wp2_with (refine(HF.o s tA tn tc _).mono ?_;rintro e w' ⟨rfl,hb'⟩)
    go_ret2
    exact⟨by rw[R.o];rfl,hbw.trans (hb'.mono hz)⟩
   ·have R:=zh (show rb=false from by
     cases hh:rb
     ·rfl
     ·obtain⟨s,hs,_⟩:=HA.o.1 hh
      have:=(zl hs)
      rw[HL.o]at this;omega)
    clear hR
    go_wp2_with fail
    go_ret2
    exact⟨by rw[R.o];rfl,hbw⟩
theorem Bx (vs:Array Value) (W:World):(callFunc 128 vs).run prog W=.ok (.enter 128 vs) W:=by kernel_rfl
theorem eC (v:IV) (m:Img) (name:ByteArray) (w:World) (h:ImgR w w.heap.size v m) (S:fU m.snaps) (hp:v.pn<=1000):
  Calls prog 73 #[ae m v,.string name] w λe w'=>e=.returned (.tuple #[.int .i64 (ca m.snaps name:Nat),.bool (m.snaps.any (named name))])/\Below w.heap.size w w':=by
 have K:=zh (λW (hb:Below w.heap.size w W)=>tF v.pA v.pn v.pc m.snaps name W (h.next hb).snaps (by omega) S Bx)
 generalize ca m.snaps name=kk at*
 generalize m.snaps.any (named name)=rb at*
 obtain⟨rA,rn,rc,sA,sn,sc,fA,fn,fc,pA,pn,pc⟩:=v
 dsimp only[ae]at*
 have HB1:=ac w (.cells #[.int .i64 m.guest,.slice rA rn rc,.slice sA sn sc,.slice fA fn fc,.slice pA pn pc] 34)
 clear h S
 go_enter func73,ntmps73
 go_wp2_with fail
 refine(K.o _ HB1).mono ?_
 rintro e w1 ⟨rfl,hb1⟩
 go_wp2_with fail
 go_ret2
 exact⟨rfl,aa HB1 hb1⟩
end
end Go.Proofs.YtdbneghfbkjinaaGreatDoor
