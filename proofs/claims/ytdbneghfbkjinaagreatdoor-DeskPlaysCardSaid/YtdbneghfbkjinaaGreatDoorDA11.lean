/- Texts of the proof of deskPlays_holds: ShapeA. Conditions: as each text says. -/
import Derived.Test.YtdbneghfbkjinaaGreatDoorDA1
import Derived.Test.YtdbneghfbkjinaaGreatDoorDA10
import Derived.RangeFuncNested
import Derived.RangeFuncBound
import Derived.OwnWalkIn
import Derived.TacticsInMore
import Derived.LoopNIn
import Derived.LoopIn
set_option maxRecDepth 100000
set_option maxHeartbeats 2000000
namespace Go.Proofs.YtdbneghfbkjinaaGreatDoor
section
open Go.Proofs.Tryz
open Go.RowKit Sl
def Box (W:World) (b:Nat) (g:Int) (v:IV):Prop:=
 W.cell? ⟨b,0,none⟩=some (.int .i64 g)/\W.cell? ⟨b,1,none⟩=some (.slice v.rA v.rn v.rc)/\W.cell? ⟨b,2,none⟩=some (.slice v.sA v.sn v.sc)/\W.cell? ⟨b,3,none⟩=some (.slice v.fA v.fn v.fc)/\W.cell? ⟨b,4,none⟩=some (.slice v.pA v.pn v.pc)
theorem Box.new (w:World) (g:Int) (v:IV) (T:TypeId):Box (w.alloc (.cells #[.int .i64 g,.slice v.rA v.rn v.rc,.slice v.sA v.sn v.sc,.slice v.fA v.fn v.fc,.slice v.pA v.pn v.pc] T)) w.heap.size g v:=by
 have h:= λj=>cell_of_row (w.alloc (.cells #[.int .i64 g,.slice v.rA v.rn v.rc,.slice v.sA v.sn v.sc,.slice v.fA v.fn v.fc,.slice v.pA v.pn v.pc] T)) w.heap.size j _ _ _ (heap_alloc_new w _)
 exact⟨h 0,h 1,h 2,h 3,h 4⟩
theorem Box.keep {W W':World} {b M:Nat} {g:Int} {v:IV} (h:Box W b g v) (hb:Below M W W') (hM:b<M):Box W' b g v:=
 ⟨(hb.cell (p:=⟨b,0,none⟩) hM).trans h.1,(hb.cell (p:=⟨b,1,none⟩) hM).trans h.2.1,(hb.cell (p:=⟨b,2,none⟩) hM).trans h.2.2.1,(hb.cell (p:=⟨b,3,none⟩) hM).trans h.2.2.2.1,(hb.cell (p:=⟨b,4,none⟩) hM).trans h.2.2.2.2⟩
theorem iJ {P:Program} {f:FuncId} {args:Array Value} {w:World} {n:Nat} {v:Value} (h:Calls P f args (w.drewN n) λe w'=>e=.returned v/\w.drewN n=w'):Calls P f args (w.drewN n) λe w''=>e=.returned v/\ ∃m,w''=w.drewN m:=
 h.mono λ_ _ ⟨he,hm⟩=>⟨he,n,hm.symm⟩
theorem kq (s t:List UInt8):Op.bytesLess s t=eu s t:=by
 induction s generalizing t with
 |nil=>cases t<;>rfl
 |cons a s ih=>
  cases t with
  |nil=>rfl
  |cons b t=>
   simp only[Op.bytesLess,eu,ih]
   rfl
theorem im (s t:ByteArray):Op.bytesLess s.toList t.toList=bI s t:=kq _ _
theorem Cr (s t:ByteArray):(Op.bytesLess s.toList t.toList||s.toList==t.toList)= !bI t s:=by rw[kq,fu];rfl
theorem AA {l:List Snap} {s:Snap} (h:l[0]? =some s):da l 0=bj s.name:=by unfold da;rw[bY h];simp
theorem sC {l:List Snap} {k:Nat} {s p:Snap} (h:l[k]? =some s) (hp:l[k-1]? =some p) (hk:1<=k):da l k=(bj s.name&&bI p.name s.name):=by
 unfold da;rw[bY h,bY hp,show(k==0)=false from by rw[beq_eq_false_iff_ne];omega,Bool.false_or]
theorem nQ {l:List Slot} {e:Int} (h:e<=0):aX l e=true:=by unfold aX;rw[decide_eq_true h];rfl
theorem kI {l:List Slot} {e:Int} (h:0<e):aX l e=(aQ l e==1):=by unfold aX;rw[decide_eq_false (by omega)];rfl
end
section
open Go.Proofs.Tryz
open Go.RowKit Go.Shelf Sl
attribute [local go_sem] Oper.semAt_some
structure RV where
 g:Int
 A:Option Addr
 n:Nat
 c:Nat
 root:List Int
def KeepB (n₀ Bm:Nat) (W W':World):Prop:=Below n₀ W W'/\W'.cell? ⟨Bm,4,none⟩=W.cell? ⟨Bm,4,none⟩
theorem KeepB.t {n₀ Bm:Nat} {A B C:World} (h:KeepB n₀ Bm A B) (k:KeepB n₀ Bm B C):KeepB n₀ Bm A C:=⟨h.1.trans k.1,k.2.trans h.2⟩
theorem KeepB.b {n₀ Bm:Nat} {w:World} (hn:n₀<=w.heap.size) (hm:Bm<w.heap.size) (W:World) (l:Nat) (o o':Obj) (hl:w.heap.size<=l) (h:W.heap[l]? =some o) (h1:o.isCells=false) (h2:o.isWalk=false):KeepB n₀ Bm W (W.putObj l o'):=
 ⟨belowK_b hn W l o o' hl h h1 h2,(belowK_b (n₀:=Bm+1) (by omega) W l o o' hl h h1 h2).cell (p:=⟨Bm,4,none⟩) (by show Bm<Bm+1;omega)⟩
theorem KeepB.of_below {n₀ Bm M:Nat} {W W':World} (h:Below M W W') (hn:n₀<=M) (hm:Bm<M):KeepB n₀ Bm W W':=⟨h.mono hn,h.cell (p:=⟨Bm,4,none⟩) hm⟩
def RV.encs (x:RV):Array Value:=#[.int .i64 x.g,.slice x.A x.n x.c]
def RootsAt (W:World) (B:Nat) (pA:Option Addr) (pn:Nat) (rs:List RV):Prop:=
 rs.length=pn/\(0<pn->∃b o,pA=some ⟨b,o,none⟩/\b<B/\ ∀k x,rs[k]? =some x->(∃s,W.cell? ⟨b,o+k*3,none⟩=some (.string s))/\W.cell? ⟨b,o+k*3+1,none⟩=some (.int .i64 x.g)/\W.cell? ⟨b,o+k*3+2,none⟩=some (.slice x.A x.n x.c))
theorem RootsAt.below {W W':World} {B M:Nat} {pA:Option Addr} {pn:Nat} {rs:List RV} (h:RootsAt W B pA pn rs) (hb:Below M W W') (hM:B<=M):RootsAt W' B pA pn rs:=
 ⟨h.1,λhn=>by
  obtain⟨b,o,e,hb',hc⟩:=h.2 hn
  refine⟨b,o,e,hb',λk x hx=>?_⟩
  obtain⟨⟨s,h0⟩,h1,h2⟩:=hc k x hx
  exact⟨⟨s,(hb.cell (by show b<M;omega)).trans h0⟩,(hb.cell (by show b<M;omega)).trans h1,(hb.cell (by show b<M;omega)).trans h2⟩⟩
theorem mm (g:Int) (v:IV) (w:World):
  Calls prog 166 #[.agg #[.int .i64 g,.slice v.rA v.rn v.rc,.slice v.sA v.sn v.sc,.slice v.fA v.fn v.fc,.slice v.pA v.pn v.pc]] w λe w'=>e=.returned (.func (.func 201) #[] #[.pointer (some ⟨w.heap.size,0,none⟩)])/\
   w.alloc (.cells #[.int .i64 g,.slice v.rA v.rn v.rc,.slice v.sA v.sn v.sc,.slice v.fA v.fn v.fc,.slice v.pA v.pn v.pc] 34)=w':=by
 go_enter func166,ntmps166
 go_wp2
 go_ret
 exact⟨rfl,rfl⟩
theorem yg (F:Fence) (n:Nat) (hF:F.fn 201) (hro:F.round=none) (hn:1<=n) (l Bm n₀:Nat) (g:Int) (v:IV) (Pr:RV->Prop) (x0:{x:RV//Pr x}) (hx0:x0.1.encs=#[.int .i64 g,.slice v.rA v.rn v.rc]) (rs:List {x:RV//Pr x}) (hpn:v.pn<=4611686018427387903) (J Jx:List {x:RV//Pr x}->World->Prop) (M:Nat) (hJ:AbidesFrom M J)
  (hY:∀pre x W,J pre W->pre.length<v.pn+1->YieldAt F (n-1) prog l x.1.encs W λe W'=>
   (e=.returned (.bool true)/\J (pre++[x]) W'/\KeepB n₀ Bm W W')\/(e=.returned (.bool false)/\Jx (pre++[x]) W'))
  (W:World) (hW:n₀<=W.heap.size) (hb:Box W Bm g v) (hr:RootsAt W n₀ v.pA v.pn (rs.map (·.1))) (h0:J [] W):
  CallsIn F n prog 201 #[.func (.yield l) #[] #[],.pointer (some ⟨Bm,0,none⟩)] W λe W'=>(∃v,e=.returned v)/\
   ((∃ys,ys=x0::rs/\J ys W')\/(∃pre,pre<+:x0::rs/\Jx pre W')):=by
 obtain⟨rA,rn,rc,sA,sn,sc,fA,fn,fc,pA,pn,pc⟩:=v
 dsimp only at*
 obtain⟨b0,b1,b2,b3,b4⟩:=hb
 dsimp only at b0 b1 b2 b3 b4
 have hY0:=hY [] x0 W h0 (by simp)
 rw[hx0]at hY0
 obtain⟨fn',tmps,assign,body,hy,hR⟩:=hY0
 have HR:=zh hr
 have HY:=zh hY
 have HJ:=zh hJ
 clear hr hY hJ h0 hx0
 refine callsIn_of_wp func201 rfl hF ?_ hro
 simp only[ntmps201,List.size_toArray,List.length_cons,List.length_nil,Nat.reduceAdd,Nat.reduceSub,Array.replicate_succ,Array.replicate_zero,List.push_toArray,List.append_toArray,List.nil_append,List.cons_append]
 gi_wp2
 refine hR.mono ?_
 rintro e W1 (⟨rfl,hJ1,hk1⟩|⟨rfl,hJx1⟩)
 ·have b4':=hk1.2.trans b4
  have hk1:=hk1.1
  have HR1:=zh (HR.o.below hk1 (Nat.le_refl _))
  have HJ1:=zh hJ1
  have hz1:=hk1.size
  clear b0 b1 b2 b3 b4 hJ1 hk1 hR hy
  gi_wp2
  gi_loopw [15] (λi wr=>∃k:Nat,k<=pn/\i=.int .i64 k/\J (x0::rs.take k) wr/\Below n₀ W1 wr) (λi _=>pn-(intOf i).toNat)
  case atStart=>exact⟨0,Nat.zero_le _,rfl,by simpa using HJ1.o,Below.refl _ _⟩
  case round=>
   obtain⟨k,hk,rfl,hJs,hnx⟩:=hrel
   by_cases hlt:k<pn
   ·obtain⟨b,o,rfl,hbb,hc⟩:=HR1.o.2 (by omega)
    have hkl:k<rs.length:=by have:=HR1.o.1;rw[List.length_map]at this;omega
    obtain⟨⟨s,c0⟩,c1,c2⟩:=hc k rs[k].1 (by rw[List.getElem?_map,List.getElem?_eq_getElem hkl];rfl)
    have c0':=(hnx.cell (p:=⟨b,o+k*3,none⟩) hbb).trans c0
    have c1':=(hnx.cell (p:=⟨b,o+k*3+1,none⟩) hbb).trans c1
    have c2':=(hnx.cell (p:=⟨b,o+k*3+2,none⟩) hbb).trans c2
    generalize hxk:rs[k]=x at c1' c2'
    have HXK:=zh (show rs[k]? =some x from by rw[List.getElem?_eq_getElem hkl,hxk])
    have hlen:(x0::rs.take k).length<pn+1:=by simp;omega
    have hJn:=HJ.o _ _ _ none hJs (World.grownBy_alloc wr (.cells #[.string s,.int .i64 x.1.g,.slice x.1.A x.1.n x.1.c] 102) none) (λr e=>by cases e)
    have hY1:=HY.o _ x _ hJn hlen
    unfold RV.encs at hY1
    obtain⟨fn2,tmps2,assign2,body2,hy2,hR2⟩:=hY1
    have HJs:=zh hJs
    have HLEN:=zh hlen
    clear hJn hJs hc c0 c1 c2 hxk hlen
    gi_wp2
    refine hR2.mono ?_
    rintro e W3 (⟨rfl,hJ3,hk3⟩|⟨rfl,hJx3⟩)
    ·have HJ3:=zh (show J (x0::rs.take (k+1)) W3 from by rw[List.take_add_one,HXK.o];simpa using hJ3)
     have hb3:=(hnx.alloc (by have:=hnx.size;omega) (.cells #[.string s,.int .i64 x.1.g,.slice x.1.A x.1.n x.1.c] 102)).trans hk3.1
     clear hJ3 hk3
     gi_wp2
     go_roundw
     case rel=>exact⟨k+1,by omega,by simp,HJ3.o,hb3⟩
     case measure=>simp[intOf];omega
    ·have HX:=zh hJx3
     clear hJx3
     gi_wp2
     refine bodyPost_ret (results_none rfl _ _ _) rfl ?_
     refine⟨⟨_,rfl⟩,.inr ⟨_,?_,HX.o⟩⟩
     rw[List.cons_append,show rs.take k++[x]=rs.take (k+1)from by rw[List.take_add_one,HXK.o];rfl]
     exact List.prefix_cons_inj _|>.2 (List.take_prefix _ _)
   ·gi_wp2
    go_end0
    exact⟨⟨_,rfl⟩,.inl ⟨_,rfl,by rwa [List.take_of_length_le (by have:=HR1.o.1;rw[List.length_map]at this;omega)]at hJs⟩⟩
 ·have HX:=zh hJx1
  clear hJx1
  gi_wp2
  refine bodyPost_ret (results_none rfl _ _ _) rfl ?_
  exact⟨⟨_,rfl⟩,.inr ⟨_,by simp,HX.o⟩⟩
theorem js (F:Fence) (n:Nat) (hF:F.fn 201) (hro:F.round=none) (hn:1<=n) (Bm n₀:Nat) (g:Int) (v:IV) (Pr:RV->Prop) (x0:{x:RV//Pr x}) (hx0:x0.1.encs=#[.int .i64 g,.slice v.rA v.rn v.rc]) (rs:List {x:RV//Pr x})
  (hpn:v.pn<=4611686018427387903) (w:World) (hB:Bm<w.heap.size) (hn₀:n₀<=w.heap.size) (hb:Box w Bm g v) (hr:RootsAt w n₀ v.pA v.pn (rs.map (·.1))):
  SeqStopsK F n prog 201 #[.pointer (some ⟨Bm,0,none⟩)] (λx:{x:RV//Pr x}=>x.1.encs) (KeepB n₀ Bm) (λys=>ys=x0::rs) (λpre=>pre<+:x0::rs) (v.pn+1) w:= λl J Jx W hW hJ _ hY h0=>
 yg F n hF hro hn l Bm n₀ g v Pr x0 hx0 rs hpn J Jx W.heap.size hJ hY W (Nat.le_trans hn₀ hW.size) (hb.keep hW hB) (hr.below hW hn₀) h0
def dv (w:World) (Q:Int->List Int->Prop) (x:RV):Prop:=Rd w w.heap.size 1 x.A x.n (ah x.root)/\x.n<=4611686018427387903/\Q x.g x.root
theorem kJ (w:World) (v:IV) (m:Img) (Q:Int->List Int->Prop) (h:ImgR w w.heap.size v m) (hq:∀s∈m.snaps,Q s.guest s.root):
  ∃rs:List {x:RV//dv w Q x},RootsAt w w.heap.size v.pA v.pn (rs.map (·.1))/\rs.map (λx=>(x.1.g,x.1.root))=m.snaps.map (λs=>(s.guest,s.root)):=by
 have hpl:=h.plen
 by_cases hp:0<v.pn
 ·obtain⟨b,o,e,hb,hc⟩:=h.snaps.2 hp
  have key:∀k,k<=m.snaps.length->∃rs:List {x:RV//dv w Q x},rs.length=k/\(∀j x,(rs.map (·.1))[j]? =some x->(∃s,w.cell? ⟨b,o+j*3,none⟩=some (.string s))/\w.cell? ⟨b,o+j*3+1,none⟩=some (.int .i64 x.g)/\w.cell? ⟨b,o+j*3+2,none⟩=some (.slice x.A x.n x.c))/\
    rs.map (λx=>(x.1.g,x.1.root))=(m.snaps.take k).map (λs=>(s.guest,s.root)):=by
   intro k
   induction k with
   |zero=>intro _;exact⟨[],rfl,λj x hx=>by simp at hx,rfl⟩
   |succ k ih=>
    intro hk
    obtain⟨rs,h1,h2,h3⟩:=ih (by omega)
    have hs:m.snaps[k]? =some m.snaps[k]:=List.getElem?_eq_getElem (by omega)
    obtain⟨A,n,c,c0,c1,c2,hv⟩:=hc k _ hs
    refine⟨rs++[⟨⟨m.snaps[k].guest,A,n,c,m.snaps[k].root⟩,hv.root,hv.cap.1,hq _ (List.getElem_mem _)⟩],by simp[h1],λj x hx=>?_,?_⟩
    ·rw[List.map_append,List.getElem?_append]at hx
     split at hx
     ·exact h2 j x hx
     ·rename_i hge
      rw[List.length_map,h1]at hge hx
      have:j=k:=by
       rcases Nat.lt_or_ge (j-k) 1 with h|h
       ·omega
       ·rw[List.getElem?_eq_none (by simpa using h)]at hx;cases hx
      subst this
      rw[Nat.sub_self]at hx
      simp at hx
      subst hx
      exact⟨⟨_,c0⟩,c1,c2⟩
    ·rw[List.map_append,h3,List.take_add_one,hs,List.map_append];rfl
  obtain⟨rs,h1,h2,h3⟩:=key m.snaps.length (Nat.le_refl _)
  refine⟨rs,⟨by rw[List.length_map,h1,hpl],λ_=>⟨b,o,e,hb,h2⟩⟩,by rw[h3,List.take_length]⟩
 ·refine⟨[],⟨by simp;omega,λh=>absurd h hp⟩,?_⟩
  have:m.snaps=[]:=List.eq_nil_of_length_eq_zero (by omega)
  rw[this];rfl
end
section
open Go.Proofs.Tryz
open Go.RowKit Sl
theorem uU (K:Nat) (q:Value) (p:Int->Bool) (A:Option Addr) (n c B:Nat) (xs:List Int) (w:World) (h:Rd w B 1 A n (ah xs)) (hB:B<=w.heap.size) (hc:n<=4611686018427387903)
  (hk:∀(vs:Array Value) (W:World),(callFunc K vs).run prog W=.ok (.enter K vs) W)
  (hf:∀x W,Below w.heap.size w W->Calls prog K #[.int .i64 x,q] W λe w'=>e=.returned (.bool (p x))/\Below W.heap.size W w'):
  Calls prog 202 #[.slice A n c,.func (.func K) #[] #[q]] w
  λe w'=>e=.returned (.int .i64 (bD p xs))/\Below w.heap.size w w':=by
 have HF:=zh hf
 clear hf
 go_enter func202,ntmps202
 go_wp2_with fail
 go_loopw [8,5] (λi _ wr=>∃k:Nat,k<=n/\i=.int .i64 k/\(xs.take k).all (λy=> !p y)=true/\Below w.heap.size w wr) (λi _ _=>n-(intOf i).toNat)
 case atStart=>exact⟨0,Nat.zero_le _,rfl,by simp,Below.refl _ _⟩
 case round=>
  obtain⟨k,hkn,rfl,ha,hbw⟩:=hrel
  have HA:=zh ha
  clear ha
  by_cases hlt:k<n
  ·obtain⟨b,o,x,rfl,hb,hx,hcell⟩:=(h.below hbw hB).at1 hlt
   have HX:=zh hx
   clear hx
   have hz:=hbw.size
   cases hp:p x
   ·go_wp2_with (refine(HF.o x _ hbw).mono ?_;rintro e w' ⟨rfl,hb'⟩)
    go_roundw
    case rel=>exact⟨k+1,by omega,by go_num,by rw[bf _ xs k x HX.o,HA.o,hp];rfl,hbw.trans (hb'.mono hz)⟩
    case measure=>simp[intOf];omega
   ·go_wp2_with (refine(HF.o x _ hbw).mono ?_;rintro e w' ⟨rfl,hb'⟩)
    go_ret
    exact⟨aw (gK p xs k x HX.o hp HA.o),hbw.trans (hb'.mono hz)⟩
  ·go_wp2_with fail
   go_ret
   exact⟨aw (fX p xs (cP _ xs k (by rw[h.len];omega) HA.o)),hbw⟩
theorem oS (K:Nat) (q:Value) (p:Int->Bool) (A:Option Addr) (n c B:Nat) (xs:List Int) (w:World) (h:Rd w B 1 A n (ah xs)) (hB:B<=w.heap.size) (hc:n<=4611686018427387903)
  (hk:∀(vs:Array Value) (W:World),(callFunc K vs).run prog W=.ok (.enter K vs) W)
  (hf:∀x W,Below w.heap.size w W->Calls prog K #[.int .i64 x,q] W λe w'=>e=.returned (.bool (p x))/\Below W.heap.size W w'):
  Calls prog 167 #[.slice A n c,.func (.func K) #[] #[q]] w
  λe w'=>e=.returned (.bool (xs.any p))/\Below w.heap.size w w':=by
 have HI:=zh (uU K q p A n c B xs w h hB hc hk hf)
 clear hf hk h hB
 go_enter func167,ntmps167
 go_wp2_with (go_at_call 202;refine HI.o.mono ?_;rintro e w' ⟨rfl,hb⟩)
 go_ret
 exact⟨aH (jc p xs).symm,hb⟩
end
section
open Go.Proofs.Tryz
open Go.RowKit Go.Shelf Sl
theorem sD (v:IV) (m:Img) (Bm:Nat) (x:Int) (w:World) (h:ImgR w w.heap.size v m) (hb:Box w Bm m.guest v):
  Calls prog 168 #[.int .i64 x,.pointer (some ⟨Bm,0,none⟩)] w λe w'=>e=.returned (.bool (!aX m.slots x))/\Below w.heap.size w w':=by
 obtain⟨rA,rn,rc,sA,sn,sc,fA,fn,fc,pA,pn,pc⟩:=v
 obtain⟨b0,b1,b2,b3,b4⟩:=hb
 dsimp only at b0 b1 b2 b3 b4
 have HK:=zh (rV ⟨rA,rn,rc,sA,sn,sc,fA,fn,fc,pA,pn,pc⟩ m x w h)
 clear h
 by_cases hx:0<x
 ·have he:=zh (kI (l:=m.slots) hx)
  go_enter func168,ntmps168
  go_wp2_with fail
  refine HK.o.mono ?_
  rintro e w' ⟨rfl,hb⟩
  go_wp2_with fail
  go_ret
  exact⟨aH (by rw[he.o];rfl),hb⟩
 ·have he:=zh (nQ (l:=m.slots) (e:=x) (by omega))
  have hx':x<=0:=by omega
  clear hx
  go_enter func168,ntmps168
  go_wp2_with fail
  go_ret
  exact⟨aH (by rw[he.o];rfl),Below.refl _ _⟩
theorem uV {g:Int} (h:a7 g=true):0<=g/\g<=16:=by
 unfold a7 at h;rw[Bool.and_eq_true,decide_eq_true_eq,decide_eq_true_eq]at h;exact h
theorem jt {W W':World} (h:Below W.heap.size W W'):KeepsOthers W W':=⟨h.size,λk _ hk _=>(h.block k (lt_of_block hk)).trans hk⟩
def AllX {α:Type} (p:α->Bool) (l:List α):Prop:=∀x∈l,p x=true
def BadX {α:Type} (p:α->Bool) (l:List α):Prop:=∃x∈l,p x=false
theorem AllX.nil {α:Type} {p:α->Bool}:AllX p []:= λ_ h=>by cases h
theorem AllX.snoc {α:Type} {p:α->Bool} {l:List α} {x:α} (h:AllX p l) (hx:p x=true):AllX p (l++[x]):= λy hy=>by
 rcases List.mem_append.1 hy with hy|hy
 ·exact h y hy
 ·rw[List.mem_singleton.1 hy];exact hx
theorem BadX.snoc {α:Type} {p:α->Bool} {l:List α} {x:α} (hx:p x=false):BadX p (l++[x]):=⟨x,List.mem_append_right _ (List.mem_singleton_self _),hx⟩
def gD (l:List Snap) (k:Nat):ByteArray:=if k=0 then {data:=#[]}else(eF l (k-1)).name
theorem oT {l:List Snap} {k:Nat} {s:Snap} (h:l[k]? =some s):gD l (k+1)=s.name:=by
 unfold gD;rw[if_neg (by omega),Nat.add_sub_cancel,bY h]
theorem sE {s:ByteArray} (h:bj s=true):bI {data:=#[]} s=true:=by
 unfold bj at h
 simp only[Bool.and_eq_true,decide_eq_true_eq]at h
 have h1:s.toList.length=s.size:=by rw[ByteArray.toList_eq];rfl
 have hl:1<=s.toList.length:=by omega
 unfold bI
 have e:({data:=#[]}:ByteArray).toList=[]:=by rw[ByteArray.toList_eq]
 rw[e]
 match hs:s.toList with
 |[]=>rw[hs]at hl;simp at hl
 |a::t=>rfl
theorem sF {l:List Snap} {k:Nat} {s:Snap} (h:l[k]? =some s):da l k=(bj s.name&&bI (gD l k) s.name):=by
 unfold da gD
 rw[bY h]
 by_cases hk:k=0
 ·subst hk
  rw[if_pos rfl]
  cases hn:bj s.name
  ·rfl
  ·rw[sE hn];rfl
 ·rw[if_neg hk,show(k==0)=false from by simpa using hk,Bool.false_or]
theorem yh {w:World} {Q:Int->List Int->Prop} {m:Img} {x0:{x:RV//dv w Q x}} {rs:List {x:RV//dv w Q x}} (h0:x0.1.g=m.guest) (hm:rs.map (λx=>(x.1.g,x.1.root))=m.snaps.map (λs=>(s.guest,s.root)))
  (ha:∀x∈x0::rs,a7 x.1.g=true):aV m=true:=by
 unfold aV
 rw[Bool.and_eq_true,List.all_eq_true]
 refine⟨by rw[<-h0];exact ha _ (List.mem_cons_self ..),λs hs=>?_⟩
 have:(s.guest,s.root)∈m.snaps.map (λs=>(s.guest,s.root)):=List.mem_map.2 ⟨s,hs,rfl⟩
 rw[<-hm]at this
 obtain⟨x,hx,he⟩:=List.mem_map.1 this
 injection he with he1 he2
 rw[<-he1];exact ha x (List.mem_cons_of_mem _ hx)
theorem uW {w:World} {Q:Int->List Int->Prop} {m:Img} {x0:{x:RV//dv w Q x}} {rs:List {x:RV//dv w Q x}} (h0:x0.1.g=m.guest) (hm:rs.map (λx=>(x.1.g,x.1.root))=m.snaps.map (λs=>(s.guest,s.root)))
  {x:{x:RV//dv w Q x}} (hx:x∈x0::rs) (ha:a7 x.1.g=false):aV m=false:=by
 unfold aV
 rw[Bool.and_eq_false_iff]
 rcases List.mem_cons.1 hx with rfl|hx
 ·left;rw[<-h0];exact ha
 ·right
  have:(x.1.g,x.1.root)∈rs.map (λx=>(x.1.g,x.1.root)):=List.mem_map.2 ⟨x,hx,rfl⟩
  rw[hm]at this
  obtain⟨s,hs,he⟩:=List.mem_map.1 this
  injection he with he1 he2
  rw[List.all_eq_false]
  exact⟨s,hs,by rw[he1,ha];decide⟩
theorem AB {w:World} {Q:Int->List Int->Prop} {m:Img} {x0:{x:RV//dv w Q x}} {rs:List {x:RV//dv w Q x}} (h0:x0.1.g=m.guest) (h0':x0.1.root=m.root) (hm:rs.map (λx=>(x.1.g,x.1.root))=m.snaps.map (λs=>(s.guest,s.root)))
  (ha:∀x∈x0::rs,rootFine m.slots x.1.g x.1.root=true):bU m=true:=by
 unfold bU
 rw[Bool.and_eq_true,List.all_eq_true]
 refine⟨by rw[<-h0,<-h0'];exact ha _ (List.mem_cons_self ..),λs hs=>?_⟩
 have:(s.guest,s.root)∈m.snaps.map (λs=>(s.guest,s.root)):=List.mem_map.2 ⟨s,hs,rfl⟩
 rw[<-hm]at this
 obtain⟨x,hx,he⟩:=List.mem_map.1 this
 injection he with he1 he2
 rw[<-he1,<-he2];exact ha x (List.mem_cons_of_mem _ hx)
theorem yi {w:World} {Q:Int->List Int->Prop} {m:Img} {x0:{x:RV//dv w Q x}} {rs:List {x:RV//dv w Q x}} (h0:x0.1.g=m.guest) (h0':x0.1.root=m.root) (hm:rs.map (λx=>(x.1.g,x.1.root))=m.snaps.map (λs=>(s.guest,s.root)))
  {x:{x:RV//dv w Q x}} (hx:x∈x0::rs) (ha:rootFine m.slots x.1.g x.1.root=false):bU m=false:=by
 unfold bU
 rw[Bool.and_eq_false_iff]
 rcases List.mem_cons.1 hx with rfl|hx
 ·left;rw[<-h0,<-h0'];exact ha
 ·right
  have:(x.1.g,x.1.root)∈rs.map (λx=>(x.1.g,x.1.root)):=List.mem_map.2 ⟨x,hx,rfl⟩
  rw[hm]at this
  obtain⟨s,hs,he⟩:=List.mem_map.1 this
  injection he with he1 he2
  rw[List.all_eq_false]
  exact⟨s,hs,by rw[he1,he2,ha];decide⟩
end
section
open Go.Proofs.Tryz
open Go.RowKit Sl
def RowB (W:World) (b:Nat) (xs:List Int):Prop:=W.heap[b]? =some (.cells (ah xs).toArray 3 (0,0))
section
variable {W W':World} {b k M n base:Nat} {xs:List Int} {x:Int}
theorem RowB.cell (h:RowB W b xs) (hx:xs[k]? =some x):W.cell? ⟨b,k,none⟩=some (.int .i64 x):=by
 rw[cell_of_row _ _ _ _ _ _ h,List.getElem?_toArray];unfold ah;rw[List.getElem?_map,hx];rfl
theorem RowB.frozen (h:RowB W b xs) (k:Nat):W.frozen? ⟨b,k,none⟩=false:=frozen_of_row _ _ k _ _ h
theorem RowB.set (h:RowB W b xs) (k:Nat) (y:Int):RowB (W.setCell ⟨b,k,none⟩ (.int .i64 y)) b (xs.set k y):=by
 have:=heap_setCell_same W b k _ _ (.int .i64 y) h
 unfold RowB
 rw[this]
 congr 2
 rw[<-Array.toList_inj]
 simp[ah,List.map_set]
theorem RowB.keep (h:RowB W b xs) (hb:Below M W W') (hM:b<M):RowB W' b xs:=(hb.block b hM).trans h
theorem RowB.own (h:RowB W b xs) (hb:base<=b) (hn:xs.length=n) (hm:n<=maxLen):W.ownsRow base 3 1 (.slice (some ⟨b,0,none⟩) n n) n (ah xs):=cQ h hb (by simp[ah,hn]) hm
end
theorem RowB.new (W:World) (xs:List Int):RowB (W.alloc (.cells (ah xs).toArray 3)) W.heap.size xs:=heap_alloc_new W _
theorem uX (n:Nat):madeCells #[Value.int .i64 0] n=(ah (List.replicate n 0)).toArray:=by
 rw[<-Array.toList_inj]
 apply List.ext_getElem?
 intro j
 unfold madeCells ah
 rw[Array.getElem?_toList,Array.getElem?_map,List.map_replicate]
 by_cases hj:j<n
 ·simp[hj,Nat.mod_one]
 ·simp[hj]
theorem dQ (n:Nat) (hn:n<=1000000) (W:World):(Instr.makeSlice 30 (.int .i64 (n:Nat)) (.int .i64 (n:Nat))).run prog W=.ok (.slice (some ⟨W.heap.size,0,none⟩) n n) (W.alloc (.cells (ah (List.replicate n 0)).toArray 3)):=by
 obtain⟨i0,hi0,hz0,hz1,hz2⟩:=info_parts infoInt
 have h:=run_makeSlice (P:=prog) (w:=W) 30 3 i0 (.int .i64 0) underlying30 hi0 hz0 .i64 .i64 n n (by omega) (Int.le_refl _) (by rw[hz1];simp;omega) (by rw[hz2];omega) (by omega)
 rw[h,hz1]
 have e:(Value.int .i64 0).cells=#[.int .i64 0]:=rfl
 rw[e,Nat.mul_one,Int.toNat_natCast,uX]
end
end Go.Proofs.YtdbneghfbkjinaaGreatDoor
