/- Texts of the proof of deskPlays_holds: StkP, PurePk2, DStep, RegZ, RegG. Conditions: as each text says. -/
import Derived.Test.YtdbneghfbkjinaaGreatDoorDA1
import Derived.Test.YtdbneghfbkjinaaGreatDoorDA27
import Derived.Test.YtdbneghfbkjinaaGreatDoorDA19
set_option maxRecDepth 100000
set_option maxHeartbeats 400000
namespace Sl
def aG (g:Int):Img:=⟨g,List.replicate (a6 g).toNat 0,[freeSlot],[0],[]⟩
end Sl
namespace Go.Proofs.YtdbneghfbkjinaaGreatDoor
section
open Sl
theorem tj {g:Int} (h0:0<=g) (h16:g<=16):ab (aG g)=0:=by
 obtain⟨k,rfl⟩:=Int.eq_ofNat_of_zero_le h0
 have hk:k<17:=by omega
 have:=(show∀k,k<17->ab (aG (k:Nat))=0 from by decide+kernel)
 exact this k hk
theorem iQ:ab (aG 0)=0:=tj (by decide) (by decide)
end
section
open Sl
section
variable {m:Img}
end
def tk (m:Img):Img:=if ab m=0 then cL m else aj
theorem tl {m:Img} (h:ab m=0):tk m=cL m:=by unfold tk;rw[if_pos h]
theorem Bi {m:Img} (h:ab m≠0):tk m=aj:=by unfold tk;rw[if_neg h]
end
section
open Sl
def okT:List UInt8:=[111,107]
def ia (e:Int):List UInt8:=[101,114,114,111,114,32]++Lib.decDigits e.toNat
inductive Ans where
 |no (e:Int)
 |yes (m:Img) (t:List UInt8)
def bT (z:Img) (e:Int):Ans:=if e=0 then .yes z okT else .no e
def iR (m:Img) (l:List UInt8):Ans:=
 if l=[112,97,99,107]then .yes (cL m) okT
 else if l=[109,97,112]then .yes m (lH m)
 else if l=[117,115,101,100]then .yes m (Lib.decDigits (used m.slots)++[32]++Lib.decDigits m.slots.length)
 else if l=[115,97,118,101]then .yes m (Lib.decDigits (ea m).length)
 else .no 1
def dt (l:List UInt8) (f:Nat->Ans):Ans:=match eD l with
 |none=>.no 1
 |some n=>f n
def mz (m:Img) (op rest:List UInt8):Ans:=
 if op=[115,105,122,101]then dt rest λn=>bT (eQ m n) (dG m n)
 else if op=[119,105,112,101]then dt rest λn=>bT (iu m n (-1)) (fm m n (-1))
 else if op=[112,117,110,99,104]then dt rest λn=>bT (iu m n 0) (fm m n 0)
 else if op=[115,110,97,112]then bT (bu m (ofL rest)) (be m (ofL rest))
 else if op=[98,97,99,107]then bT (ce m (ofL rest)) (bJ m (ofL rest))
 else if op=[100,114,111,112]then bT (cf m (ofL rest)) (bJ m (ofL rest))
 else if op=[114,101,97,100]then dt rest λn=>if aE m n=0 then .yes m (cC (toL (fC m n)))else .no (aE m n)
 else if op=[119,114,105,116,101]then
  (if(aR rest).2.2=true then dt (aR rest).1 λn=>bT (eP m n (ofL (aR rest).2.1)) (dE m n (ofL (aR rest).2.1))else .no 1)
 else .no 1
def jE (m:Img) (l:List UInt8):Ans:=if(aR l).2.2=true then mz m (aR l).1 (aR l).2.1 else iR m l
def eY (m:Img) (l:List UInt8):Img×List UInt8:=match jE m l with
 | .no e=>(m,ia e)
 | .yes z t=>(z,t)
def yP:Ans->Prop
 | .no e=>1<=e/\e<=9
 | .yes z t=>ab z=0/\t.length<=200
theorem fq {z:Img} {e:Int} (h:e=0->ab z=0) (h0:0<=e) (h9:e<=9):yP (bT z e):=by
 unfold bT
 split
 ·rename_i he;exact⟨h he,by decide⟩
 ·exact⟨by omega,h9⟩
theorem jF {l:List UInt8} {f:Nat->Ans} (h:∀n,n<1000000->yP (f n)):yP (dt l f):=by
 unfold dt
 cases hn:eD l with
 |none=>exact⟨by decide,by decide⟩
 |some n=>exact h n (Cp hn)
theorem fL (o:Option Img):0<=iM o/\iM o<=9:=by cases o<;>simp[iM]
section
variable {m:Img} (hm:ab m=0)
include hm
theorem dR (n:Int):0<=aE m n/\aE m n<=9:=by unfold aE;rw[if_neg (by omega)];split<;>decide
theorem oe (l:List UInt8):yP (iR m l):=by
 have hu:=fY m.slots
 have hs:=(dz (aq hm).1).slots
 obtain⟨g,hg,hg16⟩:=mp hm
 unfold iR
 split
 ·exact⟨od hm,by decide⟩
 split
 ·refine⟨hm,?_⟩
  unfold lH
  split
  ·simp
  ·have:=mo hm m.guest.toNat
   omega
 split
 ·refine⟨hm,?_⟩
  have h1:=cS (n:=used m.slots) (by omega)
  have h2:=cS (n:=m.slots.length) (by omega)
  rw[List.length_append,List.length_append]
  simp only[List.length_cons,List.length_nil]
  omega
 split
 ·have h1:=cS (n:=(ea m).length) (by have:=kG hm;omega)
  exact⟨hm,by omega⟩
 ·exact⟨by decide,by decide⟩
theorem tm (op rest:List UInt8):yP (mz m op rest):=by
 unfold mz
 split
 ·refine jF λn _=>fq (λh=>(n7 h).1) ?_ ?_<;>(unfold dG;rw[if_pos hm];split;have:=fL (bW m (n:Int).toNat);omega;decide)
 split
 ·refine jF λn _=>fq (λh=>(iw (by decide) (by decide) h).1) ?_ ?_<;>(unfold fm;split;have:=fL (dP m (n:Int).toNat (-1));omega;have:=dR hm n;omega)
 split
 ·refine jF λn _=>fq (λh=>(iw (by decide) (by decide) h).1) ?_ ?_<;>(unfold fm;split;have:=fL (dP m (n:Int).toNat 0);omega;have:=dR hm n;omega)
 split
 ·refine fq (λh=>(jz h).1) ?_ ?_<;>(unfold be;rw[if_pos hm];split;decide;split;decide;split<;>decide)
 split
 ·refine fq (λh=>(jA h).1) ?_ ?_<;>(unfold bJ;rw[if_pos hm];split<;>decide)
 split
 ·refine fq (λh=>(jB h).1) ?_ ?_<;>(unfold bJ;rw[if_pos hm];split<;>decide)
 split
 ·refine jF λn _=>?_
  split
  ·rename_i he
   refine⟨hm,?_⟩
   unfold cC fC
   rw[if_pos he,List.length_map,bv,l8 (je hm _ _)]
   decide
  ·have:=dR hm n
   exact⟨by omega,by omega⟩
 split
 ·split
  ·refine jF λn _=>fq (λh=>(n0 h).1) ?_ ?_<;>(unfold dE;split;split;have:=fL (cv m (n:Int).toNat (ofL (aR rest).2.1));omega;decide;have:=dR hm n;omega)
  ·exact⟨by decide,by decide⟩
 ·exact⟨by decide,by decide⟩
theorem yQ (l:List UInt8):yP (jE m l):=by
 unfold jE
 split
 ·exact tm hm _ _
 ·exact oe hm _
theorem qa (l:List UInt8):ab (eY m l).1=0/\(eY m l).2.length<=200:=by
 have:=yQ hm l
 unfold eY
 cases hl:jE m l with
 |no e=>
  rw[hl]at this
  obtain⟨h1,h9⟩:=this
  refine⟨hm,?_⟩
  have:=cS (n:=e.toNat) (by omega)
  unfold ia
  simp only[List.length_append,List.length_cons,List.length_nil]
  omega
 |yes z t=>rw[hl]at this;exact this
end
end
end Go.Proofs.YtdbneghfbkjinaaGreatDoor
namespace Go
section
variable {P:Program} {ops:Array Oper} {Q:Exit->Act->World->Prop} {md:Region.Mode} {S:World->Prop} {c:Nat}
def cw (P:Program) (md:Region.Mode) (ops:Array Oper) (Q:Exit->Act->World->Prop) (S:World->Prop) (c:Nat):Nat->Array Bool->Act->World->Prop
 |0,listed,a,w=>Region.ready md ops listed=[]/\Q .normal a w
 |fuel+1,listed,a,w=>
  (Region.ready md ops listed=[]->Q .normal a w)/\
  ∀i∈Region.ready md ops listed,wpOp P ops Q i (λa' w'=>(i<c->S w')/\cw P md ops Q S c fuel (listed.setIfInBounds i true) a' w') a w
theorem og:∀(fuel:Nat) (listed:Array Bool) (a:Act) (w:World),cw P md ops Q S c fuel listed a w->wpAny P md ops Q fuel listed a w
 |0,_,_,_,h=>h
 |fuel+1,_,_,_,h=>⟨h.1,λi hi=>wpOp_mono (λa' w' h'=>og fuel _ a' w' h'.2) (h.2 i hi)⟩
def Shuts (md:Region.Mode) (ops:Array Oper) (listed:Array Bool):Prop:=∀j oj,ops[j]? =some oj->listed.getD j false=true->∀e∈oj.after,Region.binds md e=true->listed.getD e.on false=true
theorem Shuts.none {n:Nat}:Shuts md ops (Array.replicate n false):= λj _ _ h=>by
 by_cases hj:j<n<;>simp[hj]at h
theorem Shuts.set {listed:Array Bool} (h:Shuts md ops listed) {i:Nat} (hi:i∈Region.ready md ops listed):Shuts md ops (listed.setIfInBounds i true):= λj oj hj hl e he hb=>by
 refine getD_set_true ?_
 by_cases hij:i=j
 ·subst hij
  obtain⟨_,o,ho,hall⟩:=mem_ready.1 hi
  rw[hj]at ho
  injection ho with ho
  subst ho
  exact hall e he hb
 ·rw[getD_set_ne false hij]at hl
  exact h j oj hj hl e he hb
def Region.wayB (md:Region.Mode) (ops:Array Oper):Nat->List Nat->Nat->Bool
 |i,[],z=>Region.waitsFor md ops z i
 |i,j::t,z=>Region.waitsFor md ops j i&&Region.wayB md ops j t z
theorem Shuts.no {listed:Array Bool} (h:Shuts md ops listed):∀(t:List Nat) (i z:Nat),listed.getD i false=false->Region.wayB md ops i t z=true->z∉Region.ready md ops listed
 |[],i,z,h0,hw,hz=>by
  obtain⟨oz,h1,e,he,hb,rfl⟩:=Region.waitsFor_spec hw
  obtain⟨_,o,ho,hall⟩:=mem_ready.1 hz
  rw[h1]at ho
  injection ho with ho
  subst ho
  rw[hall e he hb]at h0
  cases h0
 |j::t,i,z,h0,hw,hz=>by
  unfold Region.wayB at hw
  simp only[Bool.and_eq_true]at hw
  obtain⟨oj,h1,e,he,hb,rfl⟩:=Region.waitsFor_spec hw.1
  refine h.no t j z ?_ hw.2 hz
  cases hl:listed.getD j false
  ·rfl
  ·rw[h j oj h1 hl e he hb]at h0
   cases h0
theorem rk {i:Nat} {oi:Oper} {v:Value} (hi:ops[i]? =some oi) (hsel:∀(j:Nat) (o:Oper) cs b,ops[j]? =some o->o.op≠ .select cs b)
  (hQ:∀c a w,Q (.panic c) (a.put oi.dst v) w->Q (.panic c) a w) (hway:∀z,c<=z->z<ops.size->∃t,Region.wayB md ops i t z=true):
  ∀(fuel:Nat) (listed:Array Bool) (a:Act) (w:World),
   (∀j oj,ops[j]? =some oj->j≠i->listed.getD j true=false->(∀e∈oj.after,Region.binds md e=true->e.on≠i)->oi.apart ops oj=true)->
   i∈Region.ready md ops listed->YieldsIf P ops S oi v a->S w->Shuts md ops listed->listed.getD i false=false->
   cw P md ops Q S c fuel (listed.setIfInBounds i true) (a.put oi.dst v) w->cw P md ops Q S c (fuel+1) listed a w:=by
 intro fuel
 induction fuel with
 |zero=>
  intro listed a w _ hr hy hS _ _ H
  refine⟨λh=>(by rw[h]at hr;cases hr),λj hj=>?_⟩
  by_cases hji:j=i
  ·subst hji;exact hy.wpOp hi hS ⟨λ_=>hS,H⟩
  ·have:=ready_mono hj hji
   rw[H.1]at this
   cases this
 |succ fuel ih=>
  intro listed a w hfree hr hy hS hC hun0 H
  refine⟨λh=>(by rw[h]at hr;cases hr),λj hj=>?_⟩
  by_cases hji:j=i
  ·subst hji;exact hy.wpOp hi hS ⟨λ_=>hS,H⟩
  ·have h1:=H.2 j (ready_mono hj hji)
   obtain⟨hjun,oj,hoj,hall⟩:=mem_ready.1 hj
   have hjc:j<c:=by
    rcases Nat.lt_or_ge j c with h|h
    ·exact h
    ·obtain⟨t,ht⟩:=hway j h (za hoj)
     exact absurd hj (hC.no t i j hun0 ht)
   have hnot:∀e∈oj.after,Region.binds md e=true->e.on≠i:= λe he hb heq=>by
    have h1:=hall e he hb
    rw[heq,hun0]at h1
    cases h1
   have h2:=wpOp_putIf hoj (hfree j oj hoj hji hjun hnot) (λcs b=>hsel i oi cs b hi) (λcs b=>hsel j oj cs b hoj) hQ hy h1
   have hfree':∀k ok,ops[k]? =some ok->k≠i->(listed.setIfInBounds j true).getD k true=false->
     (∀e∈ok.after,Region.binds md e=true->e.on≠i)->oi.apart ops ok=true:= λk ok hk hki hun hno=>by
    refine hfree k ok hk hki ?_ hno
    by_cases hjk:j=k
    ·subst hjk;exact hjun
    ·rw[getD_set_ne true hjk]at hun;exact hun
   refine wpOp_mono (λa' w' h3=>⟨h3.2.1,ih (listed.setIfInBounds j true) a' w' hfree' (ready_mono hr (Ne.symm hji)) h3.1 (h3.2.1 hjc) (hC.set hj) (by rw[getD_set_ne false hji];exact hun0) ?_⟩) h2
   rw[Array.setIfInBounds_comm _ _ hji]
   exact h3.2.2
theorem tq {i:Nat} {oi:Oper} {v:Value} {fuel:Nat} {listed:Array Bool} {a:Act} {w:World} (hi:ops[i]? =some oi)
  (hs:Region.noSelect ops=true) (hf:Region.free md ops listed i=true) (hr:(Region.ready md ops listed).contains i=true) (hu:listed.getD i false=false)
  (hw:∀z,c<=z->z<ops.size->∃t,Region.wayB md ops i t z=true)
  (hQ:∀c a w,Q (.panic c) (a.put oi.dst v) w->Q (.panic c) a w) (hy:YieldsIf P ops S oi v a) (hS:S w) (hC:Shuts md ops listed)
  (h:Shuts md ops (listed.setIfInBounds i true)->cw P md ops Q S c fuel (listed.setIfInBounds i true) (a.put oi.dst v) w):cw P md ops Q S c (fuel+1) listed a w:=
 rk hi (Region.noSelect_spec hs) hQ hw fuel listed a w (Region.free_spec hi hf) (by simpa using hr) hy hS hC hu (h (hC.set (by simpa using hr)))
theorem vE {i:Nat} {o:Oper} {fuel:Nat} {listed:Array Bool} {a:Act} {w:World} (hr:Region.ready md ops listed=[i]) (ho:ops[i]? =some o)
  (h:∀K':Act->World->Prop,Shut (∀a w,(i<c->S w)->cw P md ops Q S c fuel (listed.setIfInBounds i true) a w->K' a w)->if Region.wanted o (yielded ops a.tmps)=true then Oper.wp P o a w K' Q else K' (a.put o.dst undef) w):
  cw P md ops Q S c (fuel+1) listed a w:=
 ⟨λh0=>(by rw[hr]at h0;cases h0),λj hj=>by
  rw[hr]at hj
  obtain rfl:j=i:=by simpa using hj
  exact wpOp_step ho (λK' hK=>h K' (λa w hS hW=>hK a w ⟨hS,hW⟩))⟩
theorem mR {listed:Array Bool} {a:Act} {w:World} (hr:Region.ready md ops listed=[]) (h:Q .normal a w):∀fuel,cw P md ops Q S c fuel listed a w
 |0=>⟨hr,h⟩
 |_+1=>⟨λ_=>h,by rw[hr];simp⟩
theorem tr {id:Nat} {a:Act} {w:World} (S:World->Prop) (c:Nat) (hm:P.follows .mixedOrders=true)
  (h:Shuts .any ops (Array.replicate ops.size false)->cw P .any ops Q S c ops.size (Array.replicate ops.size false) a w.drew):(Code.region id ops true).wp P Q a w:=
 wp_region_any hm (og (S:=S) (c:=c) _ _ _ _ (h Shuts.none))
end
end Go
namespace Go
section
variable {P:Program} {ops:Array Oper} {Q:Exit->Act->World->Prop} {md:Region.Mode} {S:World->Prop} {c:Nat}
def EachZ (P:Program) (md:Region.Mode) (ops:Array Oper) (Q:Exit->Act->World->Prop) (S:World->Prop) (c fuel:Nat) (listed:Array Bool) (a:Act) (w:World) (rs:List Nat):Prop:=
 ∀i∈rs,wpOp P ops Q i (λa' w'=>(i<c->S w')/\cw P md ops Q S c fuel (listed.setIfInBounds i true) a' w') a w
theorem EachZ.nil {fuel:Nat} {listed:Array Bool} {a:Act} {w:World}:EachZ P md ops Q S c fuel listed a w []:= λ_ h=>by cases h
theorem EachZ.cons {fuel:Nat} {listed:Array Bool} {a:Act} {w:World} {i:Nat} {o:Oper} {rs:List Nat} (ho:ops[i]? =some o)
  (h:∀K':Act->World->Prop,Shut (∀a w,(i<c->S w)->cw P md ops Q S c fuel (listed.setIfInBounds i true) a w->K' a w)->if Region.wanted o (yielded ops a.tmps)=true then Oper.wp P o a w K' Q else K' (a.put o.dst undef) w)
  (hs:EachZ P md ops Q S c fuel listed a w rs):EachZ P md ops Q S c fuel listed a w (i::rs):= λj hj=>by
 rcases List.mem_cons.1 hj with rfl|hj
 ·exact wpOp_step ho (λK' hK=>h K' (λa w hS hW=>hK a w ⟨hS,hW⟩))
 ·exact hs j hj
theorem tu {fuel:Nat} {listed:Array Bool} {a:Act} {w:World} {rs:List Nat} (hr:Region.ready md ops listed=rs) (hne:rs≠[])
  (h:EachZ P md ops Q S c fuel listed a w rs):cw P md ops Q S c (fuel+1) listed a w:=
 ⟨λh0=>absurd (hr.symm.trans h0) hne,λi hi=>h i (by rw[<-hr];exact hi)⟩
end
end Go
namespace Go
section
variable {P:Program} {ops:Array Oper} {Q:Exit->Act->World->Prop} {md:Region.Mode} {S:World->Prop} {c:Nat}
theorem Region.way_snoc:∀(t:List Nat) (i j k:Nat),Region.wayB md ops i t j=true->Region.waitsFor md ops k j=true->Region.wayB md ops i (t++[j]) k=true
 |[],i,j,k,h,hk=>by
  unfold Region.wayB at h
  simp[Region.wayB,h,hk]
 |x::t,i,j,k,h,hk=>by
  unfold Region.wayB at h
  simp only[Bool.and_eq_true]at h
  have:=Region.way_snoc t x j k h.2 hk
  simp[Region.wayB,h.1,this]
def Region.waits (md:Region.Mode) (ops:Array Oper) (i:Nat):Nat->List Nat
 |0=>[]
 |k+1=>if Region.waitsFor md ops k i||(Region.waits md ops i k).any (λj=>Region.waitsFor md ops k j)then k::Region.waits md ops i k else Region.waits md ops i k
theorem Region.waits_spec (i:Nat):∀(k z:Nat),z∈Region.waits md ops i k->∃t,Region.wayB md ops i t z=true
 |0,z,h=>by cases h
 |k+1,z,h=>by
  unfold Region.waits at h
  split at h
  ·rename_i hc
   rcases List.mem_cons.1 h with rfl|h
   ·simp only[Bool.or_eq_true,List.any_eq_true]at hc
    rcases hc with hc|⟨j,hj,hw⟩
    ·exact⟨[],by unfold Region.wayB;exact hc⟩
    ·obtain⟨t,ht⟩:=Region.waits_spec i _ j hj
     exact⟨_,Region.way_snoc t i j z ht hw⟩
   ·exact Region.waits_spec i k z h
  ·exact Region.waits_spec i k z h
def Region.first (md:Region.Mode) (ops:Array Oper) (listed:Array Bool) (c i:Nat):Bool:=
 Region.noSelect ops&&Region.free md ops listed i&&(Region.ready md ops listed).contains i&& !(listed.getD i false)&&(List.range ops.size).all λz=>decide (z<c)||(Region.waits md ops i ops.size).contains z
theorem yR {i:Nat} {oi:Oper} {v:Value} {fuel:Nat} {listed:Array Bool} {a:Act} {w:World} (hi:ops[i]? =some oi) (hb:Region.first md ops listed c i=true)
  (hQ:∀c a w,Q (.panic c) (a.put oi.dst v) w->Q (.panic c) a w) (hy:YieldsIf P ops S oi v a) (hS:S w) (hC:Shuts md ops listed)
  (h:Shuts md ops (listed.setIfInBounds i true)->cw P md ops Q S c fuel (listed.setIfInBounds i true) (a.put oi.dst v) w):cw P md ops Q S c (fuel+1) listed a w:=by
 unfold Region.first at hb
 simp only[Bool.and_eq_true,Bool.not_eq_true',List.all_eq_true,Bool.or_eq_true,decide_eq_true_eq]at hb
 obtain⟨⟨⟨⟨h1,h2⟩,h3⟩,h4⟩,h5⟩:=hb
 exact tq hi h1 h2 h3 h4 (λz hz hz2=>by
  rcases h5 z (List.mem_range.2 hz2)with h|h
  ·omega
  ·exact Region.waits_spec i _ z (by simpa using h)) hQ hy hS hC h
def Region.shutB (md:Region.Mode) (ops:Array Oper) (listed:Array Bool):Bool:=
 (List.range ops.size).all λj=> !(listed.getD j false)||(match ops[j]? with
  |some o=>o.after.toList.all λe=> !(Region.binds md e)||listed.getD e.on false
  |none=>true)
theorem Shuts.of {listed:Array Bool} (h:Region.shutB md ops listed=true):Shuts md ops listed:= λj oj hj hl e he hb=>by
 have:=List.all_eq_true.1 h j (List.mem_range.2 (za hj))
 rw[hl,hj]at this
 simp only[Bool.not_true,Bool.false_or,List.all_eq_true]at this
 have:=this e (Array.mem_toList_iff.2 he)
 rwa [hb,Bool.not_true,Bool.false_or]at this
theorem zgo (i:Nat) {oi:Oper} {v:Value} {fuel:Nat} {listed:Array Bool} {a:Act} {w:World} (h:cw P md ops Q S c fuel (listed.setIfInBounds i true) (a.put oi.dst v) w)
  (hi:ops[i]? =some oi:=by rfl) (hb:(Region.first md ops listed c i&&Region.shutB md ops listed)=true:=by kernel_rfl) (hQ:∀c a w,Q (.panic c) (a.put oi.dst v) w->Q (.panic c) a w:=by first|exactλ_ _ _ h=>h|exactλ_ _ _ h=>rd_hQ (by decide) h|exactλ_ _ _ h=>ln_hQ (by decide) h)
  (hy:YieldsIf P ops S oi v a:=by exact Or.inl ⟨by rfl,λw' hSw=>by((try unfold Box at hSw);(try dsimp only at hSw);go_simp;try with_reducible rfl)⟩) (hS:S w:=by assumption):cw P md ops Q S c (fuel+1) listed a w:=by
 rw[Bool.and_eq_true]at hb
 exact yR hi hb.1 hQ hy hS (Shuts.of hb.2) λ_=>h
theorem aP (i:Nat) {o:Oper} {fuel:Nat} {listed:Array Bool} {a:Act} {w:World}
  (h:∀K':Act->World->Prop,Shut (∀a w,(i<c->S w)->cw P md ops Q S c fuel (listed.setIfInBounds i true) a w->K' a w)->if Region.wanted o (yielded ops a.tmps)=true then Oper.wp P o a w K' Q else K' (a.put o.dst undef) w)
  (hr:Region.ready md ops listed=[i]:=by kernel_rfl) (ho:ops[i]? =some o:=by rfl):cw P md ops Q S c (fuel+1) listed a w:=vE hr ho h
theorem Shut.nx {i:Nat} {R K':Act->World->Prop} (hK:Shut (∀a w,(i<c->S w)->R a w->K' a w)) {a:Act} {w:World} (h:R a w) (hs:i<c->S w:=by first|exactλh=>absurd h (by decide)|exactλ_=>by assumption):K' a w:=hK.o a w hs h
theorem cT {fuel:Nat} {listed:Array Bool} {a:Act} {w:World} (h:Q .normal a w) (hr:Region.ready md ops listed=[]:=by kernel_rfl):cw P md ops Q S c fuel listed a w:=mR hr h _
theorem eS {id:Nat} {a:Act} {w:World} (S:World->Prop) (c:Nat) (h:cw P .any ops Q S c ops.size (Array.replicate ops.size false) a w.drew) (hm:P.follows .mixedOrders=true:=by kernel_rfl):(Code.region id ops true).wp P Q a w:=
 tr S c hm λ_=>h
theorem zr (rs:List Nat) {fuel:Nat} {listed:Array Bool} {a:Act} {w:World} (h:EachZ P md ops Q S c fuel listed a w rs) (hr:Region.ready md ops listed=rs:=by kernel_rfl) (hne:rs≠[]:=by decide):cw P md ops Q S c (fuel+1) listed a w:=tu hr hne h
theorem zc (i:Nat) {o:Oper} {fuel:Nat} {listed:Array Bool} {a:Act} {w:World} {rs:List Nat}
  (h:∀K':Act->World->Prop,Shut (∀a w,(i<c->S w)->cw P md ops Q S c fuel (listed.setIfInBounds i true) a w->K' a w)->if Region.wanted o (yielded ops a.tmps)=true then Oper.wp P o a w K' Q else K' (a.put o.dst undef) w)
  (hs:EachZ P md ops Q S c fuel listed a w rs) (ho:ops[i]? =some o:=by rfl):EachZ P md ops Q S c fuel listed a w (i::rs):=EachZ.cons ho h hs
theorem qb:∀{l:List Bool} {i:Nat},l.getD i true=false->(l.set i true).count false+1=l.count false
 |[],_,h=>by simp at h
 |b::l,0,h=>by
  obtain rfl:b=false:=by simpa using h
  simp
 |b::l,i+1,h=>by
  have:=qb (l:=l) (i:=i) (by simpa using h)
  simp only[List.set_cons_succ,List.count_cons]
  omega
theorem yS {listed:Array Bool} (h:listed.toList.count false=0):Region.ready md ops listed=[]:=by
 apply List.eq_nil_iff_forall_not_mem.2
 intro j hj
 have h1:=(mem_ready.1 hj).1
 rw[Array.getD_eq_getD_getElem?]at h1
 have:=List.count_eq_zero.1 h
 cases hl:listed[j]? with
 |none=>rw[hl]at h1;cases h1
 |some b=>
  rw[hl]at h1
  obtain rfl:b=false:=h1
  exact this (Array.mem_toList_iff.2 (Array.mem_of_getElem? hl))
theorem De (L:Nat) (I:Act->Array Bool->Act->World->Prop) {a0:Act} (hp:∀l a w,I a0 l a w->Region.ready md ops l≠[]/\(L∈Region.ready md ops l->Region.ready md ops (l.setIfInBounds L true)=[]))
  (step:∀l a w i,I a0 l a w->i∈Region.ready md ops l->i≠L->wpOp P ops Q i (λa' w'=>(i<c->S w')/\I a0 (l.setIfInBounds i true) a' w') a w)
  (last:∀l a w,I a0 l a w->L∈Region.ready md ops l->wpOp P ops Q L (λa' w'=>(L<c->S w')/\Q .normal a' w') a w):
  ∀(fuel:Nat) {listed:Array Bool} {a:Act} {w:World},I a0 listed a w->listed.toList.count false<=fuel->cw P md ops Q S c fuel listed a w
 |0,_,_,_,h,hf=>absurd (yS (by omega)) (hp _ _ _ h).1
 |fuel+1,listed,a,w,h,hf=>⟨λh0=>absurd h0 (hp _ _ _ h).1,λi hi=>by
  by_cases hL:i=L
  ·subst hL
   exact wpOp_mono (λa' w' h'=>⟨h'.1,mR ((hp _ _ _ h).2 hi) h'.2 _⟩) (last _ _ _ h hi)
  ·refine wpOp_mono (λa' w' h'=>⟨h'.1,De L I hp step last fuel h'.2 ?_⟩) (step _ _ _ _ h hi hL)
   have h1:=(mem_ready.1 hi).1
   have:=qb (l:=listed.toList) (i:=i) (by rw[<-h1];simp)
   rw[Array.toList_setIfInBounds]
   omega⟩
theorem D1 (L:Nat) (I:Act->Array Bool->Act->World->Prop) {a0:Act} {fuel:Nat} {listed:Array Bool} {w:World} (hp:∀l a w,I a0 l a w->Region.ready md ops l≠[]/\(L∈Region.ready md ops l->Region.ready md ops (l.setIfInBounds L true)=[]))
  (step:∀l a w i,I a0 l a w->i∈Region.ready md ops l->i≠L->wpOp P ops Q i (λa' w'=>(i<c->S w')/\I a0 (l.setIfInBounds i true) a' w') a w)
  (last:∀l a w,I a0 l a w->L∈Region.ready md ops l->wpOp P ops Q L (λa' w'=>(L<c->S w')/\Q .normal a' w') a w) (h:I a0 listed a0 w) (hf:listed.toList.count false<=fuel:=by decide):cw P md ops Q S c fuel listed a0 w:=De L I hp step last fuel h hf
theorem zs {i:Nat} {o:Oper} {K:Act->World->Prop} {a:Act} {w:World} (h:∀K':Act->World->Prop,Shut (∀a w,K a w->K' a w)->if Region.wanted o (yielded ops a.tmps)=true then Oper.wp P o a w K' Q else K' (a.put o.dst undef) w)
  (ho:ops[i]? =some o:=by rfl):wpOp P ops Q i K a w:=wpOp_step ho λK' hK=>h K' hK
end
end Go
