/- Texts of the proof of deskPlays_holds: PureA. Conditions: as each text says. -/
import Derived.Test.YtdbneghfbkjinaaGreatDoorDA1
import Init
set_option maxRecDepth 100000
set_option maxHeartbeats 400000
namespace Sl
structure Slot where
 kind:Int
 data:ByteArray
 table:List Int
def cV (e:Int):Bool:=decide (-1<=e)&&decide (e<40)
def ak (t:List Int):Int:=if t.length=4 then(if t.all cV then 0 else 1)else 1
def bare (t:List Int):Bool:=t.all (· ==0)
def aD (s:Slot):Bool:=
 if s.kind=0 then s.data.size==0&&s.table.length==0
 else if s.kind=1 then s.data.size==4&&s.table.length==0
 else if s.kind=2 then s.data.size==0&&ak s.table==0&& !bare s.table
 else false
def pf:List Slot->Int
 |[]=>0
 |s::_=>s.kind
def ar (l:List Slot):Int:=
 if l.length<1\/40<l.length then 2 else if l.all aD then(if pf l=0 then 0 else 1)else 1
def bn {α:Type} (p:α->Bool):List α->Nat
 |[]=>0
 |x::l=>if p x then 0 else bn p l+1
theorem uw {α:Type} (p:α->Bool) (l:List α):bn p l<=l.length:=by
 induction l with
 |nil=>simp[bn]
 |cons x l ih=>simp only[bn,List.length_cons];split<;>omega
theorem jb {α:Type} (p:α->Bool) (l:List α) (k:Nat) (x:α) (hx:l[k]? =some x) (hp:p x=true) (hn:(l.take k).all (λy=> !p y)=true):bn p l=k:=by
 induction l generalizing k with
 |nil=>simp at hx
 |cons y l ih=>
  cases k with
  |zero=>simp at hx;subst hx;simp[bn,hp]
  |succ k=>
   simp only[List.take_succ_cons,List.all_cons,Bool.and_eq_true]at hn
   have hy:p y=false:=by simpa using hn.1
   simp only[List.getElem?_cons_succ]at hx
   simp[bn,hy,ih k hx hn.2]
theorem ld {α:Type} (p:α->Bool) (l:List α) (hn:l.all (λy=> !p y)=true):bn p l=l.length:=by
 induction l with
 |nil=>rfl
 |cons y l ih=>
  simp only[List.all_cons,Bool.and_eq_true]at hn
  have hy:p y=false:=by simpa using hn.1
  simp[bn,hy,ih hn.2]
theorem gp {α:Type} (p:α->Bool) (l:List α):(bn p l<l.length)↔l.any p=true:=by
 induction l with
 |nil=>simp[bn]
 |cons y l ih=>
  simp only[bn,List.any_cons,List.length_cons]
  cases h:p y<;>simp[ih]
def bD {α:Type} (p:α->Bool) (l:List α):Int:=if bn p l<l.length then(bn p l:Int)else-1
theorem gK {α:Type} (p:α->Bool) (l:List α) (k:Nat) (x:α) (hx:l[k]? =some x) (hp:p x=true) (hn:(l.take k).all (λy=> !p y)=true):bD p l=k:=by
 have h:=jb p l k x hx hp hn
 have hk:k<l.length:=(zl hx)
 unfold bD;rw[h,if_pos hk]
theorem fX {α:Type} (p:α->Bool) (l:List α) (hn:l.all (λy=> !p y)=true):bD p l= -1:=by
 unfold bD;rw[ld p l hn,if_neg (by omega)]
theorem jc {α:Type} (p:α->Bool) (l:List α):decide (0<=bD p l)=l.any p:=by
 unfold bD
 by_cases h:bn p l<l.length
 ·rw[if_pos h,(gp p l).1 h];simp
 ·rw[if_neg h]
  have:l.any p=false:=by
   cases ha:l.any p
   ·rfl
   ·exact absurd ((gp p l).2 ha) h
  rw[this];rfl
def dH (l:List Slot):Nat:=bn (λs=>s.kind==0) l
def aS (l:List Slot):Nat:=
 if dH (l.drop 1)<(l.drop 1).length then dH (l.drop 1)+1 else if l.length<40 then l.length else 0
def used:List Slot->Nat
 |[]=>0
 |s::l=>(if s.kind=0 then 0 else 1)+used l
def iX (l:List Slot):Int:=if ar l=0 then(aS l:Int)else 0
def iY (l:List Slot):Int:=if ar l=0 then(if aS l=0 then 7 else 0)else ar l
def gq (l:List Slot):Int:=if ar l=0 then(used l:Int)else 0
theorem bp (l:List Slot) (k:Nat) (s:Slot) (h:l[k]? =some s):used (l.take (k+1))=used (l.take k)+(if s.kind=0 then 0 else 1):=by
 induction l generalizing k with
 |nil=>simp at h
 |cons a l ih=>
  cases k with
  |zero=>simp at h;subst h;simp[used]
  |succ k=>simp only[List.take_succ_cons,used];rw[ih k (by simpa using h)];omega
theorem fY (l:List Slot):used l<=l.length:=by
 induction l with
 |nil=>simp[used]
 |cons a l ih=>simp only[used,List.length_cons];split<;>omega
end Sl
namespace Sl
structure Snap where
 name:ByteArray
 guest:Int
 root:List Int
structure Img where
 guest:Int
 root:List Int
 slots:List Slot
 refs:List Int
 snaps:List Snap
def eE (c:UInt8):Bool:=decide (97<=c.toNat)&&decide (c.toNat<=122)
def bj (s:ByteArray):Bool:=decide (1<=s.size)&&decide (s.size<=8)&&s.toList.all eE
def a6 (g:Int):Int:=(g+3)/4
def aQ (l:List Slot) (n:Int):Int:=if 1<=n/\n<l.length then((l[n.toNat]?).map (·.kind)).getD 0 else-1
def bh (l:List Slot) (n:Int):List Int:=((l[n.toNat]?).map (·.table)).getD []
def upto (p:Nat->Bool) (n:Nat):Bool:=(List.range n).all p
theorem co (p:Nat->Bool) (n:Nat):upto p (n+1)=(upto p n&&p n):=by simp[upto,List.range_succ]
theorem bO {p:Nat->Bool} {n k:Nat} (hk:k<n) (hp:p k=false):upto p n=false:=by
 unfold upto;rw[List.all_eq_false];exact⟨k,List.mem_range.2 hk,by simp[hp]⟩
theorem upto_iff {p:Nat->Bool} {n:Nat}:upto p n=true↔ ∀k,k<n->p k=true:=by
 unfold upto;rw[List.all_eq_true];exact⟨λh k hk=>h k (List.mem_range.2 hk),λh k hk=>h k (List.mem_range.1 hk)⟩
theorem ux {p q:Nat->Bool} {n:Nat} (h:∀k,k<n->p k=q k):upto p n=upto q n:=by
 rw[Bool.eq_iff_iff,upto_iff,upto_iff]
 exact⟨λg k hk=>by rw[<-h k hk];exact g k hk,λg k hk=>by rw[h k hk];exact g k hk⟩
def int (l:List Int) (k:Nat):Int:=l.getD k 0
def rootAt (l:List Slot) (guest:Int) (root:List Int) (k:Nat):Bool:=
 int root k==0||(aQ l (int root k)==2&&upto (λi=>decide (4*(k:Int)+i<guest)||int (bh l (int root k)) i==0) 4)
def rootFine (l:List Slot) (guest:Int) (root:List Int):Bool:=decide ((root.length:Int)=a6 guest)&&upto (rootAt l guest root) root.length
def a7 (g:Int):Bool:=decide (0<=g)&&decide (g<=16)
def eF (l:List Snap) (k:Nat):Snap:=l.getD k ⟨ByteArray.empty,0,[]⟩
def eu:List UInt8->List UInt8->Bool
 |[],[]=>false
 |[],_::_=>true
 |_::_,[]=>false
 |a::s,b::t=>decide (a.toNat<b.toNat)||(a==b&&eu s t)
def bI (s t:ByteArray):Bool:=eu s.toList t.toList
theorem fu (s t:List UInt8):(eu s t||s==t)= !eu t s:=by
 induction s generalizing t with
 |nil=>cases t<;>simp[eu]
 |cons a s ih=>
  cases t with
  |nil=>simp[eu]
  |cons b t=>
   simp only[eu]
   by_cases h:a=b
   ·subst h
    have:=ih t
    simp only[Nat.lt_irrefl,decide_false,Bool.false_or,BEq.rfl,Bool.true_and,List.cons_beq_cons]
    exact this
   ·have hn:a.toNat≠b.toNat:= λe=>h (UInt8.toNat_inj.1 e)
    have h1:(a==b)=false:=by simpa using h
    have h2:(b==a)=false:=by simpa usingλe=>h e.symm
    simp only[h1,h2,Bool.false_and,Bool.or_false,List.cons_beq_cons]
    rcases Nat.lt_or_ge a.toNat b.toNat with h3|h3
    ·rw[decide_eq_true h3,decide_eq_false (by omega:¬b.toNat<a.toNat)];rfl
    ·rw[decide_eq_false (by omega:¬a.toNat<b.toNat),decide_eq_true (by omega:b.toNat<a.toNat)];rfl
def da (l:List Snap) (k:Nat):Bool:=bj (eF l k).name&&(k==0||bI (eF l (k-1)).name (eF l k).name)
def cq (l:List Snap):Bool:=upto (da l) l.length
def aX (l:List Slot) (e:Int):Bool:=decide (e<=0)||aQ l e==1
def a8 (l:List Slot):Bool:=l.all (λs=>s.table.all (aX l))
def aV (m:Img):Bool:=a7 m.guest&&m.snaps.all (λs=>a7 s.guest)
def bU (m:Img):Bool:=rootFine m.slots m.guest m.root&&m.snaps.all (λs=>rootFine m.slots s.guest s.root)
def eG (m:Img):Bool:=decide (1<=m.slots.length)&&decide (m.slots.length<=40)&&decide (m.snaps.length<=3)
def aB (m:Img):Int:=
 if eG m=false then 2
 else if ar m.slots≠0\/m.refs.length≠m.slots.length then 1
 else if cq m.snaps=false then 1
 else if aV m=false then 3
 else if a8 m.slots=false then 1
 else if bU m=false then 1 else 0
def bt (l:List Int) (n:Int):Nat:=l.countP (· ==n)
def am (m:Img):List (List Int):=m.root::m.snaps.map (·.root)
def bC:List Nat->Nat
 |[]=>0
 |x::l=>x+bC l
def ax (ls:List (List Int)) (n:Int):Nat:=bC (ls.map (bt · n))
def br (l:List Slot) (k:Nat):Int:=((l[k]?).map (·.kind)).getD 0
def aK (l:List Slot) (k:Nat):List Int:=((l[k]?).map (·.table)).getD []
def aN (l:List Slot) (ls:List (List Int)) (n:Nat) (k:Nat):Nat:=if br l k=2/\0<ax ls k then bt (aK l k) n else 0
def cM (l:List Slot) (ls:List (List Int)) (n:Nat):Nat:=
 if n=0 then 0 else ax ls n+(if br l n=1 then bC ((List.range (l.length-1)).map (λk=>aN l ls n (k+1)))else 0)
def aM (m:Img):List Int:=(List.range m.slots.length).map (λn=>(cM m.slots (am m) n:Int))
def dS (m:Img) (n:Nat):Bool:=int m.refs n==int (aM m) n&&((int (aM m) n==0)==(br m.slots n==0))
def ab (m:Img):Int:=if aB m≠0 then aB m else if upto (dS m) m.slots.length then 0 else 9
def ag (l:List Slot) (root:List Int) (n:Nat):Int:=if 0<int root (n/4)then int (bh l (int root (n/4))) (n%4)else 0
def aE (m:Img) (n:Int):Int:=if ab m≠0 then ab m else if 0<=n/\n<m.guest then 0 else 3
def iZ (m:Img) (n:Int):Int:=if aE m n=0 then ag m.slots m.root n.toNat else 0
end Sl
namespace Sl
variable {m:Img}
theorem ky (h:¬(1<=m.slots.length/\m.slots.length<=40/\m.snaps.length<=3)):eG m=false:=by
 unfold eG;rw[Bool.eq_false_iff];simp only[Ne,Bool.and_eq_true,decide_eq_true_eq];omega
theorem ev (h:1<=m.slots.length/\m.slots.length<=40/\m.snaps.length<=3):eG m=true:=by
 unfold eG;simp only[Bool.and_eq_true,decide_eq_true_eq];omega
theorem dj (h:eG m=true):1<=m.slots.length/\m.slots.length<=40/\m.snaps.length<=3:=by
 unfold eG at h;simp only[Bool.and_eq_true,decide_eq_true_eq]at h;omega
theorem qx (h:eG m=false):aB m=2:=by unfold aB;rw[if_pos h]
structure Sh1 (m:Img):Prop where
 sizes:eG m=true
 slots:ar m.slots=0
 refs:m.refs.length=m.slots.length
theorem rG (h:eG m=true) (h1:ar m.slots≠0\/m.refs.length≠m.slots.length):aB m=1:=by
 unfold aB;rw[if_neg (by rw[h];decide),if_pos h1]
theorem lf (h:Sh1 m) (h1:cq m.snaps=false):aB m=1:=by
 unfold aB;rw[if_neg (by rw[h.sizes];decide),if_neg (by have:=h.slots;have:=h.refs;omega),if_pos h1]
theorem m4 (h:Sh1 m) (h1:cq m.snaps=true) (h2:aV m=false):aB m=3:=by
 unfold aB;rw[if_neg (by rw[h.sizes];decide),if_neg (by have:=h.slots;have:=h.refs;omega),if_neg (by rw[h1];decide),if_pos h2]
theorem ph (h:Sh1 m) (h1:cq m.snaps=true) (h2:aV m=true) (h3:a8 m.slots=false):aB m=1:=by
 unfold aB;rw[if_neg (by rw[h.sizes];decide),if_neg (by have:=h.slots;have:=h.refs;omega),if_neg (by rw[h1];decide),if_neg (by rw[h2];decide),if_pos h3]
theorem m5 (h:Sh1 m) (h1:cq m.snaps=true) (h2:aV m=true) (h3:a8 m.slots=true) (h4:bU m=false):aB m=1:=by
 unfold aB;rw[if_neg (by rw[h.sizes];decide),if_neg (by have:=h.slots;have:=h.refs;omega),if_neg (by rw[h1];decide),if_neg (by rw[h2];decide),if_neg (by rw[h3];decide),if_pos h4]
theorem zV (h:Sh1 m) (h1:cq m.snaps=true) (h2:aV m=true) (h3:a8 m.slots=true) (h4:bU m=true):aB m=0:=by
 unfold aB;rw[if_neg (by rw[h.sizes];decide),if_neg (by have:=h.slots;have:=h.refs;omega),if_neg (by rw[h1];decide),if_neg (by rw[h2];decide),if_neg (by rw[h3];decide),if_neg (by rw[h4];decide)]
theorem dI (h:aB m=0):Sh1 m/\cq m.snaps=true/\aV m=true/\a8 m.slots=true/\bU m=true:=by
 unfold aB at h
 split at h
 ·omega
 ·split at h
  ·omega
  ·split at h
   ·omega
   ·split at h
    ·omega
    ·split at h
     ·omega
     ·split at h
      ·omega
      ·rename_i a b c d e f
       simp only[Bool.not_eq_false]at a c d e f
       exact⟨⟨a,by omega,by omega⟩,c,d,e,f⟩
theorem bY {l:List Snap} {k:Nat} {s:Snap} (h:l[k]? =some s):eF l k=s:=by unfold eF;rw[List.getD_eq_getElem?_getD,h];rfl
end Sl
namespace Sl
def row (n:Nat) (f:Nat->Int):List Int:=(List.range n).map f
theorem gL (n:Nat) (f:Nat->Int):(row n f).length=n:=by simp[row]
theorem gr {n k:Nat} (f:Nat->Int) (h:k<n):(row n f)[k]? =some (f k):=by simp[row,List.getElem?_range h]
theorem cr {n:Nat} {f g:Nat->Int} (h:∀j,j<n->f j=g j):row n f=row n g:=by
 unfold row;exact List.map_congr_left λj hj=>h j (List.mem_range.1 hj)
theorem qy (n k:Nat) (f:Nat->Int) (x:Int):(row n f).set k x=row n (λj=>if j=k then x else f j):=by
 apply List.ext_getElem?
 intro j
 rw[List.getElem?_set]
 by_cases hj:j<n
 ·rw[gr _ hj,gr _ hj,gL]
  by_cases h:k=j
  ·subst h;rw[if_pos rfl,if_pos hj,if_pos rfl]
  ·rw[if_neg h,if_neg (λe=>h e.symm)]
 ·rw[List.getElem?_eq_none (by rw[gL];omega),List.getElem?_eq_none (by rw[gL];omega),gL]
  by_cases h:k=j
  ·subst h;rw[if_pos rfl,if_neg hj]
  ·rw[if_neg h]
theorem Cg {n k:Nat} (f:Nat->Int) (h:k<n):int (row n f) k=f k:=by unfold int;rw[List.getD_eq_getElem?_getD,gr f h];rfl
theorem rH (n:Nat):row n (λ_=>0)=List.replicate n 0:=by
 apply List.ext_getElem?
 intro j
 by_cases hj:j<n
 ·rw[gr _ hj,List.getElem?_replicate,if_pos hj]
 ·rw[List.getElem?_eq_none (by rw[gL];omega),List.getElem?_replicate,if_neg hj]
theorem cB (a b:List Nat):bC (a++b)=bC a+bC b:=by
 induction a with
 |nil=>simp[bC]
 |cons x a ih=>simp only[List.cons_append,bC,ih];omega
theorem qz (ls:List (List Int)) (r:List Int) (n:Int):ax (ls++[r]) n=ax ls n+bt r n:=by
 unfold ax;rw[List.map_append,cB];simp[bC]
theorem cE (r:List Int) (n:Int):ax [r] n=bt r n:=by simp[ax,bC]
theorem fw (l:List Int) (n:Int):bt l n<=l.length:=List.countP_le_length
theorem fy (a b:List Int) (n:Int):bt (a++b) n=bt a n+bt b n:=List.countP_append
theorem dy (ls:List (List Int)) (n:Int):bt ls.flatten n=ax ls n:=by
 induction ls with
 |nil=>rfl
 |cons a ls ih=>rw[List.flatten_cons,fy,ih];simp[ax,bC]
theorem m6 {l:List Nat} {c:Nat} (h:∀x∈l,x<=c):bC l<=l.length*c:=by
 induction l with
 |nil=>simp[bC]
 |cons x l ih=>
  have h1:=h x (List.mem_cons_self ..)
  have h2:=ih (λy hy=>h y (List.mem_cons_of_mem _ hy))
  simp only[bC,List.length_cons,Nat.add_mul,Nat.one_mul];omega
structure CBd (m:Img):Prop where
 one:1<=m.slots.length
 slots:m.slots.length<=40
 snaps:m.snaps.length<=4
 root:m.root.length<=4
 roots:∀s∈m.snaps,s.root.length<=4
 tables:∀s∈m.slots,s.table.length<=4
theorem CBd.toldAll_le {m:Img} (h:CBd m) (q:Nat) (n:Int):ax (m.root::(m.snaps.take q).map (·.root)) n<=20:=by
 unfold ax
 have:bC ((m.root::(m.snaps.take q).map (·.root)).map (bt · n))<=(m.root::(m.snaps.take q).map (·.root)).length*4:=by
  have:=m6 (l:=(m.root::(m.snaps.take q).map (·.root)).map (bt · n)) (c:=4) (λx hx=>by
   obtain⟨r,hr,rfl⟩:=List.mem_map.1 hx
   refine Nat.le_trans (fw r n) ?_
   rcases List.mem_cons.1 hr with rfl|hr
   ·exact h.root
   ·obtain⟨s,hs,rfl⟩:=List.mem_map.1 hr
    exact h.roots s (List.mem_of_mem_take hs))
  rwa [List.length_map]at this
 have h2:(m.root::(m.snaps.take q).map (·.root)).length<=5:=by
  have:=h.snaps
  simp only[List.length_cons,List.length_map,List.length_take];omega
 omega
theorem mF (m:Img) {q:Nat} (h:m.snaps.length<=q):(m.root::(m.snaps.take q).map (·.root))=am m:=by
 rw[List.take_of_length_le h];rfl
theorem CBd.all_le {m:Img} (h:CBd m) (n:Int):ax (am m) n<=20:=by
 rw[<-mF m (Nat.le_refl _)];exact h.toldAll_le _ n
theorem CBd.table_le {m:Img} (h:CBd m) (k:Nat) (n:Int):bt (aK m.slots k) n<=4:=by
 refine Nat.le_trans (fw _ _) ?_
 unfold aK
 cases hs:m.slots[k]? with
 |none=>simp
 |some s=>exact h.tables s (List.mem_of_getElem? hs)
def cF (l:List Slot) (ls:List (List Int)) (n i:Nat):Nat:=bC ((List.range (i-1)).map (λk=>aN l ls n (k+1)))
theorem jN (l:List Slot) (ls:List (List Int)) (n:Nat):cF l ls n 1=0:=rfl
theorem m9 (l:List Slot) (ls:List (List Int)) (n i:Nat) (h:1<=i):cF l ls n (i+1)=cF l ls n i+aN l ls n i:=by
 unfold cF
 rw[show i+1-1=(i-1)+1 from by omega,List.range_succ,List.map_append,cB]
 simp[bC,show i-1+1=i from by omega]
theorem CBd.toldBy_le {m:Img} (h:CBd m) (n k:Nat):aN m.slots (am m) n k<=4:=by
 unfold aN;split
 ·exact h.table_le k n
 ·omega
theorem CBd.sumTo_le {m:Img} (h:CBd m) (n i:Nat) (hi:i<=40):cF m.slots (am m) n i<=160:=by
 have:=m6 (l:=(List.range (i-1)).map (λk=>aN m.slots (am m) n (k+1))) (c:=4) (λx hx=>by
  obtain⟨k,_,rfl⟩:=List.mem_map.1 hx
  exact h.toldBy_le n (k+1))
 rw[List.length_map,List.length_range]at this
 unfold cF;omega
theorem bN (m:Img):aM m=row m.slots.length (λn=>(cM m.slots (am m) n:Int)):=rfl
theorem eH {l:List Slot} {ls:List (List Int)} {n:Nat} (h:1<=n) (hk:br l n=1):cM l ls n=ax ls n+cF l ls n l.length:=by
 unfold cM cF;rw[if_neg (by omega),if_pos hk]
theorem bV {l:List Slot} {ls:List (List Int)} {n:Nat} (h:1<=n) (hk:br l n≠1):cM l ls n=ax ls n:=by
 unfold cM;rw[if_neg (by omega),if_neg hk];rfl
theorem aL {l:List Slot} {k:Nat} {s:Slot} (h:l[k]? =some s):br l k=s.kind:=by unfold br;rw[h];rfl
theorem db {l:List Slot} {k:Nat} {s:Slot} (h:l[k]? =some s):aK l k=s.table:=by unfold aK;rw[h];rfl
end Sl
namespace Sl
structure Wired (m:Img):Prop where
 tables:a8 m.slots=true
 roots:∀r∈am m,∀t∈r,t=0\/aQ m.slots t=2
theorem cu {l:List Nat} {f g:Nat->Nat} (h:∀i∈l,f i=g i):bC (l.map f)=bC (l.map g):=by rw[List.map_congr_left h]
theorem lY {n k:Nat} {f g:Nat->Nat} (hk:k<n) (h:∀i,i≠k->f i=g i) (c:Nat) (hc:g k=f k+c):bC ((List.range n).map g)=bC ((List.range n).map f)+c:=by
 induction n with
 |zero=>omega
 |succ n ih=>
  rw[List.range_succ,List.map_append,List.map_append,cB,cB]
  simp only[List.map_cons,List.map_nil,bC]
  by_cases e:k=n
  ·subst e
   rw[cu (f:=g) (g:=f) (λi hi=>(h i (by have:=List.mem_range.1 hi;omega)).symm),hc];omega
  ·rw[ih (by omega),h n (λx=>e x.symm)];omega
def bz (l:List Slot) (p:List Int) (j:Nat):Nat:=if j=0 then 0 else bt p j+cF l [p] j l.length
theorem ew (p:List Int) (t j:Int):bt (p++[t]) j=bt p j+(if t=j then 1 else 0):=by
 unfold bt;rw[List.countP_append];simp[List.countP_cons]
theorem rI (l:List Slot) (j:Nat):bz l [] j=0:=by
 unfold bz
 split
 ·rfl
 ·unfold cF
  have:bC ((List.range (l.length-1)).map λk=>aN l [[]] j (k+1))=bC ((List.range (l.length-1)).map λ_=>0):=cu (λi _=>by
   unfold aN;rw[if_neg];simp[ax,bC,bt])
  rw[this]
  have:∀n,bC ((List.range n).map λ_=>0)=0:= λn=>by
   induction n with
   |zero=>rfl
   |succ n ih=>rw[List.range_succ,List.map_append,cB,ih];rfl
  rw[this];simp[bt]
theorem qC (l:List Slot) (p:List Int) (j:Nat):bz l (p++[0]) j=bz l p j:=by
 unfold bz
 split
 ·rfl
 ·rename_i h0
  have e:∀i:Nat,1<=i->bt (p++[0]) (i:Int)=bt p i:= λi hi=>by rw[ew,if_neg (by omega)];rfl
  rw[e j (by omega)]
  congr 1
  unfold cF
  refine cu (λi _=>?_)
  unfold aN
  rw[cE,cE,e (i+1) (by omega)]
theorem oI {l:List Slot} {p:List Int} {k:Nat} (hk:1<=k) (hp:0<bt p k) (j:Nat):bz l (p++[(k:Int)]) j=if j=k then bz l p k+1 else bz l p j:=by
 unfold bz
 have hs:cF l [p++[(k:Int)]] j l.length=cF l [p] j l.length:=by
  unfold cF
  refine cu (λi _=>?_)
  unfold aN
  rw[cE,cE,ew]
  by_cases e:k=i+1
  ·subst e
   have h1:0<bt p ((i+1:Nat):Int)+(if((i+1:Nat):Int)=((i+1:Nat):Int)then 1 else 0):=by omega
   by_cases hk2:br l (i+1)=2
   ·rw[if_pos ⟨hk2,h1⟩,if_pos ⟨hk2,hp⟩]
   ·rw[if_neg (λh=>hk2 h.1),if_neg (λh=>hk2 h.1)]
  ·rw[if_neg (by omega:¬(k:Int)=((i+1:Nat):Int))];rfl
 by_cases h0:j=0
 ·subst h0;rw[if_pos rfl,if_neg (by omega),if_pos rfl]
 ·rw[if_neg h0,hs,ew]
  by_cases e:j=k
  ·subst e;rw[if_pos rfl,if_pos rfl,if_neg h0];omega
  ·rw[if_neg (by omega),if_neg e,if_neg h0];rfl
def cm (l:List Slot) (p:List Int) (k q j:Nat):Nat:=if j=0 then 0 else bz l p j+(if j=k then 1 else 0)+bt ((aK l k).take q) j
theorem na {l:List Slot} {p:List Int} {k:Nat} (hk:1<=k) (j:Nat):(if j=k then bz l p k+1 else bz l p j)=cm l p k 0 j:=by
 unfold cm
 by_cases h0:j=0
 ·subst h0;rw[if_neg (by omega),if_pos rfl];rfl
 ·rw[if_neg h0,List.take_zero]
  by_cases e:j=k
  ·subst e;rw[if_pos rfl,if_pos rfl];rfl
  ·rw[if_neg e,if_neg e];rfl
theorem oJ {l:List Slot} {p:List Int} {k q:Nat} {x:Int} (hx:(aK l k)[q]? =some x) (h:x<=0) (j:Nat):cm l p k q j=cm l p k (q+1) j:=by
 unfold cm
 by_cases h0:j=0
 ·rw[if_pos h0,if_pos h0]
 ·rw[if_neg h0,if_neg h0,List.take_add_one,hx]
  simp only[Option.toList_some]
  rw[ew,if_neg (by omega:¬x=(j:Int))];rfl
theorem oK {l:List Slot} {p:List Int} {k q e:Nat} (hx:(aK l k)[q]? =some (e:Int)) (h:1<=e) (j:Nat):(if j=e then cm l p k q e+1 else cm l p k q j)=cm l p k (q+1) j:=by
 unfold cm
 by_cases h0:j=0
 ·subst h0;rw[if_neg (by omega),if_pos rfl,if_pos rfl]
 ·rw[if_neg h0,if_neg h0,List.take_add_one,hx]
  simp only[Option.toList_some]
  rw[ew]
  by_cases he:j=e
  ·subst he;rw[if_pos rfl,if_neg h0,if_pos rfl];omega
  ·rw[if_neg he,if_neg (by omega:¬(e:Int)=(j:Int))];rfl
theorem qD {l:List Slot} {p:List Int} {k q:Nat} (hk:1<=k) (hkl:k<l.length) (h2:br l k=2) (hp:bt p k=0) (hq:(aK l k).length<=q) (j:Nat):cm l p k q j=bz l (p++[(k:Int)]) j:=by
 unfold cm bz
 by_cases h0:j=0
 ·rw[if_pos h0,if_pos h0]
 ·rw[if_neg h0,if_neg h0,if_neg h0,List.take_of_length_le hq,ew]
  have hs:cF l [p++[(k:Int)]] j l.length=cF l [p] j l.length+bt (aK l k) j:=by
   unfold cF
   refine lY (k:=k-1) (by omega) (λi hi=>?_) _ ?_
   ·unfold aN
    rw[cE,cE,ew,if_neg (by omega:¬(k:Int)=((i+1:Nat):Int))];rfl
   ·unfold aN
    rw[cE,cE,ew,show k-1+1=k from by omega,hp,if_pos rfl,if_pos ⟨h2,by omega⟩,if_neg (by omega)];omega
  rw[hs]
  by_cases e:j=k
  ·subst e;rw[if_pos rfl,if_pos rfl];omega
  ·rw[if_neg e,if_neg (by omega:¬(k:Int)=(j:Int))];omega
theorem dV {l:List Slot} {j:Nat} (hj:1<=j) (hl:j<l.length):aQ l (j:Int)=br l j:=by
 unfold aQ br;rw[if_pos (by omega),Int.toNat_natCast]
theorem lZ {t:List Int} {j:Int} (h:∀x∈t,x≠j):bt t j=0:=by
 unfold bt;rw[List.countP_eq_zero]
 intro x hx
 simpa using h x hx
theorem uy {l:List Slot} (h:a8 l=true) {k j:Nat} (hj:1<=j) (hl:j<l.length) (h1:br l j≠1):bt (aK l k) j=0:=by
 refine lZ (λx hx e=>?_)
 subst e
 unfold aK at hx
 cases hs:l[k]? with
 |none=>rw[hs]at hx;simp at hx
 |some s=>
  rw[hs]at hx
  have:=List.all_eq_true.1 (List.all_eq_true.1 h s (List.mem_of_getElem? hs)) _ hx
  unfold aX at this
  rw[decide_eq_false (by omega),Bool.false_or,dV hj hl]at this
  exact h1 (by simpa using this)
theorem nc {l:List Slot} (h:a8 l=true) {ls:List (List Int)} {j:Nat} (hj:1<=j) (hl:j<l.length) (h1:br l j≠1) (i:Nat):cF l ls j i=0:=by
 unfold cF
 have:bC ((List.range (i-1)).map λk=>aN l ls j (k+1))=bC ((List.range (i-1)).map λ_=>0):=cu (λa _=>by
  unfold aN;split
  ·exact uy h hj hl h1
  ·rfl)
 rw[this]
 have:∀n,bC ((List.range n).map λ_=>0)=0:= λn=>by
  induction n with
  |zero=>rfl
  |succ n ih=>rw[List.range_succ,List.map_append,cB,ih];rfl
 exact this _
theorem oL {l:List Slot} (h:a8 l=true) {p:List Int} {k:Nat} (hk:1<=k) (hl:k<l.length) (h2:br l k=2):bz l p k=bt p k:=by
 unfold bz;rw[if_neg (by omega),nc h hk hl (by omega)];omega
theorem rJ {m:Img} (h:a8 m.slots=true) {j:Nat} (hl:j<m.slots.length):bz m.slots (am m).flatten j=cM m.slots (am m) j:=by
 by_cases h0:j=0
 ·subst h0;unfold bz cM;rw[if_pos rfl,if_pos rfl]
 ·have hs:cF m.slots [(am m).flatten] j m.slots.length=cF m.slots (am m) j m.slots.length:=by
   unfold cF
   refine cu (λi _=>?_)
   unfold aN
   rw[cE,dy]
  unfold bz
  rw[if_neg h0,dy,hs]
  by_cases h1:br m.slots j=1
  ·rw[eH (by omega) h1]
  ·rw[bV (by omega) h1,nc h (by omega) hl h1];rfl
theorem nd {l:List Slot} {p:List Int} {j:Nat} (hp:p.length<=20) (hl:l.length<=40) (ht:∀s∈l,s.table.length<=4):bz l p j<=180:=by
 unfold bz
 split
 ·omega
 ·have h1:=fw p j
  have h2:=m6 (l:=(List.range (l.length-1)).map (λk=>aN l [p] j (k+1))) (c:=4) (λx hx=>by
   obtain⟨k,_,rfl⟩:=List.mem_map.1 hx
   unfold aN;split
   ·refine Nat.le_trans (fw _ _) ?_
    unfold aK
    cases hs:l[k+1]? with
    |none=>simp
    |some s=>exact ht s (List.mem_of_getElem? hs)
   ·omega)
  rw[List.length_map,List.length_range]at h2
  unfold cF;omega
theorem rK {l:List Slot} {p:List Int} {k q j:Nat} (hp:p.length<=20) (hl:l.length<=40) (ht:∀s∈l,s.table.length<=4):cm l p k q j<=200:=by
 unfold cm
 split
 ·omega
 ·have h1:=nd (j:=j) hp hl ht
  have h2:=fw ((aK l k).take q) j
  have h3:(aK l k).length<=4:=by
   unfold aK
   cases hs:l[k]? with
   |none=>simp
   |some s=>exact ht s (List.mem_of_getElem? hs)
  have h4:((aK l k).take q).length<=4:=by rw[List.length_take];omega
  split<;>omega
end Sl
namespace Sl
variable {m:Img}
theorem rL {g:Int} (h0:0<=g) (h:g<=16):0<=a6 g/\a6 g<=4:=by unfold a6;omega
theorem bR {l:List Slot} (h:ar l=0):l.all aD=true:=by
 unfold ar at h
 split at h
 ·omega
 ·split at h
  ·assumption
  ·omega
theorem rM {l:List Slot} {s:Slot} (h:ar l=0) (hs:s∈l):s.table.length<=4/\(s.kind=2->s.table.length=4)/\(s.kind≠2->s.table=[]):=by
 have:=List.all_eq_true.1 (bR h) s hs
 unfold aD at this
 split at this
 ·rename_i h0
  simp only[Bool.and_eq_true,beq_iff_eq]at this
  exact⟨by omega,by omega,λ_=>List.eq_nil_of_length_eq_zero this.2⟩
 ·split at this
  ·simp only[Bool.and_eq_true,beq_iff_eq]at this
   exact⟨by omega,by omega,λ_=>List.eq_nil_of_length_eq_zero this.2⟩
  ·split at this
   ·rename_i h2
    simp only[Bool.and_eq_true,beq_iff_eq]at this
    have h3:=this.1.2
    unfold ak at h3
    split at h3
    ·exact⟨by omega,by omega,by omega⟩
    ·omega
   ·cases this
theorem eI {g:Int} (h:a7 g=true):0<=g/\g<=16:=by
 unfold a7 at h;rw[Bool.and_eq_true,decide_eq_true_eq,decide_eq_true_eq]at h;exact h
theorem dW {l:List Slot} {g:Int} {r:List Int} (h:rootFine l g r=true):(r.length:Int)=a6 g/\ ∀k,k<r.length->rootAt l g r k=true:=by
 unfold rootFine at h;rw[Bool.and_eq_true,decide_eq_true_eq,upto_iff]at h;exact h
theorem pi {l:List Slot} {g:Int} {r:List Int} {k:Nat} (h:rootAt l g r k=true):int r k=0\/aQ l (int r k)=2:=by
 unfold rootAt at h
 rw[Bool.or_eq_true,Bool.and_eq_true,beq_iff_eq,beq_iff_eq]at h
 rcases h with h|h
 ·exact .inl h
 ·exact .inr h.1
theorem mU {r:List Int} {t:Int} (h:t∈r):∃k,k<r.length/\int r k=t:=by
 obtain⟨k,hk,rfl⟩:=List.mem_iff_getElem.1 h
 exact⟨k,hk,by unfold int;rw[List.getD_eq_getElem?_getD,List.getElem?_eq_getElem hk];rfl⟩
theorem jd {l:List Slot} {g:Int} {r:List Int} (h:rootFine l g r=true) {t:Int} (ht:t∈r):t=0\/aQ l t=2:=by
 obtain⟨k,hk,rfl⟩:=mU ht
 exact pi ((dW h).2 k hk)
theorem dz (h:aB m=0):CBd m:=by
 obtain⟨h1,h2,h3,h4,h5⟩:=dI h
 obtain⟨a,b,c⟩:=dj h1.sizes
 unfold aV at h3
 unfold bU at h5
 rw[Bool.and_eq_true,List.all_eq_true]at h3 h5
 refine⟨a,b,by omega,?_,λs hs=>?_,λs hs=>(rM h1.slots hs).1⟩
 ·have:=(dW h5.1).1
  have:=rL (eI h3.1).1 (eI h3.1).2
  omega
 ·have:=(dW (h5.2 s hs)).1
  have:=rL (eI (h3.2 s hs)).1 (eI (h3.2 s hs)).2
  omega
theorem gM (h:aB m=0):Wired m:=by
 obtain⟨h1,h2,h3,h4,h5⟩:=dI h
 unfold bU at h5
 rw[Bool.and_eq_true,List.all_eq_true]at h5
 refine⟨h4,λr hr t ht=>?_⟩
 rcases List.mem_cons.1 hr with rfl|hr
 ·exact jd h5.1 ht
 ·obtain⟨s,hs,rfl⟩:=List.mem_map.1 hr
  exact jd (h5.2 s hs) ht
def oM (m:Img):List Int:=if aB m=0 then aM m else[]
theorem cO (m:Img):(aM m).length=m.slots.length:=by rw[bN,gL]
theorem lg {k:Nat} {r c:Int} {s:Slot} (hr:m.refs[k]? =some r) (hc:(aM m)[k]? =some c) (hs:m.slots[k]? =some s):dS m k=(r==c&&((c==0)==(s.kind==0))):=by
 unfold dS;rw[aL hs]
 unfold int;rw[List.getD_eq_getElem?_getD,List.getD_eq_getElem?_getD,hr,hc];rfl
theorem rN (h:aB m≠0):ab m=aB m:=by unfold ab;rw[if_pos h]
theorem gh (h:aB m=0) (h2:upto (dS m) m.slots.length=false):ab m=9:=by unfold ab;rw[if_neg (by omega),h2];rfl
theorem lh (h:aB m=0) (h2:upto (dS m) m.slots.length=true):ab m=0:=by unfold ab;rw[if_neg (by omega),h2];rfl
theorem aq (h:ab m=0):aB m=0/\ ∀k,k<m.slots.length->dS m k=true:=by
 unfold ab at h
 split at h
 ·contradiction
 ·rename_i h1
  split at h
  ·rename_i h2;exact⟨by omega,upto_iff.1 h2⟩
  ·omega
theorem wW (h:ab m≠0) (n:Int):aE m n=ab m/\iZ m n=0:=by
 have:aE m n=ab m:=by unfold aE;rw[if_pos h]
 exact⟨this,by unfold iZ;rw[this,if_neg h]⟩
theorem zW (h:ab m=0) {n:Int} (hn:¬(0<=n/\n<m.guest)):aE m n=3/\iZ m n=0:=by
 have:aE m n=3:=by unfold aE;rw[if_neg (by omega),if_neg hn]
 exact⟨this,by unfold iZ;rw[this,if_neg (by decide)]⟩
theorem mV (h:ab m=0) {n:Nat} (hn:(n:Int)<m.guest):aE m n=0/\iZ m n=ag m.slots m.root n:=by
 have:aE m n=0:=by unfold aE;rw[if_neg (by omega),if_pos (by omega)]
 exact⟨this,by unfold iZ;rw[this,if_pos rfl,Int.toNat_natCast]⟩
theorem dm {n:Int} (h:aE m n=0):ab m=0/\0<=n/\n<m.guest:=by
 unfold aE at h
 split at h
 ·contradiction
 ·rename_i h1
  split at h
  ·rename_i h2;exact⟨by omega,h2.1,h2.2⟩
  ·omega
end Sl
namespace Sl
variable {m:Img}
def tabs (l:List Slot):Nat:=l.countP (λs=>s.kind==2)
theorem li (h:Wired m) {k:Nat} (hk:1<=k) (hl:k<m.slots.length) (h1:br m.slots k≠2):ax (am m) k=0:=by
 rw[<-dy]
 refine lZ (λx hx e=>?_)
 subst e
 obtain⟨r,hr,ht⟩:=List.mem_flatten.1 hx
 rcases h.roots r hr _ ht with h2|h2
 ·omega
 ·rw[dV hk hl]at h2;exact h1 h2
theorem uz (h:ab m=0) {k:Nat} {r c:Int} {s:Slot} (hr:m.refs[k]? =some r) (hc:(aM m)[k]? =some c) (hs:m.slots[k]? =some s):r=c/\0<=c/\(c=0↔s.kind=0):=by
 have hl:=(zl hs)
 have:=(aq h).2 k hl
 rw[lg hr hc hs,Bool.and_eq_true,beq_iff_eq]at this
 refine⟨this.1,?_,?_⟩
 ·rw[bN,gr _ hl]at hc
  injection hc with hc
  rw[<-hc];exact Int.natCast_nonneg _
 ·have h2:=this.2
  rw[beq_iff_eq,Bool.eq_iff_iff]at h2
  simpa using h2
theorem pj (h:ab m=0) (n:Nat): -1<=ag m.slots m.root n/\(0<ag m.slots m.root n->∃k s,ag m.slots m.root n=(k:Nat)/\m.slots[k]? =some s/\s.kind=1):=by
 obtain⟨h1,h2,h3,h4,h5⟩:=dI (aq h).1
 unfold ag
 split
 ·rename_i hp
  unfold bh
  cases hs:m.slots[(int m.root (n/4)).toNat]? with
  |none=>simp[int]
  |some s=>
   simp only[Option.map_some,Option.getD_some]
   cases he:s.table[n%4]? with
   |none=>simp only[int,List.getD_eq_getElem?_getD,he];simp
   |some e=>
    simp only[int,List.getD_eq_getElem?_getD,he,Option.getD_some]
    have hmem:=List.mem_of_getElem? hs
    have hem:=List.mem_of_getElem? he
    have hok:=List.all_eq_true.1 (List.all_eq_true.1 h4 s hmem) e hem
    have hsf:=List.all_eq_true.1 (bR h1.slots) s hmem
    refine⟨?_,λhe0=>?_⟩
    ·unfold aD at hsf
     split at hsf
     ·simp only[Bool.and_eq_true,beq_iff_eq]at hsf
      have:=List.eq_nil_of_length_eq_zero hsf.2;rw[this]at hem;cases hem
     ·split at hsf
      ·simp only[Bool.and_eq_true,beq_iff_eq]at hsf
       have:=List.eq_nil_of_length_eq_zero hsf.2;rw[this]at hem;cases hem
      ·split at hsf
       ·simp only[Bool.and_eq_true,beq_iff_eq]at hsf
        have h6:=hsf.1.2
        unfold ak at h6
        split at h6
        ·split at h6
         ·rename_i h7
          have:=List.all_eq_true.1 h7 e hem
          unfold cV at this
          simp only[Bool.and_eq_true,decide_eq_true_eq]at this
          exact this.1
         ·omega
        ·omega
       ·cases hsf
    ·unfold aX at hok
     rw[decide_eq_false (by omega),Bool.false_or,beq_iff_eq]at hok
     obtain⟨j,rfl⟩:=Int.eq_ofNat_of_zero_le (a:=e) (by omega)
     unfold aQ at hok
     split at hok
     ·rename_i hj
      have hjl:j<m.slots.length:=by omega
      rw[Int.toNat_natCast,List.getElem?_eq_getElem hjl]at hok
      exact⟨j,m.slots[j],rfl,List.getElem?_eq_getElem hjl,hok⟩
     ·omega
 ·exact⟨by omega,λh=>by omega⟩
end Sl
namespace Sl
def ng:ByteArray:={data:=#[0,0,0,0]}
def noP:ByteArray:={data:=#[]}
end Sl
namespace Sl
def ch (l:List Slot) (e:Int):ByteArray:=if 0<e then((l[e.toNat]?).map (·.data)).getD noP else ng
theorem dX {l:List Slot} {e:Int} (h:e<=0):ch l e=ng:=by unfold ch;rw[if_neg (by omega)]
theorem fB {l:List Slot} {k:Nat} {s:Slot} (h:l[k]? =some s) (hk:0<k):ch l (k:Nat)=s.data:=by unfold ch;rw[if_pos (by omega),Int.toNat_natCast,h];rfl
def DE (l:List Slot) (root:List Int) (g:Nat):List ByteArray:=(List.range g).map (λn=>ch l (ag l root n))
def fC (m:Img) (n:Int):ByteArray:=if aE m n=0 then ch m.slots (ag m.slots m.root n.toNat)else noP
def named (name:ByteArray) (s:Snap):Bool:=s.name.toList==name.toList
def bJ (m:Img) (name:ByteArray):Int:=if ab m=0 then(if m.snaps.any (named name)then 0 else 5)else ab m
def nh (m:Img) (name:ByteArray):List ByteArray:=if bJ m name=0 then DE m.slots (eF m.snaps (bn (named name) m.snaps)).root (eF m.snaps (bn (named name) m.snaps)).guest.toNat else[]
theorem Ch {m:Img} {name:ByteArray} (h:ab m≠0):bJ m name=ab m/\nh m name=[]:=by
 have:bJ m name=ab m:=by unfold bJ;rw[if_neg h]
 exact⟨this,by unfold nh;rw[this,if_neg h]⟩
theorem ic {m:Img} {name:ByteArray} (h:ab m=0) (hn:m.snaps.any (named name)=false):bJ m name=5/\nh m name=[]/\bD (named name) m.snaps= -1:=by
 have:bJ m name=5:=by unfold bJ;rw[if_pos h,hn];rfl
 refine⟨this,by unfold nh;rw[this,if_neg (by decide)],?_⟩
 unfold bD;rw[if_neg];intro h2;rw[(gp _ _).1 h2]at hn;cases hn
theorem wX {m:Img} {name:ByteArray} (h:ab m=0) (hn:m.snaps.any (named name)=true):∃(k:Nat) (s:Snap),k<m.snaps.length/\m.snaps[k]? =some s/\bn (named name) m.snaps=k/\bD (named name) m.snaps=(k:Nat)/\bJ m name=0/\nh m name=DE m.slots s.root s.guest.toNat:=by
 have hlt:=(gp (named name) m.snaps).2 hn
 have he:bJ m name=0:=by unfold bJ;rw[if_pos h,if_pos hn]
 refine⟨bn (named name) m.snaps,m.snaps[bn (named name) m.snaps],hlt,List.getElem?_eq_getElem hlt,rfl,?_,he,?_⟩
 ·unfold bD;rw[if_pos hlt]
 ·unfold nh;rw[if_pos he,bY (List.getElem?_eq_getElem hlt)]
theorem ni {s:Slot} (hsf:aD s=true) {e:Int} (hem:e∈s.table): -1<=e/\e<40:=by
 unfold aD at hsf
 split at hsf
 ·simp only[Bool.and_eq_true,beq_iff_eq]at hsf
  have:=List.eq_nil_of_length_eq_zero hsf.2;rw[this]at hem;cases hem
 ·split at hsf
  ·simp only[Bool.and_eq_true,beq_iff_eq]at hsf
   have:=List.eq_nil_of_length_eq_zero hsf.2;rw[this]at hem;cases hem
  ·split at hsf
   ·simp only[Bool.and_eq_true,beq_iff_eq]at hsf
    have h6:=hsf.1.2
    unfold ak at h6
    split at h6
    ·split at h6
     ·rename_i h7
      have:=List.all_eq_true.1 h7 e hem
      unfold cV at this
      simp only[Bool.and_eq_true,decide_eq_true_eq]at this
      exact this
     ·omega
    ·omega
   ·cases hsf
theorem xI {s:Slot} (hsf:aD s=true) (hk:s.kind=1):s.data.size=4:=by
 unfold aD at hsf
 rw[if_neg (by omega),if_pos hk]at hsf
 simp only[Bool.and_eq_true,beq_iff_eq]at hsf
 exact hsf.1
theorem gi {m:Img} (hm:ab m=0):0<=m.guest/\m.guest<=16/\rootFine m.slots m.guest m.root=true:=by
 obtain⟨h1,h2,h3,h4,h5⟩:=dI (aq hm).1
 unfold aV at h3;unfold bU at h5
 rw[Bool.and_eq_true]at h3 h5
 have g:=h3.1
 unfold a7 at g
 simp only[Bool.and_eq_true,decide_eq_true_eq]at g
 exact⟨g.1,g.2,h5.1⟩
def nj (l:List Slot) (e:Int):Prop:=e<=0\/ ∃k s,e=(k:Nat)/\0<k/\l[k]? =some s/\s.data.size=4
theorem nk {m:Img} (hm:ab m=0) (root:List Int) (n:Nat): -1<=ag m.slots root n/\(0<ag m.slots root n->∃k s,ag m.slots root n=(k:Nat)/\m.slots[k]? =some s/\s.kind=1):=by
 obtain⟨h1,h2,h3,h4,h5⟩:=dI (aq hm).1
 unfold ag
 split
 ·rename_i hp
  unfold bh
  cases hs:m.slots[(int root (n/4)).toNat]? with
  |none=>simp[int]
  |some s=>
   simp only[Option.map_some,Option.getD_some]
   cases he:s.table[n%4]? with
   |none=>simp only[int,List.getD_eq_getElem?_getD,he];simp
   |some e=>
    simp only[int,List.getD_eq_getElem?_getD,he,Option.getD_some]
    have hmem:=List.mem_of_getElem? hs
    have hem:=List.mem_of_getElem? he
    have hok:=List.all_eq_true.1 (List.all_eq_true.1 h4 s hmem) e hem
    have hsf:=List.all_eq_true.1 (bR h1.slots) s hmem
    refine⟨?_,λhe0=>?_⟩
    ·exact(ni hsf hem).1
    ·unfold aX at hok
     rw[decide_eq_false (by omega),Bool.false_or,beq_iff_eq]at hok
     obtain⟨j,rfl⟩:=Int.eq_ofNat_of_zero_le (a:=e) (by omega)
     unfold aQ at hok
     split at hok
     ·rename_i hj
      have hjl:j<m.slots.length:=by omega
      rw[Int.toNat_natCast,List.getElem?_eq_getElem hjl]at hok
      exact⟨j,m.slots[j],rfl,List.getElem?_eq_getElem hjl,hok⟩
     ·omega
 ·exact⟨by omega,λh=>by omega⟩
theorem je {m:Img} (hm:ab m=0) (root:List Int) (n:Nat):nj m.slots (ag m.slots root n):=by
 rcases Int.lt_or_le 0 (ag m.slots root n)with h|h
 ·obtain⟨k,s,e,hs,hk⟩:=(nk hm root n).2 h
  exact .inr ⟨k,s,e,by omega,hs,xI (List.all_eq_true.1 (bR (dI (aq hm).1).1.slots) s (List.mem_of_getElem? hs)) hk⟩
 ·exact .inl h
theorem l8 {m:Img} {e:Int} (h:nj m.slots e):(ch m.slots e).size=4:=by
 rcases h with h|⟨k,s,rfl,hk,hs,hd⟩
 ·rw[dX h];rfl
 ·rw[fB hs hk];exact hd
end Sl
