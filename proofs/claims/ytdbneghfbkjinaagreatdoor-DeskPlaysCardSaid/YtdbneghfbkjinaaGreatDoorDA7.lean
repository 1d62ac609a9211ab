/- Texts of the proof of deskPlays_holds: TreeA, PureL, PureE. Conditions: as each text says. -/
import Derived.Test.YtdbneghfbkjinaaGreatDoorDA1
import Derived.Test.YtdbneghfbkjinaaGreatDoorDA5
import Derived.Test.YtdbneghfbkjinaaGreatDoorDA6
import Derived.StillTailTactics
set_option maxRecDepth 100000
set_option maxHeartbeats 1000000
namespace Go.Proofs.YtdbneghfbkjinaaGreatDoor
section
open Go.Proofs.Tryz
open Go.RowKit Sl
theorem ik (g:Int) (w:World) (h0:0<=g) (h1:g<=1000000):Calls prog 21 #[.int .i64 g] w λe w'=>e=.returned (.int .i64 (a6 g))/\w=w':=by
 go_enter func21,ntmps21
 go_wp2
 go_ret
 exact⟨aw (by unfold a6;rw[show g+4-1=g+3 from by omega]),rfl⟩
theorem iA (g:Int) (w:World) (h0:0<=g) (h1:g<=1000000):Calls prog 42 #[.int .i64 g] w λe w'=>e=.returned (.int .i64 (a6 g))/\w=w':=by
 go_enter func42,ntmps42
 go_wp2
 go_ret
 exact⟨aw (by unfold a6;rw[show g+4-1=g+3 from by omega]),rfl⟩
theorem me {l:List Slot} {x:Int} (h:x<1\/(l.length:Int)<=x):aQ l x= -1:=by unfold aQ;rw[if_neg (by omega)]
theorem pt {l:List Slot} {k:Nat} {s:Slot} (h:1<=k) (hs:l[k]? =some s):aQ l k=s.kind:=by
 have hl:k<l.length:=(zl hs)
 unfold aQ;rw[if_pos (by omega),Int.toNat_natCast,hs];rfl
theorem rV (v:IV) (m:Img) (x:Int) (w:World) (h:ImgR w w.heap.size v m):
  Calls prog 169 #[.agg #[.int .i64 m.guest,.slice v.rA v.rn v.rc,.slice v.sA v.sn v.sc,.slice v.fA v.fn v.fc,.slice v.pA v.pn v.pc],.int .i64 x] w λe w'=>e=.returned (.int .i64 (aQ m.slots x))/\Below w.heap.size w w':=by
 obtain⟨rA,rn,rc,sA,sn,sc,fA,fn,fc,pA,pn,pc⟩:=v
 dsimp only
 have hl:m.slots.length=sn:=h.slen
 by_cases h1:x<1
 ·have R:=zh (me (l:=m.slots) (.inl h1))
  clear h hl
  go_enter func169,ntmps169
  go_wp2
  go_ret
  exact⟨aw R.o,ac _ _⟩
 ·have h1':1<=x:=by omega
  obtain⟨k,rfl⟩:=Int.eq_ofNat_of_zero_le (a:=x) (by omega)
  by_cases h2:(sn:Int)<=k
  ·have R:=zh (me (l:=m.slots) (x:=k) (.inr (by omega)))
   clear h hl
   go_enter func169,ntmps169
   go_wp2
   go_ret
   exact⟨aw R.o,ac _ _⟩
  ·obtain⟨b,o,s,tA,tn,tc,rfl,hb,hx,c0,c1,c2,hs⟩:=h.slots.at_ (k:=k) (by dsimp only;omega)
   have R:=zh (pt (by omega) hx)
   have h2':(k:Int)<sn:=by omega
   have c0':=(ac w (.cells #[.int .i64 m.guest,.slice rA rn rc,.slice (some ⟨b,o,none⟩) sn sc,.slice fA fn fc,.slice pA pn pc] 34)).cell (p:=⟨b,o+k*3,none⟩) hb|>.trans c0
   clear h hl hx c0 c1 c2 hs
   go_enter func169,ntmps169
   go_wp2
   go_ret
   exact⟨aw R.o,ac _ _⟩
theorem pu (v:IV) (m:Img) (x:Int) (w:World) (h:ImgR w w.heap.size v m):
  Calls prog 188 #[.agg #[.int .i64 m.guest,.slice v.rA v.rn v.rc,.slice v.sA v.sn v.sc,.slice v.fA v.fn v.fc,.slice v.pA v.pn v.pc],.int .i64 x] w λe w'=>e=.returned (.int .i64 (aQ m.slots x))/\Below w.heap.size w w':=by
 obtain⟨rA,rn,rc,sA,sn,sc,fA,fn,fc,pA,pn,pc⟩:=v
 dsimp only
 have hl:m.slots.length=sn:=h.slen
 have hsn:sn<=4611686018427387903:=h.scap.1
 by_cases h1:1<=x/\x<=(sn:Int)-1
 ·obtain⟨h1,h2⟩:=h1
  have g1:(decide (1<=x)&&decide (x<=(sn:Int)-1))=true:=by simp;omega
  obtain⟨k,rfl⟩:=Int.eq_ofNat_of_zero_le (a:=x) (by omega)
  obtain⟨b,o,s,tA,tn,tc,rfl,hb,hx,c0,c1,c2,hs⟩:=h.slots.at_ (k:=k) (by dsimp only;omega)
  have R:=zh (pt (by omega) hx)
  have c0':=(ac w (.cells #[.int .i64 m.guest,.slice rA rn rc,.slice (some ⟨b,o,none⟩) sn sc,.slice fA fn fc,.slice pA pn pc] 34)).cell (p:=⟨b,o+k*3,none⟩) hb|>.trans c0
  have h2':(k:Int)<sn:=by omega
  clear h hl hx c0 c1 c2 hs
  go_enter func188,ntmps188
  go_wp2_with (go_at_call 88;refine(aW _ _ _ _).mono ?_;rintro e w' ⟨rfl,rfl⟩)
  go_ret
  exact⟨aw R.o,ac _ _⟩
 ·have R:=zh (me (l:=m.slots) (x:=x) (by omega))
  have g1:(decide (1<=x)&&decide (x<=(sn:Int)-1))=false:=by rw[Bool.eq_false_iff];simp;omega
  clear h hl h1
  go_enter func188,ntmps188
  go_wp2_with (go_at_call 88;refine(aW _ _ _ _).mono ?_;rintro e w' ⟨rfl,rfl⟩)
  go_ret
  exact⟨aw R.o,ac _ _⟩
theorem nA (l:List Int) (n:Int) (k:Nat) (x:Int) (h:l[k]? =some x):bt (l.take (k+1)) n=bt (l.take k) n+(if x=n then 1 else 0):=by
 unfold bt;rw[List.take_add_one,h,List.countP_append];simp[List.countP_cons]
theorem Cl (l:List Int) (n:Int):bt l n<=l.length:=List.countP_le_length
theorem Ae (l:List Int) (n:Int) (k:Nat) (h:l.length<=k):bt (l.take k) n=bt l n:=by rw[List.take_of_length_le h]
theorem nB (A:Option Addr) (n c B:Nat) (xs:List Int) (y:Int) (w:World) (h:Rd w B 1 A n (ah xs)) (hc:n<=4611686018427387903):Calls prog 190 #[.slice A n c,.int .i64 y] w
  λe w'=>e=.returned (.int .i64 (bt xs y:Nat))/\w=w':=by
 go_enter func190,ntmps190
 go_wp2
 go_loop [5,6] (λt i=>∃k:Nat,k<=n/\i=.int .i64 k/\t=.int .i64 (bt (xs.take k) y:Nat)) (λ_ i=>n-(intOf i).toNat)
 case atStart=>exact⟨0,Nat.zero_le _,rfl,rfl⟩
 case round=>
  obtain⟨k,hk,rfl,rfl⟩:=hrel
  have hu:=Cl (xs.take k) y
  rw[List.length_take]at hu
  have hu':bt (xs.take k) y<=n:=by omega
  clear hu
  by_cases hlt:k<n
  ·obtain⟨b,o,x,rfl,hb,hx,hcell⟩:=h.at1 hlt
   have HU:=zh (nA xs y k x hx)
   clear hx
   cases hp:(x==y)
   ·go_wp2
    go_round
    case rel=>exact⟨k+1,by omega,by go_num,by rw[HU.o,if_neg (by simpa using hp)];go_num⟩
    case measure=>simp[intOf];omega
   ·go_wp2
    go_round
    case rel=>exact⟨k+1,by omega,by go_num,by rw[HU.o,if_pos (by simpa using hp)];rfl⟩
    case measure=>simp[intOf];omega
  ·go_wp2
   go_ret
   exact⟨aw (by rw[Ae _ _ _ (by rw[h.len];omega)]),rfl⟩
end
section
open Go.Proofs.Tryz
open Go.RowKit Sl
structure EntOk (l:List Slot) (root:List Int) (n:Nat):Prop where
 lt:n/4<root.length
 or:int root (n/4)=0\/(1<=int root (n/4)/\int root (n/4)<l.length/\n%4<(bh l (int root (n/4))).length)
theorem bP {l:List Slot} {k:Nat} {s:Slot} (hs:l[k]? =some s):bh l k=s.table:=by unfold bh;rw[Int.toNat_natCast,hs];rfl
theorem bG {l:List Int} {k:Nat} {x:Int} (h:l[k]? =some x):int l k=x:=by unfold int;rw[List.getD_eq_getElem?_getD,h];rfl
theorem nC {l:List Slot} {root:List Int} {n:Nat} (h:int root (n/4)=0):ag l root n=0:=by unfold ag;rw[h];rfl
theorem mH {l:List Slot} {root:List Int} {n t:Nat} {s:Slot} (h:int root (n/4)=t) (ht:1<=t) (hs:l[t]? =some s):ag l root n=int s.table (n%4):=by
 unfold ag;rw[h,if_pos (by omega),bP hs]
theorem xT (v:IV) (m:Img) (A:Option Addr) (n c:Nat) (root:List Int) (x:Nat) (w:World) (h:ImgR w w.heap.size v m) (hr:Rd w w.heap.size 1 A n (ah root)) (he:EntOk m.slots root x) (hn:n<=4611686018427387903):
  Calls prog 136 #[.agg #[.int .i64 m.guest,.slice v.rA v.rn v.rc,.slice v.sA v.sn v.sc,.slice v.fA v.fn v.fc,.slice v.pA v.pn v.pc],.slice A n c,.int .i64 (x:Nat)] w λe w'=>e=.returned (.int .i64 (ag m.slots root x))/\Below w.heap.size w w':=by
 obtain⟨rA,rn,rc,sA,sn,sc,fA,fn,fc,pA,pn,pc⟩:=v
 dsimp only
 have hsl:m.slots.length=sn:=h.slen
 have hlt:=he.lt
 rw[hr.len]at hlt
 obtain⟨b,o,t,rfl,hb,hx,hcell⟩:=hr.at1 hlt
 have hint:=bG hx
 have hcell':=((ac w (.cells #[.int .i64 m.guest,.slice rA rn rc,.slice sA sn sc,.slice fA fn fc,.slice pA pn pc] 34)).cell (p:=⟨b,o+x/4,none⟩) hb).trans hcell
 have hor:=he.or
 rw[hint]at hor
 have hltI:(x:Int)/4<n:=by omega
 rcases hor with rfl|⟨t1,t2,t3⟩
 ·have R:=zh (nC (l:=m.slots) hint)
  clear h hr he hx hint hcell hsl
  go_enter func136,ntmps136
  go_wp2
  go_ret
  exact⟨aw R.o,ac _ _⟩
 ·obtain⟨k,rfl⟩:=Int.eq_ofNat_of_zero_le (a:=t) (by omega)
  obtain⟨b2,o2,s,tA,tn,tc,rfl,hb2,hx2,c0,c1,c2,hs⟩:=h.slots.at_ (k:=k) (by dsimp only;omega)
  rw[bP hx2]at t3
  have R:=zh (mH hint (by omega) hx2)
  rw[hs.table.len]at t3
  obtain⟨b3,o3,y,rfl,hb3,hx3,hcell3⟩:=hs.table.at1 t3
  have hy:=bG hx3
  rw[hy]at R
  have c2':=((ac w (.cells #[.int .i64 m.guest,.slice rA rn rc,.slice (some ⟨b2,o2,none⟩) sn sc,.slice fA fn fc,.slice pA pn pc] 34)).cell (p:=⟨b2,o2+k*3+2,none⟩) hb2).trans c2
  have c3':=((ac w (.cells #[.int .i64 m.guest,.slice rA rn rc,.slice (some ⟨b2,o2,none⟩) sn sc,.slice fA fn fc,.slice pA pn pc] 34)).cell (p:=⟨b3,o3+x%4,none⟩) hb3).trans hcell3
  have k1:(0:Int)<k:=by omega
  have k2:(k:Int)<sn:=by omega
  have k3:(x:Int)%4<tn:=by omega
  clear h hr he hx hint hcell hsl hs hx2 hx3 hy c0 c1 c2 hcell3
  go_enter func136,ntmps136
  go_wp2
  go_ret
  exact⟨aw R.o,ac _ _⟩
theorem Af (v:IV) (m:Img) (A:Option Addr) (n c:Nat) (root:List Int) (x:Nat) (w:World) (h:ImgR w w.heap.size v m) (hr:Rd w w.heap.size 1 A n (ah root)) (he:EntOk m.slots root x) (hn:n<=4611686018427387903):
  Calls prog 142 #[.agg #[.int .i64 m.guest,.slice v.rA v.rn v.rc,.slice v.sA v.sn v.sc,.slice v.fA v.fn v.fc,.slice v.pA v.pn v.pc],.slice A n c,.int .i64 (x:Nat)] w λe w'=>e=.returned (.int .i64 (ag m.slots root x))/\Below w.heap.size w w':=by
 obtain⟨rA,rn,rc,sA,sn,sc,fA,fn,fc,pA,pn,pc⟩:=v
 dsimp only
 have hsl:m.slots.length=sn:=h.slen
 have hlt:=he.lt
 rw[hr.len]at hlt
 obtain⟨b,o,t,rfl,hb,hx,hcell⟩:=hr.at1 hlt
 have hint:=bG hx
 have hcell':=((ac w (.cells #[.int .i64 m.guest,.slice rA rn rc,.slice sA sn sc,.slice fA fn fc,.slice pA pn pc] 34)).cell (p:=⟨b,o+x/4,none⟩) hb).trans hcell
 have hor:=he.or
 rw[hint]at hor
 have hltI:(x:Int)/4<n:=by omega
 rcases hor with rfl|⟨t1,t2,t3⟩
 ·have R:=zh (nC (l:=m.slots) hint)
  clear h hr he hx hint hcell hsl
  go_enter func142,ntmps142
  go_wp2
  go_ret
  exact⟨aw R.o,ac _ _⟩
 ·obtain⟨k,rfl⟩:=Int.eq_ofNat_of_zero_le (a:=t) (by omega)
  obtain⟨b2,o2,s,tA,tn,tc,rfl,hb2,hx2,c0,c1,c2,hs⟩:=h.slots.at_ (k:=k) (by dsimp only;omega)
  rw[bP hx2]at t3
  have R:=zh (mH hint (by omega) hx2)
  rw[hs.table.len]at t3
  obtain⟨b3,o3,y,rfl,hb3,hx3,hcell3⟩:=hs.table.at1 t3
  have hy:=bG hx3
  rw[hy]at R
  have c2':=((ac w (.cells #[.int .i64 m.guest,.slice rA rn rc,.slice (some ⟨b2,o2,none⟩) sn sc,.slice fA fn fc,.slice pA pn pc] 34)).cell (p:=⟨b2,o2+k*3+2,none⟩) hb2).trans c2
  have c3':=((ac w (.cells #[.int .i64 m.guest,.slice rA rn rc,.slice (some ⟨b2,o2,none⟩) sn sc,.slice fA fn fc,.slice pA pn pc] 34)).cell (p:=⟨b3,o3+x%4,none⟩) hb3).trans hcell3
  have k0:((k:Int)==0)=false:=by rw[beq_eq_false_iff_ne];omega
  have k1:(0:Int)<k:=by omega
  have k2:(k:Int)<sn:=by omega
  have k3:(x:Int)%4<tn:=by omega
  clear h hr he hx hint hcell hsl hs hx2 hx3 hy c0 c1 c2 hcell3
  go_enter func142,ntmps142
  go_wp2
  go_ret
  exact⟨aw R.o,ac _ _⟩
end
section
open Go.Proofs.Tryz
open Go.RowKit Sl
theorem uH (x:Int) (w:World):Calls prog 203 #[.int .i64 x] w λe w'=>e=.returned (.bool (x !=0))/\w=w':=by
 go_enter func203,ntmps203
 go_wp2
 go_ret
 exact⟨rfl,rfl⟩
theorem iB {l:List Slot} (h:ar l=0):l.all aD=true:=by
 unfold ar at h
 split at h
 ·omega
 ·split at h
  ·assumption
  ·omega
theorem gz {l:List Slot} {k:Nat} {s:Slot} (h:ar l=0) (hs:l[k]? =some s) (hk:s.kind=2):s.table.length=4:=by
 have:=List.all_eq_true.1 (iB h) s (List.mem_of_getElem? hs)
 unfold aD at this
 rw[if_neg (by omega),if_neg (by omega),if_pos hk]at this
 simp only[Bool.and_eq_true,beq_iff_eq]at this
 have h2:=this.1.2
 unfold ak at h2
 split at h2
 ·assumption
 ·omega
theorem Db (p:Nat->Bool):upto p 4=(p 0&&p 1&&p 2&&p 3):=by
 simp[upto,List.range,List.range.loop,Bool.and_assoc]
theorem DZ {t:List Int} (h:t.length=4):∃a b c d,t=[a,b,c,d]:=by
 match t,h with
 |[a,b,c,d],_=>exact⟨a,b,c,d,rfl⟩
def behind (g:Int) (k:Nat) (t:List Int):Bool:=upto (λi=>decide (4*(k:Int)+i<g)||int t i==0) 4
theorem uI {g:Int} {k:Nat} {t:List Int} (h:4*(k:Int)+4<=g):behind g k t=true:=by
 unfold behind;rw[Db]
 simp only[Bool.and_eq_true,Bool.or_eq_true,decide_eq_true_eq]
 omega
theorem rW {g:Int} {k p:Nat} {t:List Int} (ht:t.length=4) (h:g-(k:Int)*4=p) (hp:p<4):behind g k t= !((t.drop p).any (λx=>x !=0)):=by
 obtain⟨a,b,c,d,rfl⟩:=DZ ht
 unfold behind;rw[Db]
 simp only[int,List.getD_cons_zero,List.getD_cons_succ]
 have e:p=0\/p=1\/p=2\/p=3:=by omega
 have f:∀i:Nat,decide (4*(k:Int)+i<g)=decide (i<p):= λi=>by rw[decide_eq_decide];omega
 rw[f,f,f,f]
 rcases e with rfl|rfl|rfl|rfl<;>simp[Bool.and_assoc,bne,Bool.not_not]<;>decide+revert
theorem pv {l:List Slot} {g:Int} {root:List Int} {k:Nat} {t:Int} (h:root[k]? =some t) (h0:(t==0)=true):rootAt l g root k=true:=by
 unfold rootAt;rw[bG h,h0];rfl
theorem mI {l:List Slot} {g:Int} {root:List Int} {k:Nat} {t:Int} (h:root[k]? =some t) (h0:(t==0)=false) (h2:(aQ l t !=2)=true):rootAt l g root k=false:=by
 unfold rootAt;rw[bG h,h0,Bool.false_or]
 have:(aQ l t==2)=false:=by simpa using h2
 rw[this];rfl
theorem nD {l:List Slot} {g:Int} {root:List Int} {k:Nat} {t:Int} (h:root[k]? =some t) (h0:(t==0)=false) (h2:(aQ l t !=2)=false):rootAt l g root k=behind g k (bh l t):=by
 unfold rootAt;rw[bG h,h0,Bool.false_or]
 have:(aQ l t==2)=true:=by simpa using h2
 rw[this];rfl
theorem jQ {l:List Slot} {x:Int} (h:(aQ l x !=2)=false):∃k s,x=(k:Nat)/\1<=k/\l[k]? =some s/\s.kind=2:=by
 have h:aQ l x=2:=by simpa using h
 unfold aQ at h
 split at h
 ·rename_i h1
  obtain⟨k,rfl⟩:=Int.eq_ofNat_of_zero_le (a:=x) (by omega)
  have hk:k<l.length:=by omega
  refine⟨k,l[k],rfl,by omega,List.getElem?_eq_getElem hk,?_⟩
  rw[Int.toNat_natCast,List.getElem?_eq_getElem hk]at h
  exact h
 ·omega
theorem lq {l:List Slot} {g:Int} {root:List Int} (h:(root.length:Int)≠a6 g):rootFine l g root=false:=by unfold rootFine;rw[decide_eq_false h];rfl
theorem mJ {l:List Slot} {g:Int} {root:List Int} (h:(root.length:Int)=a6 g):rootFine l g root=upto (rootAt l g root) root.length:=by unfold rootFine;rw[decide_eq_true h];rfl
theorem Ag (v:IV) (m:Img) (g:Int) (A:Option Addr) (n c:Nat) (root:List Int) (w:World) (h:ImgR w w.heap.size v m) (hr:Rd w w.heap.size 1 A n (ah root)) (_hn:n<=4611686018427387903) (hs:ar m.slots=0) (g0:0<=g) (g16:g<=16):
  Calls prog 170 #[.agg #[.int .i64 m.guest,.slice v.rA v.rn v.rc,.slice v.sA v.sn v.sc,.slice v.fA v.fn v.fc,.slice v.pA v.pn v.pc],.int .i64 g,.slice A n c] w λe w'=>e=.returned (.bool (rootFine m.slots g root))/\Below w.heap.size w w':=by
 have hrl:=hr.len
 by_cases hw:(n:Int)=a6 g
 ·have R:=zh (mJ (l:=m.slots) (g:=g) (root:=root) (by rw[hrl];exact hw))
  have gw:((n:Int) !=a6 g)=false:=by simp[hw]
  have hwd:(n:Int)*4<=g+3:=by rw[hw];unfold a6;omega
  clear hw
  have KK:=zh (λ(y:Int) W (hb:Below w.heap.size w W)=>rV v m y W (h.next hb))
  have HI:=zh h
  have HRR:=zh hr
  have HL:=zh hrl
  have HSE:=zh hs
  have hsn:v.sn<=v.sc:=h.sle
  have hsc:v.sc<=9223372036854775807:=h.scap.2
  have HSL:=zh h.slen
  generalize hwg:a6 g=wg at gw
  have HW:=zh hwg
  clear hwg h hrl hs hr
  obtain⟨rA,rn,rc,sA,sn,sc,fA,fn,fc,pA,pn,pc⟩:=v
  dsimp only at*
  go_enter func170,ntmps170
  go_wp2_with (go_at_call 21;refine(ik g _ g0 (by omega)).mono ?_;rw[HW.o];rintro e w' ⟨rfl,rfl⟩)
  have HB1:=ac w (.cells #[.int .i64 m.guest,.slice rA rn rc,.slice sA sn sc,.slice fA fn fc,.slice pA pn pc] 34)
  have hcb:= λj=>cell_of_row (w.alloc (.cells #[.int .i64 m.guest,.slice rA rn rc,.slice sA sn sc,.slice fA fn fc,.slice pA pn pc] 34)) w.heap.size j _ _ _ (heap_alloc_new w _)
  have HCB:=zh hcb
  have hz1:(w.alloc (.cells #[.int .i64 m.guest,.slice rA rn rc,.slice sA sn sc,.slice fA fn fc,.slice pA pn pc] 34)).heap.size=w.heap.size+1:=by simp
  generalize hWB:(w.alloc (.cells #[.int .i64 m.guest,.slice rA rn rc,.slice sA sn sc,.slice fA fn fc,.slice pA pn pc] 34))=wb at*
  clear hWB hcb
  go_loopw [17,7,8,9] (λi _ _ _ wr=>∃k:Nat,k<=n/\i=.int .i64 k/\upto (rootAt m.slots g root) k=true/\Below wb.heap.size wb wr) (λi _ _ _ _=>n-(intOf i).toNat)
  case atStart=>exact⟨0,Nat.zero_le _,rfl,rfl,Below.refl _ _⟩
  case round=>
   obtain⟨k,hk,rfl,ha,hbw⟩:=hrel
   have HA:=zh ha
   clear ha
   by_cases hlt:k<n
   ·obtain⟨b,o,x,rfl,hb,hx,hcell⟩:=HRR.o.at1 hlt
    have hcell':=(hbw.cell (p:=⟨b,o+k,none⟩) (by simp;omega)).trans ((HB1.cell (p:=⟨b,o+k,none⟩) hb).trans hcell)
    have HX:=zh hx
    clear hx hcell
    have b0:=(hbw.cell (p:=⟨w.heap.size,0,none⟩) (by simp;omega)).trans (HCB.o 0)
    have b1:=(hbw.cell (p:=⟨w.heap.size,1,none⟩) (by simp;omega)).trans (HCB.o 1)
    have b2:=(hbw.cell (p:=⟨w.heap.size,2,none⟩) (by simp;omega)).trans (HCB.o 2)
    have b3:=(hbw.cell (p:=⟨w.heap.size,3,none⟩) (by simp;omega)).trans (HCB.o 3)
    have b4:=(hbw.cell (p:=⟨w.heap.size,4,none⟩) (by simp;omega)).trans (HCB.o 4)
    simp only[List.getElem?_toArray,List.getElem?_cons_zero,List.getElem?_cons_succ]at b0 b1 b2 b3 b4
    have HBW:=HB1.trans (hbw.mono (by omega))
    have hzr:=hbw.size
    cases hp:(x==0)
    ·cases hk2:(aQ m.slots x !=2)
     ·obtain⟨t,s,rfl,ht1,hts,htk⟩:=jQ hk2
      have ht4:=gz HSE.o hts htk
      have hyes:=nD (g:=g) HX.o hp hk2
      rw[bP hts]at hyes
      have htl:t<sn:=by have:=(zl hts);have:=HSL.o;omega
      obtain⟨b5,o5,s5,tA,tn,tc,rfl,hb5,hx5,d0,d1,d2,hsv⟩:=HI.o.slots.at_ (k:=t) htl
      rw[hts]at hx5
      injection hx5 with hx5
      subst hx5
      have htn:tn=4:=by have:=hsv.table.len;omega
      subst htn
      have htl':(t:Int)<sn:=by omega
      by_cases hpast:g-(k:Int)*4<4
      ·obtain⟨p,hpp⟩:=Int.eq_ofNat_of_zero_le (a:=g-(k:Int)*4) (by omega)
       have hp4:p<4:=by omega
       have hbe:=rW ht4 hpp hp4
       have hsl:= λW=>rQ (P:=prog) 30 3 1 underlying30 (λW=>by kernel_rfl) tA 4 tc p (by omega) W
       rw[<-hpp]at hsl
       have hT:=hsv.table.cut (k:=p) (by omega) hsv.len
       rw[Nat.mul_one]at hT
       have hdr:(ah s.table).drop p=ah (s.table.drop p):=by simp[ah]
       rw[hdr]at hT
       generalize rP tA tc p 1=tA' at hsl hT
       have hC:= λ(W:World) (hw:Below w.heap.size w W)=>iz 203 (λy=>y !=0) tA' (4-p) (tc-p) w.heap.size (s.table.drop p) W (hT.below hw (Nat.le_refl _)) (by unfold maxLen;omega) (λ_ _=>by kernel_rfl) (λy=>uH y W)
       rw[hbe]at hyes
       generalize (s.table.drop p).any (λy=>y !=0)=an at hC hyes
       have HC:=zh hC
       have HY:=zh hyes
       have KK2:=zh (KK.o (t:Nat))
       clear hC hyes hbe hpp hT hdr hsv hts htk ht4 d0 d1
       cases an
       ·go_wp2_with fail
        refine(KK2.o _ HBW).mono ?_
        rintro e w2 ⟨rfl,hb2⟩
        have HBW2:=aa HBW hb2
        have d2':=(HBW2.cell (p:=⟨b5,o5+t*3+2,none⟩) hb5).trans d2
        have b2':=(hb2.cell (p:=⟨w.heap.size,2,none⟩) (by simp;omega)).trans b2
        go_wp2_with fail
        refine(HC.o _ HBW2).mono ?_
        rintro e w3 ⟨rfl,rfl⟩
        go_wp2_with fail
        go_roundw
        case rel=>exact⟨k+1,by omega,by go_num,by rw[co,HA.o,HY.o];rfl,hbw.trans (hb2.mono (by omega))⟩
        case measure=>simp[intOf];omega
       ·go_wp2_with fail
        refine(KK2.o _ HBW).mono ?_
        rintro e w2 ⟨rfl,hb2⟩
        have HBW2:=aa HBW hb2
        have d2':=(HBW2.cell (p:=⟨b5,o5+t*3+2,none⟩) hb5).trans d2
        have b2':=(hb2.cell (p:=⟨w.heap.size,2,none⟩) (by simp;omega)).trans b2
        go_wp2_with fail
        refine(HC.o _ HBW2).mono ?_
        rintro e w3 ⟨rfl,rfl⟩
        go_wp2_with fail
        go_ret
        exact⟨aH (by rw[R.o,HL.o];exact bO hlt HY.o),HBW2⟩
      ·have HY:=zh (hyes.trans (uI (g:=g) (k:=k) (t:=s.table) (by omega)))
       have hpast':4<=g-(k:Int)*4:=by omega
       have KK2:=zh (KK.o (t:Nat))
       clear hyes hsv hts htk ht4 d0 d1 d2 hpast
       go_wp2_with fail
       refine(KK2.o _ HBW).mono ?_
       rintro e w2 ⟨rfl,hb2⟩
       go_wp2_with fail
       go_roundw
       case rel=>exact⟨k+1,by omega,by go_num,by rw[co,HA.o,HY.o];rfl,hbw.trans (hb2.mono (by omega))⟩
       case measure=>simp[intOf];omega
     ·have HY:=zh (mI (g:=g) HX.o hp hk2)
      have KK2:=zh (KK.o x)
      go_wp2_with fail
      refine(KK2.o _ HBW).mono ?_
      rintro e w2 ⟨rfl,hb2⟩
      go_wp2_with fail
      go_ret
      exact⟨aH (by rw[R.o,HL.o];exact bO hlt HY.o),aa HBW hb2⟩
    ·go_wp2_with fail
     go_roundw
     case rel=>exact⟨k+1,by omega,by go_num,by rw[co,HA.o,pv HX.o hp];rfl,hbw⟩
     case measure=>simp[intOf];omega
   ·go_wp2_with fail
    go_ret
    exact⟨aH (by rw[R.o,HL.o,show n=k from by omega,HA.o]),HB1.trans (hbw.mono (by omega))⟩
 ·have R:=zh (lq (l:=m.slots) (g:=g) (root:=root) (by rw[hrl];exact hw))
  have gw:((n:Int) !=a6 g)=true:=by simp[hw]
  generalize hwg:a6 g=wg at gw
  have HW:=zh hwg
  clear hw hwg h hr hrl hs
  go_enter func170,ntmps170
  go_wp2_with (go_at_call 21;refine(ik g _ g0 (by omega)).mono ?_;rw[HW.o];rintro e w' ⟨rfl,rfl⟩)
  go_ret
  exact⟨aH R.o,ac _ _⟩
end
section
open Go.Proofs.Tryz
open Go.RowKit Sl
theorem xU (v:IV) (m:Img) (g:Int) (A:Option Addr) (n c:Nat) (root:List Int) (w:World) (h:ImgR w w.heap.size v m) (hr:Rd w w.heap.size 1 A n (ah root)) (_hn:n<=4611686018427387903) (hs:ar m.slots=0) (g0:0<=g) (g16:g<=16):
  Calls prog 189 #[.agg #[.int .i64 m.guest,.slice v.rA v.rn v.rc,.slice v.sA v.sn v.sc,.slice v.fA v.fn v.fc,.slice v.pA v.pn v.pc],.int .i64 g,.slice A n c] w λe w'=>e=.returned (.bool (rootFine m.slots g root))/\Below w.heap.size w w':=by
 have hrl:=hr.len
 by_cases hw:(n:Int)=a6 g
 ·have R:=zh (mJ (l:=m.slots) (g:=g) (root:=root) (by rw[hrl];exact hw))
  have gw:((n:Int) !=a6 g)=false:=by simp[hw]
  have hwd:(n:Int)*4<=g+3:=by rw[hw];unfold a6;omega
  clear hw
  have KK:=zh (λ(y:Int) W (hb:Below w.heap.size w W)=>pu v m y W (h.next hb))
  have HI:=zh h
  have HRR:=zh hr
  have HL:=zh hrl
  have HSE:=zh hs
  have hsn:v.sn<=v.sc:=h.sle
  have hsc:v.sc<=9223372036854775807:=h.scap.2
  have HSL:=zh h.slen
  generalize hwg:a6 g=wg at gw
  have HW:=zh hwg
  clear hwg h hrl hs hr
  obtain⟨rA,rn,rc,sA,sn,sc,fA,fn,fc,pA,pn,pc⟩:=v
  dsimp only at*
  go_enter func189,ntmps189
  go_wp2_with (go_at_call 42;refine(iA g _ g0 (by omega)).mono ?_;rw[HW.o];rintro e w' ⟨rfl,rfl⟩)
  have HB1:=ac w (.cells #[.int .i64 m.guest,.slice rA rn rc,.slice sA sn sc,.slice fA fn fc,.slice pA pn pc] 34)
  have hcb:= λj=>cell_of_row (w.alloc (.cells #[.int .i64 m.guest,.slice rA rn rc,.slice sA sn sc,.slice fA fn fc,.slice pA pn pc] 34)) w.heap.size j _ _ _ (heap_alloc_new w _)
  have HCB:=zh hcb
  have hz1:(w.alloc (.cells #[.int .i64 m.guest,.slice rA rn rc,.slice sA sn sc,.slice fA fn fc,.slice pA pn pc] 34)).heap.size=w.heap.size+1:=by simp
  generalize hWB:(w.alloc (.cells #[.int .i64 m.guest,.slice rA rn rc,.slice sA sn sc,.slice fA fn fc,.slice pA pn pc] 34))=wb at*
  clear hWB hcb
  go_loopw [7,8,9] (λi _ _ wr=>∃k:Nat,k<=n/\i=.int .i64 k/\upto (rootAt m.slots g root) k=true/\Below wb.heap.size wb wr) (λi _ _ _=>n-(intOf i).toNat)
  case atStart=>exact⟨0,Nat.zero_le _,rfl,rfl,Below.refl _ _⟩
  case round=>
   obtain⟨k,hk,rfl,ha,hbw⟩:=hrel
   have HA:=zh ha
   clear ha
   by_cases hlt:k<n
   ·obtain⟨b,o,x,rfl,hb,hx,hcell⟩:=HRR.o.at1 hlt
    have hcell':=(hbw.cell (p:=⟨b,o+k,none⟩) (by simp;omega)).trans ((HB1.cell (p:=⟨b,o+k,none⟩) hb).trans hcell)
    have HX:=zh hx
    clear hx hcell
    have b0:=(hbw.cell (p:=⟨w.heap.size,0,none⟩) (by simp;omega)).trans (HCB.o 0)
    have b1:=(hbw.cell (p:=⟨w.heap.size,1,none⟩) (by simp;omega)).trans (HCB.o 1)
    have b2:=(hbw.cell (p:=⟨w.heap.size,2,none⟩) (by simp;omega)).trans (HCB.o 2)
    have b3:=(hbw.cell (p:=⟨w.heap.size,3,none⟩) (by simp;omega)).trans (HCB.o 3)
    have b4:=(hbw.cell (p:=⟨w.heap.size,4,none⟩) (by simp;omega)).trans (HCB.o 4)
    simp only[List.getElem?_toArray,List.getElem?_cons_zero,List.getElem?_cons_succ]at b0 b1 b2 b3 b4
    have HBW:=HB1.trans (hbw.mono (by omega))
    have hzr:=hbw.size
    have k0:(0:Int)<=(k:Int):=by omega
    have kn:(k:Int)<(n:Int):=by omega
    cases hp:(x==0)
    ·cases hk2:(aQ m.slots x !=2)
     ·obtain⟨t,s,rfl,ht1,hts,htk⟩:=jQ hk2
      have ht4:=gz HSE.o hts htk
      have hyes:=nD (g:=g) HX.o hp hk2
      rw[bP hts]at hyes
      have htl:t<sn:=by have:=(zl hts);have:=HSL.o;omega
      obtain⟨b5,o5,s5,tA,tn,tc,rfl,hb5,hx5,d0,d1,d2,hsv⟩:=HI.o.slots.at_ (k:=t) htl
      rw[hts]at hx5
      injection hx5 with hx5
      subst hx5
      have htn:tn=4:=by have:=hsv.table.len;omega
      subst htn
      have htl':(t:Int)<sn:=by omega
      have ht0:(0:Int)<=t:=by omega
      have HY:=zh hyes
      have HSV:=zh hsv
      have KK2:=zh (KK.o (t:Nat))
      have tcle:4<=tc:=hsv.len
      have tccap:tc<=9223372036854775807:=hsv.cap.2
      clear hyes hsv hts htk ht4 d0 d1
      go_wp2_with fail
      go_still_tail 5,(by kernel_rfl)
      have HBD:Below w.heap.size w wr.drew:=zb HBW 1
      have hzd:wr.drew.heap.size=wr.heap.size:=rfl
      generalize hwd:wr.drew=wd at HBD hzd
      have HWD:=zh hwd
      go_wp2_with fail
      refine(KK2.o _ ?_).mono ?_
      ·first|exact HBD|exact zb HBW 1
      rintro e w2 ⟨rfl,hb2⟩
      have HB2:=aa HBD hb2
      have hz2:=HB2.size
      have b2':=(hb2.cell (p:=⟨w.heap.size,2,none⟩) (by simp;omega)).trans ((show wd.cell? _=wr.cell? _ from by rw[<-HWD.o];rfl).trans b2)
      have hcell2:=(hb2.cell (p:=⟨b,o+k,none⟩) (by simp;omega)).trans ((show wd.cell? _=wr.cell? _ from by rw[<-HWD.o];rfl).trans hcell')
      have d2':=(HB2.cell (p:=⟨b5,o5+t*3+2,none⟩) hb5).trans d2
      have HBr:=zh ((show Below wb.heap.size wb wd from by rw[<-HWD.o];exact zb hbw 1).trans (hb2.mono (by omega)))
      clear b0 b1 b2 b3 b4 hcell' d2 HWD hbw
      go_wp2_with fail
      go_quiet (fail)
      rename_i nq
      have HB3:Below w.heap.size w (w2.drewN nq):=zb HB2 _
      have HBr3:Below wb.heap.size wb (w2.drewN nq):=zb HBr.o _
      generalize w2.drewN nq=w3 at HB3 HBr3
      have HSV3:=zh (HSV.o.below HB3 (Nat.le_refl _))
      clear b2' hcell2 d2' HBr HB2 hb2 hz2
      go_wp2_with fail
      go_loop [9] (λi=>∃j:Nat,j<=4/\i=.int .i64 j/\upto (λi=>decide (4*(k:Int)+i<g)||int s.table i==0) j=true) (λi=>4-(intOf i).toNat)
      case atStart=>exact⟨0,Nat.zero_le _,rfl,rfl⟩
      case round=>
       obtain⟨j,hj,rfl,hu⟩:=hrel
       have HU:=zh hu
       clear hu
       by_cases hlt4:j<4
       ·obtain⟨b6,o6,y,rfl,hb6,hx6,hcell6⟩:=HSV3.o.table.at1 hlt4
        have HX6:=zh (bG hx6)
        clear hx6
        by_cases hpg:g<=(k:Int)*4+j
        ·cases hy0:(y !=0)
         ·go_wp2_with fail
          go_round
          case rel=>exact⟨j+1,by omega,by go_num,by rw[co,HU.o,HX6.o];simp at hy0;simp[hy0]⟩
          case measure=>simp[intOf];omega
         ·go_wp2_with fail
          go_ret
          refine⟨aH ?_,HB3⟩
          rw[R.o,HL.o]
          refine bO hlt (HY.o.trans ?_)
          unfold behind
          refine bO hlt4 ?_
          rw[HX6.o,decide_eq_false (by omega)]
          simp at hy0;simp[hy0]
        ·have hpg':(k:Int)*4+j<g:=by omega
         go_wp2_with fail
         go_round
         case rel=>exact⟨j+1,by omega,by go_num,by rw[co,HU.o,decide_eq_true (by omega)];rfl⟩
         case measure=>simp[intOf];omega
       ·have hj4:j=4:=by omega
        have HBE:Hid (behind g k s.table=true):=by
         have:=HU.o
         rw[hj4]at this
         exact zh this
        clear hj4
        go_wp2_with fail
        go_roundw
        case rel=>exact⟨k+1,by omega,by go_num,by rw[co,HA.o,HY.o,HBE.o];rfl,HBr3⟩
        case measure=>simp[intOf];omega
     ·have HY:=zh (mI (g:=g) HX.o hp hk2)
      have KK2:=zh (KK.o x)
      go_wp2_with fail
      go_still_tail 5,(by kernel_rfl)
      have HBD:Below w.heap.size w wr.drew:=zb HBW 1
      have hzd:wr.drew.heap.size=wr.heap.size:=rfl
      generalize hwd:wr.drew=wd at HBD hzd
      have HWD:=zh hwd
      go_wp2_with fail
      refine(KK2.o _ ?_).mono ?_
      ·first|exact HBD|exact zb HBW 1
      rintro e w2 ⟨rfl,hb2⟩
      go_wp2_with fail
      go_ret
      exact⟨aH (by rw[R.o,HL.o];exact bO hlt HY.o),aa HBD hb2⟩
    ·go_wp2_with fail
     go_roundw
     case rel=>exact⟨k+1,by omega,by go_num,by rw[co,HA.o,pv HX.o hp];rfl,hbw⟩
     case measure=>simp[intOf];omega
   ·go_wp2_with fail
    go_ret
    exact⟨aH (by rw[R.o,HL.o,show n=k from by omega,HA.o]),HB1.trans (hbw.mono (by omega))⟩
 ·have R:=zh (lq (l:=m.slots) (g:=g) (root:=root) (by rw[hrl];exact hw))
  have gw:((n:Int) !=a6 g)=true:=by simp[hw]
  generalize hwg:a6 g=wg at gw
  have HW:=zh hwg
  clear hw hwg h hr hrl hs
  go_enter func189,ntmps189
  go_wp2_with (go_at_call 42;refine(iA g _ g0 (by omega)).mono ?_;rw[HW.o];rintro e w' ⟨rfl,rfl⟩)
  go_ret
  exact⟨aH R.o,ac _ _⟩
end
section
open Sl
theorem gA {l:List Slot} (h:ar l=0):pf l=0:=by
 unfold ar at h
 split at h
 ·omega
 ·split at h
  ·split at h
   ·assumption
   ·omega
  ·omega
theorem qO {α:Type} (p:α->Bool) (l:List α) (h:¬bn p l<l.length):l.all (λy=> !p y)=true:=by
 have:l.any p=false:=by
  cases ha:l.any p
  ·rfl
  ·exact absurd ((gp p l).2 ha) h
 rw[List.all_eq_true];intro x hx
 have:=List.any_eq_false.1 this x hx
 simpa using this
theorem jj {α:Type} (p:α->Bool) (l:List α) (j:Nat) (x:α) (hj:j<bn p l) (hx:l[j]? =some x):p x=false:=by
 induction l generalizing j with
 |nil=>simp at hx
 |cons a l ih=>
  simp only[bn]at hj
  split at hj
  ·omega
  ·rename_i ha
   cases j with
   |zero=>simp at hx;subst hx;simpa using ha
   |succ j=>exact ih j (by omega) (by simpa using hx)
theorem nE {α:Type} (p:α->Bool) (l:List α) (x:α) (hx:l[bn p l]? =some x):p x=true:=by
 induction l with
 |nil=>simp at hx
 |cons a l ih=>
  simp only[bn]at hx
  split at hx
  ·rename_i ha;simp at hx;subst hx;exact ha
  ·exact ih (by simpa using hx)
theorem ec {l:List Slot} (h:ar l=0) (hg:aS l≠0):1<=aS l/\aS l<=l.length/\(∀s,l[aS l]? =some s->s.kind=0)/\(∀j s,1<=j->j<aS l->l[j]? =some s->s.kind≠0):=by
 obtain⟨h1,h2⟩:=aJ h
 unfold aS at hg⊢
 split
 ·rename_i hn
  rw[List.length_drop]at hn
  refine⟨by omega,by omega,λs hs=>?_,λj s hj1 hj2 hs=>?_⟩
  ·have:=nE (λs:Slot=>s.kind==0) (l.drop 1) s (by rw[List.getElem?_drop,Nat.add_comm];exact hs)
   simpa using this
  ·have:=jj (λs:Slot=>s.kind==0) (l.drop 1) (j-1) s (by unfold dH at hj2;omega) (by rw[List.getElem?_drop,show 1+(j-1)=j from by omega];exact hs)
   simpa using this
 ·rename_i hn
  rw[if_neg hn]at hg
  split
  ·refine⟨by omega,by omega,λs hs=>?_,λj s hj1 hj2 hs=>?_⟩
   ·rw[List.getElem?_eq_none (by omega)]at hs;cases hs
   ·have ha:=qO _ _ hn
    have:=List.all_eq_true.1 ha s (List.mem_of_getElem? (i:=j-1) (by rw[List.getElem?_drop,show 1+(j-1)=j from by omega];exact hs))
    simpa using this
  ·rename_i h40;rw[if_neg h40]at hg;exact absurd rfl hg
section
variable {l:List Slot} {s x:Slot} {g j:Nat}
theorem df:(laid l g s).length=if g=l.length then l.length+1 else l.length:=by unfold laid;split<;>simp
theorem du (hg:g<=l.length):(laid l g s)[g]? =some s:=by
 unfold laid
 split
 ·rename_i e;rw[e,List.getElem?_append_right (Nat.le_refl _),Nat.sub_self];rfl
 ·rw[List.getElem?_set_self (by omega)]
theorem eL (hj:j<l.length) (hn:j≠g):(laid l g s)[j]? =l[j]? :=by
 unfold laid
 split
 ·rw[List.getElem?_append_left hj]
 ·rw[List.getElem?_set_ne (by omega)]
theorem xV (hj:l.length<=j) (hn:j≠g):(laid l g s)[j]? =none:=by
 rw[List.getElem?_eq_none]
 rw[df];split<;>omega
theorem rX {y:Slot} (h:y∈laid l g s):y∈l\/y=s:=by
 unfold laid at h
 split at h
 ·rcases List.mem_append.1 h with h|h
  ·exact .inl h
  ·exact .inr (by simpa using h)
 ·exact List.mem_or_eq_of_mem_set h
theorem gm (h:ar l=0) (hg:aS l≠0) (hs:aD s=true):ar (laid l (aS l) s)=0:=by
 obtain⟨g1,g2,_,_⟩:=ec h hg
 obtain⟨h1,h2⟩:=aJ h
 have h40:aS l=l.length->l.length<40:=by
  intro e
  unfold aS at e hg
  split at e
  ·rename_i hn;rw[List.length_drop]at hn;unfold dH at*;omega
  ·rename_i hn
   rw[if_neg hn]at hg
   split at e
   ·assumption
   ·rename_i h4;rw[if_neg h4]at hg;exact absurd rfl hg
 refine gP ?_ ?_ ?_ ?_
 ·rw[df];split<;>omega
 ·rw[df];split
  ·rename_i e;have:=h40 e;omega
  ·omega
 ·rw[List.all_eq_true]
  intro y hy
  rcases rX hy with hy|rfl
  ·exact List.all_eq_true.1 (iB h) y hy
  ·exact hs
 ·have h0:=gA h
  have hl:=List.getElem?_eq_getElem (l:=l) (i:=0) (by omega)
  rw[ij hl]at h0
  have:(laid l (aS l) s)[0]? =some l[0]:=by rw[eL (by omega) (by omega)];exact hl
  rw[ij this];exact h0
theorem jR {k:Nat} (h:ar l=0) (hk:1<=k) (hs:aD s=true):ar (l.set k s)=0:=by
 obtain⟨h1,h2⟩:=aJ h
 refine gP (by simp;omega) (by simp;omega) ?_ ?_
 ·rw[List.all_eq_true]
  intro y hy
  rcases List.mem_or_eq_of_mem_set hy with hy|rfl
  ·exact List.all_eq_true.1 (iB h) y hy
  ·exact hs
 ·have h0:=gA h
  have hl:=List.getElem?_eq_getElem (l:=l) (i:=0) (by omega)
  rw[ij hl]at h0
  have:(l.set k s)[0]? =some l[0]:=by rw[List.getElem?_set_ne (by omega)];exact hl
  rw[ij this];exact h0
theorem eh {t:List Int} (h:ak t=0) (hb:bare t=false):aD (aC t)=true:=by unfold aD aC;simp[h,hb];rfl
theorem nF {p:ByteArray} (h:p.size=4):aD (bF p)=true:=by unfold aD bF;simp[h]
end
end
end Go.Proofs.YtdbneghfbkjinaaGreatDoor
namespace Sl
def kC (t:List Int) (n:Int):Int:=if ak t=0 then(if 0<=n/\n<=4 then 0 else 3)else ak t
def rY (t:List Int) (m:Nat):List Int:=t.take m++List.replicate (4-m) 0
def oR (t:List Int) (n:Int):List Int:=if kC t n=0 then rY t n.toNat else[]
def fE (t:List Int) (k e:Int):Int:=if ak t=0 then(if 0<=k/\k<4 then(if cV e then 0 else 1)else 3)else ak t
def jm (t:List Int) (k e:Int):List Int:=if fE t k e=0 then t.set k.toNat e else[]
theorem aU {t:List Int} (h:ak t=0):t.length=4/\t.all cV=true:=by
 unfold ak at h
 split at h
 ·split at h
  ·exact⟨by assumption,by assumption⟩
  ·omega
 ·omega
theorem Ah {t:List Int} {n:Int} (h:ak t≠0):kC t n=ak t/\oR t n=[]:=by
 have:kC t n=ak t:=by unfold kC;rw[if_neg h]
 exact⟨this,by unfold oR;rw[this,if_neg h]⟩
theorem xa {t:List Int} {n:Int} (h:ak t=0) (hn:¬(0<=n/\n<=4)):kC t n=3/\oR t n=[]:=by
 have:kC t n=3:=by unfold kC;rw[if_pos h,if_neg hn]
 exact⟨this,by unfold oR;rw[this,if_neg (by decide)]⟩
theorem Ai {t:List Int} {m:Nat} (h:ak t=0) (hn:m<=4):kC t m=0/\oR t m=rY t m:=by
 have:kC t m=0:=by unfold kC;rw[if_pos h,if_pos (by omega)]
 exact⟨this,by unfold oR;rw[this,if_pos rfl,Int.toNat_natCast]⟩
theorem Cm {t:List Int} {k e:Int} (h:ak t≠0):fE t k e=ak t/\jm t k e=[]:=by
 have:fE t k e=ak t:=by unfold fE;rw[if_neg h]
 exact⟨this,by unfold jm;rw[this,if_neg h]⟩
theorem Aj {t:List Int} {k e:Int} (h:ak t=0) (hk:¬(0<=k/\k<4)):fE t k e=3/\jm t k e=[]:=by
 have:fE t k e=3:=by unfold fE;rw[if_pos h,if_neg hk]
 exact⟨this,by unfold jm;rw[this,if_neg (by decide)]⟩
theorem Ak {t:List Int} {k e:Int} (h:ak t=0) (hk:0<=k/\k<4) (he:cV e=false):fE t k e=1/\jm t k e=[]:=by
 have:fE t k e=1:=by unfold fE;rw[if_pos h,if_pos hk,he];rfl
 exact⟨this,by unfold jm;rw[this,if_neg (by decide)]⟩
theorem Cn {t:List Int} {k:Nat} {e:Int} (h:ak t=0) (hk:k<4) (he:cV e=true):fE t k e=0/\jm t k e=t.set k e:=by
 have:fE t k e=0:=by unfold fE;rw[if_pos h,if_pos (by omega),he];rfl
 exact⟨this,by unfold jm;rw[this,if_pos rfl,Int.toNat_natCast]⟩
end Sl
