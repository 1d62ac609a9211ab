/- Texts of the proof of deskPlays_holds: MemA. Conditions: as each text says. -/
import Derived.Test.YtdbneghfbkjinaaGreatDoorDA1
import Derived.Test.YtdbneghfbkjinaaGreatDoorDA4
import Derived.Laws.CopyOwn
set_option maxRecDepth 100000
set_option maxHeartbeats 400000
namespace Go.Proofs.YtdbneghfbkjinaaGreatDoor
section
open Go.Proofs.Tryz
open Go.RowKit Sl
structure IV where
 rA:Option Addr
 rn:Nat
 rc:Nat
 sA:Option Addr
 sn:Nat
 sc:Nat
 fA:Option Addr
 fn:Nat
 fc:Nat
 pA:Option Addr
 pn:Nat
 pc:Nat
structure SnapV (w:World) (B:Nat) (s:Snap) (A:Option Addr) (n c:Nat):Prop where
 name:s.name.size<=4611686018427387903
 len:n<=c
 cap:n<=4611686018427387903/\c<=9223372036854775807
 root:Rd w B 1 A n (ah s.root)
def SnapAt (w:World) (B b o:Nat) (s:Snap):Prop:=
 ∃A n c,w.cell? ⟨b,o,none⟩=some (.string s.name)/\w.cell? ⟨b,o+1,none⟩=some (.int .i64 s.guest)/\w.cell? ⟨b,o+2,none⟩=some (.slice A n c)/\SnapV w B s A n c
def SnapsR (w:World) (B:Nat) (A:Option Addr) (n:Nat) (l:List Snap):Prop:=
 l.length=n/\(0<n->∃b o,A=some ⟨b,o,none⟩/\b<B/\ ∀k s,l[k]? =some s->SnapAt w B b (o+k*3) s)
section
variable {w w':World} {B B' M n c k b o:Nat} {A:Option Addr} {l:List Snap} {s:Snap}
theorem SnapV.keep (h:SnapV w B s A n c) (hk:∀p:Addr,p.block<B->w'.cell? p=w.cell? p):SnapV w' B s A n c:=⟨h.name,h.len,h.cap,h.root.keep hk⟩
theorem SnapV.more (h:SnapV w B s A n c) (hB:B<=B'):SnapV w B' s A n c:=⟨h.name,h.len,h.cap,h.root.more hB⟩
theorem SnapAt.keep (h:SnapAt w B b o s) (ha:b<B) (hk:∀p:Addr,p.block<B->w'.cell? p=w.cell? p):SnapAt w' B b o s:=by
 obtain⟨A,n,c,h0,h1,h2,hr⟩:=h
 exact⟨A,n,c,by rw[hk _ ha];exact h0,by rw[hk _ ha];exact h1,by rw[hk _ ha];exact h2,hr.keep hk⟩
theorem SnapAt.more (h:SnapAt w B b o s) (hB:B<=B'):SnapAt w B' b o s:=by
 obtain⟨A,n,c,h0,h1,h2,hr⟩:=h
 exact⟨A,n,c,h0,h1,h2,hr.more hB⟩
theorem SnapsR.keep (h:SnapsR w B A n l) (hk:∀p:Addr,p.block<B->w'.cell? p=w.cell? p):SnapsR w' B A n l:=
 ⟨h.1,λhn=>by
  obtain⟨b,o,e,hb,hc⟩:=h.2 hn
  exact⟨b,o,e,hb,λj u hu=>(hc j u hu).keep hb hk⟩⟩
theorem SnapsR.more (h:SnapsR w B A n l) (hB:B<=B'):SnapsR w B' A n l:=
 ⟨h.1,λhn=>by
  obtain⟨b,o,e,hb,hc⟩:=h.2 hn
  exact⟨b,o,e,by omega,λj u hu=>(hc j u hu).more hB⟩⟩
theorem SnapsR.below (h:SnapsR w B A n l) (hb:Below M w w') (hM:B<=M):SnapsR w' B A n l:=h.keep λ_ hp=>hb.cell (by omega)
theorem SnapsR.at_ (h:SnapsR w B A n l) (hk:k<n):
  ∃b o s tA tn tc,A=some ⟨b,o,none⟩/\b<B/\l[k]? =some s/\w.cell? ⟨b,o+k*3,none⟩=some (.string s.name)/\w.cell? ⟨b,o+k*3+1,none⟩=some (.int .i64 s.guest)/\
   w.cell? ⟨b,o+k*3+2,none⟩=some (.slice tA tn tc)/\SnapV w B s tA tn tc:=by
 obtain⟨b,o,e,hb,hc⟩:=h.2 (by omega)
 have hl:k<l.length:=by rw[h.1];exact hk
 obtain⟨tA,tn,tc,h0,h1,h2,h3⟩:=hc k _ (List.getElem?_eq_getElem hl)
 exact⟨b,o,l[k],tA,tn,tc,e,hb,List.getElem?_eq_getElem hl,h0,h1,h2,h3⟩
theorem SnapsR.none_:SnapsR w B A 0 []:=⟨rfl,λh=>absurd h (by omega)⟩
end
structure ImgR (w:World) (B:Nat) (v:IV) (m:Img):Prop where
 root:Rd w B 1 v.rA v.rn (ah m.root)
 rle:v.rn<=v.rc
 rcap:v.rn<=4611686018427387903/\v.rc<=9223372036854775807
 slots:SlotsR w B v.sA v.sn m.slots
 sle:v.sn<=v.sc
 scap:v.sn<=4611686018427387903/\v.sc<=9223372036854775807
 refs:Rd w B 1 v.fA v.fn (ah m.refs)
 fle:v.fn<=v.fc
 fcap:v.fn<=4611686018427387903/\v.fc<=9223372036854775807
 snaps:SnapsR w B v.pA v.pn m.snaps
 ple:v.pn<=v.pc
 pcap:v.pn<=4611686018427387903/\v.pc<=9223372036854775807
section
variable {w w':World} {B B' M:Nat} {v:IV} {m:Img}
theorem ImgR.keep (h:ImgR w B v m) (hk:∀p:Addr,p.block<B->w'.cell? p=w.cell? p):ImgR w' B v m:=
 ⟨h.root.keep hk,h.rle,h.rcap,h.slots.keep hk,h.sle,h.scap,h.refs.keep hk,h.fle,h.fcap,h.snaps.keep hk,h.ple,h.pcap⟩
theorem ImgR.more (h:ImgR w B v m) (hB:B<=B'):ImgR w B' v m:=
 ⟨h.root.more hB,h.rle,h.rcap,h.slots.more hB,h.sle,h.scap,h.refs.more hB,h.fle,h.fcap,h.snaps.more hB,h.ple,h.pcap⟩
theorem ImgR.below (h:ImgR w B v m) (hb:Below M w w') (hM:B<=M):ImgR w' B v m:=h.keep λ_ hp=>hb.cell (by omega)
theorem ImgR.next (h:ImgR w w.heap.size v m) (hb:Below w.heap.size w w'):ImgR w' w'.heap.size v m:=(h.below hb (Nat.le_refl _)).more hb.size
theorem ImgR.box (h:ImgR w w.heap.size v m) (o:Obj):ImgR (w.alloc o) (w.alloc o).heap.size v m:=h.next ((Below.refl _ _).alloc (Nat.le_refl _) _)
theorem ImgR.slen (h:ImgR w B v m):m.slots.length=v.sn:=h.slots.1
theorem ImgR.plen (h:ImgR w B v m):m.snaps.length=v.pn:=h.snaps.1
theorem ImgR.rlen (h:ImgR w B v m):m.root.length=v.rn:=h.root.len
theorem ImgR.flen (h:ImgR w B v m):m.refs.length=v.fn:=h.refs.len
end
theorem ac (w:World) (o:Obj):Below w.heap.size w (w.alloc o):=(Below.refl _ _).alloc (Nat.le_refl _) _
theorem Rd.next {w w':World} {size n:Nat} {A:Option Addr} {cs:List Value} (h:Rd w w.heap.size size A n cs) (hb:Below w.heap.size w w'):Rd w' w'.heap.size size A n cs:=(Rd.below h hb (Nat.le_refl _)).more hb.size
end
section
open Go.Proofs.Tryz
open Go.RowKit Sl
section
variable {P:Program}
theorem ll {w:World} {base size n:Nat} {e:TypeId} {v:Value} {xs:List Value} (h:w.ownsRow base e size v n xs):∃A c,v=.slice A n c/\n<=c/\c<=maxLen:=by
 rcases h.2 with⟨rfl,rfl⟩|⟨g,cap,cur,rfl,_,_,h1,h2,_⟩
 ·exact⟨none,0,rfl,Nat.le_refl _,by simp⟩
 ·exact⟨_,cap,rfl,h1,h2⟩
theorem Rd.of_own {w:World} {base size n c:Nat} {e:TypeId} {A:Option Addr} {xs:List Value} (h:w.ownsRow base e size (.slice A n c) n xs):Rd w w.heap.size size A n xs:=by
 refine⟨h.1,λhn=>?_⟩
 rcases h.2 with⟨hv,rfl⟩|⟨g,cap,cur,hv,_,hh,hnc,_,hcur,rfl⟩
 ·omega
 ·simp only[Value.slice.injEq]at hv
  obtain⟨rfl,_,_⟩:=hv
  refine⟨g,0,rfl,(za hh),λj u hu=>?_⟩
  rw[cell_of_row _ _ _ _ _ _ hh,Nat.zero_add]
  rw[List.getElem?_take]at hu
  split at hu
  ·rw[<-Array.getElem?_toList];exact hu
  ·cases hu
theorem mG (w:World) (base:Nat) (t ty e:TypeId) (i:TypeInfo) (size:Nat) (ht:P.underlying t=some (.slice e)) (hi:P.info? e=some i) (v:Value) (n:Nat) (xs:List Value) (hown:w.ownsRow base e size v n xs) (c:Nat):
  (Builtin.append_ #[t,t] ty #[v,.slice none 0 c]).run P w=.ok v w:=by
 rcases hown.2 with⟨rfl,rfl⟩|⟨g,cap,cur,rfl,_,_,hnc,_⟩
 ·simp[Builtin.append_,run_underlying ht,sizeOf,typeInfo,hi,Builtin.lenOf,Builtin.firstCells]
 ·simp[Builtin.append_,run_underlying ht,sizeOf,typeInfo,hi,Builtin.lenOf,Builtin.firstCells,hnc,storeCells]
theorem gO (w:World) (base:Nat) (t ty e:TypeId) (i:TypeInfo) (z:Value) (size bytes:Nat) (ht:P.underlying t=some (.slice e)) (hi:P.info? e=some i) (hz:i.zero=some z)
  (hsize:i.size=size) (hby:i.bytes=bytes) (hzs:z.cells.size=size) (hsz:0<size) (v:Value) (n:Nat) (xs:List Value) (hown:w.ownsRow base e size v n xs)
  (B:Nat) (A:Option Addr) (m c:Nat) (news:List Value) (hr:Rd w B size A m news) (h1:∀u∈news,u.oneCell'=true) (hb:(n+m)*bytes<=140737488355328) (h63:n+m<=maxLen) (hbase:base<=w.heap.size):
  ∃A' c' w',(Builtin.append_ #[t,t] ty #[v,.slice A m c]).run P w=.ok (.slice A' (n+m) c') w'/\w'.ownsRow base e size (.slice A' (n+m) c') (n+m) (xs++news)/\Below base w w'/\n+m<=c'/\c'<=maxLen/\w.grownBy w' v.ownBlock/\
   ((Value.slice A' (n+m) c').ownBlock=v.ownBlock\/(Value.slice A' (n+m) c').ownBlock=some w.heap.size):=by
 have fin:∀v' w',(Builtin.append_ #[t,t] ty #[v,.slice A m c]).run P w=.ok v' w'->w'.ownsRow base e size v' (n+m) (xs++news)->w.grownBy w' v.ownBlock->(v'.ownBlock=v.ownBlock\/v'.ownBlock=some w.heap.size)->
   ∃A' c' w',(Builtin.append_ #[t,t] ty #[v,.slice A m c]).run P w=.ok (.slice A' (n+m) c') w'/\w'.ownsRow base e size (.slice A' (n+m) c') (n+m) (xs++news)/\Below base w w'/\n+m<=c'/\c'<=maxLen/\w.grownBy w' v.ownBlock/\
   ((Value.slice A' (n+m) c').ownBlock=v.ownBlock\/(Value.slice A' (n+m) c').ownBlock=some w.heap.size):=by
  intro v' w' g1 g2 g3 g4
  obtain⟨A',c',rfl,q1,q2⟩:=ll g2
  exact⟨A',c',w',g1,g2,(Below.refl _ _).grown g3 hbase (λk hk=>(hown.lt k hk).1),q1,q2,g3,g4⟩
 cases A with
 |none=>
  have hm:m=0:=by
   rcases Nat.eq_zero_or_pos m with h0|h0
   ·exact h0
   ·obtain⟨b,o,h,_⟩:=hr.2 h0
    cases h
  subst hm
  have hn:news=[]:=List.eq_nil_of_length_eq_zero (by simpa using hr.1)
  subst hn
  exact fin v w (mG w base t ty e i size ht hi v n xs hown c) (by simpa using hown) (World.grownBy.refl w _) (.inl rfl)
 |some ad=>
  have hcells:∀j u,news[j]? =some u->w.cell? (ad.add j)=some u:=by
   intro j u hu
   rcases Nat.eq_zero_or_pos m with h0|h0
   ·subst h0
    have hn:news=[]:=List.eq_nil_of_length_eq_zero (by simpa using hr.1)
    subst hn
    simp at hu
   ·obtain⟨b,o,h,_,hc⟩:=hr.2 h0
    injection h with h
    subst h
    have:=hc j u hu
    unfold Addr.add
    by_cases hj:j=0
    ·subst hj;simpa using this
    ·rw[if_neg hj];exact this
  obtain⟨v',w',hrun,h2,h3,_,h5⟩:=run_append_own_at (P:=P) w base t ty e i z size bytes ht hi hz hsize hby hzs hsz v n xs hown ad m c news hr.1 hcells h1 h63 hb hbase
  exact fin v' w' hrun h2 h3 h5
end
theorem aA {P:Program} {w:World} {ops:Array Oper} {rest:List Oper} {o:Oper} {a:Act} {Q:Exit->Act->World->Prop} (hgd:o.guard=none) (s x:Operand) (t ty:TypeId)
  (ho:o.op=.call {callee:=.builtin .append,args:=#[s,x],argTypes:=#[t,t]}) (hty:o.type=ty) {v y v':Value} {w':World} (hs:a.eval s=v) (hx:a.eval x=y)
  (hrun:(Builtin.append_ #[t,t] ty #[v,y]).run P w=.ok v' w') (h:wpList P ops Q rest (a.put o.dst v') w'):wpList P ops Q (o::rest) a w:=
 wpList_plain hgd λ_ hK=>by
  subst hty
  unfold Oper.wp execOp
  simp only[ho,resolve,invoke,builtin,Sem.run_bind,Sem.run_pure,Result.andThen_ok,List.map_toArray,List.map_cons,List.map_nil,hs,hx,hrun]
  exact hK _ _ h
def dJ (base:Nat) (el:TypeId) (size n:Nat) (xs:List Value) (w:World) (e:Ending) (w':World):Prop:=
 ∃A c,e=.returned (.slice A n c)/\w'.ownsRow base el size (.slice A n c) n xs/\Below base w w'/\n<=c/\c<=maxLen
theorem mW (w:World) (base:Nat) (e:TypeId) (size:Nat) (hb:base<=w.heap.size):(w.alloc (.cells #[] e)).ownsRow base e size (.slice (some ⟨w.heap.size,0,none⟩) 0 0) 0 []:=
 ⟨by simp,.inr ⟨w.heap.size,0,#[],rfl,hb,heap_alloc_new w _,Nat.le_refl _,by simp,by simp,by simp⟩⟩
end
section
open Go.Proofs.Tryz
open Go.RowKit Sl
theorem aI {w w':World} {base size n:Nat} {e:TypeId} {v:Value} {xs:List Value} (h:w.ownsRow base e size v n xs) (hb:Below w.heap.size w w'):w'.ownsRow base e size v n xs:=by
 obtain⟨h1,h2⟩:=h
 refine⟨h1,?_⟩
 rcases h2 with h2|⟨g,cap,cur,hv,hg,hh,r⟩
 ·exact Or.inl h2
 ·exact Or.inr ⟨g,cap,cur,hv,hg,by rw[hb.block g (za hh)];exact hh,r⟩
section
variable {P:Program}
theorem cK (w:World) (base:Nat) (t ty e:TypeId) (i:TypeInfo) (z:Value) (size bytes:Nat) (ht:P.underlying t=some (.slice e)) (hi:P.info? e=some i) (hz:i.zero=some z)
  (hsize:i.size=size) (hby:i.bytes=bytes) (hzs:z.cells.size=size) (hsz:0<size) (v:Value) (n:Nat) (xs:List Value) (hown:w.ownsRow base e size v n xs)
  (el:Array Value) (hel:el.size=size) (h1:∀u∈el.toList,u.oneCell'=true) (hb:(n+1)*bytes<=140737488355328) (h63:n+1<=maxLen) (hbase:base<=w.heap.size):
  ∃A' c' w',(Builtin.append_ #[t,t] ty #[v,.slice (some ⟨w.heap.size,0,none⟩) 1 1]).run P (w.alloc (.cells el e))=.ok (.slice A' (n+1) c') w'/\w'.ownsRow base e size (.slice A' (n+1) c') (n+1) (xs++el.toList)/\Below base w w'/\
   n+1<=c'/\c'<=maxLen/\(w.alloc (.cells el e)).grownBy w' v.ownBlock/\((Value.slice A' (n+1) c').ownBlock=v.ownBlock\/(Value.slice A' (n+1) c').ownBlock=some (w.heap.size+1)):=by
 have hr:Rd (w.alloc (.cells el e)) (w.heap.size+1) size (some ⟨w.heap.size,0,none⟩) 1 el.toList:=Rd.of_block (heap_alloc_new w _) (by omega) rfl (by simpa using hel)
 obtain⟨A',c',w',g1,g2,g3,g4,g5,g6,g7⟩:=gO (P:=P) (w.alloc (.cells el e)) base t ty e i z size bytes ht hi hz hsize hby hzs hsz v n xs (hown.alloc _) _ _ 1 1 _ hr h1 hb h63 (by simp;omega)
 exact⟨A',c',w',g1,g2,((Below.refl _ _).alloc hbase _).trans g3,g4,g5,g6,by simpa using g7⟩
theorem nt (T E:TypeId) (size:Nat) (hT:P.underlying T=some (.slice E)) (hs:∀W:World,(sizeOf E).run P W=.ok size W) (A:Option Addr) (n c k:Nat) (hk:k<=c) (W:World):
  (Instr.slice T (.slice A n c) none (some (.int .i64 (k:Int))) none).run P W=.ok (.slice A k c) W:=by
 have hE:P.elem T=E:=by simp[Program.elem,hT]
 rw[run_slice_h (P:=P) (w:=W) T A n c (by rw[hE];exact hT) .i64 k (by omega) (by omega),hE,hs]
 simp only[sliced,Result.andThen,Int.toNat_natCast,Nat.zero_mul,Nat.sub_zero]
 have:(if c=0 then A else A.map (·.add 0))=A:=by
  split
  ·rfl
  ·cases A<;>simp[Addr.add]
 rw[this]
end
end
section
open Go.Proofs.Tryz
open Go.RowKit Sl
theorem infoInt:(prog.info? 3).map (λi=>(i.zero,i.size,i.bytes))=some (some (.int .i64 0),1,8):=by kernel_rfl
theorem infoStr:(prog.info? 9).map (λi=>(i.zero,i.size,i.bytes))=some (some (.string {data:=#[]}),1,16):=by kernel_rfl
theorem ex (A:Option Addr) (n c:Nat) (cs:List Value) (w:World) (h:Rd w w.heap.size 1 A n cs) (h1:∀u∈cs,u.oneCell'=true) (hn:n<=1000000):
  Calls prog 77 #[.slice A n c] w (dJ w.heap.size 3 1 n cs w):=by
 obtain⟨i0,hi0,hz0,hz1,hz2⟩:=info_parts infoInt
 have he:= λ(W:World)=>Lib.run_eql_slice_nil (P:=prog) W 30 3 A n c 0 0 underlying30
 cases A with
 |none=>
  have hn0:n=0:=by
   rcases Nat.eq_zero_or_pos n with h0|h0
   ·exact h0
   ·obtain⟨b,o,h,_⟩:=h.2 h0
    cases h
  subst hn0
  have hcs:cs=[]:=List.eq_nil_of_length_eq_zero (by simpa using h.1)
  subst hcs
  go_enter func77,ntmps77
  go_wp2_with fail
  go_ret
  exact⟨_,_,rfl,World.ownsRow_nil _ _ _ _,Below.refl _ _,Nat.le_refl _,by simp⟩
 |some a=>
  obtain⟨A',c',w',hrun,hown,hb,hc1,hc2,hg,_⟩:=gO (P:=prog) (w.alloc (.cells #[] 3)) w.heap.size 30 30 3 i0 _ 1 8 underlying30 hi0 hz0 hz1 hz2 rfl (by omega) _ 0 []
   (mW w _ _ _ (Nat.le_refl _)) w.heap.size (some a) n c cs (h.below ((Below.refl _ _).alloc (Nat.le_refl _) _) (Nat.le_refl _)) h1 (by omega) (by unfold maxLen;omega) (by simp)
  rw[Nat.zero_add]at hrun hown hc1
  rw[List.nil_append]at hown
  go_enter func77,ntmps77
  have HR:=zh hrun
  clear hrun
  go_wp2_with (at_builtin;refine aA rfl _ _ _ _ rfl rfl rfl rfl HR.o ?_)
  go_ret
  exact⟨_,_,rfl,hown,((Below.refl _ _).alloc (Nat.le_refl _) _).trans hb,hc1,hc2⟩
end
section
open Go.Proofs.Tryz
open Go.RowKit Sl
theorem fa {P:Program} {w:World} {ops:Array Oper} {rest:List Oper} {o:Oper} {a:Act} {Q:Exit->Act->World->Prop} (hgd:o.guard=none) (s x:Operand) (t t2 ty:TypeId)
  (ho:o.op=.call {callee:=.builtin .copy,args:=#[s,x],argTypes:=#[t,t2]}) (hty:o.type=ty) {v y v':Value} {w':World} (hs:a.eval s=v) (hx:a.eval x=y)
  (hrun:(Builtin.copy_ #[t,t2] ty #[v,y]).run P w=.ok v' w') (h:wpList P ops Q rest (a.put o.dst v') w'):wpList P ops Q (o::rest) a w:=
 wpList_plain hgd λ_ hK=>by
  subst hty
  unfold Oper.wp execOp
  simp only[ho,resolve,invoke,builtin,Sem.run_bind,Sem.run_pure,Result.andThen_ok,List.map_toArray,List.map_cons,List.map_nil,hs,hx,hrun]
  exact hK _ _ h
structure Wrote (w w':World) (g:Nat):Prop where
 os:w'.os=w.os
 tape:w'.tape=w.tape
 output:w'.output=w.output
 size:w'.heap.size=w.heap.size
 block:∀k,k≠g->w'.heap[k]? =w.heap[k]?
theorem Wrote.below {B g:Nat} {a w w':World} (h:Wrote w w' g) (hb:Below B a w) (hg:B<=g):Below B a w':=
 hb.trans ⟨h.os,h.tape,h.output,by rw[h.size];exact Nat.le_refl _,λk hk=>h.block k (by omega)⟩
theorem kz {P:Program} (w:World) (dT sT ty elem:TypeId) (hu:P.underlying dT=some (.slice elem)) (hsz:(P.info? elem).map (·.size)=some 1) (g o dLen dCap:Nat) (D:Option Addr) (A:Option Addr) (sLen sCap:Nat)
  (cur:Array Value) (t:TypeId) (hg:w.heap[g]? =some (.cells cur t (0,0))) (B:Nat) (cs:List Value) (hr:Rd w B 1 A sLen cs) (hD:0<sLen->D=some ⟨g,o,none⟩) (hle:sLen<=dLen) (hfit:o+sLen<=cur.size) (h1:∀v∈cs,v.oneCell'=true):
  ∃w',(Builtin.copy_ #[dT,sT] ty #[.slice D dLen dCap,.slice A sLen sCap]).run P w=.ok (goInt sLen) w'/\w'.heap[g]? =some (.cells (splice cur.toList o cs).toArray t (0,0))/\Wrote w w' g:=by
 have hl:cs.length=sLen:=by have:=hr.1;omega
 by_cases h0:sLen=0
 ·have hcs:cs=[]:=List.eq_nil_of_length_eq_zero (by omega)
  subst hcs;subst h0
  refine⟨w,run_copy_none (P:=P) w dT sT ty elem D A dLen dCap 0 sCap hu hsz (by simp),?_,⟨rfl,rfl,rfl,rfl,λ_ _=>rfl⟩⟩
  simpa[splice]using hg
 ·obtain⟨b,off,rfl,_,hc⟩:=hr.2 (by omega)
  have hD':=hD (by omega)
  subst hD'
  have hrun:=run_copy_row (P:=P) w dT sT ty elem g o dLen dCap ⟨b,off,none⟩ sLen sCap cur t cs hu hsz hg (by rw[hl];exact(Nat.min_eq_left hle).symm) (λj v hj=>by
   have:=hc j v hj
   unfold Addr.add
   by_cases hj0:j=0
   ·subst hj0;simpa using this
   ·rw[if_neg hj0];exact this) (by rw[hl];exact hfit) h1
  rw[hl,List.append_assoc]at hrun
  refine⟨_,hrun,?_,⟨rfl,rfl,rfl,by simp[World.setRow],λk hk=>setRow_other w g k _ hk⟩⟩
  have:=setRow_heap w g cur (cur.toList.take o++(cs++cur.toList.drop (o+sLen))).toArray t (0,0) hg
  rw[this]
  unfold splice
  rw[hl]
theorem cQ {w:World} {base g n:Nat} {e:TypeId} {cs:List Value} (hg:w.heap[g]? =some (.cells cs.toArray e (0,0))) (hb:base<=g) (hn:cs.length=n) (hm:n<=maxLen):w.ownsRow base e 1 (.slice (some ⟨g,0,none⟩) n n) n cs:=
 ⟨by omega,Or.inr ⟨g,n,cs.toArray,rfl,hb,hg,Nat.le_refl _,hm,by simp[hn],by rw[List.take_of_length_le];simp[hn]⟩⟩
end
section
open Go.Proofs.Tryz
open Go.RowKit Sl
section
variable {wa W W':World} {k:Nat} {a b c d f:Value}
theorem po (hlt:k<wa.heap.size) (hb:Below wa.heap.size W W')
  (h:W.cell? ⟨k,0,none⟩=some a/\W.cell? ⟨k,1,none⟩=some b/\W.cell? ⟨k,2,none⟩=some c/\W.cell? ⟨k,3,none⟩=some d/\W.cell? ⟨k,4,none⟩=some f/\Below wa.heap.size wa W):
  W'.cell? ⟨k,0,none⟩=some a/\W'.cell? ⟨k,1,none⟩=some b/\W'.cell? ⟨k,2,none⟩=some c/\W'.cell? ⟨k,3,none⟩=some d/\W'.cell? ⟨k,4,none⟩=some f/\Below wa.heap.size wa W':=by
 obtain⟨h0,h1,h2,h3,h4,h6⟩:=h
 exact⟨(hb.cell (by simp;omega)).trans h0,(hb.cell (by simp;omega)).trans h1,(hb.cell (by simp;omega)).trans h2,(hb.cell (by simp;omega)).trans h3,(hb.cell (by simp;omega)).trans h4,h6.trans hb⟩
theorem cG (hlt:k<wa.heap.size) (hb:Below W.heap.size W W')
  (h:W.cell? ⟨k,0,none⟩=some a/\W.cell? ⟨k,1,none⟩=some b/\W.cell? ⟨k,2,none⟩=some c/\W.cell? ⟨k,3,none⟩=some d/\W.cell? ⟨k,4,none⟩=some f/\Below wa.heap.size wa W):
  W'.cell? ⟨k,0,none⟩=some a/\W'.cell? ⟨k,1,none⟩=some b/\W'.cell? ⟨k,2,none⟩=some c/\W'.cell? ⟨k,3,none⟩=some d/\W'.cell? ⟨k,4,none⟩=some f/\Below wa.heap.size wa W':=
 po hlt (hb.mono h.2.2.2.2.2.size) h
theorem jO (hlt:k<wa.heap.size) (o:Obj)
  (h:W.cell? ⟨k,0,none⟩=some a/\W.cell? ⟨k,1,none⟩=some b/\W.cell? ⟨k,2,none⟩=some c/\W.cell? ⟨k,3,none⟩=some d/\W.cell? ⟨k,4,none⟩=some f/\Below wa.heap.size wa W):
  (W.alloc o).cell? ⟨k,0,none⟩=some a/\(W.alloc o).cell? ⟨k,1,none⟩=some b/\(W.alloc o).cell? ⟨k,2,none⟩=some c/\(W.alloc o).cell? ⟨k,3,none⟩=some d/\(W.alloc o).cell? ⟨k,4,none⟩=some f/\Below wa.heap.size wa (W.alloc o):=
 cG hlt (ac W o) h
theorem pp
  (h:W.cell? ⟨k,0,none⟩=some a/\W.cell? ⟨k,1,none⟩=some b/\W.cell? ⟨k,2,none⟩=some c/\W.cell? ⟨k,3,none⟩=some d/\W.cell? ⟨k,4,none⟩=some f/\Below wa.heap.size wa W):
  W.drew.cell? ⟨k,0,none⟩=some a/\W.drew.cell? ⟨k,1,none⟩=some b/\W.drew.cell? ⟨k,2,none⟩=some c/\W.drew.cell? ⟨k,3,none⟩=some d/\W.drew.cell? ⟨k,4,none⟩=some f/\Below wa.heap.size wa W.drew:=
 ⟨h.1,h.2.1,h.2.2.1,h.2.2.2.1,h.2.2.2.2.1,h.2.2.2.2.2.drew⟩
end
end
section
open Go.Proofs.Tryz
open Go.RowKit Sl
structure PV where
 s:Snap
 A:Option Addr
 n:Nat
 c:Nat
def PV.cells (x:PV):List Value:=[.string x.s.name,.int .i64 x.s.guest,.slice x.A x.n x.c]
theorem SV.cells_len (x:SV):x.cells.length=3:=rfl
theorem PV.cells_len (x:PV):x.cells.length=3:=rfl
section
variable {α:Type} (f:α->List Value) (hf:∀x,(f x).length=3)
include hf
theorem aO (q:List α):(q.flatMap f).length=q.length*3:=by
 induction q with
 |nil=>rfl
 |cons a q ih=>rw[List.flatMap_cons,List.length_append,hf,ih,List.length_cons];omega
theorem av (q:List α) (k:Nat) (x:α) (hx:q[k]? =some x) (j:Nat) (hj:j<3):(q.flatMap f)[k*3+j]? =(f x)[j]? :=by
 induction q generalizing k with
 |nil=>simp at hx
 |cons a q ih=>
  rw[List.flatMap_cons]
  cases k with
  |zero=>simp at hx;subst hx;rw[List.getElem?_append_left (by rw[hf];omega)];simp
  |succ k=>
   rw[List.getElem?_append_right (by rw[hf];omega),hf,show(k+1)*3+j-3=k*3+j from by omega]
   exact ih k (by simpa using hx)
theorem pq (q:List α) (k:Nat) (x x':α) (hx:q[k]? =some x) (j:Nat) (hj:j<3) (u:Value) (h':f x'=(f x).set j u):(q.flatMap f).set (k*3+j) u=(q.set k x').flatMap f:=by
 induction q generalizing k with
 |nil=>simp at hx
 |cons a q ih=>
  rw[List.flatMap_cons]
  cases k with
  |zero=>
   simp at hx;subst hx
   rw[List.set_append_left _ _ (by rw[hf];omega),List.set_cons_zero,List.flatMap_cons,h']
   simp
  |succ k=>
   rw[List.set_append_right _ _ (by rw[hf];omega),hf,show(k+1)*3+j-3=k*3+j from by omega,ih k (by simpa using hx),List.set_cons_succ,List.flatMap_cons]
theorem gv (q:List α) (k:Nat) (x x':α) (hx:q[k]? =some x) (u0 u1 u2:Value) (h':f x'=[u0,u1,u2]):(((q.flatMap f).set (k*3) u0).set (k*3+1) u1).set (k*3+2) u2=(q.set k x').flatMap f:=by
 have hk:=(zl hx)
 have h3:=hf x
 match hfx:f x,h3 with
 |[a,b,c],_=>
  induction q generalizing k with
  |nil=>simp at hx
  |cons d q ih=>
   rw[List.flatMap_cons]
   cases k with
   |zero=>
    simp at hx;subst hx
    rw[hfx,List.set_cons_zero,List.flatMap_cons,h']
    rfl
   |succ k=>
    have e:∀(l:List Value) (j:Nat) (u:Value),(f d++l).set ((k+1)*3+j) u=f d++l.set (k*3+j) u:= λl j u=>by
     rw[List.set_append_right _ _ (by rw[hf];omega),hf,show(k+1)*3+j-3=k*3+j from by omega]
    have e0:=e (q.flatMap f) 0 u0
    simp only[Nat.add_zero]at e0
    rw[e0,e,e,ih k (by simpa using hx) (by simpa using hk),List.set_cons_succ,List.flatMap_cons]
end
def TypeB (w:World) (b:Nat) (T:TypeId):Prop:=∃cur fz,w.heap[b]? =some (.cells cur T fz)
section
variable {w w':World} {base size n c b:Nat} {e T:TypeId} {v:Value} {A:Option Addr} {xs:List Value}
theorem au (h:w.ownsRow base e size v n xs) (hb:v.ownBlock=some b):TypeB w b e:=by
 rcases h.2 with⟨rfl,_⟩|⟨g,cap,cur,rfl,_,hg,_⟩
 ·simp[Value.ownBlock]at hb
 ·simp[Value.ownBlock]at hb;subst hb;exact⟨cur,_,hg⟩
theorem bH (h:w.ownsRow base e size v n xs) (ht:TypeB w b T) (hne:T≠e):v.ownBlock=none\/v.ownBlock≠some b:=by
 refine .inr λhb=>?_
 obtain⟨c1,f1,h1⟩:=au h hb
 obtain⟨c2,f2,h2⟩:=ht
 rw[h1]at h2
 injection h2 with h2
 injection h2 with _ h3 _
 exact hne h3.symm
theorem TypeB.lt (h:TypeB w b T):b<w.heap.size:=by obtain⟨c,f,h⟩:=h;exact(za h)
end
def TabO (w:World) (base:Nat) (tg:Nat->Nat) (t:Nat) (A:Option Addr) (n c:Nat) (xs:List Int):Prop:=
 n<=c/\(n<=4611686018427387903/\c<=9223372036854775807)/\((n=0/\xs=[]/\(4<=t\/c=0))\/(w.ownsRow base 3 1 (.slice A n c) n (ah xs)/\ ∀b,(Value.slice A n c).ownBlock=some b->tg b=t))
section
variable {w w':World} {base n c t:Nat} {tg tg':Nat->Nat} {A:Option Addr} {xs:List Int} {row:Option Nat}
theorem TabO.rd (h:TabO w base tg t A n c xs):Rd w w.heap.size 1 A n (ah xs):=by
 rcases h.2.2 with⟨rfl,rfl,_⟩|⟨h,_⟩
 ·exact Rd.none_
 ·exact Rd.of_own h
theorem TabO.kept (h:TabO w base tg t A n c xs) (hg:w.grownBy w' row) (hr:∀b,row=some b->b<w.heap.size->(∃T,TypeB w b T/\T≠3)\/tg b≠t):TabO w' base tg t A n c xs:=by
 refine⟨h.1,h.2.1,h.2.2.imp id λ⟨ho,ht⟩=>⟨ho.kept hg ?_,ht⟩⟩
 cases hb:(Value.slice A n c).ownBlock with
 |none=>exact .inl rfl
 |some b=>
  refine .inr λe=>?_
  rcases hr b e.symm (ho.lt b hb).2 with⟨T,hT,hne⟩|h2
  ·rcases bH ho hT hne with h3|h3
   ·rw[hb]at h3;cases h3
   ·exact h3 hb
  ·exact h2 (ht b hb)
theorem TabO.next (h:TabO w base tg t A n c xs) (hb:Below w.heap.size w w'):TabO w' base tg t A n c xs:=⟨h.1,h.2.1,h.2.2.imp id λ⟨ho,ht⟩=>⟨aI ho hb,ht⟩⟩
theorem TabO.retag (h:TabO w base tg t A n c xs) (hb:∀b,b<w.heap.size->tg' b=tg b):TabO w base tg' t A n c xs:=
 ⟨h.1,h.2.1,h.2.2.imp id λ⟨ho,ht⟩=>⟨ho,λb e=>(hb b (ho.lt b e).2).trans (ht b e)⟩⟩
theorem TabO.nil:TabO w base tg t none 0 0 []:=⟨Nat.le_refl _,by decide,.inl ⟨rfl,rfl,.inr rfl⟩⟩
end
structure OwnI (w:World) (base:Nat) (tg:Nat->Nat) (v:IV) (q:List SV) (p:List PV) (m:Img):Prop where
 root:TabO w base tg 0 v.rA v.rn v.rc m.root
 refs:TabO w base tg 1 v.fA v.fn v.fc m.refs
 slots:w.ownsRow base 108 3 (.slice v.sA v.sn v.sc) v.sn (q.flatMap SV.cells)
 sle:v.sn<=v.sc
 scap:v.sn<=4611686018427387903/\v.sc<=9223372036854775807
 snaps:w.ownsRow base 102 3 (.slice v.pA v.pn v.pc) v.pn (p.flatMap PV.cells)
 ple:v.pn<=v.pc
 pcap:v.pn<=4611686018427387903/\v.pc<=9223372036854775807
 hq:q.map (·.s)=m.slots
 hp:p.map (·.s)=m.snaps
 tabs:∀(k:Nat) (x:SV),q[k]? =some x->x.s.data.size<=4611686018427387903/\TabO w base tg (2*k+4) x.A x.n x.c x.s.table
 roots:∀(k:Nat) (x:PV),p[k]? =some x->x.s.name.size<=4611686018427387903/\TabO w base tg (2*k+5) x.A x.n x.c x.s.root
theorem Rd.slots {w:World} {B n:Nat} {A:Option Addr} {q:List SV} (h:Rd w B 3 A n (q.flatMap SV.cells)) (hv:∀(k:Nat) (x:SV),q[k]? =some x->SlotV w B x.s x.A x.n x.c):SlotsR w B A n (q.map (·.s)):=by
 have hl:q.length=n:=by have:=h.1;rw[aO _ SV.cells_len]at this;omega
 refine⟨by rw[List.length_map];exact hl,λhn=>?_⟩
 obtain⟨b,o,e,hb,hc⟩:=h.2 hn
 refine⟨b,o,e,hb,λk s hs=>?_⟩
 rw[List.getElem?_map]at hs
 cases hx:q[k]? with
 |none=>rw[hx]at hs;simp at hs
 |some x=>
  rw[hx]at hs
  simp only[Option.map_some,Option.some.injEq]at hs
  subst hs
  have h0:=av _ SV.cells_len q k x hx 0 (by omega)
  have h1:=av _ SV.cells_len q k x hx 1 (by omega)
  have h2:=av _ SV.cells_len q k x hx 2 (by omega)
  exact⟨x.A,x.n,x.c,hc _ _ h0,hc _ _ h1,hc _ _ h2,hv k x hx⟩
theorem Rd.snaps {w:World} {B n:Nat} {A:Option Addr} {p:List PV} (h:Rd w B 3 A n (p.flatMap PV.cells)) (hv:∀(k:Nat) (x:PV),p[k]? =some x->SnapV w B x.s x.A x.n x.c):SnapsR w B A n (p.map (·.s)):=by
 have hl:p.length=n:=by have:=h.1;rw[aO _ PV.cells_len]at this;omega
 refine⟨by rw[List.length_map];exact hl,λhn=>?_⟩
 obtain⟨b,o,e,hb,hc⟩:=h.2 hn
 refine⟨b,o,e,hb,λk s hs=>?_⟩
 rw[List.getElem?_map]at hs
 cases hx:p[k]? with
 |none=>rw[hx]at hs;simp at hs
 |some x=>
  rw[hx]at hs
  simp only[Option.map_some,Option.some.injEq]at hs
  subst hs
  have h0:=av _ PV.cells_len p k x hx 0 (by omega)
  have h1:=av _ PV.cells_len p k x hx 1 (by omega)
  have h2:=av _ PV.cells_len p k x hx 2 (by omega)
  exact⟨x.A,x.n,x.c,hc _ _ h0,hc _ _ h1,hc _ _ h2,hv k x hx⟩
theorem SlotsR.list {w:World} {B n:Nat} {A:Option Addr} {l:List Slot} (h:SlotsR w B A n l):∃q:List SV,q.map (·.s)=l/\Rd w B 3 A n (q.flatMap SV.cells)/\ ∀(k:Nat) (x:SV),q[k]? =some x->SlotV w B x.s x.A x.n x.c:=by
 rcases Nat.eq_zero_or_pos n with h0|h0
 ·subst h0
  have:l=[]:=List.eq_nil_of_length_eq_zero h.1
  subst this
  exact⟨[],rfl,Rd.none_,λk x hx=>by simp at hx⟩
 ·obtain⟨b,o,e,hb,hc⟩:=h.2 h0
  have key:∀(l':List Slot) (o':Nat),(∀k s,l'[k]? =some s->SlotAt w B b (o'+k*3) s)->∃q:List SV,q.map (·.s)=l'/\(∀(j:Nat) u,(q.flatMap SV.cells)[j]? =some u->w.cell? ⟨b,o'+j,none⟩=some u)/\ ∀(k:Nat) (x:SV),q[k]? =some x->SlotV w B x.s x.A x.n x.c:=by
   intro l'
   induction l' with
   |nil=>intro o' _;exact⟨[],rfl,λj u hu=>by simp at hu,λk x hx=>by simp at hx⟩
   |cons s l' ih=>
    intro o' hs
    obtain⟨tA,tn,tc,c0,c1,c2,hv⟩:=hs 0 s rfl
    obtain⟨q,q1,q2,q3⟩:=ih (o'+3) (λk s' hk=>by have:=hs (k+1) s' hk;rwa [show o'+(k+1)*3=o'+3+k*3 from by omega]at this)
    refine⟨⟨s,tA,tn,tc⟩::q,by simp[q1],λj u hu=>?_,λk x hx=>?_⟩
    ·rw[List.flatMap_cons]at hu
     match j with
     |0=>simp[SV.cells,bE]at hu;subst hu;exact c0
     |1=>simp[SV.cells,bE]at hu;subst hu;exact c1
     |2=>simp[SV.cells,bE]at hu;subst hu;exact c2
     |j+3=>
      have:=q2 j u (by simpa[SV.cells,bE]using hu)
      rwa [show o'+3+j=o'+(j+3)from by omega]at this
    ·cases k with
     |zero=>simp at hx;subst hx;exact hv
     |succ k=>exact q3 k x (by simpa using hx)
  obtain⟨q,q1,q2,q3⟩:=key l o hc
  refine⟨q,q1,⟨?_,λ_=>⟨b,o,e,hb,q2⟩⟩,q3⟩
  rw[aO _ SV.cells_len,<-h.1,<-q1,List.length_map]
theorem SnapsR.list {w:World} {B n:Nat} {A:Option Addr} {l:List Snap} (h:SnapsR w B A n l):∃q:List PV,q.map (·.s)=l/\Rd w B 3 A n (q.flatMap PV.cells)/\ ∀(k:Nat) (x:PV),q[k]? =some x->SnapV w B x.s x.A x.n x.c:=by
 rcases Nat.eq_zero_or_pos n with h0|h0
 ·subst h0
  have:l=[]:=List.eq_nil_of_length_eq_zero h.1
  subst this
  exact⟨[],rfl,Rd.none_,λk x hx=>by simp at hx⟩
 ·obtain⟨b,o,e,hb,hc⟩:=h.2 h0
  have key:∀(l':List Snap) (o':Nat),(∀k s,l'[k]? =some s->SnapAt w B b (o'+k*3) s)->∃q:List PV,q.map (·.s)=l'/\(∀(j:Nat) u,(q.flatMap PV.cells)[j]? =some u->w.cell? ⟨b,o'+j,none⟩=some u)/\ ∀(k:Nat) (x:PV),q[k]? =some x->SnapV w B x.s x.A x.n x.c:=by
   intro l'
   induction l' with
   |nil=>intro o' _;exact⟨[],rfl,λj u hu=>by simp at hu,λk x hx=>by simp at hx⟩
   |cons s l' ih=>
    intro o' hs
    obtain⟨tA,tn,tc,c0,c1,c2,hv⟩:=hs 0 s rfl
    obtain⟨q,q1,q2,q3⟩:=ih (o'+3) (λk s' hk=>by have:=hs (k+1) s' hk;rwa [show o'+(k+1)*3=o'+3+k*3 from by omega]at this)
    refine⟨⟨s,tA,tn,tc⟩::q,by simp[q1],λj u hu=>?_,λk x hx=>?_⟩
    ·rw[List.flatMap_cons]at hu
     match j with
     |0=>simp[PV.cells]at hu;subst hu;exact c0
     |1=>simp[PV.cells]at hu;subst hu;exact c1
     |2=>simp[PV.cells]at hu;subst hu;exact c2
     |j+3=>
      have:=q2 j u (by simpa[PV.cells]using hu)
      rwa [show o'+3+j=o'+(j+3)from by omega]at this
    ·cases k with
     |zero=>simp at hx;subst hx;exact hv
     |succ k=>exact q3 k x (by simpa using hx)
  obtain⟨q,q1,q2,q3⟩:=key l o hc
  refine⟨q,q1,⟨?_,λ_=>⟨b,o,e,hb,q2⟩⟩,q3⟩
  rw[aO _ PV.cells_len,<-h.1,<-q1,List.length_map]
section
variable {w w':World} {base:Nat} {tg tg':Nat->Nat} {v:IV} {q:List SV} {p:List PV} {m:Img}
theorem OwnI.imgR (h:OwnI w base tg v q p m):ImgR w w.heap.size v m:=by
 refine⟨h.root.rd,h.root.1,h.root.2.1,?_,h.sle,h.scap,h.refs.rd,h.refs.1,h.refs.2.1,?_,h.ple,h.pcap⟩
 ·rw[<-h.hq];exact Rd.slots (Rd.of_own h.slots) λk x hx=>⟨(h.tabs k x hx).1,(h.tabs k x hx).2.1,(h.tabs k x hx).2.2.1,(h.tabs k x hx).2.rd⟩
 ·rw[<-h.hp];exact Rd.snaps (Rd.of_own h.snaps) λk x hx=>⟨(h.roots k x hx).1,(h.roots k x hx).2.1,(h.roots k x hx).2.2.1,(h.roots k x hx).2.rd⟩
theorem OwnI.next (h:OwnI w base tg v q p m) (hb:Below w.heap.size w w'):OwnI w' base tg v q p m:=
 ⟨h.root.next hb,h.refs.next hb,aI h.slots hb,h.sle,h.scap,aI h.snaps hb,h.ple,h.pcap,h.hq,h.hp,λk x hx=>⟨(h.tabs k x hx).1,(h.tabs k x hx).2.next hb⟩,λk x hx=>⟨(h.roots k x hx).1,(h.roots k x hx).2.next hb⟩⟩
theorem OwnI.qlen (h:OwnI w base tg v q p m):q.length=v.sn:=by have:=h.slots.1;rw[aO _ SV.cells_len]at this;omega
theorem OwnI.plen (h:OwnI w base tg v q p m):p.length=v.pn:=by have:=h.snaps.1;rw[aO _ PV.cells_len]at this;omega
end
end
section
open Go.Proofs.Tryz
open Go.RowKit Sl
section
variable {w w':World} {B B' M n c k:Nat} {A:Option Addr} {l:List ByteArray}
end
end
end Go.Proofs.YtdbneghfbkjinaaGreatDoor
