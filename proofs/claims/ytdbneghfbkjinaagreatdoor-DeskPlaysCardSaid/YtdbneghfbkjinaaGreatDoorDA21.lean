/- Texts of the proof of deskPlays_holds: Repl. Conditions: as each text says. -/
import Derived.Test.YtdbneghfbkjinaaGreatDoorDA1
import Derived.Test.YtdbneghfbkjinaaGreatDoorDA9
set_option maxRecDepth 100000
set_option maxHeartbeats 1000000
namespace Go.Proofs.YtdbneghfbkjinaaGreatDoor
section
open Go.Proofs.Tryz
open Go.RowKit Sl
theorem pO {w:World} {base size n c:Nat} {e:TypeId} {A:Option Addr} {xs:List Value} (h:w.ownsRow base e size (.slice A n c) n xs) (hn:0<n):∃g,A=some ⟨g,0,none⟩/\base<=g/\g<w.heap.size:=by
 rcases h.2 with⟨hv,rfl⟩|⟨g,cap,cur,hv,hb,hh,_⟩
 ·omega
 ·simp only[Value.slice.injEq]at hv
  obtain⟨rfl,_,_⟩:=hv
  exact⟨g,rfl,hb,(za hh)⟩
def IntsPair (base:Nat) (xs:List Int) (er:Int) (w:World) (e:Ending) (w':World):Prop:=
 ∃A n c,e=.returned (.tuple #[.slice A n c,.int .i64 er])/\w'.ownsRow base 3 1 (.slice A n c) n (ah xs)/\Below base w w'/\n<=c/\c<=maxLen
theorem IntsPair.mk_nil {base:Nat} {xs:List Int} {er er':Int} {w w':World} (hx:xs=[]) (he:er=er') (hb:Below base w w'):IntsPair base xs er w (.returned (.tuple #[.slice none 0 0,.int .i64 er'])) w':=by
 subst hx;subst he
 exact⟨none,0,0,rfl,World.ownsRow_nil _ _ _ _,hb,Nat.le_refl _,by simp⟩
theorem ck (l:List Int):∀u∈ah l,u.oneCell'=true:=by
 intro u hu
 obtain⟨s,_,rfl⟩:=List.mem_map.1 hu
 rfl
theorem pP (l:List Int) (k:Nat):(ah l).take k=ah (l.take k):=by simp[ah,List.map_take]
theorem AR (A:Option Addr) (n c:Nat) (t:List Int) (x:Int) (w:World) (h:Rd w w.heap.size 1 A n (ah t)) (hn:n<=c) (hc:n<=maxLen):
  Calls prog 68 #[.slice A n c,.int .i64 x] w (IntsPair w.heap.size (oR t x) (kC t x) w):=by
 have HK:=zh (kA A n c w.heap.size t w h hc)
 by_cases he:ak t=0
 ·rw[he]at HK
  obtain⟨l4,_⟩:=aU he
  have hln:=h.len
  by_cases hx:0<=x/\x<=4
  ·obtain⟨m,rfl⟩:=Int.eq_ofNat_of_zero_le hx.1
   have hm4:m<=4:=by omega
   have R:=zh (Ai (m:=m) he hm4)
   have hsl:= λW=>nt (P:=prog) 30 3 1 underlying30 (λW=>by kernel_rfl) A n c m (by omega) W
   have hmk:∀W:World,(Instr.makeSlice 30 (.int .i64 4) (.int .i64 4)).run prog W=.ok (.slice (some ⟨W.heap.size,0,none⟩) 4 4) (W.alloc (.cells #[.int .i64 0,.int .i64 0,.int .i64 0,.int .i64 0] 3)):= λ_=>by kernel_rfl
   have ht:=h.take (k:=m) (by omega)
   rw[Nat.mul_one,pP]at ht
   obtain⟨W2,c1,c2,c3⟩:=kz (P:=prog) (w.alloc (.cells #[.int .i64 0,.int .i64 0,.int .i64 0,.int .i64 0] 3)) 30 30 3 3 underlying30 (by kernel_rfl) w.heap.size 0 4 4 (some ⟨w.heap.size,0,none⟩) A m c
    #[.int .i64 0,.int .i64 0,.int .i64 0,.int .i64 0] 3 (heap_alloc_new w _) w.heap.size (ah (t.take m)) (ht.below ((Below.refl _ _).alloc (Nat.le_refl _) _) (Nat.le_refl _)) (λ_=>rfl) hm4 (by simp;omega) (ck _)
   have hfin:splice [Value.int .i64 0,.int .i64 0,.int .i64 0,.int .i64 0] 0 (ah (t.take m))=ah (rY t m):=by
    unfold splice rY ah
    rw[List.take_zero,List.nil_append,List.map_append,List.map_replicate,List.length_map,List.length_take,Nat.zero_add,l4,Nat.min_eq_left hm4]
    congr 1
    rw[show([Value.int .i64 0,.int .i64 0,.int .i64 0,.int .i64 0]:List Value)=List.replicate 4 (.int .i64 0)from rfl,List.drop_replicate]
   have hb2:=c3.below ((Below.refl w.heap.size w).alloc (Nat.le_refl _) _) (Nat.le_refl _)
   rw[show(#[Value.int .i64 0,.int .i64 0,.int .i64 0,.int .i64 0]:Array Value).toList=[Value.int .i64 0,.int .i64 0,.int .i64 0,.int .i64 0]from rfl,hfin]at c2
   have ho:=cQ (base:=w.heap.size) c2 (Nat.le_refl _) (n:=4) (by simp[ah,rY];omega) (by unfold maxLen;omega)
   have HO:=zh ho
   have HC:=zh c1
   clear h he hx ht l4 hln ho c1 c2 c3 hfin
   go_enter func68,ntmps68
   go_wp2_with (first|(go_at_call 119;refine HK.o.mono ?_;rintro e w1 ⟨rfl,rfl⟩)|(refine fa rfl _ _ _ _ _ rfl rfl rfl rfl HC.o ?_))
   go_ret2
   exact⟨_,4,4,by rw[R.o.1];rfl,by rw[R.o.2];exact HO.o,hb2,Nat.le_refl _,by unfold maxLen;omega⟩
  ·have R:=zh (xa (n:=x) he hx)
   clear h he hln l4
   have hx':x<0\/(0<=x/\4<x):=by omega
   rcases hx' with hx'|⟨hx1,hx2⟩
   all_goals
    go_enter func68,ntmps68
    go_wp2_with (go_at_call 119;refine HK.o.mono ?_;rintro e w1 ⟨rfl,rfl⟩)
    go_ret2
    exact IntsPair.mk_nil R.o.2 R.o.1 (Below.refl _ _)
 ·have R:=zh (Ah (n:=x) he)
  have he':(ak t !=0)=true:=by simpa using he
  clear h he
  go_enter func68,ntmps68
  go_wp2_with (go_at_call 119;refine HK.o.mono ?_;rintro e w1 ⟨rfl,rfl⟩)
  go_ret2
  exact IntsPair.mk_nil R.o.2 R.o.1 (Below.refl _ _)
theorem lI (t:List Int) (k:Nat) (e:Int):(ah t).set k (.int .i64 e)=ah (t.set k e):=by simp[ah,List.map_set]
def gG (t:List Int) (m k:Nat):List Int:=t.take m++List.replicate (k-m) 0++t.drop k
theorem qX (t:List Int) (m:Nat):gG t m m=t:=by simp[gG]
theorem sM (t:List Int) (m k:Nat) (hm:m<=k) (hk:k<t.length):(gG t m k).set k 0=gG t m (k+1):=by
 unfold gG
 have hl:(t.take m++List.replicate (k-m) 0).length=k:=by rw[List.length_append,List.length_take,List.length_replicate];omega
 rw[List.set_append_right _ _ (by omega),hl,Nat.sub_self,List.drop_eq_getElem_cons hk,List.set_cons_zero,show k+1-m=(k-m)+1 from by omega,List.replicate_succ']
 simp
theorem vo (t:List Int) (m:Nat) (h:t.length=4):gG t m 4=rY t m:=by
 unfold gG rY;rw[List.drop_of_length_le (by omega),List.append_nil]
theorem vp (t:List Int) (m k:Nat) (hm:m<=k) (hk:k<=t.length):(gG t m k).length=t.length:=by
 unfold gG;rw[List.length_append,List.length_append,List.length_take,List.length_replicate,List.length_drop];omega
theorem AU (A:Option Addr) (n c:Nat) (t:List Int) (x:Int) (w:World) (h:Rd w w.heap.size 1 A n (ah t)) (hc:n<=maxLen):
  Calls prog 153 #[.slice A n c,.int .i64 x] w (IntsPair w.heap.size (oR t x) (kC t x) w):=by
 have HK:=zh (nw A n c w.heap.size t w h hc)
 obtain⟨i0,hi0,hz0,hz1,hz2⟩:=info_parts infoInt
 by_cases he:ak t=0
 ·rw[he]at HK
  obtain⟨l4,_⟩:=aU he
  have hln:=h.len
  have hn4:n=4:=by omega
  subst hn4
  by_cases hx:0<=x/\x<=4
  ·obtain⟨m,rfl⟩:=Int.eq_ofNat_of_zero_le hx.1
   have hm4:m<=4:=by omega
   have hw:decide ((m:Int)<=4)=true:=by simp;omega
   have R:=zh (Ai (m:=m) he hm4)
   obtain⟨A1,c1,w1,q1,q2,q3,q4,q5,_,_⟩:=gO (P:=prog) (w.alloc (.cells #[] 3)) w.heap.size 30 30 3 i0 _ 1 8 underlying30 hi0 hz0 hz1 hz2 rfl (by omega) _ 0 []
    (mW w _ _ _ (Nat.le_refl _)) w.heap.size A 4 c _ (h.below ((Below.refl _ _).alloc (Nat.le_refl _) _) (Nat.le_refl _)) (ck t) (by omega) (by unfold maxLen;omega) (by simp)
   rw[Nat.zero_add]at q1 q2 q4
   rw[List.nil_append]at q2
   obtain⟨g,rfl,hg1,hg2⟩:=pO q2 (by omega)
   have HR:=zh q1
   have hb:=((Below.refl w.heap.size w).alloc (Nat.le_refl _) _).trans q3
   have L4:=zh l4
   have Q2:=zh q2
   clear h he hx hln q1 q2 q3 l4
   go_enter func153,ntmps153
   go_wp2_with (first|(go_at_call 191;refine HK.o.mono ?_;rintro e w2 ⟨rfl,rfl⟩)|(go_at_call 88;refine(aW _ _ _ _).mono ?_;rintro e w2 ⟨rfl,rfl⟩)|(at_builtin;refine aA rfl _ _ _ _ rfl rfl rfl rfl HR.o ?_))
   go_loopw [8] (λiv wr=>∃k:Nat,m<=k/\k<=4/\iv=.int .i64 k/\wr.ownsRow w.heap.size 3 1 (.slice (some ⟨g,0,none⟩) 4 c1) 4 (ah (gG t m k))/\Below w.heap.size w wr) (λiv _=>4-(intOf iv).toNat)
   case atStart=>exact⟨m,Nat.le_refl _,hm4,rfl,by rw[qX];exact Q2.o,hb⟩
   case round=>
    obtain⟨k,hk1,hk2,rfl,ho,hbw⟩:=hrel
    by_cases hlt:k<4
    ·have hzl:=vp t m k hk1 (by rw[L4.o];exact hk2)
     rw[L4.o]at hzl
     have hcell:=ho.cellAt k (by omega)
     unfold ah at hcell
     rw[List.getElem?_map,List.getElem?_eq_getElem (by omega)]at hcell
     simp only[Option.map_some]at hcell
     generalize (gG t m k)[k]=u at hcell
     have hf:=ho.frozenAt k
     have hst:=(ho.stored k (.int .i64 0)).1
     rw[lI,sM t m k hk1 (by rw[L4.o];exact hlt)]at hst
     have HS:=zh hst
     clear hst ho hzl
     go_wp2_with fail
     go_roundw
     case rel=>exact⟨k+1,by omega,by omega,by go_num,HS.o,hbw.setCell (p:=⟨g,k,none⟩) hg1 _⟩
     case measure=>simp[intOf];omega
    ·have hk4:k=4:=by omega
     subst hk4
     have HO:=zh ho
     clear ho
     go_wp2_with fail
     go_ret2
     exact⟨_,4,c1,by rw[R.o.1];rfl,by rw[R.o.2,<-vo t m L4.o];exact HO.o,hbw,q4,q5⟩
  ·have R:=zh (xa (n:=x) he hx)
   have hw:(decide (0<=x)&&decide (x<=4))=false:=by rw[Bool.eq_false_iff];simp;omega
   clear h he hln l4 hx
   go_enter func153,ntmps153
   go_wp2_with (first|(go_at_call 191;refine HK.o.mono ?_;rintro e w2 ⟨rfl,rfl⟩)|(go_at_call 88;refine(aW _ _ _ _).mono ?_;rintro e w2 ⟨rfl,rfl⟩))
   go_ret2
   exact IntsPair.mk_nil R.o.2 R.o.1 (Below.refl _ _)
 ·have R:=zh (Ah (n:=x) he)
  have he':(ak t !=0)=true:=by simpa using he
  clear h he
  go_enter func153,ntmps153
  go_wp2_with (go_at_call 191;refine HK.o.mono ?_;rintro e w1 ⟨rfl,rfl⟩)
  go_ret2
  exact IntsPair.mk_nil R.o.2 R.o.1 (Below.refl _ _)
end
section
open Go.Proofs.Tryz
open Go.RowKit Sl
theorem kL (L:List Value) (k:Nat) (y:Value) (hk:k<4) (hL:4<=L.length):(splice L k [y]).take 4=(L.take 4).set k y/\(splice L k [y]).length=L.length:=by
 unfold splice
 refine⟨?_,by simp;omega⟩
 apply List.ext_getElem?
 intro j
 rw[List.getElem?_take,List.getElem?_set,List.length_take,List.getElem?_take]
 by_cases h4:j<4
 ·rw[if_pos h4,if_pos h4,List.getElem?_append,List.length_take,Nat.min_eq_left (by omega)]
  by_cases h1:j<k
  ·rw[if_pos h1,if_neg (by omega),List.getElem?_take,if_pos h1]
  ·rw[if_neg h1]
   by_cases h2:k=j
   ·subst h2
    rw[if_pos rfl,if_pos (by omega),Nat.sub_self];rfl
   ·rw[if_neg h2,show j-k=(j-k-1)+1 from by omega,List.singleton_append,List.getElem?_cons_succ,List.getElem?_drop]
    congr 1
    simp;omega
 ·rw[if_neg h4,if_neg h4]
  by_cases h2:k=j
  ·omega
  ·rw[if_neg h2]
theorem jw (L:List Value) (k:Nat) (hk:k<=4) (hL:4<=L.length):splice L k ((L.take 4).drop k)=L:=by
 unfold splice
 rw[List.length_drop,List.length_take,Nat.min_eq_left hL,show k+(4-k)=4 from by omega]
 have:L.take k=(L.take 4).take k:=by rw[List.take_take,Nat.min_eq_left hk]
 rw[this,<-List.append_assoc,List.take_append_drop,List.take_append_drop]
theorem kM (A:Option Addr) (n:Nat) (W:World):(Builtin.clear_ #[30] 0 #[.slice A 0 n]).run prog W=.ok (.tuple #[]) W:=by
 cases A<;>simp[Builtin.clear_,run_underlying underlying30]
theorem yw (g vb vc c base:Nat) (t:List Int) (y:Int) (w:World) (h:w.ownsRow base 3 1 (.slice (some ⟨g,0,none⟩) 4 c) 4 (ah t)) (hv:Rd w w.heap.size 1 (some ⟨vb,0,none⟩) 1 (ah [y])) (hc:4<=c) (hm:c<=maxLen):
  Calls prog 179 #[.slice (some ⟨g,0,none⟩) 4 c,.int .i64 0,.int .i64 1,.slice (some ⟨vb,0,none⟩) 1 vc] w (dJ base 3 1 4 (ah (t.set 0 y)) w):=by
 obtain⟨cur,hh,hcs,htk⟩:∃cur:Array Value,w.heap[g]? =some (.cells cur 3 (0,0))/\cur.size=c/\cur.toList.take 4=ah t:=by
  rcases h.2 with⟨h',_⟩|⟨g',cap',cur,h',hb,hg,hnc,hcm,hcs,htake⟩
  ·simp at h'
  ·simp only[Value.slice.injEq,Option.some.injEq,Addr.mk.injEq,and_true,true_and]at h'
   obtain⟨rfl,rfl⟩:=h'
   exact⟨cur,hg,by simpa using hcs,by simpa using htake⟩
 have c0:¬c=0:=by omega
 have c1:¬c=1:=by omega
 have c2:¬c=1:=by omega
 have c1':(1:Int)<=c:=by omega
 have c4:(4:Int)<=c:=by omega
 go_enter func179,ntmps179
 go_wp2_with fail
 go_quiet (fail)
 rename_i nq
 obtain⟨W0,hW0⟩:∃W0,w.drewN nq=W0:=⟨_,rfl⟩
 rw[hW0]
 have hh0:W0.heap[g]? =some (.cells cur 3 (0,0)):=by rw[<-hW0];exact hh
 have hv0:Rd W0 w.heap.size 1 (some ⟨vb,0,none⟩) 1 (ah [y]):=by rw[<-hW0];exact hv
 obtain⟨W1,a1,a2,a3⟩:=kz (P:=prog) W0 30 30 3 3 underlying30 (by kernel_rfl) g 0 4 c (some ⟨g,0,none⟩) (some ⟨vb,0,none⟩) 1 vc cur 3 hh0 _ (ah [y]) hv0 (λ_=>rfl) (by omega) (by omega) (ck _)
 have HC1:=zh a1
 have HW0:=zh hW0
 have A2:=zh a2
 clear a1 hW0 a2
 go_wp2_with (refine fa rfl _ _ _ _ _ rfl rfl rfl rfl HC1.o ?_)
 have hlen:4<=cur.toList.length:=by rw[Array.length_toList,hcs];exact hc
 obtain⟨u1,u2⟩:=kL cur.toList 0 (.int .i64 y) (by omega) hlen
 rw[htk]at u1
 have e1:(ah t).set 0 (.int .i64 y)=ah (t.set 0 y):=lI t 0 y
 rw[e1]at u1
 have a2:=A2.o
 rw[show ah [y]=[Value.int .i64 y]from rfl]at a2
 generalize splice cur.toList 0 [Value.int .i64 y]=L at a2 u1 u2
 have hL4:4<=L.length:=by omega
 have hrd:Rd W1.drew W1.heap.size 1 (some ⟨g,1,none⟩) 3 ((L.take 4).drop 1):=by
  refine⟨by simp;omega,λ_=>⟨g,1,rfl,(za a2),λj u hu=>?_⟩⟩
  have hj:j<3:=by have:=(zl hu);simp at this;omega
  rw[List.getElem?_drop,List.getElem?_take,if_pos (by omega)]at hu
  show W1.cell? _=_
  rw[cell_of_row _ _ _ _ _ _ a2,List.getElem?_toArray]
  exact hu
 have h1c:∀v∈(L.take 4).drop 1,v.oneCell'=true:=by
  intro v hv;rw[u1]at hv;exact ck _ v (List.mem_of_mem_drop hv)
 obtain⟨W2,b1,b2,b3⟩:=kz (P:=prog) W1.drew 30 30 3 3 underlying30 (by kernel_rfl) g 1 3 (c-1) (some ⟨g,1,none⟩) (some ⟨g,1,none⟩) 3 (c-1) L.toArray 3 a2 _ _ hrd (λ_=>rfl) (by omega) (by simp;omega) h1c
 rw[jw L 1 (by omega) hL4]at b2
 have hgb:base<=g:=by
  rcases h.2 with⟨h',_⟩|⟨g',cap',cur',h',hb,_⟩
  ·simp at h'
  ·simp only[Value.slice.injEq,Option.some.injEq,Addr.mk.injEq,and_true,true_and]at h'
   obtain⟨rfl,rfl⟩:=h'
   exact hb
 have HO:Hid (W2.ownsRow base 3 1 (.slice (some ⟨g,0,none⟩) 4 c) 4 (ah (t.set 0 y))):=by
  have hlc:L.length=c:=by rw[u2,Array.length_toList,hcs]
  refine⟨by have:=h.1;simp[ah]at this⊢;exact this,Or.inr ⟨g,c,L.toArray,rfl,hgb,b2,hc,hm,by simp[hlc],by simpa using u1⟩⟩
 have HB:Hid (Below base w W2):=by
  have h0:Below base w W0:=by rw[<-HW0.o];exact⟨rfl,rfl,rfl,Nat.le_refl _,λ_ _=>rfl⟩
  exact b3.below (a3.below h0 hgb).drew hgb
 have HC2:=zh b1
 clear b1 b2 a2 hrd h1c u2 e1
 have hwr:IntKind.i64.wrap 1=1:=by decide
 go_still_tail 9,(by kernel_rfl)
 refine fa rfl _ _ _ _ _ rfl rfl rfl rfl HC2.o ?_
 clear hwr
 have hcl:= λA n W=>kM A n W
 go_wp2_with fail
 all_goals
  go_ret
  exact⟨some ⟨g,0,none⟩,c,by first|rfl|simp_all,HO.o,HB.o,hc,hm⟩
theorem yx (g vb vc c base:Nat) (t:List Int) (y:Int) (w:World) (h:w.ownsRow base 3 1 (.slice (some ⟨g,0,none⟩) 4 c) 4 (ah t)) (hv:Rd w w.heap.size 1 (some ⟨vb,0,none⟩) 1 (ah [y])) (hc:4<=c) (hm:c<=maxLen):
  Calls prog 179 #[.slice (some ⟨g,0,none⟩) 4 c,.int .i64 1,.int .i64 2,.slice (some ⟨vb,0,none⟩) 1 vc] w (dJ base 3 1 4 (ah (t.set 1 y)) w):=by
 obtain⟨cur,hh,hcs,htk⟩:∃cur:Array Value,w.heap[g]? =some (.cells cur 3 (0,0))/\cur.size=c/\cur.toList.take 4=ah t:=by
  rcases h.2 with⟨h',_⟩|⟨g',cap',cur,h',hb,hg,hnc,hcm,hcs,htake⟩
  ·simp at h'
  ·simp only[Value.slice.injEq,Option.some.injEq,Addr.mk.injEq,and_true,true_and]at h'
   obtain⟨rfl,rfl⟩:=h'
   exact⟨cur,hg,by simpa using hcs,by simpa using htake⟩
 have c0:¬c=0:=by omega
 have c1:¬c=1:=by omega
 have c2:¬c=2:=by omega
 have c1':(2:Int)<=c:=by omega
 have c4:(4:Int)<=c:=by omega
 go_enter func179,ntmps179
 go_wp2_with fail
 go_quiet (fail)
 rename_i nq
 obtain⟨W0,hW0⟩:∃W0,w.drewN nq=W0:=⟨_,rfl⟩
 rw[hW0]
 have hh0:W0.heap[g]? =some (.cells cur 3 (0,0)):=by rw[<-hW0];exact hh
 have hv0:Rd W0 w.heap.size 1 (some ⟨vb,0,none⟩) 1 (ah [y]):=by rw[<-hW0];exact hv
 obtain⟨W1,a1,a2,a3⟩:=kz (P:=prog) W0 30 30 3 3 underlying30 (by kernel_rfl) g 1 3 (c-1) (some ⟨g,1,none⟩) (some ⟨vb,0,none⟩) 1 vc cur 3 hh0 _ (ah [y]) hv0 (λ_=>rfl) (by omega) (by omega) (ck _)
 have HC1:=zh a1
 have HW0:=zh hW0
 have A2:=zh a2
 clear a1 hW0 a2
 go_wp2_with (refine fa rfl _ _ _ _ _ rfl rfl rfl rfl HC1.o ?_)
 have hlen:4<=cur.toList.length:=by rw[Array.length_toList,hcs];exact hc
 obtain⟨u1,u2⟩:=kL cur.toList 1 (.int .i64 y) (by omega) hlen
 rw[htk]at u1
 have e1:(ah t).set 1 (.int .i64 y)=ah (t.set 1 y):=lI t 1 y
 rw[e1]at u1
 have a2:=A2.o
 rw[show ah [y]=[Value.int .i64 y]from rfl]at a2
 generalize splice cur.toList 1 [Value.int .i64 y]=L at a2 u1 u2
 have hL4:4<=L.length:=by omega
 have hrd:Rd W1.drew W1.heap.size 1 (some ⟨g,2,none⟩) 2 ((L.take 4).drop 2):=by
  refine⟨by simp;omega,λ_=>⟨g,2,rfl,(za a2),λj u hu=>?_⟩⟩
  have hj:j<2:=by have:=(zl hu);simp at this;omega
  rw[List.getElem?_drop,List.getElem?_take,if_pos (by omega)]at hu
  show W1.cell? _=_
  rw[cell_of_row _ _ _ _ _ _ a2,List.getElem?_toArray]
  exact hu
 have h1c:∀v∈(L.take 4).drop 2,v.oneCell'=true:=by
  intro v hv;rw[u1]at hv;exact ck _ v (List.mem_of_mem_drop hv)
 obtain⟨W2,b1,b2,b3⟩:=kz (P:=prog) W1.drew 30 30 3 3 underlying30 (by kernel_rfl) g 2 2 (c-2) (some ⟨g,2,none⟩) (some ⟨g,2,none⟩) 2 (c-2) L.toArray 3 a2 _ _ hrd (λ_=>rfl) (by omega) (by simp;omega) h1c
 rw[jw L 2 (by omega) hL4]at b2
 have hgb:base<=g:=by
  rcases h.2 with⟨h',_⟩|⟨g',cap',cur',h',hb,_⟩
  ·simp at h'
  ·simp only[Value.slice.injEq,Option.some.injEq,Addr.mk.injEq,and_true,true_and]at h'
   obtain⟨rfl,rfl⟩:=h'
   exact hb
 have HO:Hid (W2.ownsRow base 3 1 (.slice (some ⟨g,0,none⟩) 4 c) 4 (ah (t.set 1 y))):=by
  have hlc:L.length=c:=by rw[u2,Array.length_toList,hcs]
  refine⟨by have:=h.1;simp[ah]at this⊢;exact this,Or.inr ⟨g,c,L.toArray,rfl,hgb,b2,hc,hm,by simp[hlc],by simpa using u1⟩⟩
 have HB:Hid (Below base w W2):=by
  have h0:Below base w W0:=by rw[<-HW0.o];exact⟨rfl,rfl,rfl,Nat.le_refl _,λ_ _=>rfl⟩
  exact b3.below (a3.below h0 hgb).drew hgb
 have HC2:=zh b1
 clear b1 b2 a2 hrd h1c u2 e1
 have hwr:IntKind.i64.wrap 2=2:=by decide
 go_still_tail 9,(by kernel_rfl)
 refine fa rfl _ _ _ _ _ rfl rfl rfl rfl HC2.o ?_
 clear hwr
 have hcl:= λA n W=>kM A n W
 go_wp2_with fail
 all_goals
  go_ret
  exact⟨some ⟨g,0,none⟩,c,by first|rfl|simp_all,HO.o,HB.o,hc,hm⟩
theorem yy (g vb vc c base:Nat) (t:List Int) (y:Int) (w:World) (h:w.ownsRow base 3 1 (.slice (some ⟨g,0,none⟩) 4 c) 4 (ah t)) (hv:Rd w w.heap.size 1 (some ⟨vb,0,none⟩) 1 (ah [y])) (hc:4<=c) (hm:c<=maxLen):
  Calls prog 179 #[.slice (some ⟨g,0,none⟩) 4 c,.int .i64 2,.int .i64 3,.slice (some ⟨vb,0,none⟩) 1 vc] w (dJ base 3 1 4 (ah (t.set 2 y)) w):=by
 obtain⟨cur,hh,hcs,htk⟩:∃cur:Array Value,w.heap[g]? =some (.cells cur 3 (0,0))/\cur.size=c/\cur.toList.take 4=ah t:=by
  rcases h.2 with⟨h',_⟩|⟨g',cap',cur,h',hb,hg,hnc,hcm,hcs,htake⟩
  ·simp at h'
  ·simp only[Value.slice.injEq,Option.some.injEq,Addr.mk.injEq,and_true,true_and]at h'
   obtain⟨rfl,rfl⟩:=h'
   exact⟨cur,hg,by simpa using hcs,by simpa using htake⟩
 have c0:¬c=0:=by omega
 have c1:¬c=2:=by omega
 have c2:¬c=3:=by omega
 have c1':(3:Int)<=c:=by omega
 have c4:(4:Int)<=c:=by omega
 go_enter func179,ntmps179
 go_wp2_with fail
 go_quiet (fail)
 rename_i nq
 obtain⟨W0,hW0⟩:∃W0,w.drewN nq=W0:=⟨_,rfl⟩
 rw[hW0]
 have hh0:W0.heap[g]? =some (.cells cur 3 (0,0)):=by rw[<-hW0];exact hh
 have hv0:Rd W0 w.heap.size 1 (some ⟨vb,0,none⟩) 1 (ah [y]):=by rw[<-hW0];exact hv
 obtain⟨W1,a1,a2,a3⟩:=kz (P:=prog) W0 30 30 3 3 underlying30 (by kernel_rfl) g 2 2 (c-2) (some ⟨g,2,none⟩) (some ⟨vb,0,none⟩) 1 vc cur 3 hh0 _ (ah [y]) hv0 (λ_=>rfl) (by omega) (by omega) (ck _)
 have HC1:=zh a1
 have HW0:=zh hW0
 have A2:=zh a2
 clear a1 hW0 a2
 go_wp2_with (refine fa rfl _ _ _ _ _ rfl rfl rfl rfl HC1.o ?_)
 have hlen:4<=cur.toList.length:=by rw[Array.length_toList,hcs];exact hc
 obtain⟨u1,u2⟩:=kL cur.toList 2 (.int .i64 y) (by omega) hlen
 rw[htk]at u1
 have e1:(ah t).set 2 (.int .i64 y)=ah (t.set 2 y):=lI t 2 y
 rw[e1]at u1
 have a2:=A2.o
 rw[show ah [y]=[Value.int .i64 y]from rfl]at a2
 generalize splice cur.toList 2 [Value.int .i64 y]=L at a2 u1 u2
 have hL4:4<=L.length:=by omega
 have hrd:Rd W1.drew W1.heap.size 1 (some ⟨g,3,none⟩) 1 ((L.take 4).drop 3):=by
  refine⟨by simp;omega,λ_=>⟨g,3,rfl,(za a2),λj u hu=>?_⟩⟩
  have hj:j<1:=by have:=(zl hu);simp at this;omega
  rw[List.getElem?_drop,List.getElem?_take,if_pos (by omega)]at hu
  show W1.cell? _=_
  rw[cell_of_row _ _ _ _ _ _ a2,List.getElem?_toArray]
  exact hu
 have h1c:∀v∈(L.take 4).drop 3,v.oneCell'=true:=by
  intro v hv;rw[u1]at hv;exact ck _ v (List.mem_of_mem_drop hv)
 obtain⟨W2,b1,b2,b3⟩:=kz (P:=prog) W1.drew 30 30 3 3 underlying30 (by kernel_rfl) g 3 1 (c-3) (some ⟨g,3,none⟩) (some ⟨g,3,none⟩) 1 (c-3) L.toArray 3 a2 _ _ hrd (λ_=>rfl) (by omega) (by simp;omega) h1c
 rw[jw L 3 (by omega) hL4]at b2
 have hgb:base<=g:=by
  rcases h.2 with⟨h',_⟩|⟨g',cap',cur',h',hb,_⟩
  ·simp at h'
  ·simp only[Value.slice.injEq,Option.some.injEq,Addr.mk.injEq,and_true,true_and]at h'
   obtain⟨rfl,rfl⟩:=h'
   exact hb
 have HO:Hid (W2.ownsRow base 3 1 (.slice (some ⟨g,0,none⟩) 4 c) 4 (ah (t.set 2 y))):=by
  have hlc:L.length=c:=by rw[u2,Array.length_toList,hcs]
  refine⟨by have:=h.1;simp[ah]at this⊢;exact this,Or.inr ⟨g,c,L.toArray,rfl,hgb,b2,hc,hm,by simp[hlc],by simpa using u1⟩⟩
 have HB:Hid (Below base w W2):=by
  have h0:Below base w W0:=by rw[<-HW0.o];exact⟨rfl,rfl,rfl,Nat.le_refl _,λ_ _=>rfl⟩
  exact b3.below (a3.below h0 hgb).drew hgb
 have HC2:=zh b1
 clear b1 b2 a2 hrd h1c u2 e1
 have hwr:IntKind.i64.wrap 3=3:=by decide
 go_still_tail 9,(by kernel_rfl)
 refine fa rfl _ _ _ _ _ rfl rfl rfl rfl HC2.o ?_
 clear hwr
 have hcl:= λA n W=>kM A n W
 go_wp2_with fail
 all_goals
  go_ret
  exact⟨some ⟨g,0,none⟩,c,by first|rfl|simp_all,HO.o,HB.o,hc,hm⟩
theorem yz (g vb vc c base:Nat) (t:List Int) (y:Int) (w:World) (h:w.ownsRow base 3 1 (.slice (some ⟨g,0,none⟩) 4 c) 4 (ah t)) (hv:Rd w w.heap.size 1 (some ⟨vb,0,none⟩) 1 (ah [y])) (hc:4<=c) (hbs:base<=w.heap.size):
  Calls prog 179 #[.slice (some ⟨g,0,none⟩) 4 c,.int .i64 3,.int .i64 4,.slice (some ⟨vb,0,none⟩) 1 vc] w (dJ base 3 1 4 (ah (t.set 3 y)) w):=by
 obtain⟨i0,hi0,hz0,hz1,hz2⟩:=info_parts infoInt
 have hl:t.length=4:=by have:=h.1;simp[ah]at this;omega
 have h3:w.ownsRow base 3 1 (.slice (some ⟨g,0,none⟩) 3 c) 3 (ah (t.take 3)):=by
  refine⟨by simp[ah];omega,?_⟩
  rcases h.2 with⟨h',_⟩|⟨g',cap',cur,h',hb,hg,hnc,hcm,hcs,htake⟩
  ·simp at h'
  ·simp only[Value.slice.injEq,Option.some.injEq,Addr.mk.injEq,and_true,true_and]at h'
   obtain⟨rfl,rfl⟩:=h'
   refine Or.inr ⟨g,c,cur,rfl,hb,hg,by omega,hcm,hcs,?_⟩
   rw[<-pP,<-htake,List.take_take]
   rfl
 obtain⟨A',c',w',q1,q2,q3,q4,q5,_,_⟩:=gO (P:=prog) w base 30 30 3 i0 _ 1 8 underlying30 hi0 hz0 hz1 hz2 rfl (by omega) _ 3 _ h3 w.heap.size (some ⟨vb,0,none⟩) 1 vc _ hv (ck _) (by omega) (by unfold maxLen;omega) hbs
 have hs:ah (t.take 3)++ah [y]=ah (t.set 3 y):=by
  match t,hl with
  |[a,b,d,e],_=>rfl
 rw[hs]at q2
 have HR:=zh q1
 have HO:=zh q2
 have c4:(4:Int)<=c:=by omega
 have c3:(3:Int)<=c:=by omega
 have c0:¬c=0:=by omega
 have c3':¬c=3:=by omega
 clear h h3 q1 q2 hv hs hl
 go_enter func179,ntmps179
 go_wp2_with (at_builtin;refine aA rfl _ _ _ _ rfl rfl rfl rfl HR.o ?_)
 go_ret
 exact⟨A',c',rfl,HO.o,q3,q4,q5⟩
end
section
open Go.Proofs.Tryz
open Go.RowKit Sl
theorem sN (g vb vc c base k:Nat) (hk:k<4) (t:List Int) (y:Int) (w:World) (h:w.ownsRow base 3 1 (.slice (some ⟨g,0,none⟩) 4 c) 4 (ah t)) (hv:Rd w w.heap.size 1 (some ⟨vb,0,none⟩) 1 (ah [y])) (hc:4<=c) (hm:c<=maxLen) (hbs:base<=w.heap.size):
  Calls prog 179 #[.slice (some ⟨g,0,none⟩) 4 c,.int .i64 k,.int .i64 ((k:Int)+1),.slice (some ⟨vb,0,none⟩) 1 vc] w (dJ base 3 1 4 (ah (t.set k y)) w):=
 match k,hk with
 |0,_=>yw g vb vc c base t y w h hv hc hm
 |1,_=>yx g vb vc c base t y w h hv hc hm
 |2,_=>yy g vb vc c base t y w h hv hc hm
 |3,_=>yz g vb vc c base t y w h hv hc hbs
 |n+4,h=>absurd h (by omega)
theorem yA (A:Option Addr) (n c:Nat) (t:List Int) (x y:Int) (w:World) (h:Rd w w.heap.size 1 A n (ah t)) (hc:n<=maxLen):
  Calls prog 126 #[.slice A n c,.int .i64 x,.int .i64 y] w (IntsPair w.heap.size (jm t x y) (fE t x y) w):=by
 have HK:=zh (kA A n c w.heap.size t w h hc)
 by_cases he:ak t=0
 ·rw[he]at HK
  obtain⟨l4,_⟩:=aU he
  have hln:=h.len
  have hn4:n=4:=by omega
  subst hn4
  by_cases hx:0<=x/\x<4
  ·obtain⟨k,rfl⟩:=Int.eq_ofNat_of_zero_le hx.1
   have hk4:k<4:=by omega
   cases hf:cV y
   ·have R:=zh (Ak (k:=(k:Int)) he hx hf)
    clear h he hx hln l4
    go_enter func126,ntmps126
    go_wp2_with (first|(go_at_call 119;refine HK.o.mono ?_;rintro e w2 ⟨rfl,rfl⟩)|(go_at_call 172;refine(nu _ _).mono ?_;rintro e w2 ⟨rfl,rfl⟩))
    go_ret2
    exact IntsPair.mk_nil R.o.2 R.o.1 (Below.refl _ _)
   ·have R:=zh (Cn (k:=k) he hk4 hf)
    have HC:=zh (ex A 4 c (ah t) w h (ck t) (by omega))
    clear h he hx hln l4
    go_enter func126,ntmps126
    go_wp2_with (first|(go_at_call 119;refine HK.o.mono ?_;rintro e w2 ⟨rfl,rfl⟩)|(go_at_call 172;refine(nu _ _).mono ?_;rintro e w2 ⟨rfl,rfl⟩))
    refine HC.o.mono ?_
    rintro e w1 ⟨A1,c1,rfl,ho1,hb1,hc1,hm1⟩
    obtain⟨g,rfl,hg1,hg2⟩:=pO ho1 (by omega)
    have hz:=hb1.size
    have HR:=zh (λW (hb:Below w1.heap.size w1 W) (hv:Rd W W.heap.size 1 (some ⟨w1.heap.size,0,none⟩) 1 (ah [y]))=>sN g w1.heap.size 1 c1 w.heap.size k hk4 t y W (aI ho1 hb) hv hc1 hm1 (Nat.le_trans hz hb.size))
    have HB:=zh hb1
    clear ho1 hb1
    go_wp2_with fail
    refine(HR.o _ ((Below.refl _ _).alloc (Nat.le_refl _) _) (Rd.of_block (heap_alloc_new w1 _) (by simp) rfl rfl)).mono ?_
    rintro e w2 ⟨A2,c2,rfl,ho2,hb2,hc2,hm2⟩
    have HO:=zh ho2
    have HB2:=zh (HB.o.trans (((Below.refl w.heap.size w1).alloc hz _).trans hb2))
    clear ho2 hb2
    go_wp2_with fail
    go_ret2
    exact⟨A2,4,c2,by rw[R.o.1];rfl,by rw[R.o.2];exact HO.o,HB2.o,hc2,hm2⟩
  ·have R:=zh (Aj (k:=x) (e:=y) he hx)
   clear h he hln l4
   have hx':x<0\/(0<=x/\4<=x):=by omega
   rcases hx' with hx'|⟨hx1,hx2⟩
   all_goals
    clear hx
    go_enter func126,ntmps126
    go_wp2_with (go_at_call 119;refine HK.o.mono ?_;rintro e w1 ⟨rfl,rfl⟩)
    go_ret2
    exact IntsPair.mk_nil R.o.2 R.o.1 (Below.refl _ _)
 ·have R:=zh (Cm (k:=x) (e:=y) he)
  have he':(ak t !=0)=true:=by simpa using he
  clear h he
  go_enter func126,ntmps126
  go_wp2_with (go_at_call 119;refine HK.o.mono ?_;rintro e w1 ⟨rfl,rfl⟩)
  go_ret2
  exact IntsPair.mk_nil R.o.2 R.o.1 (Below.refl _ _)
end
end Go.Proofs.YtdbneghfbkjinaaGreatDoor
