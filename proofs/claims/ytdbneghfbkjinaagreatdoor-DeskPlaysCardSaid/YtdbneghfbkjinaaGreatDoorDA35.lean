/- Texts of the proof of deskPlays_holds: InsD. Conditions: as each text says. -/
import Derived.Test.YtdbneghfbkjinaaGreatDoorDA1
import Derived.Test.YtdbneghfbkjinaaGreatDoorDA5
import Derived.Lib.Overlaps
import Derived.Lib.AppendZerosOnto
import Derived.StillTailTactics
set_option maxRecDepth 100000
set_option maxHeartbeats 2000000
namespace Go.Proofs.YtdbneghfbkjinaaGreatDoor
section
open Go.Proofs.Tryz
open Go.RowKit Sl
theorem infoSnapI:(prog.info? 102).map (λi=>(i.zero,i.size,i.bytes))=some (some (.agg #[.string {data:=#[]},.int .i64 0,.slice none 0 0]),3,48):=by kernel_rfl
theorem iT (q:List PV):∀u∈q.flatMap PV.cells,u.oneCell'=true:=by
 intro u hu
 obtain⟨x,_,hx⟩:=List.mem_flatMap.1 hu
 simp[PV.cells]at hx
 rcases hx with rfl|rfl|rfl<;>rfl
theorem bX {T:TypeId} (g:Nat):∀(vs:List Value) (o:Nat) (w:World) (cur:Array Value),w.heap[g]? =some (.cells cur T (0,0))->o+vs.length<=cur.size->
  (w.setCells g o vs).heap[g]? =some (.cells (cur.toList.take o++vs++cur.toList.drop (o+vs.length)).toArray T (0,0))
 |[],o,w,cur,h,_=>by simp[World.setCells,h]
 |v::r,o,w,cur,h,hl=>by
  have h1:=heap_setCell_same w g o cur T v h
  have ih:=bX g r (o+1) (w.setCell ⟨g,o,none⟩ v) (cur.setIfInBounds o v) h1 (by simp at hl⊢;omega)
  rw[World.setCells,ih]
  have e:=list_seg_step cur.toList o v r (by simp at hl⊢;omega)
  congr 2
  simpa[Array.toList_setIfInBounds,Nat.add_assoc]using e
theorem bZ (g:Nat):∀(vs:List Value) (o:Nat) (w:World),w.grownBy (w.setCells g o vs) (some g)
 |[],_,w=>World.grownBy.refl w _
 |v::r,o,w=>by
  rw[World.setCells]
  have h1:w.grownBy (w.setCell ⟨g,o,none⟩ v) (some g):=⟨rfl,rfl,rfl,by simp[World.setCell],λj _ hk=>heap_setCell_other w ⟨g,o,none⟩ j v (λe=>hk (by simp[e]))⟩
  exact h1.trans (bZ g r (o+1) _)
section
variable {P:Program}
theorem kf (w:World) (dT sT ty elem:TypeId) (size b o dLen dCap:Nat) (a:Addr) (sLen sCap:Nat) (cs:List Value)
  (hu:P.underlying dT=some (.slice elem)) (hs:(P.info? elem).map (·.size)=some size) (hn:cs.length=Nat.min sLen dLen*size)
  (hsrc:∀j v,cs[j]? =some v->w.cell? (a.add j)=some v) (hc:∀j,j<cs.length->(w.cell? ⟨b,o+j,none⟩).isSome=true) (hf:∀j,j<cs.length->w.frozen? ⟨b,o+j,none⟩=false) (h1:∀v∈cs,v.oneCell'=true):
  (Builtin.copy_ #[dT,sT] ty #[.slice (some ⟨b,o,none⟩) dLen dCap,.slice (some a) sLen sCap]).run P w=.ok (goInt (Nat.min sLen dLen)) (w.setCells b o cs):=by
 have hl:=run_loadCells_list (P:=P) w a cs hsrc
 have hst:=run_storeCells_cells (P:=P) b o cs 0 w (by simpa using hc) (by simpa using hf) h1
 cases hq:P.info? elem with
 |none=>simp[hq]at hs
 |some i=>
  have hi:i.size=size:=by simpa[hq]using hs
  rw[hn]at hl
  simp[Builtin.copy_,run_underlying hu,Builtin.lenOf,Builtin.firstCells,sizeOf,typeInfo,hq,hi,hl,hst]
theorem vP (w:World) (t e ty:TypeId) (z:Value) (ht:P.underlying t=some (.slice e)) (hv:∀w,(zeroValue e).run P w=.ok z w) (b o n c:Nat) (hn:0<n) (vs:List Value) (hvs:(Builtin.zeroCells z.cells n).toList=vs)
  (h1:∀v∈vs,v.oneCell'=true) (hc:∀j,j<vs.length->(w.cell? ⟨b,o+j,none⟩).isSome=true) (hf:∀j,j<vs.length->w.frozen? ⟨b,o+j,none⟩=false):
  (Builtin.clear_ #[t] ty #[.slice (some ⟨b,o,none⟩) n c]).run P w=.ok (.tuple #[]) (w.setCells b o vs):=by
 have hst:=run_storeCells_cells (P:=P) b o vs 0 w (by simpa using hc) (by simpa using hf) h1
 cases n with
 |zero=>omega
 |succ n=>simp[Builtin.clear_,run_underlying ht,hv,hvs,hst]
theorem mS {w:World} {ops:Array Oper} {rest:List Oper} {o:Oper} {a:Act} {Q:Exit->Act->World->Prop} (hgd:o.guard=none) (s x:Operand) (t t2 ty:TypeId)
  (ho:o.op=.call {callee:=.builtin .copy,args:=#[s,x],argTypes:=#[t,t2]}) (hty:o.type=ty) {v y v':Value} {w':World} (hs:a.eval s=v) (hx:a.eval x=y)
  (hrun:(Builtin.copy_ #[t,t2] ty #[v,y]).run P w=.ok v' w') (h:wpList P ops Q rest (a.put o.dst v') w'):wpList P ops Q (o::rest) a w:=
 wpList_plain hgd λ_ hK=>by
  subst hty
  unfold Oper.wp execOp
  simp only[ho,resolve,invoke,builtin,Sem.run_bind,Sem.run_pure,Result.andThen_ok,List.map_toArray,List.map_cons,List.map_nil,hs,hx,hrun]
  exact hK _ _ h
theorem tH {w:World} {ops:Array Oper} {rest:List Oper} {o:Oper} {a:Act} {Q:Exit->Act->World->Prop} (hgd:o.guard=none) (s:Operand) (t ty:TypeId)
  (ho:o.op=.call {callee:=.builtin .clear,args:=#[s],argTypes:=#[t]}) (hty:o.type=ty) {v v':Value} {w':World} (hs:a.eval s=v)
  (hrun:(Builtin.clear_ #[t] ty #[v]).run P w=.ok v' w') (h:wpList P ops Q rest (a.put o.dst v') w'):wpList P ops Q (o::rest) a w:=
 wpList_plain hgd λ_ hK=>by
  subst hty
  unfold Oper.wp execOp
  simp only[ho,resolve,invoke,builtin,Sem.run_bind,Sem.run_pure,Result.andThen_ok,List.map_toArray,List.map_cons,List.map_nil,hs,hrun]
  exact hK _ _ h
theorem qg {ops:Array Oper} {o:Oper} {a:Act} {w:World} {K:Act->World->Prop} {Q:Exit->Act->World->Prop} {E:Prop}
  (hg:o.guard=none) (d x:Operand) (dT sT:TypeId) (hop:o.op=Op.call {callee:=Callee.builtin Builtin.copy,args:=#[d,x],argTypes:=#[dT,sT]})
  (v u:Value) (hd:a.eval d=v) (hx:a.eval x=u) {v':Value} {w':World} (hr:(Builtin.copy_ #[dT,sT] o.type #[v,u]).run P w=.ok v' w') (hK:K (a.put o.dst v') w'):
  if Region.wanted o (yielded ops a.tmps)=true then Oper.wp P o a w K Q else E:=by
 have hw:Region.wanted o (yielded ops a.tmps)=true:=by simp[Region.wanted,hg]
 rw[if_pos hw]
 unfold Oper.wp
 simp[execOp,hop,resolve,invoke,builtin,hd,hx,hr,Result.andThen]
 exact hK
end
theorem kW {w:World} {base n c:Nat} {A:Option Addr} {xs:List Value} {T:TypeId} (h:w.ownsRow base T 3 (.slice A n c) n xs) (hn:0<n):
  ∃g cur,A=some ⟨g,0,none⟩/\base<=g/\w.heap[g]? =some (.cells cur T (0,0))/\n<=c/\c<=maxLen/\cur.size=c*3/\cur.toList.take (n*3)=xs:=by
 rcases h.2 with⟨hv,h0⟩|⟨g,cap,cur,hv,h1,h2,h3,h4,h5,h6⟩
 ·omega
 ·simp only[Value.slice.injEq]at hv
  obtain⟨rfl,_,rfl⟩:=hv
  exact⟨g,cur,rfl,h1,h2,h3,h4,h5,h6⟩
theorem kX (p:List PV) (k:Nat):(p.flatMap PV.cells).take (k*3)=(p.take k).flatMap PV.cells:=by
 induction p generalizing k with
 |nil=>simp
 |cons a p ih=>
  cases k with
  |zero=>simp
  |succ k=>
   rw[List.flatMap_cons,List.take_succ_cons,List.flatMap_cons,show(k+1)*3=a.cells.length+k*3 from by rw[PV.cells_len];omega,List.take_length_add_append,ih]
theorem iU (p:List PV) (k:Nat):(p.flatMap PV.cells).drop (k*3)=(p.drop k).flatMap PV.cells:=by
 induction p generalizing k with
 |nil=>simp
 |cons a p ih=>
  cases k with
  |zero=>simp
  |succ k=>
   rw[List.flatMap_cons,List.drop_succ_cons,show(k+1)*3=a.cells.length+k*3 from by rw[PV.cells_len];omega,List.drop_length_add_append,ih]
theorem DS (w:World) (vb b o lb cb:Nat) (cells:Array Value) (cur:Array Value) (hvb:vb≠b) (hv:w.heap[vb]? =some (.cells cells 102 (0,0))) (hb:w.heap[b]? =some (.cells cur 102 (0,0))) (hk:cur.size≠0):
  (callFunc 134 #[.slice (some ⟨vb,0,none⟩) 1 1,.slice (some ⟨b,o,none⟩) lb cb]).run prog w=.ok (.value (.bool false)) w:=by
 obtain⟨ip0,hip,hpz0,hpz1,hpz2⟩:=info_parts infoSnapI
 rw[run_callFunc_extern func134 (by kernel_rfl) (by kernel_rfl) (by kernel_rfl) (e:=Extern.SlicesOverlaps.overlaps #[32,32] #[4]) (by kernel_rfl),
  Lib.run_overlaps_apart w 32 4 102 underlying32 3 (λW=>by simp[sizeOf,typeInfo,hip,hpz1]) ⟨vb,0,none⟩ ⟨b,o,none⟩ 1 1 lb cb hvb 102 102 cells.size cur.size (by simp[World.shape?,hv]) (by simp[World.shape?,hb]) hk (by simp[World.frozen?,hv]) (by simp[World.frozen?,hv])]
 rfl
end
section
open Go.Proofs.Tryz
open Go.RowKit Sl
theorem vQ (C:List Value) (p:List PV) (x:PV) (k n:Nat) (hp:p.length=n) (hk:k<=n) (hC:(n+1)*3<=C.length) (ht:C.take (n*3)=p.flatMap PV.cells) (C1 C2:List Value)
  (h1:C1=C.take ((k+1)*3)++(p.drop k).flatMap PV.cells++C.drop ((k+1)*3+((p.drop k).flatMap PV.cells).length)) (h2:C2=C1.take (k*3)++x.cells++C1.drop (k*3+x.cells.length)):
  C1.length=C.length/\C2.length=C.length/\C2.take ((n+1)*3)=(p.take k++x::p.drop k).flatMap PV.cells:=by
 have hd:((p.drop k).flatMap PV.cells).length=(n-k)*3:=by rw[aO _ PV.cells_len,List.length_drop,hp]
 have hx:x.cells.length=3:=rfl
 have l1:C1.length=C.length:=by rw[h1];simp only[List.length_append,List.length_take,List.length_drop,hd];omega
 have l2:C2.length=C.length:=by rw[h2];simp only[List.length_append,List.length_take,List.length_drop,hx];omega
 refine⟨l1,l2,?_⟩
 have e1:C1.take (k*3)=(p.take k).flatMap PV.cells:=by
  rw[h1,List.append_assoc,List.take_append_of_le_length (by rw[List.length_take];omega),List.take_take,<-kX,<-ht,List.take_take]
  congr 1;omega
 have e2:C1.drop (k*3+x.cells.length)=(p.drop k).flatMap PV.cells++C.drop ((k+1)*3+((p.drop k).flatMap PV.cells).length):=by
  have hl:(C.take ((k+1)*3)).length=k*3+x.cells.length:=by rw[List.length_take,hx];omega
  rw[h1,List.append_assoc,<-hl,List.drop_left]
 rw[h2,e1,e2,List.flatMap_append,List.flatMap_cons,<-List.append_assoc,<-List.append_assoc]
 rw[show(n+1)*3=((p.take k).flatMap PV.cells++x.cells++(p.drop k).flatMap PV.cells).length from by
  simp only[List.length_append,aO _ PV.cells_len,List.length_take,List.length_drop,hp,hx];omega]
 exact List.take_left
theorem tI (C:List Value) (p:List PV) (x:PV) (k n:Nat) (hp:p.length=n) (hk:k<=n) (hC:(n+1)*3<=C.length) (ht:C.take (k*3)=(p.take k).flatMap PV.cells) (C1 C2:List Value)
  (h1:C1=C.take (k*3)++x.cells++C.drop (k*3+x.cells.length)) (h2:C2=C1.take ((k+1)*3)++(p.drop k).flatMap PV.cells++C1.drop ((k+1)*3+((p.drop k).flatMap PV.cells).length)):
  C1.length=C.length/\C2.length=C.length/\C2.take ((n+1)*3)=(p.take k++x::p.drop k).flatMap PV.cells:=by
 have hd:((p.drop k).flatMap PV.cells).length=(n-k)*3:=by rw[aO _ PV.cells_len,List.length_drop,hp]
 have hx:x.cells.length=3:=rfl
 have l1:C1.length=C.length:=by rw[h1];simp only[List.length_append,List.length_take,List.length_drop,hx];omega
 have l2:C2.length=C.length:=by rw[h2];simp only[List.length_append,List.length_take,List.length_drop,hd];omega
 refine⟨l1,l2,?_⟩
 have e1:C1.take ((k+1)*3)=(p.take k).flatMap PV.cells++x.cells:=by
  rw[h1,ht]
  rw[show(k+1)*3=((p.take k).flatMap PV.cells++x.cells).length from by simp only[List.length_append,aO _ PV.cells_len,List.length_take,hx];omega]
  exact List.take_left
 rw[h2,e1,List.flatMap_append,List.flatMap_cons,<-List.append_assoc]
 rw[show(n+1)*3=((p.take k).flatMap PV.cells++x.cells++(p.drop k).flatMap PV.cells).length from by
  simp only[List.length_append,aO _ PV.cells_len,List.length_take,List.length_drop,hp,hx];omega]
 exact List.take_left
theorem dx {w:World} {g j:Nat} {cur:Array Value} {T:TypeId} (hg:w.heap[g]? =some (.cells cur T (0,0))) (hj:j<cur.size):(w.cell? ⟨g,j,none⟩).isSome=true/\w.frozen? ⟨g,j,none⟩=false:=
 ⟨by rw[cell_of_row _ _ _ _ _ _ hg,Array.getElem?_eq_getElem hj];rfl,frozen_of_row _ _ _ _ _ hg⟩
def mB (base n:Nat) (A:Option Addr) (c:Nat) (p':List PV) (w:World) (e:Ending) (w':World):Prop:=
 ∃A' c',e=.returned (.slice A' (n+1) c')/\w'.ownsRow base 102 3 (.slice A' (n+1) c') (n+1) (p'.flatMap PV.cells)/\w.grownBy w' (Value.slice A n c).ownBlock/\n+1<=c'/\c'<=maxLen
theorem vR (base n c vb:Nat) (A:Option Addr) (p:List PV) (x:PV) (w:World) (ho:w.ownsRow base 102 3 (.slice A n c) n (p.flatMap PV.cells)) (hn:n<=1000) (hnc:n<=c) (hb:base<=w.heap.size)
  (hv:w.heap[vb]? =some (.cells x.cells.toArray 102 (0,0))):
  Calls prog 76 #[.slice A n c,.int .i64 (n:Nat),.slice (some ⟨vb,0,none⟩) 1 1] w (mB base n A c (p++[x]) w):=by
 obtain⟨ip0,hip,hpz0,hpz1,hpz2⟩:=info_parts infoSnapI
 have hr:Rd w w.heap.size 3 (some ⟨vb,0,none⟩) 1 x.cells:=Rd.of_block hv (za hv) rfl rfl
 obtain⟨A',c',w',q1,q2,q3,q4,q5,q6,q7⟩:=gO (P:=prog) w base 32 32 102 ip0 _ 3 48 underlying32 hip hpz0 hpz1 hpz2 rfl (by omega) _ _ _ ho w.heap.size (some ⟨vb,0,none⟩) 1 1 x.cells hr
  (λu hu=>iT [x] u (by simpa using hu)) (by omega) (by unfold maxLen;omega) hb
 have HR:=zh q1
 have hcm:n<=1000:=hn
 clear q1 hr
 go_enter func76,ntmps76
 by_cases hcn:c=n
 ·subst hcn
  go_wp2_with (at_builtin;refine aA rfl _ _ _ _ rfl rfl rfl rfl HR.o ?_)
  go_ret
  exact⟨A',c',rfl,by rw[List.flatMap_append,show[x].flatMap PV.cells=x.cells from by simp];exact q2,q6,q4,q5⟩
 ·go_wp2_with (at_builtin;refine aA rfl _ _ _ _ rfl rfl rfl rfl HR.o ?_)
  go_ret
  exact⟨A',c',rfl,by rw[List.flatMap_append,show[x].flatMap PV.cells=x.cells from by simp];exact q2,q6,q4,q5⟩
theorem tJ (base n c k vb g:Nat) (p:List PV) (x:PV) (w:World) (cur:Array Value) (hbg:base<=g) (hg:w.heap[g]? =some (.cells cur 102 (0,0))) (hcs:cur.size=c*3) (hcm:c<=maxLen) (ht:cur.toList.take (n*3)=p.flatMap PV.cells)
  (hp:p.length=n) (hn:n<=1000) (hk:k<n) (hroom:n+1<=c) (hv:w.heap[vb]? =some (.cells x.cells.toArray 102 (0,0))) (hne:vb≠g):
  Calls prog 76 #[.slice (some ⟨g,0,none⟩) n c,.int .i64 (k:Nat),.slice (some ⟨vb,0,none⟩) 1 1] w (mB base n (some ⟨g,0,none⟩) c (p.take k++x::p.drop k) w):=by
 obtain⟨ip0,hip,hpz0,hpz1,hpz2⟩:=info_parts infoSnapI
 have hsz:(prog.info? 102).map (·.size)=some 3:=by rw[hip];simp[hpz1]
 have hd:((p.drop k).flatMap PV.cells).length=(n-k)*3:=by rw[aO _ PV.cells_len,List.length_drop,hp]
 have hcl:cur.toList.length=c*3:=by rw[Array.length_toList,hcs]
 have hov:∀o lb cb,(callFunc 134 #[.slice (some ⟨vb,0,none⟩) 1 1,.slice (some ⟨g,o,none⟩) lb cb]).run prog w=.ok (.value (.bool false)) w:= λo lb cb=>DS w vb g o lb cb _ cur hne hv hg (by omega)
 have hcp1:∀ty dc sc,(Builtin.copy_ #[32,32] ty #[.slice (some ⟨g,(k+1)*3,none⟩) (n-k) dc,.slice (some ⟨g,k*3,none⟩) (n+1-k) sc]).run prog w.drew=.ok (goInt (Nat.min (n+1-k) (n-k))) (w.drew.setCells g ((k+1)*3) ((p.drop k).flatMap PV.cells)):= λty dc sc=>
  kf w.drew _ _ ty 102 3 g ((k+1)*3) _ dc ⟨g,k*3,none⟩ _ sc _ underlying32 hsz (by rw[hd];simp only[Nat.min_def];split<;>omega)
   (λj v hj=>by
    rw[Addr.add_lit,show w.drew.cell? ⟨g,k*3+j,none⟩=w.cell? ⟨g,k*3+j,none⟩from rfl,cell_of_row _ _ _ _ _ _ hg,<-Array.getElem?_toList]
    have hj':((p.flatMap PV.cells).drop (k*3))[j]? =some v:=by rw[iU];exact hj
    rw[<-ht,List.getElem?_drop,List.getElem?_take]at hj'
    split at hj'
    ·exact hj'
    ·cases hj')
   (λj hj=>(dx (w:=w) hg (by rw[hcs];omega)).1) (λj hj=>(dx (w:=w) hg (by rw[hcs];omega)).2) (iT _)
 have hg1:=bX g ((p.drop k).flatMap PV.cells) ((k+1)*3) w.drew cur hg (by rw[hd,hcs];omega)
 have hgr1:=bZ g ((p.drop k).flatMap PV.cells) ((k+1)*3) w.drew
 have hv1:(w.drew.setCells g ((k+1)*3) ((p.drop k).flatMap PV.cells)).heap[vb]? =some (.cells x.cells.toArray 102 (0,0)):=(hgr1.block vb (za hv) (by simpa using hne)).trans hv
 generalize hW1:w.drew.setCells g ((k+1)*3) ((p.drop k).flatMap PV.cells)=W1 at*
 obtain⟨C1,hC1⟩:∃C1,C1=cur.toList.take ((k+1)*3)++(p.drop k).flatMap PV.cells++cur.toList.drop ((k+1)*3+((p.drop k).flatMap PV.cells).length):=⟨_,rfl⟩
 obtain⟨C2,hC2⟩:∃C2,C2=C1.take (k*3)++x.cells++C1.drop (k*3+x.cells.length):=⟨_,rfl⟩
 obtain⟨l1,l2,l3⟩:=vQ cur.toList p x k n hp (by omega) (by rw[hcl];omega) ht C1 C2 hC1 hC2
 rw[<-hC1]at hg1
 have hcp2:∀ty dc,(Builtin.copy_ #[32,32] ty #[.slice (some ⟨g,k*3,none⟩) (n+1-k) dc,.slice (some ⟨vb,0,none⟩) 1 1]).run prog W1=.ok (goInt (Nat.min 1 (n+1-k))) (W1.setCells g (k*3) x.cells):= λty dc=>
  kf W1 _ _ ty 102 3 g (k*3) _ dc ⟨vb,0,none⟩ 1 1 x.cells underlying32 hsz (by rw[PV.cells_len];simp only[Nat.min_def];split<;>omega)
   (λj v hj=>by rw[Addr.add_lit,Nat.zero_add,cell_of_row _ _ _ _ _ _ hv1,List.getElem?_toArray];exact hj)
   (λj hj=>(dx hg1 (by rw[List.size_toArray,l1,hcl];rw[PV.cells_len]at hj;omega)).1) (λj hj=>(dx hg1 (by rw[List.size_toArray,l1,hcl];rw[PV.cells_len]at hj;omega)).2) (λu hu=>iT [x] u (by simpa using hu))
 have hg2:=bX g x.cells (k*3) W1 C1.toArray hg1 (by rw[List.size_toArray,l1,hcl,PV.cells_len];omega)
 have hgr2:=bZ g x.cells (k*3) W1
 dsimp only at hg2
 rw[<-hC2]at hg2
 have hgr:w.grownBy (W1.setCells g (k*3) x.cells) (some g):=World.grownBy.trans (show w.grownBy W1 (some g)from⟨hgr1.os,hgr1.tape,hgr1.output,hgr1.size,hgr1.block⟩) hgr2
 generalize W1.setCells g (k*3) x.cells=W2 at*
 have HO:=zh (show mB base n (some ⟨g,0,none⟩) c (p.take k++x::p.drop k) w (.returned (.slice (some ⟨g,0,none⟩) (n+1) c)) W2 from
  ⟨some ⟨g,0,none⟩,c,rfl,⟨by rw[aO _ PV.cells_len];simp;omega,.inr ⟨g,c,C2.toArray,rfl,hbg,hg2,hroom,hcm,by rw[List.size_toArray,l2,hcl],l3⟩⟩,hgr,hroom,hcm⟩)
 have hc63:c<=9223372036854775807:=by unfold maxLen at hcm;exact hcm
 have hw1:IntKind.i64.wrap ((k:Int)+1)=(k:Int)+1:=by rw[IntKind.wrap_i64];omega
 have hb1:(0:Int)<=(k:Int)+1:=by omega
 have hin:k<=n:=by omega
 have htn:((k:Int)+1).toNat=k+1:=by omega
 have hb2:¬(c=k+1):=by omega
 have hb3:(k:Int)<=(n:Int):=by omega
 have hb4:¬(c=k):=by omega
 have hb5:(k:Int)<=(n:Int)+1:=by omega
 have hkn:¬((k:Int)=(n:Int)):=by omega
 clear hg hg1 hg2 hv hv1 hgr1 hgr2 hgr l1 l2 l3 hC1 hC2 ht hd hcl hbg hW1 hne hcm hcs
 go_enter func76,ntmps76
 go_wp2_with (simp only[hov])
 go_region_law (refine qg rfl _ _ 32 32 rfl _ _ (by simp[Act.eval,Act.put]) (by simp[Act.eval,Act.put]) (hcp1 _ _ _) ?_)
 go_wp2_with (at_builtin;refine mS rfl _ _ 32 32 _ rfl rfl rfl rfl (hcp2 _ _) ?_)
 go_ret
 exact HO.o
end
section
open Go.Proofs.Tryz
open Go.RowKit Sl
theorem tK {P:Program} {w:World} {ops:Array Oper} {rest:List Oper} {o:Oper} {a:Act} {Q:Exit->Act->World->Prop} (hgd:o.guard=none) (s x:Operand) (t t2 ty:TypeId)
  (ho:o.op=.call {callee:=.builtin .append,args:=#[s,x],argTypes:=#[t,t2]}) (hty:o.type=ty) {v y v':Value} {w':World} (hs:a.eval s=v) (hx:a.eval x=y)
  (hrun:(Builtin.append_ #[t,t2] ty #[v,y]).run P w=.ok v' w') (h:wpList P ops Q rest (a.put o.dst v') w'):wpList P ops Q (o::rest) a w:=
 wpList_plain hgd λ_ hK=>by
  subst hty
  unfold Oper.wp execOp
  simp only[ho,resolve,invoke,builtin,Sem.run_bind,Sem.run_pure,Result.andThen_ok,List.map_toArray,List.map_cons,List.map_nil,hs,hx,hrun]
  exact hK _ _ h
theorem zi (m:Nat):∀u∈(Builtin.zeroCells (Value.agg #[.string {data:=#[]},.int .i64 0,.slice none 0 0]).cells m).toList,u.oneCell'=true:=by
 intro u hu
 simp only[Builtin.zeroCells,Array.toList_map,List.mem_map]at hu
 obtain⟨i,_,rfl⟩:=hu
 have h3:i%3=0\/i%3=1\/i%3=2:=by omega
 have hs:(Value.agg #[.string {data:=#[]},.int .i64 0,.slice none 0 0]).cells=#[.string {data:=#[]},.int .i64 0,.slice none 0 0]:=by kernel_rfl
 rw[hs]
 have e:(#[Value.string {data:=#[]},.int .i64 0,.slice none 0 0]:Array Value).size=3:=rfl
 rw[e]
 rcases h3 with h|h|h<;>rw[h]<;>rfl
theorem ib (m:Nat):(Builtin.zeroCells (Value.agg #[.string {data:=#[]},.int .i64 0,.slice none 0 0]).cells m).size=m*3:=by
 rw[size_zeroCells]
 rfl
theorem BE {w W0:World} {base n c k G:Nat} {A:Option Addr} {p:List PV} {x:PV} {cur:Array Value} (hb:base<=w.heap.size) (h0:W0.heap[w.heap.size]? =some (.cells cur 102 (0,0))) (hgr:w.grownBy W0 none) (hcs:cur.size=G*3) (hG:n+1<=G) (hGm:G<=maxLen)
  (hp:p.length=n) (hk:k<=n) (ht:cur.toList.take (k*3)=(p.take k).flatMap PV.cells):
  mB base n A c (p.take k++x::p.drop k) w (.returned (.slice (some ⟨w.heap.size,0,none⟩) (n+1) G)) (((W0.setCells w.heap.size (k*3) x.cells).drew).setCells w.heap.size ((k+1)*3) ((p.drop k).flatMap PV.cells)):=by
 have hcl:cur.toList.length=G*3:=by rw[Array.length_toList,hcs]
 obtain⟨C1,hC1⟩:∃C1,C1=cur.toList.take (k*3)++x.cells++cur.toList.drop (k*3+x.cells.length):=⟨_,rfl⟩
 obtain⟨C2,hC2⟩:∃C2,C2=C1.take ((k+1)*3)++(p.drop k).flatMap PV.cells++C1.drop ((k+1)*3+((p.drop k).flatMap PV.cells).length):=⟨_,rfl⟩
 obtain⟨l1,l2,l3⟩:=tI cur.toList p x k n hp hk (by rw[hcl];omega) ht C1 C2 hC1 hC2
 have hd:((p.drop k).flatMap PV.cells).length=(n-k)*3:=by rw[aO _ PV.cells_len,List.length_drop,hp]
 have hg1:=bX w.heap.size x.cells (k*3) W0 cur h0 (by rw[PV.cells_len,hcs];omega)
 have hgr1:=bZ w.heap.size x.cells (k*3) W0
 rw[<-hC1]at hg1
 generalize W0.setCells w.heap.size (k*3) x.cells=W1 at*
 have hg2:=bX w.heap.size ((p.drop k).flatMap PV.cells) ((k+1)*3) W1.drew C1.toArray hg1 (by rw[List.size_toArray,l1,hcl,hd];omega)
 have hgr2:=bZ w.heap.size ((p.drop k).flatMap PV.cells) ((k+1)*3) W1.drew
 dsimp only at hg2
 rw[<-hC2]at hg2
 generalize W1.drew.setCells w.heap.size ((k+1)*3) ((p.drop k).flatMap PV.cells)=W2 at*
 refine⟨some ⟨w.heap.size,0,none⟩,G,rfl,⟨by rw[aO _ PV.cells_len];simp;omega,.inr ⟨w.heap.size,G,C2.toArray,rfl,hb,hg2,hG,hGm,by rw[List.size_toArray,l2,hcl],l3⟩⟩,?_,hG,hGm⟩
 have s1:w.grownBy W1 none:=⟨hgr1.os.trans hgr.os,hgr1.tape.trans hgr.tape,hgr1.output.trans hgr.output,Nat.le_trans hgr.size hgr1.size,λj hj hn=>(hgr1.block j (Nat.lt_of_lt_of_le hj hgr.size) (by simp;omega)).trans (hgr.block j hj hn)⟩
 exact⟨hgr2.os.trans s1.os,hgr2.tape.trans s1.tape,hgr2.output.trans s1.output,Nat.le_trans s1.size hgr2.size,λj hj hn=>(hgr2.block j (Nat.lt_of_lt_of_le hj s1.size) (by simp;omega)).trans (s1.block j hj (by simp))⟩
theorem tL (base n c k vb g:Nat) (p:List PV) (x:PV) (w:World) (cur:Array Value) (hb:base<=w.heap.size) (hg:w.heap[g]? =some (.cells cur 102 (0,0))) (hnc:n<=c) (ht:cur.toList.take (n*3)=p.flatMap PV.cells)
  (hp:p.length=n) (hn:n<=1000) (hk:k<n) (hroom:c<n+1) (hv:w.heap[vb]? =some (.cells x.cells.toArray 102 (0,0))):
  Calls prog 76 #[.slice (some ⟨g,0,none⟩) n c,.int .i64 (k:Nat),.slice (some ⟨vb,0,none⟩) 1 1] w (mB base n (some ⟨g,0,none⟩) c (p.take k++x::p.drop k) w):=by
 obtain⟨ip0,hip,hpz0,hpz1,hpz2⟩:=info_parts infoSnapI
 have hsz:(prog.info? 102).map (·.size)=some 3:=by rw[hip];simp[hpz1]
 have hd:((p.drop k).flatMap PV.cells).length=(n-k)*3:=by rw[aO _ PV.cells_len,List.length_drop,hp]
 have hgw:=(za hg)
 have hvw:=(za hv)
 have hcell:∀j v,(p.flatMap PV.cells)[j]? =some v->w.cell? ⟨g,j,none⟩=some v:= λj v hj=>by
  rw[cell_of_row _ _ _ _ _ _ hg,<-Array.getElem?_toList]
  rw[<-ht,List.getElem?_take]at hj
  split at hj
  ·exact hj
  ·cases hj
 have hold:(Builtin.firstCells ip0.size k (.slice (some ⟨g,0,none⟩) k c)).run prog w.drew=.ok ((p.take k).flatMap PV.cells).toArray w.drew:=by
  rw[hpz1]
  exact run_firstCells_some w.drew 3 k ⟨g,0,none⟩ k c ((p.take k).flatMap PV.cells) (by rw[aO _ PV.cells_len,List.length_take];omega) (λj v hj=>by
   rw[Addr.add_lit,Nat.zero_add]
   refine hcell j v ?_
   rw[<-kX,List.getElem?_take]at hj
   split at hj
   ·exact hj
   ·cases hj)
 have hik:k+(n+1-k)=n+1:=by omega
 have hkk:(n:Int)+1-(k:Int)=((n+1-k:Nat):Int):=by omega
 obtain⟨ROW,hROW⟩:∃ROW:Array Value,ROW=((p.take k).flatMap PV.cells).toArray++Builtin.zeroCells (Value.agg #[.string {data:=#[]},.int .i64 0,.slice none 0 0]).cells (n+1-k)++Builtin.zeroCells (Value.agg #[.string {data:=#[]},.int .i64 0,.slice none 0 0]).cells (grownCap w (n+1) c 102-(n+1)):=⟨_,rfl⟩
 have hrz:∀ty,(Builtin.append_ #[32,3] ty #[.slice (some ⟨g,0,none⟩) k c,.int .i64 ((n:Int)+1-(k:Int))]).run prog w=
   .ok (.slice (some ⟨w.heap.size,0,none⟩) (n+1) (grownCap w (n+1) c 102)) (w.drew.alloc (.cells ROW 102)):= λty=>by
  have h:=Lib.run_append_grow_zeros (P:=prog) w 32 3 ty 102 ip0 _ .i64 _ underlying32 underlying3 hip hpz0 (some ⟨g,0,none⟩) k c ((p.take k).flatMap PV.cells) hold (n+1-k) (by omega) (by rw[hpz1];omega) (by omega) (by omega) (by rw[hpz2];omega) (by
   rw[hpz2,hik];exact growslice_fits hroom (by omega))
  rw[hik]at h
  rw[hkk,hROW]
  exact h
 have hGn:n+1<=grownCap w (n+1) c 102:=grownCap_ge w _ _ _
 have hGm:grownCap w (n+1) c 102<=maxLen:=grownCap_le_maxLen w (n+1) c 102 (by unfold maxLen;omega)
 generalize grownCap w (n+1) c 102=G at*
 have htl:((p.take k).flatMap PV.cells).length=k*3:=by rw[aO _ PV.cells_len,List.length_take];omega
 have hRs:ROW.size=G*3:=by
  rw[hROW,Array.size_append,Array.size_append,List.size_toArray,ib,ib,htl];omega
 have hRt:ROW.toList.take (k*3)=(p.take k).flatMap PV.cells:=by
  rw[hROW,Array.toList_append,Array.toList_append,List.append_assoc,<-htl]
  exact List.take_left
 clear hROW
 obtain⟨W1,hW1⟩:∃W1,W1=w.drew.alloc (.cells ROW 102):=⟨_,rfl⟩
 have hN0:W1.heap[w.heap.size]? =some (.cells ROW 102 (0,0)):=by rw[hW1];exact heap_alloc_new w.drew _
 have hO:∀b j,b<w.heap.size->W1.cell? ⟨b,j,none⟩=w.cell? ⟨b,j,none⟩:= λb j hbl=>by rw[hW1];exact World.cell?_alloc_past (w:=w.drew) _ b j hbl
 have hcpA:∀(W:World),(∀x,W.cell? x=W1.cell? x)->(∀x,W.frozen? x=W1.frozen? x)->∀ty dc,(Builtin.copy_ #[32,32] ty #[.slice (some ⟨w.heap.size,k*3,none⟩) (n+1-k) dc,.slice (some ⟨vb,0,none⟩) 1 1]).run prog W=.ok (goInt (Nat.min 1 (n+1-k))) (W.setCells w.heap.size (k*3) x.cells):= λW hWc hWf ty dc=>
  kf W _ _ ty 102 3 w.heap.size (k*3) _ dc ⟨vb,0,none⟩ 1 1 x.cells underlying32 hsz (by rw[PV.cells_len];simp only[Nat.min_def];split<;>omega)
   (λj v hj=>by rw[Addr.add_lit,Nat.zero_add,hWc,hO vb j hvw,cell_of_row _ _ _ _ _ _ hv,List.getElem?_toArray];exact hj)
   (λj hj=>by rw[hWc];exact(dx hN0 (by rw[hRs];rw[PV.cells_len]at hj;omega)).1) (λj hj=>by rw[hWf];exact(dx hN0 (by rw[hRs];rw[PV.cells_len]at hj;omega)).2) (λu hu=>iT [x] u (by simpa using hu))
 have hg1:=bX w.heap.size x.cells (k*3) W1 ROW hN0 (by rw[PV.cells_len,hRs];omega)
 obtain⟨C1,hC1⟩:∃C1,C1=ROW.toList.take (k*3)++x.cells++ROW.toList.drop (k*3+x.cells.length):=⟨_,rfl⟩
 rw[<-hC1]at hg1
 have l1:C1.length=G*3:=by rw[hC1];simp only[List.length_append,List.length_take,List.length_drop,PV.cells_len,Array.length_toList,hRs];omega
 have hcpB:∀(W:World),(∀y,W.cell? y=(W1.setCells w.heap.size (k*3) x.cells).cell? y)->(∀y,W.frozen? y=(W1.setCells w.heap.size (k*3) x.cells).frozen? y)->∀ty dc sc,(Builtin.copy_ #[32,32] ty #[.slice (some ⟨w.heap.size,(k+1)*3,none⟩) (n-k) dc,.slice (some ⟨g,k*3,none⟩) (n-k) sc]).run prog W=.ok (goInt (Nat.min (n-k) (n-k))) (W.setCells w.heap.size ((k+1)*3) ((p.drop k).flatMap PV.cells)):= λW hWc hWf ty dc sc=>
  kf W _ _ ty 102 3 w.heap.size ((k+1)*3) _ dc ⟨g,k*3,none⟩ _ sc _ underlying32 hsz (by rw[hd];simp only[Nat.min_def];split<;>omega)
   (λj v hj=>by
    rw[Addr.add_lit,hWc,World.cell?_setCells_out _ _ _ _ _ (λh _=>absurd h (by simp;omega)),hO g _ hgw]
    refine hcell _ v ?_
    rw[<-iU,List.getElem?_drop]at hj
    exact hj)
   (λj hj=>by rw[hWc];exact(dx hg1 (by rw[List.size_toArray,l1];rw[hd]at hj;omega)).1) (λj hj=>by rw[hWf];exact(dx hg1 (by rw[List.size_toArray,l1];rw[hd]at hj;omega)).2) (iT _)
 subst hW1
 have hE1:∀y,((w.alloc (.cells ROW 102)).drew).cell? y=(w.drew.alloc (.cells ROW 102)).cell? y:= λy=>rfl
 have hE2:∀y,((w.alloc (.cells ROW 102)).drew).frozen? y=(w.drew.alloc (.cells ROW 102)).frozen? y:= λy=>rfl
 have hF1:∀y,(((w.alloc (.cells ROW 102)).drew.setCells w.heap.size (k*3) x.cells).drew).cell? y=((w.drew.alloc (.cells ROW 102)).setCells w.heap.size (k*3) x.cells).cell? y:= λy=>rfl
 have hF2:∀y,(((w.alloc (.cells ROW 102)).drew.setCells w.heap.size (k*3) x.cells).drew).frozen? y=((w.drew.alloc (.cells ROW 102)).setCells w.heap.size (k*3) x.cells).frozen? y:= λy=>rfl
 have HO:=zh (BE (base:=base) (A:=some ⟨g,0,none⟩) (c:=c) (x:=x) (W0:=(w.alloc (.cells ROW 102)).drew) (k:=k) (p:=p) hb (heap_alloc_new w _) ⟨rfl,rfl,rfl,by simp[World.size_alloc],λj hj _=>heap_alloc_old w _ hj⟩ hRs hGn hGm hp (by omega) hRt)
 have hG63:G<=9223372036854775807:=by unfold maxLen at hGm;exact hGm
 have hw1:IntKind.i64.wrap ((k:Int)+1)=(k:Int)+1:=by rw[IntKind.wrap_i64];omega
 have hb1:(0:Int)<=(k:Int)+1:=by omega
 have hin:k<=n:=by omega
 have htn:((k:Int)+1).toNat=k+1:=by omega
 have hb2:¬(G=k+1):=by omega
 have hb3:(k:Int)<=(n:Int):=by omega
 have hb4:¬(G=k):=by omega
 have hb5:(k:Int)<=(n:Int)+1:=by omega
 have hb6:¬(c=k):=by omega
 have hb7:(c:Int)<(n:Int)+1:=by omega
 have hb8:(k:Int)<=(c:Int):=by omega
 have hkn:¬((k:Int)=(n:Int)):=by omega
 clear hg hg1 hv hN0 hO hC1 l1 hRs hRt ht hd hcell hold hik hkk htl hGm hgw hvw
 go_enter func76,ntmps76
 go_wp2_with (first
  |(at_builtin;refine tK rfl _ _ _ _ _ rfl rfl rfl rfl (hrz _) ?_)
  |(at_builtin;refine mS rfl _ _ 32 32 _ rfl rfl rfl rfl (hcpA _ hE1 hE2 _ _) ?_))
 go_region_law (refine qg rfl _ _ 32 32 rfl (.slice (some ⟨w.heap.size,(k+1)*3,none⟩) (n-k) (G-(k+1))) (.slice (some ⟨g,k*3,none⟩) (n-k) (c-k)) (by simp[Act.eval,Act.put]) (by simp[Act.eval,Act.put]) (hcpB _ hF1 hF2 _ _ _) ?_)
 go_wp2_with fail
 go_ret
 exact HO.o
theorem vS (base n c k vb:Nat) (A:Option Addr) (p:List PV) (x:PV) (w:World) (ho:w.ownsRow base 102 3 (.slice A n c) n (p.flatMap PV.cells)) (hk:k<=n) (hn:n<=1000) (hnc:n<=c) (hb:base<=w.heap.size)
  (hv:w.heap[vb]? =some (.cells x.cells.toArray 102 (0,0))) (hne:(Value.slice A n c).ownBlock≠some vb):
  Calls prog 76 #[.slice A n c,.int .i64 (k:Nat),.slice (some ⟨vb,0,none⟩) 1 1] w (mB base n A c (p.take k++x::p.drop k) w):=by
 have hp:p.length=n:=by have:=ho.1;rw[aO _ PV.cells_len]at this;omega
 by_cases hkn:k=n
 ·subst hkn
  have e:p.take k++x::p.drop k=p++[x]:=by rw[List.take_of_length_le (by omega),List.drop_of_length_le (by omega)]
  rw[e]
  exact vR base k c vb A p x w ho hn hnc hb hv
 ·obtain⟨g,cur,rfl,h1,h2,h3,h4,h5,h6⟩:=kW ho (by omega)
  by_cases hroom:n+1<=c
  ·exact tJ base n c k vb g p x w cur h1 h2 h5 h4 h6 hp hn (by omega) hroom hv (λe=>hne (by simp[Value.ownBlock,e]))
  ·exact tL base n c k vb g p x w cur hb h2 hnc h6 hp hn (by omega) (by omega) hv
end
section
open Go.Proofs.Tryz
open Go.RowKit Sl
theorem ot (C:List Value) (p:List PV) (k n:Nat) (hp:p.length=n) (hk:k<n) (hC:n*3<=C.length) (ht:C.take (n*3)=p.flatMap PV.cells) (Z:List Value) (hZ:Z.length=3) (C1 C2:List Value)
  (h1:C1=C.take (k*3)++(p.drop (k+1)).flatMap PV.cells++C.drop (k*3+((p.drop (k+1)).flatMap PV.cells).length)) (h2:C2=C1.take ((n-1)*3)++Z++C1.drop ((n-1)*3+Z.length)):
  C1.length=C.length/\C2.length=C.length/\C2.take ((n-1)*3)=(p.eraseIdx k).flatMap PV.cells:=by
 have hd:((p.drop (k+1)).flatMap PV.cells).length=(n-(k+1))*3:=by rw[aO _ PV.cells_len,List.length_drop,hp]
 have l1:C1.length=C.length:=by rw[h1];simp only[List.length_append,List.length_take,List.length_drop,hd];omega
 have l2:C2.length=C.length:=by rw[h2];simp only[List.length_append,List.length_take,List.length_drop,hZ];omega
 refine⟨l1,l2,?_⟩
 have e0:C.take (k*3)=(p.take k).flatMap PV.cells:=by
  rw[<-kX,<-ht,List.take_take]
  congr 1;omega
 rw[h2,List.append_assoc,List.take_append_of_le_length (by rw[List.length_take];omega),List.take_take,Nat.min_self,h1,e0,List.eraseIdx_eq_take_drop_succ,List.flatMap_append]
 rw[show(n-1)*3=((p.take k).flatMap PV.cells++(p.drop (k+1)).flatMap PV.cells).length from by
  simp only[List.length_append,aO _ PV.cells_len,List.length_take,List.length_drop,hp];omega]
 exact List.take_left
theorem BG:∀W:World,(zeroValue 102).run prog W=.ok (.agg #[.string {data:=#[]},.int .i64 0,.slice none 0 0]) W:=by
 intro W
 obtain⟨ip0,hip,hpz0,hpz1,hpz2⟩:=info_parts infoSnapI
 simp[zeroValue,typeInfo,hip,hpz0]
def vT (base n:Nat) (A:Option Addr) (c:Nat) (p':List PV) (w:World) (e:Ending) (w':World):Prop:=
 e=.returned (.slice A (n-1) c)/\w'.ownsRow base 102 3 (.slice A (n-1) c) (n-1) (p'.flatMap PV.cells)/\w.grownBy w' (Value.slice A n c).ownBlock
theorem vU (base n c k g:Nat) (p:List PV) (w:World) (cur:Array Value) (hbg:base<=g) (hg:w.heap[g]? =some (.cells cur 102 (0,0))) (hnc:n<=c) (hcs:cur.size=c*3) (hcm:c<=maxLen) (ht:cur.toList.take (n*3)=p.flatMap PV.cells)
  (hp:p.length=n) (hn:n<=1000) (hk:k<n):
  Calls prog 79 #[.slice (some ⟨g,0,none⟩) n c,.int .i64 (k:Nat),.int .i64 ((k:Int)+1)] w (vT base n (some ⟨g,0,none⟩) c (p.eraseIdx k) w):=by
 obtain⟨ip0,hip,hpz0,hpz1,hpz2⟩:=info_parts infoSnapI
 have hd:((p.drop (k+1)).flatMap PV.cells).length=(n-(k+1))*3:=by rw[aO _ PV.cells_len,List.length_drop,hp]
 have hcl:cur.toList.length=c*3:=by rw[Array.length_toList,hcs]
 have hcell:∀j v,(p.flatMap PV.cells)[j]? =some v->w.cell? ⟨g,j,none⟩=some v:= λj v hj=>by
  rw[cell_of_row _ _ _ _ _ _ hg,<-Array.getElem?_toList]
  rw[<-ht,List.getElem?_take]at hj
  split at hj
  ·exact hj
  ·cases hj
 have hspare:Hid (∀j,j<((p.drop (k+1)).flatMap PV.cells).length->(w.drew.cell? ⟨g,0+k*3+j,none⟩).isSome=true/\w.drew.frozen? ⟨g,0+k*3+j,none⟩=false):=zh λj hj=>dx (w:=w) hg (by rw[hcs];omega)
 have hg1:=bX g ((p.drop (k+1)).flatMap PV.cells) (k*3) w.drew cur hg (by rw[hd,hcs];omega)
 have hgr1:=bZ g ((p.drop (k+1)).flatMap PV.cells) (k*3) w.drew
 obtain⟨W1,hW1⟩:∃W1,W1=w.drew.setCells g (k*3) ((p.drop (k+1)).flatMap PV.cells):=⟨_,rfl⟩
 rw[<-hW1]at hg1 hgr1
 have hW:Hid (w.drew.setCells g (0+k*3) ((p.drop (k+1)).flatMap PV.cells)=W1):=zh (by rw[Nat.zero_add];exact hW1.symm)
 clear hW1
 obtain⟨C1,hC1⟩:∃C1,C1=cur.toList.take (k*3)++(p.drop (k+1)).flatMap PV.cells++cur.toList.drop (k*3+((p.drop (k+1)).flatMap PV.cells).length):=⟨_,rfl⟩
 rw[<-hC1]at hg1
 obtain⟨Z,hZ⟩:∃Z:List Value,Z=(Builtin.zeroCells (Value.agg #[.string {data:=#[]},.int .i64 0,.slice none 0 0]).cells 1).toList:=⟨_,rfl⟩
 have hZl:Z.length=3:=by rw[hZ,Array.length_toList,ib]
 have hZ1:∀u∈Z,u.oneCell'=true:=by rw[hZ];exact zi 1
 obtain⟨C2,hC2⟩:∃C2,C2=C1.take ((n-1)*3)++Z++C1.drop ((n-1)*3+Z.length):=⟨_,rfl⟩
 obtain⟨l1,l2,l3⟩:=ot cur.toList p k n hp hk (by rw[hcl];omega) ht Z hZl C1 C2 hC1 hC2
 have hcl1:∀ty sc,(Builtin.clear_ #[32] ty #[.slice (some ⟨g,(n-1)*3,none⟩) 1 sc]).run prog W1=.ok (.tuple #[]) (W1.setCells g ((n-1)*3) Z):= λty sc=>
  vP W1 32 102 ty _ underlying32 BG g ((n-1)*3) 1 sc (by omega) Z hZ.symm hZ1
   (λj hj=>(dx hg1 (by rw[List.size_toArray,l1,hcl];omega)).1) (λj hj=>(dx hg1 (by rw[List.size_toArray,l1,hcl];omega)).2)
 have hg2:=bX g Z ((n-1)*3) W1 C1.toArray hg1 (by rw[List.size_toArray,l1,hcl];omega)
 have hgr2:=bZ g Z ((n-1)*3) W1
 dsimp only at hg2
 rw[<-hC2]at hg2
 have hgr:w.grownBy (W1.setCells g ((n-1)*3) Z) (some g):=World.grownBy.trans (show w.grownBy W1 (some g)from⟨hgr1.os,hgr1.tape,hgr1.output,hgr1.size,hgr1.block⟩) hgr2
 generalize W1.setCells g ((n-1)*3) Z=W2 at*
 have HO:=zh (show vT base n (some ⟨g,0,none⟩) c (p.eraseIdx k) w (.returned (.slice (some ⟨g,0,none⟩) (n-1) c)) W2 from
  ⟨rfl,⟨by rw[aO _ PV.cells_len,List.length_eraseIdx_of_lt (by omega),hp],.inr ⟨g,c,C2.toArray,rfl,hbg,hg2,by omega,hcm,by rw[List.size_toArray,l2,hcl],l3⟩⟩,hgr⟩)
 have s1:Hid (((p.drop (k+1)).flatMap PV.cells).length=(n-(k+1))*3):=zh hd
 have s3:Hid (∀u∈(p.drop (k+1)).flatMap PV.cells,u.oneCell'=true):=zh (iT _)
 obtain⟨A,hA,hsrc⟩:∃A:Addr,(if c=k+1 then some (⟨g,0,none⟩:Addr)else some ⟨g,(k+1)*3,none⟩)=some A/\Hid (∀j u,((p.drop (k+1)).flatMap PV.cells)[j]? =some u->w.drew.cell? (A.add j)=some u):=by
  by_cases h:c=k+1
  ·refine⟨⟨g,0,none⟩,by simp[h],zh λj u hu=>?_⟩
   have h0:((p.drop (k+1)).flatMap PV.cells).length=0:=by rw[hd];omega
   rw[List.length_eq_zero_iff.1 h0]at hu
   simp at hu
  ·refine⟨⟨g,(k+1)*3,none⟩,by simp[h],zh λj u hu=>?_⟩
   rw[Addr.add_lit]
   refine hcell _ u ?_
   rw[<-iU,List.getElem?_drop]at hu
   exact hu
 have hc63:c<=9223372036854775807:=by unfold maxLen at hcm;exact hcm
 have hw1:IntKind.i64.wrap ((k:Int)+1)=(k:Int)+1:=by rw[IntKind.wrap_i64];omega
 have hb1:(0:Int)<=(k:Int)+1:=by omega
 have htn:((k:Int)+1).toNat=k+1:=by omega
 have hb3:(k:Int)+1<=(n:Int):=by omega
 have hb4:¬((k:Int)=(k:Int)+1):=by omega
 have hb5:(n:Int)<=(c:Int):=by omega
 have hb6:(k:Int)<=(n:Int):=by omega
 have hb7:(k:Int)<=(k:Int)+1:=by omega
 have hkc:k<=c:=by omega
 have hn1:k+(n-(k+1))=n-1:=by omega
 have hn2:n-(n-1)=1:=by omega
 have hn3:¬(c=n-1):=by omega
 have hroom:k+(n-(k+1))<=c:=by omega
 clear hg hg1 hg2 hgr1 hgr2 hgr l1 l2 l3 hC1 hC2 ht hd hcl hbg hcm hcs hcell hZ hZl hZ1
 go_enter func79,ntmps79
 go_wp2_with fail
 go_region_law (refine step_append_room rfl (.tmp 22) (.tmp 25) 32 rfl 102 ip0 3 underlying32 hip hpz1 g 0 k c (by simp[Act.eval,Act.put]) A (n-(k+1)) (c-(k+1)) _ (by simp[Act.eval,Act.put]) s1.o hsrc.o s3.o hroom hspare.o ?_;rw[hW.o,hn1])
 go_wp2_with (at_builtin;refine tH rfl _ 32 _ rfl rfl rfl (hcl1 _ _) ?_)
 go_ret
 exact HO.o
end
end Go.Proofs.YtdbneghfbkjinaaGreatDoor
