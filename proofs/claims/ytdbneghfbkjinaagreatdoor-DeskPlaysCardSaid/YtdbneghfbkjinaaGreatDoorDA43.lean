/- Texts of the proof of deskPlays_holds: StkF. Conditions: as each text says. -/
import Derived.Test.YtdbneghfbkjinaaGreatDoorDA1
import Derived.Test.YtdbneghfbkjinaaGreatDoorDA28
set_option maxRecDepth 100000
set_option maxHeartbeats 2000000
namespace Go.Proofs.YtdbneghfbkjinaaGreatDoor
open Go.Proofs.Tryz
open Go.RowKit Sl
def FreshB (W:World) (a b c n:Nat):Prop:=
 W.heap[a]? =some (.cells (ah (List.replicate n 0)).toArray 3 (0,0))/\W.heap[b]? =some (.cells #[.int .i64 0,.string {data:=#[]},.slice none 0 0] 108 (0,0))/\W.heap[c]? =some (.cells #[.int .i64 0] 3 (0,0))
theorem gJ {w:World} {base g n size:Nat} {e:TypeId} {cs:List Value} (hg:w.heap[g]? =some (.cells cs.toArray e (0,0))) (hb:base<=g) (hn:cs.length=n*size) (hm:n<=maxLen):w.ownsRow base e size (.slice (some ⟨g,0,none⟩) n n) n cs:=
 ⟨by omega,Or.inr ⟨g,n,cs.toArray,rfl,hb,hg,Nat.le_refl _,hm,by simp[hn],by rw[List.take_of_length_le];simp[hn]⟩⟩
theorem FreshB.own {W:World} {base a b c n:Nat} {g:Int} (h:FreshB W a b c n) (hn:(a6 g).toNat=n) (h4:n<=4) (ha:base<=a) (hb:base<=b) (hc:base<=c) (hac:a≠c):
  Fresh W base ⟨some ⟨a,0,none⟩,n,n,some ⟨b,0,none⟩,1,1,some ⟨c,0,none⟩,1,1,none,0,0⟩ (aG g):=by
 obtain⟨h1,h2,h3⟩:=h
 have o1:W.ownsRow base 3 1 (.slice (some ⟨a,0,none⟩) n n) n (ah (List.replicate n 0)):=gJ h1 ha (by simp[ah]) (by unfold maxLen;omega)
 have o3:W.ownsRow base 3 1 (.slice (some ⟨c,0,none⟩) 1 1) 1 (ah [0]):=gJ (cs:=[.int .i64 0]) h3 hc rfl (by decide)
 have o2:W.ownsRow base 108 3 (.slice (some ⟨b,0,none⟩) 1 1) 1 ([freeSV].flatMap SV.cells):=gJ (cs:=[.int .i64 0,.string {data:=#[]},.slice none 0 0]) h2 hb rfl (by decide)
 refine .inr ⟨base,λx=>if x=a then 0 else 1,[freeSV],[],Nat.le_refl _,?_,?_,o2,Nat.le_refl _,by dsimp only;decide,World.ownsRow_nil _ _ _ _,Nat.le_refl _,by dsimp only;decide,rfl,rfl,?_,?_⟩
 ·refine⟨Nat.le_refl _,by dsimp only;omega,.inr ⟨?_,λx e=>?_⟩⟩
  ·have e:(aG g).root=List.replicate n 0:=by unfold aG;rw[hn]
   rw[e];exact o1
  ·simp only[Value.ownBlock,Option.some.injEq]at e
   subst e;exact if_pos rfl
 ·refine⟨Nat.le_refl _,by dsimp only;decide,.inr ⟨o3,λx e=>?_⟩⟩
  simp only[Value.ownBlock,Option.some.injEq]at e
  subst e;exact if_neg (λe=>hac e.symm)
 ·intro k x hx
  have hk:k=0:=by have:=(zl hx);simp at this;omega
  subst hk
  have hx:freeSV=x:=by simpa using hx
  subst hx
  exact⟨by decide,TabO.nil⟩
 ·intro k x hx;simp at hx
theorem qh (W:World) (cX cY cZ:Array Value) (tX tY tZ:TypeId):(((W.alloc (.cells cX tX)).alloc (.cells cY tY)).alloc (.cells cZ tZ)).drew.heap[W.heap.size]? =some (.cells cX tX (0,0))/\
  (((W.alloc (.cells cX tX)).alloc (.cells cY tY)).alloc (.cells cZ tZ)).drew.heap[W.heap.size+1]? =some (.cells cY tY (0,0))/\(((W.alloc (.cells cX tX)).alloc (.cells cY tY)).alloc (.cells cZ tZ)).drew.heap[W.heap.size+1+1]? =some (.cells cZ tZ (0,0))/\
  Below W.heap.size W (((W.alloc (.cells cX tX)).alloc (.cells cY tY)).alloc (.cells cZ tZ)).drew:=by
 have s1:(W.alloc (.cells cX tX)).heap.size=W.heap.size+1:=World.size_alloc _ _
 have s2:((W.alloc (.cells cX tX)).alloc (.cells cY tY)).heap.size=W.heap.size+1+1:=by rw[World.size_alloc,s1]
 have b1:=ac W (.cells cX tX)
 have b2:=ac (W.alloc (.cells cX tX)) (.cells cY tY)
 have b3:=ac ((W.alloc (.cells cX tX)).alloc (.cells cY tY)) (.cells cZ tZ)
 refine⟨?_,?_,?_,(aa (aa b1 b2) b3).drew⟩
 ·exact(b3.block _ (by omega)).trans ((b2.block _ (by omega)).trans (heap_alloc_new W _))
 ·rw[<-s1];exact(b3.block _ (by omega)).trans (heap_alloc_new _ _)
 ·rw[<-s2];exact heap_alloc_new _ _
def fM (w wa:World) (g:Int) (n:Nat):World:=((((((((wa.setCell ⟨w.heap.size,0,none⟩ (.int .i64 g)).setCell ⟨w.heap.size,1,none⟩ (.slice (some ⟨w.heap.size+1,0,none⟩) n n)).setCell ⟨w.heap.size,2,none⟩ (.slice (some ⟨w.heap.size+1+1,0,none⟩) 1 1)).setCell ⟨w.heap.size,3,none⟩ (.slice (some ⟨w.heap.size+1+1+1,0,none⟩) 1 1)).setCell ⟨w.heap.size,4,none⟩ (.slice none 0 0)).alloc (.cells (ah (List.replicate n 0)).toArray 3)).alloc (.cells #[.int .i64 0,.string {data:=#[]},.slice none 0 0] 108)).alloc (.cells #[.int .i64 0] 3)).drew
theorem lS (w wa:World) (g:Int) (n:Nat):((((((((wa.setCell ⟨w.heap.size,0,none⟩ (.int .i64 g)).setCell ⟨w.heap.size,1,none⟩ (.slice (some ⟨w.heap.size+1,0,none⟩) n n)).setCell ⟨w.heap.size,2,none⟩ (.slice (some ⟨w.heap.size+1+1,0,none⟩) 1 1)).setCell ⟨w.heap.size,3,none⟩ (.slice (some ⟨w.heap.size+1+1+1,0,none⟩) 1 1)).setCell ⟨w.heap.size,4,none⟩ (.slice none 0 0)).alloc (.cells (ah (List.replicate n 0)).toArray 3)).alloc (.cells #[.int .i64 0,.string {data:=#[]},.slice none 0 0] 108)).alloc (.cells #[.int .i64 0] 3)).drew=fM w wa g n:=rfl
theorem qi {w wa:World} {g:Int} {n:Nat} (hz:ZB wa w.heap.size) (hb:Below w.heap.size w wa) (hs:wa.heap.size=w.heap.size+1) (hn:(a6 g).toNat=n) (h4:n<=4):
  Box (fM w wa g n) w.heap.size g ⟨some ⟨w.heap.size+1,0,none⟩,n,n,some ⟨w.heap.size+1+1,0,none⟩,1,1,some ⟨w.heap.size+1+1+1,0,none⟩,1,1,none,0,0⟩/\Fresh (fM w wa g n) w.heap.size ⟨some ⟨w.heap.size+1,0,none⟩,n,n,some ⟨w.heap.size+1+1,0,none⟩,1,1,some ⟨w.heap.size+1+1+1,0,none⟩,1,1,none,0,0⟩ (aG g)/\Below w.heap.size w (fM w wa g n):=by
 unfold fM
 have h5:=dr hz.box.1 hz.box.2 g ⟨some ⟨w.heap.size+1,0,none⟩,n,n,some ⟨w.heap.size+1+1,0,none⟩,1,1,some ⟨w.heap.size+1+1+1,0,none⟩,1,1,none,0,0⟩
 dsimp only at h5
 have hs5:(((((wa.setCell ⟨w.heap.size,0,none⟩ (.int .i64 g)).setCell ⟨w.heap.size,1,none⟩ (.slice (some ⟨w.heap.size+1,0,none⟩) n n)).setCell ⟨w.heap.size,2,none⟩ (.slice (some ⟨w.heap.size+1+1,0,none⟩) 1 1)).setCell ⟨w.heap.size,3,none⟩ (.slice (some ⟨w.heap.size+1+1+1,0,none⟩) 1 1)).setCell ⟨w.heap.size,4,none⟩ (.slice none 0 0)).heap.size=wa.heap.size:=by simp[World.setCell]
 have hb5:=hb.grown h5.2.2 (by omega) (λj e=>by injection e with e;omega)
 have hx:=h5.1
 clear h5
 generalize (((((wa.setCell ⟨w.heap.size,0,none⟩ (.int .i64 g)).setCell ⟨w.heap.size,1,none⟩ (.slice (some ⟨w.heap.size+1,0,none⟩) n n)).setCell ⟨w.heap.size,2,none⟩ (.slice (some ⟨w.heap.size+1+1,0,none⟩) 1 1)).setCell ⟨w.heap.size,3,none⟩ (.slice (some ⟨w.heap.size+1+1+1,0,none⟩) 1 1)).setCell ⟨w.heap.size,4,none⟩ (.slice none 0 0))=W5 at*
 rw[hs]at hs5
 obtain⟨t1,t2,t3,tb⟩:=qh W5 (ah (List.replicate n 0)).toArray #[.int .i64 0,.string {data:=#[]},.slice none 0 0] #[.int .i64 0] 3 108 3
 rw[hs5]at t1 t2 t3
 exact⟨hx.keep tb (by omega),(show FreshB _ (w.heap.size+1) (w.heap.size+1+1) (w.heap.size+1+1+1) n from⟨t1,t2,t3⟩).own hn h4 (by omega) (by omega) (by omega) (by omega),hb5.trans (tb.mono (by omega))⟩
def fN (w wa:World) (g:Int) (n:Nat):World:=((((((((wa.setCell ⟨w.heap.size,0,none⟩ (.int .i64 g)).setCell ⟨w.heap.size,1,none⟩ (.slice (some ⟨w.heap.size+1,0,none⟩) n n)).setCell ⟨w.heap.size,2,none⟩ (.slice (some ⟨w.heap.size+1+1+1,0,none⟩) 1 1)).setCell ⟨w.heap.size,3,none⟩ (.slice (some ⟨w.heap.size+1+1,0,none⟩) 1 1)).setCell ⟨w.heap.size,4,none⟩ (.slice none 0 0)).alloc (.cells (ah (List.replicate n 0)).toArray 3)).alloc (.cells #[.int .i64 0] 3)).alloc (.cells #[.int .i64 0,.string {data:=#[]},.slice none 0 0] 108)).drew
theorem lT (w wa:World) (g:Int) (n:Nat):((((((((wa.setCell ⟨w.heap.size,0,none⟩ (.int .i64 g)).setCell ⟨w.heap.size,1,none⟩ (.slice (some ⟨w.heap.size+1,0,none⟩) n n)).setCell ⟨w.heap.size,2,none⟩ (.slice (some ⟨w.heap.size+1+1+1,0,none⟩) 1 1)).setCell ⟨w.heap.size,3,none⟩ (.slice (some ⟨w.heap.size+1+1,0,none⟩) 1 1)).setCell ⟨w.heap.size,4,none⟩ (.slice none 0 0)).alloc (.cells (ah (List.replicate n 0)).toArray 3)).alloc (.cells #[.int .i64 0] 3)).alloc (.cells #[.int .i64 0,.string {data:=#[]},.slice none 0 0] 108)).drew=fN w wa g n:=rfl
theorem qj {w wa:World} {g:Int} {n:Nat} (hz:ZB wa w.heap.size) (hb:Below w.heap.size w wa) (hs:wa.heap.size=w.heap.size+1) (hn:(a6 g).toNat=n) (h4:n<=4):
  Box (fN w wa g n) w.heap.size g ⟨some ⟨w.heap.size+1,0,none⟩,n,n,some ⟨w.heap.size+1+1+1,0,none⟩,1,1,some ⟨w.heap.size+1+1,0,none⟩,1,1,none,0,0⟩/\Fresh (fN w wa g n) w.heap.size ⟨some ⟨w.heap.size+1,0,none⟩,n,n,some ⟨w.heap.size+1+1+1,0,none⟩,1,1,some ⟨w.heap.size+1+1,0,none⟩,1,1,none,0,0⟩ (aG g)/\Below w.heap.size w (fN w wa g n):=by
 unfold fN
 have h5:=dr hz.box.1 hz.box.2 g ⟨some ⟨w.heap.size+1,0,none⟩,n,n,some ⟨w.heap.size+1+1+1,0,none⟩,1,1,some ⟨w.heap.size+1+1,0,none⟩,1,1,none,0,0⟩
 dsimp only at h5
 have hs5:(((((wa.setCell ⟨w.heap.size,0,none⟩ (.int .i64 g)).setCell ⟨w.heap.size,1,none⟩ (.slice (some ⟨w.heap.size+1,0,none⟩) n n)).setCell ⟨w.heap.size,2,none⟩ (.slice (some ⟨w.heap.size+1+1+1,0,none⟩) 1 1)).setCell ⟨w.heap.size,3,none⟩ (.slice (some ⟨w.heap.size+1+1,0,none⟩) 1 1)).setCell ⟨w.heap.size,4,none⟩ (.slice none 0 0)).heap.size=wa.heap.size:=by simp[World.setCell]
 have hb5:=hb.grown h5.2.2 (by omega) (λj e=>by injection e with e;omega)
 have hx:=h5.1
 clear h5
 generalize (((((wa.setCell ⟨w.heap.size,0,none⟩ (.int .i64 g)).setCell ⟨w.heap.size,1,none⟩ (.slice (some ⟨w.heap.size+1,0,none⟩) n n)).setCell ⟨w.heap.size,2,none⟩ (.slice (some ⟨w.heap.size+1+1+1,0,none⟩) 1 1)).setCell ⟨w.heap.size,3,none⟩ (.slice (some ⟨w.heap.size+1+1,0,none⟩) 1 1)).setCell ⟨w.heap.size,4,none⟩ (.slice none 0 0))=W5 at*
 rw[hs]at hs5
 obtain⟨t1,t2,t3,tb⟩:=qh W5 (ah (List.replicate n 0)).toArray #[.int .i64 0] #[.int .i64 0,.string {data:=#[]},.slice none 0 0] 3 3 108
 rw[hs5]at t1 t2 t3
 exact⟨hx.keep tb (by omega),(show FreshB _ (w.heap.size+1) (w.heap.size+1+1+1) (w.heap.size+1+1) n from⟨t1,t3,t2⟩).own hn h4 (by omega) (by omega) (by omega) (by omega),hb5.trans (tb.mono (by omega))⟩
def fO (w wa:World) (g:Int) (n:Nat):World:=((((((((wa.setCell ⟨w.heap.size,0,none⟩ (.int .i64 g)).setCell ⟨w.heap.size,1,none⟩ (.slice (some ⟨w.heap.size+1+1,0,none⟩) n n)).setCell ⟨w.heap.size,2,none⟩ (.slice (some ⟨w.heap.size+1,0,none⟩) 1 1)).setCell ⟨w.heap.size,3,none⟩ (.slice (some ⟨w.heap.size+1+1+1,0,none⟩) 1 1)).setCell ⟨w.heap.size,4,none⟩ (.slice none 0 0)).alloc (.cells #[.int .i64 0,.string {data:=#[]},.slice none 0 0] 108)).alloc (.cells (ah (List.replicate n 0)).toArray 3)).alloc (.cells #[.int .i64 0] 3)).drew
theorem lU (w wa:World) (g:Int) (n:Nat):((((((((wa.setCell ⟨w.heap.size,0,none⟩ (.int .i64 g)).setCell ⟨w.heap.size,1,none⟩ (.slice (some ⟨w.heap.size+1+1,0,none⟩) n n)).setCell ⟨w.heap.size,2,none⟩ (.slice (some ⟨w.heap.size+1,0,none⟩) 1 1)).setCell ⟨w.heap.size,3,none⟩ (.slice (some ⟨w.heap.size+1+1+1,0,none⟩) 1 1)).setCell ⟨w.heap.size,4,none⟩ (.slice none 0 0)).alloc (.cells #[.int .i64 0,.string {data:=#[]},.slice none 0 0] 108)).alloc (.cells (ah (List.replicate n 0)).toArray 3)).alloc (.cells #[.int .i64 0] 3)).drew=fO w wa g n:=rfl
theorem qk {w wa:World} {g:Int} {n:Nat} (hz:ZB wa w.heap.size) (hb:Below w.heap.size w wa) (hs:wa.heap.size=w.heap.size+1) (hn:(a6 g).toNat=n) (h4:n<=4):
  Box (fO w wa g n) w.heap.size g ⟨some ⟨w.heap.size+1+1,0,none⟩,n,n,some ⟨w.heap.size+1,0,none⟩,1,1,some ⟨w.heap.size+1+1+1,0,none⟩,1,1,none,0,0⟩/\Fresh (fO w wa g n) w.heap.size ⟨some ⟨w.heap.size+1+1,0,none⟩,n,n,some ⟨w.heap.size+1,0,none⟩,1,1,some ⟨w.heap.size+1+1+1,0,none⟩,1,1,none,0,0⟩ (aG g)/\Below w.heap.size w (fO w wa g n):=by
 unfold fO
 have h5:=dr hz.box.1 hz.box.2 g ⟨some ⟨w.heap.size+1+1,0,none⟩,n,n,some ⟨w.heap.size+1,0,none⟩,1,1,some ⟨w.heap.size+1+1+1,0,none⟩,1,1,none,0,0⟩
 dsimp only at h5
 have hs5:(((((wa.setCell ⟨w.heap.size,0,none⟩ (.int .i64 g)).setCell ⟨w.heap.size,1,none⟩ (.slice (some ⟨w.heap.size+1+1,0,none⟩) n n)).setCell ⟨w.heap.size,2,none⟩ (.slice (some ⟨w.heap.size+1,0,none⟩) 1 1)).setCell ⟨w.heap.size,3,none⟩ (.slice (some ⟨w.heap.size+1+1+1,0,none⟩) 1 1)).setCell ⟨w.heap.size,4,none⟩ (.slice none 0 0)).heap.size=wa.heap.size:=by simp[World.setCell]
 have hb5:=hb.grown h5.2.2 (by omega) (λj e=>by injection e with e;omega)
 have hx:=h5.1
 clear h5
 generalize (((((wa.setCell ⟨w.heap.size,0,none⟩ (.int .i64 g)).setCell ⟨w.heap.size,1,none⟩ (.slice (some ⟨w.heap.size+1+1,0,none⟩) n n)).setCell ⟨w.heap.size,2,none⟩ (.slice (some ⟨w.heap.size+1,0,none⟩) 1 1)).setCell ⟨w.heap.size,3,none⟩ (.slice (some ⟨w.heap.size+1+1+1,0,none⟩) 1 1)).setCell ⟨w.heap.size,4,none⟩ (.slice none 0 0))=W5 at*
 rw[hs]at hs5
 obtain⟨t1,t2,t3,tb⟩:=qh W5 #[.int .i64 0,.string {data:=#[]},.slice none 0 0] (ah (List.replicate n 0)).toArray #[.int .i64 0] 108 3 3
 rw[hs5]at t1 t2 t3
 exact⟨hx.keep tb (by omega),(show FreshB _ (w.heap.size+1+1) (w.heap.size+1) (w.heap.size+1+1+1) n from⟨t2,t1,t3⟩).own hn h4 (by omega) (by omega) (by omega) (by omega),hb5.trans (tb.mono (by omega))⟩
def fP (w wa:World) (g:Int) (n:Nat):World:=((((((((wa.setCell ⟨w.heap.size,0,none⟩ (.int .i64 g)).setCell ⟨w.heap.size,1,none⟩ (.slice (some ⟨w.heap.size+1+1+1,0,none⟩) n n)).setCell ⟨w.heap.size,2,none⟩ (.slice (some ⟨w.heap.size+1,0,none⟩) 1 1)).setCell ⟨w.heap.size,3,none⟩ (.slice (some ⟨w.heap.size+1+1,0,none⟩) 1 1)).setCell ⟨w.heap.size,4,none⟩ (.slice none 0 0)).alloc (.cells #[.int .i64 0,.string {data:=#[]},.slice none 0 0] 108)).alloc (.cells #[.int .i64 0] 3)).alloc (.cells (ah (List.replicate n 0)).toArray 3)).drew
theorem lV (w wa:World) (g:Int) (n:Nat):((((((((wa.setCell ⟨w.heap.size,0,none⟩ (.int .i64 g)).setCell ⟨w.heap.size,1,none⟩ (.slice (some ⟨w.heap.size+1+1+1,0,none⟩) n n)).setCell ⟨w.heap.size,2,none⟩ (.slice (some ⟨w.heap.size+1,0,none⟩) 1 1)).setCell ⟨w.heap.size,3,none⟩ (.slice (some ⟨w.heap.size+1+1,0,none⟩) 1 1)).setCell ⟨w.heap.size,4,none⟩ (.slice none 0 0)).alloc (.cells #[.int .i64 0,.string {data:=#[]},.slice none 0 0] 108)).alloc (.cells #[.int .i64 0] 3)).alloc (.cells (ah (List.replicate n 0)).toArray 3)).drew=fP w wa g n:=rfl
theorem qm {w wa:World} {g:Int} {n:Nat} (hz:ZB wa w.heap.size) (hb:Below w.heap.size w wa) (hs:wa.heap.size=w.heap.size+1) (hn:(a6 g).toNat=n) (h4:n<=4):
  Box (fP w wa g n) w.heap.size g ⟨some ⟨w.heap.size+1+1+1,0,none⟩,n,n,some ⟨w.heap.size+1,0,none⟩,1,1,some ⟨w.heap.size+1+1,0,none⟩,1,1,none,0,0⟩/\Fresh (fP w wa g n) w.heap.size ⟨some ⟨w.heap.size+1+1+1,0,none⟩,n,n,some ⟨w.heap.size+1,0,none⟩,1,1,some ⟨w.heap.size+1+1,0,none⟩,1,1,none,0,0⟩ (aG g)/\Below w.heap.size w (fP w wa g n):=by
 unfold fP
 have h5:=dr hz.box.1 hz.box.2 g ⟨some ⟨w.heap.size+1+1+1,0,none⟩,n,n,some ⟨w.heap.size+1,0,none⟩,1,1,some ⟨w.heap.size+1+1,0,none⟩,1,1,none,0,0⟩
 dsimp only at h5
 have hs5:(((((wa.setCell ⟨w.heap.size,0,none⟩ (.int .i64 g)).setCell ⟨w.heap.size,1,none⟩ (.slice (some ⟨w.heap.size+1+1+1,0,none⟩) n n)).setCell ⟨w.heap.size,2,none⟩ (.slice (some ⟨w.heap.size+1,0,none⟩) 1 1)).setCell ⟨w.heap.size,3,none⟩ (.slice (some ⟨w.heap.size+1+1,0,none⟩) 1 1)).setCell ⟨w.heap.size,4,none⟩ (.slice none 0 0)).heap.size=wa.heap.size:=by simp[World.setCell]
 have hb5:=hb.grown h5.2.2 (by omega) (λj e=>by injection e with e;omega)
 have hx:=h5.1
 clear h5
 generalize (((((wa.setCell ⟨w.heap.size,0,none⟩ (.int .i64 g)).setCell ⟨w.heap.size,1,none⟩ (.slice (some ⟨w.heap.size+1+1+1,0,none⟩) n n)).setCell ⟨w.heap.size,2,none⟩ (.slice (some ⟨w.heap.size+1,0,none⟩) 1 1)).setCell ⟨w.heap.size,3,none⟩ (.slice (some ⟨w.heap.size+1+1,0,none⟩) 1 1)).setCell ⟨w.heap.size,4,none⟩ (.slice none 0 0))=W5 at*
 rw[hs]at hs5
 obtain⟨t1,t2,t3,tb⟩:=qh W5 #[.int .i64 0,.string {data:=#[]},.slice none 0 0] #[.int .i64 0] (ah (List.replicate n 0)).toArray 108 3 3
 rw[hs5]at t1 t2 t3
 exact⟨hx.keep tb (by omega),(show FreshB _ (w.heap.size+1+1+1) (w.heap.size+1) (w.heap.size+1+1) n from⟨t3,t1,t2⟩).own hn h4 (by omega) (by omega) (by omega) (by omega),hb5.trans (tb.mono (by omega))⟩
def fQ (w wa:World) (g:Int) (n:Nat):World:=((((((((wa.setCell ⟨w.heap.size,0,none⟩ (.int .i64 g)).setCell ⟨w.heap.size,1,none⟩ (.slice (some ⟨w.heap.size+1+1,0,none⟩) n n)).setCell ⟨w.heap.size,2,none⟩ (.slice (some ⟨w.heap.size+1+1+1,0,none⟩) 1 1)).setCell ⟨w.heap.size,3,none⟩ (.slice (some ⟨w.heap.size+1,0,none⟩) 1 1)).setCell ⟨w.heap.size,4,none⟩ (.slice none 0 0)).alloc (.cells #[.int .i64 0] 3)).alloc (.cells (ah (List.replicate n 0)).toArray 3)).alloc (.cells #[.int .i64 0,.string {data:=#[]},.slice none 0 0] 108)).drew
theorem lW (w wa:World) (g:Int) (n:Nat):((((((((wa.setCell ⟨w.heap.size,0,none⟩ (.int .i64 g)).setCell ⟨w.heap.size,1,none⟩ (.slice (some ⟨w.heap.size+1+1,0,none⟩) n n)).setCell ⟨w.heap.size,2,none⟩ (.slice (some ⟨w.heap.size+1+1+1,0,none⟩) 1 1)).setCell ⟨w.heap.size,3,none⟩ (.slice (some ⟨w.heap.size+1,0,none⟩) 1 1)).setCell ⟨w.heap.size,4,none⟩ (.slice none 0 0)).alloc (.cells #[.int .i64 0] 3)).alloc (.cells (ah (List.replicate n 0)).toArray 3)).alloc (.cells #[.int .i64 0,.string {data:=#[]},.slice none 0 0] 108)).drew=fQ w wa g n:=rfl
theorem qo {w wa:World} {g:Int} {n:Nat} (hz:ZB wa w.heap.size) (hb:Below w.heap.size w wa) (hs:wa.heap.size=w.heap.size+1) (hn:(a6 g).toNat=n) (h4:n<=4):
  Box (fQ w wa g n) w.heap.size g ⟨some ⟨w.heap.size+1+1,0,none⟩,n,n,some ⟨w.heap.size+1+1+1,0,none⟩,1,1,some ⟨w.heap.size+1,0,none⟩,1,1,none,0,0⟩/\Fresh (fQ w wa g n) w.heap.size ⟨some ⟨w.heap.size+1+1,0,none⟩,n,n,some ⟨w.heap.size+1+1+1,0,none⟩,1,1,some ⟨w.heap.size+1,0,none⟩,1,1,none,0,0⟩ (aG g)/\Below w.heap.size w (fQ w wa g n):=by
 unfold fQ
 have h5:=dr hz.box.1 hz.box.2 g ⟨some ⟨w.heap.size+1+1,0,none⟩,n,n,some ⟨w.heap.size+1+1+1,0,none⟩,1,1,some ⟨w.heap.size+1,0,none⟩,1,1,none,0,0⟩
 dsimp only at h5
 have hs5:(((((wa.setCell ⟨w.heap.size,0,none⟩ (.int .i64 g)).setCell ⟨w.heap.size,1,none⟩ (.slice (some ⟨w.heap.size+1+1,0,none⟩) n n)).setCell ⟨w.heap.size,2,none⟩ (.slice (some ⟨w.heap.size+1+1+1,0,none⟩) 1 1)).setCell ⟨w.heap.size,3,none⟩ (.slice (some ⟨w.heap.size+1,0,none⟩) 1 1)).setCell ⟨w.heap.size,4,none⟩ (.slice none 0 0)).heap.size=wa.heap.size:=by simp[World.setCell]
 have hb5:=hb.grown h5.2.2 (by omega) (λj e=>by injection e with e;omega)
 have hx:=h5.1
 clear h5
 generalize (((((wa.setCell ⟨w.heap.size,0,none⟩ (.int .i64 g)).setCell ⟨w.heap.size,1,none⟩ (.slice (some ⟨w.heap.size+1+1,0,none⟩) n n)).setCell ⟨w.heap.size,2,none⟩ (.slice (some ⟨w.heap.size+1+1+1,0,none⟩) 1 1)).setCell ⟨w.heap.size,3,none⟩ (.slice (some ⟨w.heap.size+1,0,none⟩) 1 1)).setCell ⟨w.heap.size,4,none⟩ (.slice none 0 0))=W5 at*
 rw[hs]at hs5
 obtain⟨t1,t2,t3,tb⟩:=qh W5 #[.int .i64 0] (ah (List.replicate n 0)).toArray #[.int .i64 0,.string {data:=#[]},.slice none 0 0] 3 3 108
 rw[hs5]at t1 t2 t3
 exact⟨hx.keep tb (by omega),(show FreshB _ (w.heap.size+1+1) (w.heap.size+1+1+1) (w.heap.size+1) n from⟨t2,t3,t1⟩).own hn h4 (by omega) (by omega) (by omega) (by omega),hb5.trans (tb.mono (by omega))⟩
def fR (w wa:World) (g:Int) (n:Nat):World:=((((((((wa.setCell ⟨w.heap.size,0,none⟩ (.int .i64 g)).setCell ⟨w.heap.size,1,none⟩ (.slice (some ⟨w.heap.size+1+1+1,0,none⟩) n n)).setCell ⟨w.heap.size,2,none⟩ (.slice (some ⟨w.heap.size+1+1,0,none⟩) 1 1)).setCell ⟨w.heap.size,3,none⟩ (.slice (some ⟨w.heap.size+1,0,none⟩) 1 1)).setCell ⟨w.heap.size,4,none⟩ (.slice none 0 0)).alloc (.cells #[.int .i64 0] 3)).alloc (.cells #[.int .i64 0,.string {data:=#[]},.slice none 0 0] 108)).alloc (.cells (ah (List.replicate n 0)).toArray 3)).drew
theorem lX (w wa:World) (g:Int) (n:Nat):((((((((wa.setCell ⟨w.heap.size,0,none⟩ (.int .i64 g)).setCell ⟨w.heap.size,1,none⟩ (.slice (some ⟨w.heap.size+1+1+1,0,none⟩) n n)).setCell ⟨w.heap.size,2,none⟩ (.slice (some ⟨w.heap.size+1+1,0,none⟩) 1 1)).setCell ⟨w.heap.size,3,none⟩ (.slice (some ⟨w.heap.size+1,0,none⟩) 1 1)).setCell ⟨w.heap.size,4,none⟩ (.slice none 0 0)).alloc (.cells #[.int .i64 0] 3)).alloc (.cells #[.int .i64 0,.string {data:=#[]},.slice none 0 0] 108)).alloc (.cells (ah (List.replicate n 0)).toArray 3)).drew=fR w wa g n:=rfl
theorem qp {w wa:World} {g:Int} {n:Nat} (hz:ZB wa w.heap.size) (hb:Below w.heap.size w wa) (hs:wa.heap.size=w.heap.size+1) (hn:(a6 g).toNat=n) (h4:n<=4):
  Box (fR w wa g n) w.heap.size g ⟨some ⟨w.heap.size+1+1+1,0,none⟩,n,n,some ⟨w.heap.size+1+1,0,none⟩,1,1,some ⟨w.heap.size+1,0,none⟩,1,1,none,0,0⟩/\Fresh (fR w wa g n) w.heap.size ⟨some ⟨w.heap.size+1+1+1,0,none⟩,n,n,some ⟨w.heap.size+1+1,0,none⟩,1,1,some ⟨w.heap.size+1,0,none⟩,1,1,none,0,0⟩ (aG g)/\Below w.heap.size w (fR w wa g n):=by
 unfold fR
 have h5:=dr hz.box.1 hz.box.2 g ⟨some ⟨w.heap.size+1+1+1,0,none⟩,n,n,some ⟨w.heap.size+1+1,0,none⟩,1,1,some ⟨w.heap.size+1,0,none⟩,1,1,none,0,0⟩
 dsimp only at h5
 have hs5:(((((wa.setCell ⟨w.heap.size,0,none⟩ (.int .i64 g)).setCell ⟨w.heap.size,1,none⟩ (.slice (some ⟨w.heap.size+1+1+1,0,none⟩) n n)).setCell ⟨w.heap.size,2,none⟩ (.slice (some ⟨w.heap.size+1+1,0,none⟩) 1 1)).setCell ⟨w.heap.size,3,none⟩ (.slice (some ⟨w.heap.size+1,0,none⟩) 1 1)).setCell ⟨w.heap.size,4,none⟩ (.slice none 0 0)).heap.size=wa.heap.size:=by simp[World.setCell]
 have hb5:=hb.grown h5.2.2 (by omega) (λj e=>by injection e with e;omega)
 have hx:=h5.1
 clear h5
 generalize (((((wa.setCell ⟨w.heap.size,0,none⟩ (.int .i64 g)).setCell ⟨w.heap.size,1,none⟩ (.slice (some ⟨w.heap.size+1+1+1,0,none⟩) n n)).setCell ⟨w.heap.size,2,none⟩ (.slice (some ⟨w.heap.size+1+1,0,none⟩) 1 1)).setCell ⟨w.heap.size,3,none⟩ (.slice (some ⟨w.heap.size+1,0,none⟩) 1 1)).setCell ⟨w.heap.size,4,none⟩ (.slice none 0 0))=W5 at*
 rw[hs]at hs5
 obtain⟨t1,t2,t3,tb⟩:=qh W5 #[.int .i64 0] #[.int .i64 0,.string {data:=#[]},.slice none 0 0] (ah (List.replicate n 0)).toArray 3 108 3
 rw[hs5]at t1 t2 t3
 exact⟨hx.keep tb (by omega),(show FreshB _ (w.heap.size+1+1+1) (w.heap.size+1+1) (w.heap.size+1) n from⟨t3,t2,t1⟩).own hn h4 (by omega) (by omega) (by omega) (by omega),hb5.trans (tb.mono (by omega))⟩
theorem kY (W:World):(Instr.makeSlice 31 (.int .i64 1) (.int .i64 1)).run prog W=.ok (.slice (some ⟨W.heap.size,0,none⟩) 1 1) (W.alloc (.cells #[.int .i64 0,.string {data:=#[]},.slice none 0 0] 108)):=by
 obtain⟨i0,hi0,hz0,hz1,hz2⟩:=info_parts infoSlot
 have h:=run_makeSlice (P:=prog) (w:=W) 31 108 i0 _ underlying31 hi0 hz0 .i64 .i64 1 1 (by omega) (Int.le_refl _) (by rw[hz1];simp) (by rw[hz2];decide) (by decide)
 rw[h,hz1]
 have e:madeCells (Value.agg #[Value.int IntKind.i64 0,Value.string {data:=#[]},Value.slice none 0 0]).cells (Int.toNat 1*3)=#[Value.int IntKind.i64 0,Value.string {data:=#[]},Value.slice none 0 0]:=by kernel_rfl
 rw[e];rfl
theorem mD (W:World):(Instr.makeSlice 30 (.int .i64 1) (.int .i64 1)).run prog W=.ok (.slice (some ⟨W.heap.size,0,none⟩) 1 1) (W.alloc (.cells #[.int .i64 0] 3)):=dQ 1 (by omega) W
theorem zv (g:Int) (w:World) (h0:0<=g) (h16:g<=16):
  Calls prog 9 #[.int .i64 g] w λe w'=>∃v,e=.returned (ae (aG g) v)/\Fresh w' w.heap.size v (aG g)/\Below w.heap.size w w':=by
 have KW:=zh (λW=>ik g W h0 (by omega))
 obtain⟨n,hn⟩:∃n:Nat,a6 g=(n:Nat):=⟨(a6 g).toNat,by unfold a6;omega⟩
 have h4:n<=4:=by unfold a6 at hn;omega
 have hnt:(a6 g).toNat=n:=by rw[hn];rfl
 have hmk:=dQ n (by omega)
 have hm1:=mD
 have hm2:=kY
 rw[hn]at KW
 have hz:=ZB.new w
 have hb:=ac w (.cells #[.int .i64 0,.slice none 0 0,.slice none 0 0,.slice none 0 0,.slice none 0 0] 34)
 have hs:(w.alloc (.cells #[.int .i64 0,.slice none 0 0,.slice none 0 0,.slice none 0 0,.slice none 0 0] 34)).heap.size=w.heap.size+1:=World.size_alloc _ _
 go_enter func9,ntmps9
 go_upto_region 1 with fail
 generalize w.alloc (.cells #[.int .i64 0,.slice none 0 0,.slice none 0 0,.slice none 0 0,.slice none 0 0] 34)=wa at*
 have HBd:Hid (Below w.heap.size w wa.drew):=zh hb.drew
 have hs':wa.drew.heap.size=w.heap.size+1:=hs
 obtain⟨y0,y1,y2,y3,y4⟩:=hz.cells
 obtain⟨q0,q1,q2,q3,q4⟩:=hz.froz
 go_region_held3 (λ_=>True)
  (exact trivial)
  (first|(go_at_call 21;refine(KW.o _).mono ?_;rintro e w5 ⟨rfl,rfl⟩))
 all_goals
  go_wp2_with fail
 all_goals first
  |(rw[lS];obtain⟨⟨k0,k1,k2,k3,k4⟩,hF,hB⟩:=qi hz hb hs hnt h4;dsimp only at k0 k1 k2 k3 k4;refine bodyPost_ret (v:=ae (aG g) ⟨some ⟨w.heap.size+1,0,none⟩,n,n,some ⟨w.heap.size+1+1,0,none⟩,1,1,some ⟨w.heap.size+1+1+1,0,none⟩,1,1,none,0,0⟩) ?_ rfl ⟨_,rfl,hF,hB⟩;simp[results,results9,go_sem,ae,aG,k0,k1,k2,k3,k4];done)
  |(rw[lT];obtain⟨⟨k0,k1,k2,k3,k4⟩,hF,hB⟩:=qj hz hb hs hnt h4;dsimp only at k0 k1 k2 k3 k4;refine bodyPost_ret (v:=ae (aG g) ⟨some ⟨w.heap.size+1,0,none⟩,n,n,some ⟨w.heap.size+1+1+1,0,none⟩,1,1,some ⟨w.heap.size+1+1,0,none⟩,1,1,none,0,0⟩) ?_ rfl ⟨_,rfl,hF,hB⟩;simp[results,results9,go_sem,ae,aG,k0,k1,k2,k3,k4];done)
  |(rw[lU];obtain⟨⟨k0,k1,k2,k3,k4⟩,hF,hB⟩:=qk hz hb hs hnt h4;dsimp only at k0 k1 k2 k3 k4;refine bodyPost_ret (v:=ae (aG g) ⟨some ⟨w.heap.size+1+1,0,none⟩,n,n,some ⟨w.heap.size+1,0,none⟩,1,1,some ⟨w.heap.size+1+1+1,0,none⟩,1,1,none,0,0⟩) ?_ rfl ⟨_,rfl,hF,hB⟩;simp[results,results9,go_sem,ae,aG,k0,k1,k2,k3,k4];done)
  |(rw[lV];obtain⟨⟨k0,k1,k2,k3,k4⟩,hF,hB⟩:=qm hz hb hs hnt h4;dsimp only at k0 k1 k2 k3 k4;refine bodyPost_ret (v:=ae (aG g) ⟨some ⟨w.heap.size+1+1+1,0,none⟩,n,n,some ⟨w.heap.size+1,0,none⟩,1,1,some ⟨w.heap.size+1+1,0,none⟩,1,1,none,0,0⟩) ?_ rfl ⟨_,rfl,hF,hB⟩;simp[results,results9,go_sem,ae,aG,k0,k1,k2,k3,k4];done)
  |(rw[lW];obtain⟨⟨k0,k1,k2,k3,k4⟩,hF,hB⟩:=qo hz hb hs hnt h4;dsimp only at k0 k1 k2 k3 k4;refine bodyPost_ret (v:=ae (aG g) ⟨some ⟨w.heap.size+1+1,0,none⟩,n,n,some ⟨w.heap.size+1+1+1,0,none⟩,1,1,some ⟨w.heap.size+1,0,none⟩,1,1,none,0,0⟩) ?_ rfl ⟨_,rfl,hF,hB⟩;simp[results,results9,go_sem,ae,aG,k0,k1,k2,k3,k4];done)
  |(rw[lX];obtain⟨⟨k0,k1,k2,k3,k4⟩,hF,hB⟩:=qp hz hb hs hnt h4;dsimp only at k0 k1 k2 k3 k4;refine bodyPost_ret (v:=ae (aG g) ⟨some ⟨w.heap.size+1+1+1,0,none⟩,n,n,some ⟨w.heap.size+1+1,0,none⟩,1,1,some ⟨w.heap.size+1,0,none⟩,1,1,none,0,0⟩) ?_ rfl ⟨_,rfl,hF,hB⟩;simp[results,results9,go_sem,ae,aG,k0,k1,k2,k3,k4];done)
theorem wu (g:Int) (w:World) (h0:0<=g) (h16:g<=16):
  Calls prog 15 #[.int .i64 g] w λe w'=>∃v,e=.returned (ae (aG g) v)/\Fresh w' w.heap.size v (aG g)/\Below w.heap.size w w':=by
 have KW:=zh (λW=>iA g W h0 (by omega))
 obtain⟨n,hn⟩:∃n:Nat,a6 g=(n:Nat):=⟨(a6 g).toNat,by unfold a6;omega⟩
 have h4:n<=4:=by unfold a6 at hn;omega
 have hnt:(a6 g).toNat=n:=by rw[hn];rfl
 have hmk:=dQ n (by omega)
 have hm1:=mD
 have hm2:=kY
 rw[hn]at KW
 have hz:=ZB.new w
 have hb:=ac w (.cells #[.int .i64 0,.slice none 0 0,.slice none 0 0,.slice none 0 0,.slice none 0 0] 34)
 have hs:(w.alloc (.cells #[.int .i64 0,.slice none 0 0,.slice none 0 0,.slice none 0 0,.slice none 0 0] 34)).heap.size=w.heap.size+1:=World.size_alloc _ _
 go_enter func15,ntmps15
 go_upto_region 1 with fail
 generalize w.alloc (.cells #[.int .i64 0,.slice none 0 0,.slice none 0 0,.slice none 0 0,.slice none 0 0] 34)=wa at*
 have HBd:Hid (Below w.heap.size w wa.drew):=zh hb.drew
 have hs':wa.drew.heap.size=w.heap.size+1:=hs
 obtain⟨y0,y1,y2,y3,y4⟩:=hz.cells
 obtain⟨q0,q1,q2,q3,q4⟩:=hz.froz
 go_region_held3 (λ_=>True)
  (exact trivial)
  (first|(go_at_call 42;refine(KW.o _).mono ?_;rintro e w5 ⟨rfl,rfl⟩))
 all_goals
  go_wp2_with fail
 all_goals first
  |(rw[lS];obtain⟨⟨k0,k1,k2,k3,k4⟩,hF,hB⟩:=qi hz hb hs hnt h4;dsimp only at k0 k1 k2 k3 k4;refine bodyPost_ret (v:=ae (aG g) ⟨some ⟨w.heap.size+1,0,none⟩,n,n,some ⟨w.heap.size+1+1,0,none⟩,1,1,some ⟨w.heap.size+1+1+1,0,none⟩,1,1,none,0,0⟩) ?_ rfl ⟨_,rfl,hF,hB⟩;simp[results,results15,go_sem,ae,aG,k0,k1,k2,k3,k4];done)
  |(rw[lT];obtain⟨⟨k0,k1,k2,k3,k4⟩,hF,hB⟩:=qj hz hb hs hnt h4;dsimp only at k0 k1 k2 k3 k4;refine bodyPost_ret (v:=ae (aG g) ⟨some ⟨w.heap.size+1,0,none⟩,n,n,some ⟨w.heap.size+1+1+1,0,none⟩,1,1,some ⟨w.heap.size+1+1,0,none⟩,1,1,none,0,0⟩) ?_ rfl ⟨_,rfl,hF,hB⟩;simp[results,results15,go_sem,ae,aG,k0,k1,k2,k3,k4];done)
  |(rw[lU];obtain⟨⟨k0,k1,k2,k3,k4⟩,hF,hB⟩:=qk hz hb hs hnt h4;dsimp only at k0 k1 k2 k3 k4;refine bodyPost_ret (v:=ae (aG g) ⟨some ⟨w.heap.size+1+1,0,none⟩,n,n,some ⟨w.heap.size+1,0,none⟩,1,1,some ⟨w.heap.size+1+1+1,0,none⟩,1,1,none,0,0⟩) ?_ rfl ⟨_,rfl,hF,hB⟩;simp[results,results15,go_sem,ae,aG,k0,k1,k2,k3,k4];done)
  |(rw[lV];obtain⟨⟨k0,k1,k2,k3,k4⟩,hF,hB⟩:=qm hz hb hs hnt h4;dsimp only at k0 k1 k2 k3 k4;refine bodyPost_ret (v:=ae (aG g) ⟨some ⟨w.heap.size+1+1+1,0,none⟩,n,n,some ⟨w.heap.size+1,0,none⟩,1,1,some ⟨w.heap.size+1+1,0,none⟩,1,1,none,0,0⟩) ?_ rfl ⟨_,rfl,hF,hB⟩;simp[results,results15,go_sem,ae,aG,k0,k1,k2,k3,k4];done)
  |(rw[lW];obtain⟨⟨k0,k1,k2,k3,k4⟩,hF,hB⟩:=qo hz hb hs hnt h4;dsimp only at k0 k1 k2 k3 k4;refine bodyPost_ret (v:=ae (aG g) ⟨some ⟨w.heap.size+1+1,0,none⟩,n,n,some ⟨w.heap.size+1+1+1,0,none⟩,1,1,some ⟨w.heap.size+1,0,none⟩,1,1,none,0,0⟩) ?_ rfl ⟨_,rfl,hF,hB⟩;simp[results,results15,go_sem,ae,aG,k0,k1,k2,k3,k4];done)
  |(rw[lX];obtain⟨⟨k0,k1,k2,k3,k4⟩,hF,hB⟩:=qp hz hb hs hnt h4;dsimp only at k0 k1 k2 k3 k4;refine bodyPost_ret (v:=ae (aG g) ⟨some ⟨w.heap.size+1+1+1,0,none⟩,n,n,some ⟨w.heap.size+1+1,0,none⟩,1,1,some ⟨w.heap.size+1,0,none⟩,1,1,none,0,0⟩) ?_ rfl ⟨_,rfl,hF,hB⟩;simp[results,results15,go_sem,ae,aG,k0,k1,k2,k3,k4];done)
end Go.Proofs.YtdbneghfbkjinaaGreatDoor
