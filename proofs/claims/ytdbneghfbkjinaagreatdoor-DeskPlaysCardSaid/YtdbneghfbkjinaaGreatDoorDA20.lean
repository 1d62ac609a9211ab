/- Texts of the proof of deskPlays_holds: WGrab. Conditions: as each text says. -/
import Derived.Test.YtdbneghfbkjinaaGreatDoorDA1
import Derived.Test.YtdbneghfbkjinaaGreatDoorDA16
set_option maxRecDepth 100000
set_option maxHeartbeats 1000000
namespace Go.Proofs.YtdbneghfbkjinaaGreatDoor
section
open Go.Proofs.Tryz
open Go.RowKit Sl
theorem pM (A:Option Addr) (n c:Nat) (l:List Slot) (w:World) (h:SlotsR w w.heap.size A n l) (hn:n<=c) (hc:n<=4611686018427387903):
  Calls prog 140 #[.slice A n c] w λe w'=>e=.returned (.tuple #[.int .i64 (iX l),.int .i64 (iY l)])/\Below w.heap.size w w':=by
 have HK:=zh (kp A n c l w h (by omega))
 by_cases he:ar l=0
 ·obtain⟨l1,l2⟩:=aJ he
  have hln:=h.1
  rw[he]at HK
  obtain⟨b,o,rfl,hb,_⟩:=h.2 (by omega)
  have hsl:= λW=>rQ (P:=prog) 31 108 3 underlying31 (λW=>by kernel_rfl) (some ⟨b,o,none⟩) n c 1 (by omega) W
  have hT:=h.cut (k:=1) (by omega) hn
  rw[Int.natCast_one]at hsl
  generalize rP (some ⟨b,o,none⟩) c 1 3=A' at hsl hT
  have hI:= λ(W:World) (hw:Below w.heap.size w W)=>ny 106 (λs=>s.kind==0) A' (n-1) (c-1) w.heap.size (l.drop 1) W (hT.below hw (Nat.le_refl _)) hw.size (by omega) (λ_ _=>by kernel_rfl) (λs tA tn tc W hW hs=>uF _ s tA tn tc W hW hs)
  clear hT h
  generalize hi:bD (λs:Slot=>s.kind==0) (l.drop 1)=i at hI
  have HI:=zh hI
  clear hI
  rcases oQ (λs:Slot=>s.kind==0) (l.drop 1)with hm|⟨hp1,hp2⟩
  ·have HG:=zh (xR he (by omega))
   rw[hi]at hm
   subst hm
   by_cases h40:n=40
   ·have g40:((n:Int)==40)=true:=by simp;omega
    obtain⟨r1,r2⟩:=HG.o.1 (by omega)
    have R:=zh (And.intro r1 r2)
    clear r1 r2 HG hi he h40 hln
    go_enter func140,ntmps140
    go_wp2_with (first|(go_at_call 105;refine HK.o.mono ?_;rintro e w' ⟨rfl,hb'⟩)|(go_at_call 186;refine(HI.o _ hb').mono ?_;rintro e w'' ⟨rfl,hb''⟩))
    go_ret2
    exact⟨iy R.o.1 R.o.2,hb'.trans (hb''.mono hb'.size)⟩
   ·have g40:((n:Int)==40)=false:=by simp;omega
    obtain⟨r1,r2⟩:=HG.o.2 (by omega)
    rw[hln]at r1
    have R:=zh (And.intro r1 r2)
    clear r1 r2 HG hi he h40 hln
    go_enter func140,ntmps140
    go_wp2_with (first|(go_at_call 105;refine HK.o.mono ?_;rintro e w' ⟨rfl,hb'⟩)|(go_at_call 186;refine(HI.o _ hb').mono ?_;rintro e w'' ⟨rfl,hb''⟩))
    go_ret2
    exact⟨iy R.o.1 R.o.2,hb'.trans (hb''.mono hb'.size)⟩
  ·rw[List.length_drop]at hp2
   rw[hi]at hp1 hp2
   have R:=zh (Ab he i hi hp1)
   clear hi he hln
   go_enter func140,ntmps140
   go_wp2_with (first|(go_at_call 105;refine HK.o.mono ?_;rintro e w' ⟨rfl,hb'⟩)|(go_at_call 186;refine(HI.o _ hb').mono ?_;rintro e w'' ⟨rfl,hb''⟩))
   go_ret2
   exact⟨iy R.o.1 R.o.2,hb'.trans (hb''.mono hb'.size)⟩
 ·have HV:=zh (Aa he)
  have he':(ar l !=0)=true:=by simpa using he
  clear h he
  go_enter func140,ntmps140
  go_wp2_with (go_at_call 105;refine HK.o.mono ?_;rintro e w' ⟨rfl,hb'⟩)
  go_ret2
  exact⟨iy HV.o.1 HV.o.2,hb'⟩
theorem iL {m:Img} {k:Nat} (h:int m.root k<=0):af m k=[0,0,0,0]:=by unfold af;rw[if_neg (by omega)]
theorem fJ {m:Img} {k j:Nat} {s:Slot} (h:int m.root k=(j:Nat)) (hj:1<=j) (hs:m.slots[j]? =some s):af m k=s.table:=by unfold af;rw[if_pos (by omega),h,bP hs]
def AP (m:Img) (k:Nat):Prop:=int m.root k<=0\/ ∃j s,int m.root k=(j:Nat)/\1<=j/\m.slots[j]? =some s/\s.table.length=4
theorem fK (b:Nat) (v:IV) (m:Img) (k:Nat) (w:World) (h:ImgR w w.heap.size v m) (hx:Box w b m.guest v) (hk:k<v.rn) (hr:AP m k):
  Calls prog 69 #[.pointer (some ⟨b,0,none⟩),.int .i64 (k:Nat)] w (dJ w.heap.size 3 1 4 (ah (af m k)) w):=by
 obtain⟨b1,o1,t,hA,hb1,ht,c1⟩:=h.root.at1 hk
 have hrn:v.rn<=4611686018427387903:=h.rcap.1
 have hit:=bG ht
 obtain⟨rA,rn,rc,sA,sn,sc,fA,fn,fc,pA,pn,pc⟩:=v
 obtain⟨x0,x1,x2,x3,x4⟩:=hx
 dsimp only at*
 subst hA
 have e0:(0:Int)<=(k:Int):=by omega
 have e1:(k:Int)<(rn:Int):=by omega
 rcases hr with h0|⟨j,s,hj,hj1,hs,hl⟩
 ·rw[hit]at h0
  have R:=zh (iL (m:=m) (k:=k) (by rw[hit];exact h0))
  have HM:∀W:World,(Instr.makeSlice 30 (.int .i64 4) (.int .i64 4)).run prog W=.ok (.slice (some ⟨W.heap.size,0,none⟩) 4 4) (W.alloc (.cells (ah (List.replicate 4 0)).toArray 3)):= λW=>dQ 4 (by omega) W
  have hown:=cQ (heap_alloc_new w (.cells (ah (List.replicate 4 0)).toArray 3)) (Nat.le_refl _) (show(ah (List.replicate 4 0)).length=4 from rfl) (by unfold maxLen;omega)
  have HO:=zh hown
  clear h ht hit hown
  go_enter func69,ntmps69
  go_wp2_with fail
  go_ret
  exact⟨_,_,rfl,by rw[R.o];exact HO.o,ac _ _,Nat.le_refl _,by unfold maxLen;omega⟩
 ·have hjl:j<sn:=by have:=h.slen;have:=(zl hs);dsimp only at*;omega
  obtain⟨b2,o2,s2,tA,tn,tc,rfl,hb2,hx2,d0,d1,d2,hsv⟩:=h.slots.at_ (k:=j) hjl
  rw[hs]at hx2
  injection hx2 with hx2
  subst hx2
  obtain rfl:tn=4:=by have:=hsv.table.len;omega
  have R:=zh (fJ hj hj1 hs)
  have KC:=zh (ex tA 4 tc (ah s.table) w hsv.table (eN _) (by omega))
  rw[hit]at hj
  subst hj
  have e2:(0:Int)<(j:Int):=by omega
  have e3:(j:Int)<(sn:Int):=by omega
  have e4:(0:Int)<=(j:Int):=by omega
  clear h ht hit hs hsv hl d0 d1
  go_enter func69,ntmps69
  go_wp2_with fail
  refine KC.o.mono ?_
  rintro e w1 ⟨A1,c1',rfl,ho,hb,hc1,hc2⟩
  go_wp2_with fail
  go_ret
  exact⟨_,_,rfl,by rw[R.o];exact ho,hb,hc1,hc2⟩
abbrev pN:Value:=.iface 136 (.agg #[])
structure DeskAt (w:World) (base:Nat) (tg:Nat->Nat) (b:Nat) (v:IV) (q:List SV) (p:List PV) (m:Img):Prop where
 own:OwnI w base tg v q p m
 box:Box w b m.guest v
 ty:BoxG w b 91
 lo:base<=b
theorem DeskAt.next {w w':World} {base:Nat} {tg:Nat->Nat} {b:Nat} {v:IV} {q:List SV} {p:List PV} {m:Img} (h:DeskAt w base tg b v q p m) (hb:Below w.heap.size w w'):DeskAt w' base tg b v q p m:=
 ⟨h.own.next hb,h.box.keep hb h.ty.ty.lt,h.ty.next hb,h.lo⟩
theorem j8 (base:Nat) (tg:Nat->Nat) (b:Nat) (v:IV) (q:List SV) (p:List PV) (m:Img) (s:Slot) (A:Option Addr) (n c:Nat) (w:World) (h:DeskAt w base tg b v q p m) (hs:ar m.slots=0) (hg:aS m.slots=0):
  Calls prog 84 #[.pointer (some ⟨b,0,none⟩),.agg #[.int .i64 s.kind,.string s.data,.slice A n c]] w λe w'=>e=.panicked [{v:=pN,recovered:=false}]/\Below w.heap.size w w':=by
 have hI:=h.own.imgR
 have K1':= λW (hb:Below w.heap.size w W)=>pM v.sA v.sn v.sc m.slots W (hI.next hb).slots hI.sle hI.scap.1
 rw[show iX m.slots=0 from by unfold iX;rw[if_pos hs,hg];rfl,show iY m.slots=7 from by unfold iY;rw[if_pos hs,if_pos hg]]at K1'
 have K1:=zh K1'
 have HBX:=zh h.box
 have hbl:=h.ty.ty.lt
 obtain⟨rA,rn,rc,sA,sn,sc,fA,fn,fc,pA,pn,pc⟩:=v
 dsimp only at K1
 have HB1:=ac w (.cells #[.int .i64 s.kind,.string s.data,.slice A n c] 108)
 obtain⟨x0,x1,x2,x3,x4⟩:=HBX.o.keep HB1 hbl
 dsimp only at x0 x1 x2 x3 x4
 clear h hI K1' hs hg
 go_enter func84,ntmps84
 go_wp2_with fail
 refine(K1.o _ HB1).mono ?_
 rintro e w1 ⟨rfl,hb1⟩
 have T1:=zh (aa HB1 hb1)
 clear hb1
 go_wp2_with fail
 exact⟨rfl,rfl,T1.o⟩
end
section
open Go.Proofs.Tryz
open Go.RowKit Sl
def Cz (base:Nat) (tg:Nat->Nat) (b:Nat) (v:IV) (p:List PV) (m2:Img) (w w':World):Prop:=
 ∃v' q',DeskAt w' base tg b v' q' p m2/\v'.rA=v.rA/\v'.rn=v.rn/\v'.rc=v.rc/\(∀t A n c xs,TabO w base tg t A n c xs->TabO w' base tg t A n c xs)/\Below base w w'
theorem AQ {l:List Slot} (hs:ar l=0) (hg:aS l≠0):iX l=(aS l:Nat)/\iY l=0/\aS l<=l.length/\l.length<=40/\(aS l=l.length->l.length<40):=by
 have h40:=(aJ hs).2
 refine⟨by unfold iX;rw[if_pos hs],by unfold iY;rw[if_pos hs,if_neg hg],?_,h40,?_⟩
 ·unfold aS at hg⊢
  split
  ·rename_i h;rw[List.length_drop]at h;omega
  ·split
   ·exact Nat.le_refl _
   ·omega
 ·intro he
  unfold aS at he hg
  split at he
  ·rename_i h;rw[List.length_drop]at h;omega
  ·split at he
   ·assumption
   ·rename_i h1 h2;rw[if_neg h1,if_neg h2]at hg;exact absurd rfl hg
theorem mY (base:Nat) (tg:Nat->Nat) (b:Nat) (v:IV) (q:List SV) (p:List PV) (m:Img) (s:Slot) (A:Option Addr) (n c:Nat) (w:World) (h:DeskAt w base tg b v q p m) (hs:ar m.slots=0) (hg:aS m.slots≠0)
  (hd:s.data.size<=4611686018427387903) (ht:TabO w base tg (2*aS m.slots+4) A n c s.table):
  Calls prog 84 #[.pointer (some ⟨b,0,none⟩),.agg #[.int .i64 s.kind,.string s.data,.slice A n c]] w
  λe w'=>e=.returned (.int .i64 (aS m.slots:Nat))/\Cz base tg b v p {m with slots:=laid m.slots (aS m.slots) s} w w':=by
 have hI:=h.own.imgR
 obtain⟨r1,r2,r3,r4,r5⟩:=AQ hs hg
 have K1':= λW (hb:Below w.heap.size w W)=>pM v.sA v.sn v.sc m.slots W (hI.next hb).slots hI.sle hI.scap.1
 rw[r1,r2]at K1'
 have hsn:m.slots.length=v.sn:=hI.slen
 have hbl:=h.ty.ty.lt
 have hlo:=h.lo
 generalize hgn:aS m.slots=g at*
 have K1:=zh K1'
 have HD:=zh h
 have HT:=zh ht
 have HB1:=ac w (.cells #[.int .i64 s.kind,.string s.data,.slice A n c] 108)
 obtain⟨sb,hsA,hsb,hsl⟩:=bK h.own.slots (by omega)
 obtain⟨rA,rn,rc,sA,sn,sc,fA,fn,fc,pA,pn,pc⟩:=v
 dsimp only at*
 subst hsA
 obtain⟨x0,x1,x2,x3,x4⟩:=h.box.keep HB1 hbl
 dsimp only at x0 x1 x2 x3 x4
 have t3:= λj=>cell_of_row (w.alloc (.cells #[.int .i64 s.kind,.string s.data,.slice A n c] 108)) w.heap.size j _ _ _ (heap_alloc_new w _)
 have l3:w.heap.size<(w.alloc (.cells #[.int .i64 s.kind,.string s.data,.slice A n c] 108)).heap.size:=by simp
 have T30:=zh (t3 0)
 have T31:=zh (t3 1)
 have T32:=zh (t3 2)
 have HSN:=zh hsn
 have HGN:=zh hgn
 have hg0:g≠0:=hg
 have hgl:g<=sn:=by omega
 have h40:sn<=40:=by omega
 have h39:g=sn->sn<40:=by omega
 clear h hI K1' hs hgn ht t3 r1 r2 r3 r4 r5 hsn hg
 go_enter func84,ntmps84
 go_wp2_with fail
 refine(K1.o _ HB1).mono ?_
 rintro e w1 ⟨rfl,hb1⟩
 have W1:=aa HB1 hb1
 have H1:=HD.o.next W1
 obtain⟨x0,x1,x2,x3,x4⟩:=H1.box
 have u0:=(hb1.cell (p:=⟨w.heap.size,0,none⟩) l3).trans T30.o
 have u1:=(hb1.cell (p:=⟨w.heap.size,1,none⟩) l3).trans T31.o
 have u2:=(hb1.cell (p:=⟨w.heap.size,2,none⟩) l3).trans T32.o
 simp only[List.getElem?_toArray,List.getElem?_cons_zero,List.getElem?_cons_succ]at u0 u1 u2
 dsimp only at x0 x1 x2 x3 x4
 have hl1:w.heap.size<w1.heap.size:=by have:=hb1.size;omega
 have hT1:=HT.o.next W1
 clear hb1 HB1 K1 T30 T31 T32 l3
 have HH1:=zh H1
 have HW1:=zh W1
 have HT1:=zh hT1
 clear H1 W1 hT1
 have hbw:base<=w1.heap.size:=by have:=HW1.o.size;omega
 obtain⟨is0,his,hsz0,hsz1,hsz2⟩:=info_parts infoSlot
 have hnil:∀W W':World,Below W.heap.size W W'->∀t A n c xs,TabO W base tg t A n c xs->TabO W' base tg t A n c xs:= λW W' hb t A n c xs hh=>hh.next hb
 by_cases hn:g=sn
 ·subst hn
  have hgg:((g:Int)==(g:Int))=true:=by simp
  obtain⟨A2,c2,w5,q1,q2,q3,q4,q5,q6,q7⟩:=cK (P:=prog) w1 base 31 31 108 is0 _ 3 48 underlying31 his hsz0 hsz1 hsz2 rfl (by omega) _ _ _ HH1.o.own.slots #[.int .i64 0,.string {data:=#[]},.slice none 0 0] rfl
   (by intro u hu;simp at hu;rcases hu with rfl|rfl|rfl<;>rfl) (by show(g+1)*48<=_;omega) (by show g+1<=_;unfold maxLen;omega) hbw
  dsimp only at q1
  have HR:=zh q1
  have W5:=ac w1 (.cells #[.int .i64 0,.string {data:=#[]},.slice none 0 0] 108)
  have O5:=(HH1.o.own.next W5).pushSlot (x:=freeSV) q2 q6 q4 q5 (by show g<=_;omega) (by decide) TabO.nil
  obtain⟨g2,rfl,hg21,hg22⟩:=bK O5.slots (by show 0<g+1;omega)
  have hne1:some b≠(Value.slice (some ⟨sb,0,none⟩) g sc).ownBlock:= λe=>(HH1.o.ty.ty.ne (au HH1.o.own.slots e.symm) (by decide)) rfl
  have B5:=(HH1.o.box.keep W5 HH1.o.ty.ty.lt).kept q6 hne1
  have E5:=(HH1.o.ty.next W5).kept q6 hne1
  obtain⟨z0,z1,z2,z3,z4⟩:=B5
  dsimp only at z0 z1 z2 z3 z4
  have fz2:=E5.fz 2
  have hgs:=ai w5 b 2 (.slice (some ⟨g2,0,none⟩) (g+1) c2)
  have O6:=O5.kept hgs E5.ty (by decide) (by decide) (by decide)
  have B6:Box (w5.setCell ⟨b,2,none⟩ (.slice (some ⟨g2,0,none⟩) (g+1) c2)) b m.guest ⟨rA,rn,rc,some ⟨g2,0,none⟩,g+1,c2,fA,fn,fc,pA,pn,pc⟩:=by
   refine⟨?_,?_,?_,?_,?_⟩<;>go_simp
  have E6:=E5.set 2 (.slice (some ⟨g2,0,none⟩) (g+1) c2)
  have hq1:q.length=g:=HH1.o.own.qlen
  have hqk:(q++[freeSV])[g]? =some freeSV:=by rw[List.getElem?_append_right (by omega),hq1,Nat.sub_self];rfl
  have TT:∀t A n c xs,TabO w base tg t A n c xs->TabO (w5.setCell ⟨b,2,none⟩ (.slice (some ⟨g2,0,none⟩) (g+1) c2)) base tg t A n c xs:= λt A n c xs hh=>
   (((hh.next HW1.o).next W5).far (HH1.o.own.next W5).slots (by decide) q6).kept hgs (λb' e hl=>.inl ⟨_,by injection e with e;subst e;exact E5.ty,by decide⟩)
  obtain⟨n1,n2⟩:=O6.set3 (x':=⟨s,A,n,c⟩) rfl hqk hd (TT _ _ _ _ _ HT.o)
  have hne:b≠g2:=E6.ty.ne (au O6.slots (b:=g2) rfl) (by decide)
  have D:=DeskAt.mk n1 (B6.kept n2 (λe=>hne (by injection e))) (E6.kept n2 (λe=>hne (by injection e))) hlo
  have LD:((m.slots++[freeSV.s]).set g s)=laid m.slots g s:=by
   unfold laid
   rw[if_pos HSN.o.symm,List.set_append_right _ _ (by have:=HSN.o;omega),HSN.o,Nat.sub_self];rfl
  have TT2:∀t A n c xs,TabO w base tg t A n c xs->TabO _ base tg t A n c xs:= λt A n' c' xs hh=>(TT t A n' c' xs hh).kept n2 (λb' e hl=>.inl ⟨_,by injection e with e;subst e;exact au O6.slots (b:=g2) rfl,by decide⟩)
  have LB:Below base w (w5.setCell ⟨b,2,none⟩ (.slice (some ⟨g2,0,none⟩) (g+1) c2)):=((HW1.o.mono (by omega)).trans q3).setCell (p:=⟨b,2,none⟩) hlo _
  have LB2:=LB.grown n2 (by have:=LB.size;omega) (λj e=>by injection e with e;omega)
  have a0:=O6.slots.cellAt (g*3) (by dsimp only;omega)
  have a1:=O6.slots.cellAt (g*3+1) (by dsimp only;omega)
  have a2:=O6.slots.cellAt (g*3+2) (by dsimp only;omega)
  have f0:=O6.slots.frozenAt (g*3)
  have f1:=O6.slots.frozenAt (g*3+1)
  have f2:=O6.slots.frozenAt (g*3+2)
  have y0:=av SV.cells SV.cells_len _ g freeSV hqk 0 (by omega)
  rw[Nat.add_zero]at y0
  rw[y0]at a0
  rw[av SV.cells SV.cells_len _ g freeSV hqk 1 (by omega)]at a1
  rw[av SV.cells SV.cells_len _ g freeSV hqk 2 (by omega)]at a2
  simp only[SV.cells,bE,List.getElem?_cons_zero,List.getElem?_cons_succ]at a0 a1 a2
  have hl5:w.heap.size<w1.heap.size:=hl1
  have hs5:=W5.size
  have hneb:w.heap.size≠b:=by omega
  have hnsb:some w.heap.size≠(Value.slice (some ⟨sb,0,none⟩) g sc).ownBlock:= λe=>by simp[Value.ownBlock]at e;omega
  have v0:=q6.cell ((W5.cell (p:=⟨w.heap.size,0,none⟩) hl5).trans u0) hnsb
  have v1:=q6.cell ((W5.cell (p:=⟨w.heap.size,1,none⟩) hl5).trans u1) hnsb
  have v2:=q6.cell ((W5.cell (p:=⟨w.heap.size,2,none⟩) hl5).trans u2) hnsb
  obtain⟨k0,k1,k2,k3,k4⟩:=B6
  dsimp only at k0 k1 k2 k3 k4
  have v0':=dp (a:=⟨b,2,none⟩) (v:=.slice (some ⟨g2,0,none⟩) (g+1) c2) v0 hneb
  have v1':=dp (a:=⟨b,2,none⟩) (v:=.slice (some ⟨g2,0,none⟩) (g+1) c2) v1 hneb
  have v2':=dp (a:=⟨b,2,none⟩) (v:=.slice (some ⟨g2,0,none⟩) (g+1) c2) v2 hneb
  have HDD:=zh D
  have HTT:=zh TT2
  have HLB:=zh LB2
  have HLD:=zh LD
  have e0:(0:Int)<=(g:Int):=by omega
  have e1:(g:Int)<(g:Int)+1:=by omega
  have e2:(g:Int)<((g+1:Nat):Int):=by omega
  clear q1 q2 q3 q6 q7 W5 O5 hne1 E5 hgs O6 E6 hq1 hqk TT n1 n2 D LD TT2 LB LB2 y0 v0 v1 v2 hnsb
  go_wp2_with (at_builtin;refine aA rfl _ _ _ _ rfl rfl rfl rfl HR.o ?_)
  generalize w5.setCell ⟨b,2,none⟩ (Value.slice (some ⟨g2,0,none⟩) (g+1) c2)=w6 at*
  go_still_tail 8,(by kernel_rfl)
  go_wp2_with fail
  go_ret
  exact⟨rfl,⟨rA,rn,rc,some ⟨g2,0,none⟩,g+1,c2,fA,fn,fc,pA,pn,pc⟩,_,by rw[<-HLD.o];exact HDD.o.next (Below.refl _ _).drew,rfl,rfl,rfl,λt A n c xs hh=>(HTT.o t A n c xs hh).next (Below.refl _ _).drew,HLB.o.drew⟩
 ·have hgg:((g:Int)==(sn:Int))=false:=by simp;omega
  have hlt:g<sn:=by omega
  have hsl:=HH1.o.own.slots
  have hq1:g<q.length:=by have:=HH1.o.own.qlen;dsimp only at this;omega
  have hqk:=List.getElem?_eq_getElem hq1
  generalize q[g]=xk at hqk
  have c0:=hsl.cellAt (g*3) (by dsimp only;omega)
  have c1:=hsl.cellAt (g*3+1) (by dsimp only;omega)
  have c2:=hsl.cellAt (g*3+2) (by dsimp only;omega)
  have f0:=hsl.frozenAt (g*3)
  have f1:=hsl.frozenAt (g*3+1)
  have f2:=hsl.frozenAt (g*3+2)
  have y0:=av SV.cells SV.cells_len _ g xk hqk 0 (by omega)
  rw[Nat.add_zero]at y0
  rw[y0]at c0
  rw[av SV.cells SV.cells_len _ g xk hqk 1 (by omega)]at c1
  rw[av SV.cells SV.cells_len _ g xk hqk 2 (by omega)]at c2
  simp only[SV.cells,bE,List.getElem?_cons_zero,List.getElem?_cons_succ]at c0 c1 c2
  have e0:(0:Int)<=(g:Int):=by omega
  have e1:(g:Int)<(sn:Int):=by omega
  obtain⟨n1,n2⟩:=HH1.o.own.set3 (x':=⟨s,A,n,c⟩) rfl hqk hd HT1.o
  have hne:b≠sb:=HH1.o.ty.ty.ne (au HH1.o.own.slots (b:=sb) rfl) (by decide)
  have D:=DeskAt.mk n1 (HH1.o.box.kept n2 (λe=>hne (by injection e))) (HH1.o.ty.kept n2 (λe=>hne (by injection e))) hlo
  have LD:(m.slots.set g s)=laid m.slots g s:=by unfold laid;rw[if_neg (by have:=HSN.o;omega)]
  have TT2:∀t A n c xs,TabO w base tg t A n c xs->TabO _ base tg t A n c xs:= λt A n' c' xs hh=>(hh.next HW1.o).kept n2 (λb' e hl=>.inl ⟨_,by injection e with e;subst e;exact au HH1.o.own.slots (b:=sb) rfl,by decide⟩)
  have LB2:=(HW1.o.mono (show base<=w.heap.size by omega)).grown n2 hbw (λj e=>by injection e with e;omega)
  have HDD:=zh D
  have HTT:=zh TT2
  have HLB:=zh LB2
  have HLD:=zh LD
  clear hsl y0 hqk hq1 n1 n2 D LD TT2 LB2
  go_wp2_with fail
  go_still_tail 8,(by kernel_rfl)
  go_wp2_with fail
  go_ret
  exact⟨rfl,⟨rA,rn,rc,some ⟨sb,0,none⟩,sn,sc,fA,fn,fc,pA,pn,pc⟩,_,by rw[<-HLD.o];exact HDD.o.next (Below.refl _ _).drew,rfl,rfl,rfl,λt A n c xs hh=>(HTT.o t A n c xs hh).next (Below.refl _ _).drew,HLB.o.drew⟩
end
end Go.Proofs.YtdbneghfbkjinaaGreatDoor
