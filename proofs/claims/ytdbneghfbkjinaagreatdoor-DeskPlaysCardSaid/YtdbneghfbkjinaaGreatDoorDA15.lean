/- Texts of the proof of deskPlays_holds: Check, Pages, Flat, Reads1, OImg2. Conditions: as each text says. -/
import Derived.Test.YtdbneghfbkjinaaGreatDoorDA1
import Derived.Test.YtdbneghfbkjinaaGreatDoorDA12
import Derived.Test.YtdbneghfbkjinaaGreatDoorDA13
import Derived.Test.YtdbneghfbkjinaaGreatDoorDA14
set_option maxRecDepth 100000
set_option maxHeartbeats 1000000
namespace Go.Proofs.YtdbneghfbkjinaaGreatDoor
section
open Go.Proofs.Tryz
open Go.RowKit Sl
def IntsRes (base:Nat) (xs:List Int) (er:Int) (w:World) (e:Ending) (w':World):Prop:=
 ∃A n c,e=.returned (.tuple #[.slice A n c,.int .i64 er])/\w'.ownsRow base 3 1 (.slice A n c) n (ah xs)/\Below base w w'/\n<=c/\c<=maxLen
theorem IntsRes.mk_nil {base:Nat} {xs:List Int} {er er':Int} {w w':World} (hx:xs=[]) (he:er=er') (hb:Below base w w'):IntsRes base xs er w (.returned (.tuple #[.slice none 0 0,.int .i64 er'])) w':=by
 subst hx;subst he
 exact⟨none,0,0,rfl,World.ownsRow_nil _ _ _ _,hb,Nat.le_refl _,by simp⟩
theorem Cs {w:World} {base base' size n:Nat} {e:TypeId} {v:Value} {xs:List Value} (h:w.ownsRow base e size v n xs) (hb:base'<=base):w.ownsRow base' e size v n xs:=by
 refine⟨h.1,?_⟩
 rcases h.2 with h2|⟨g,cap,cur,h1,h2,r⟩
 ·exact .inl h2
 ·exact .inr ⟨g,cap,cur,h1,Nat.le_trans hb h2,r⟩
theorem sG (v:IV) (m:Img) (w:World) (h:ImgR w w.heap.size v m):
  Calls prog 114 #[.agg #[.int .i64 m.guest,.slice v.rA v.rn v.rc,.slice v.sA v.sn v.sc,.slice v.fA v.fn v.fc,.slice v.pA v.pn v.pc]] w (IntsRes w.heap.size (oM m) (aB m) w):=by
 obtain⟨rA,rn,rc,sA,sn,sc,fA,fn,fc,pA,pn,pc⟩:=v
 dsimp only
 have HB1:=ac w (.cells #[.int .i64 m.guest,.slice rA rn rc,.slice sA sn sc,.slice fA fn fc,.slice pA pn pc] 34)
 have K1':= λW (hb:Below w.heap.size w W)=>pG ⟨rA,rn,rc,sA,sn,sc,fA,fn,fc,pA,pn,pc⟩ m W (h.next hb)
 have HX:=Box.new w m.guest ⟨rA,rn,rc,sA,sn,sc,fA,fn,fc,pA,pn,pc⟩ 34
 have hz:w.heap.size<(w.alloc (.cells #[.int .i64 m.guest,.slice rA rn rc,.slice sA sn sc,.slice fA fn fc,.slice pA pn pc] 34)).heap.size:=by simp
 have HX':=zh HX
 have HZ:=zh hz
 clear HX hz
 by_cases he:aB m=0
 ·have K2:=zh (λW (hb:Below w.heap.size w W)=>iK ⟨rA,rn,rc,sA,sn,sc,fA,fn,fc,pA,pn,pc⟩ m W (h.next hb) (dz he) (gM he))
  rw[he]at K1'
  have K1:=zh K1'
  have R:=zh (show oM m=aM m from by unfold oM;rw[if_pos he])
  have HE:=zh he
  clear K1' h he
  go_enter func114,ntmps114
  go_wp2_with fail
  refine(K1.o _ HB1).mono ?_
  rintro e w1 ⟨rfl,hb1⟩
  have HB:=aa HB1 hb1
  obtain⟨b0,b1,b2,b3,b4⟩:=HX'.o.keep hb1 HZ.o
  dsimp only at b0 b1 b2 b3 b4
  go_wp2_with fail
  refine(K2.o _ HB).mono ?_
  rintro e w2 ⟨A,c,rfl,ho,hb2,hc1,hc2⟩
  go_wp2_with fail
  go_ret2
  exact⟨A,m.slots.length,c,by rw[HE.o];rfl,by rw[R.o];exact Cs ho HB.size,HB.trans (hb2.mono HB.size),hc1,hc2⟩
 ·have R:=zh (show oM m=[]from by unfold oM;rw[if_neg he])
  have he':(aB m !=0)=true:=by simpa using he
  generalize aB m=er at*
  have K1:=zh K1'
  clear K1' h he
  go_enter func114,ntmps114
  go_wp2_with fail
  refine(K1.o _ HB1).mono ?_
  rintro e w1 ⟨rfl,hb1⟩
  go_wp2_with fail
  go_ret2
  exact IntsRes.mk_nil R.o rfl (aa HB1 hb1)
theorem bq (v:IV) (m:Img) (w:World) (h:ImgR w w.heap.size v m):
  Calls prog 65 #[.agg #[.int .i64 m.guest,.slice v.rA v.rn v.rc,.slice v.sA v.sn v.sc,.slice v.fA v.fn v.fc,.slice v.pA v.pn v.pc]] w λe w'=>e=.returned (.int .i64 (ab m))/\Below w.heap.size w w':=by
 obtain⟨rA,rn,rc,sA,sn,sc,fA,fn,fc,pA,pn,pc⟩:=v
 dsimp only
 have HB1:=ac w (.cells #[.int .i64 m.guest,.slice rA rn rc,.slice sA sn sc,.slice fA fn fc,.slice pA pn pc] 34)
 have K1':= λW (hb:Below w.heap.size w W)=>pG ⟨rA,rn,rc,sA,sn,sc,fA,fn,fc,pA,pn,pc⟩ m W (h.next hb)
 have HX:=Box.new w m.guest ⟨rA,rn,rc,sA,sn,sc,fA,fn,fc,pA,pn,pc⟩ 34
 have hz:w.heap.size<(w.alloc (.cells #[.int .i64 m.guest,.slice rA rn rc,.slice sA sn sc,.slice fA fn fc,.slice pA pn pc] 34)).heap.size:=by simp
 have HX':=zh HX
 have HZ:=zh hz
 clear HX hz
 by_cases he:aB m=0
 ·have K2:=zh (λW (hb:Below w.heap.size w W)=>iK ⟨rA,rn,rc,sA,sn,sc,fA,fn,fc,pA,pn,pc⟩ m W (h.next hb) (dz he) (gM he))
  rw[he]at K1'
  have K1:=zh K1'
  have HE:=zh he
  have HI:=zh h
  have hsl:m.slots.length=sn:=h.slen
  have hfl:m.refs.length=fn:=h.flen
  have hss:sn<=40:=by have:=(dz he).slots;omega
  have hfs:fn=sn:=by have:=(dI he).1.refs;omega
  have HSL:=zh hsl
  subst hfs
  clear K1' h he hsl hfl
  go_enter func65,ntmps65
  go_wp2_with fail
  refine(K1.o _ HB1).mono ?_
  rintro e w1 ⟨rfl,hb1⟩
  have HB:=aa HB1 hb1
  have HX1:=HX'.o.keep hb1 HZ.o
  have hz1:w.heap.size<w1.heap.size:=by have:=HZ.o;have:=hb1.size;omega
  obtain⟨b0,b1,b2,b3,b4⟩:=HX1
  dsimp only at b0 b1 b2 b3 b4
  go_wp2_with fail
  rw[HSL.o]at K2
  refine(K2.o _ HB).mono ?_
  rintro e w2 ⟨A,c,rfl,ho,hb2,hc1,hc2⟩
  have HRO:=zh (Rd.of_own ho)
  obtain⟨b0',b1',b2',b3',b4'⟩:=(show Box w1 w.heap.size m.guest ⟨rA,rn,rc,sA,fn,sc,fA,fn,fc,pA,pn,pc⟩from⟨b0,b1,b2,b3,b4⟩).keep hb2 hz1
  dsimp only at b0' b1' b2' b3' b4'
  have HB2:=zh (HB.trans (hb2.mono HB.size))
  clear ho hb2 b0 b1 b2 b3 b4 hb1 HB hz1
  go_wp2_with fail
  go_loop [14] (λi=>∃k:Nat,k<=fn/\i=.int .i64 k/\upto (dS m) k=true) (λi=>fn-(intOf i).toNat)
  case atStart=>exact⟨0,Nat.zero_le _,rfl,rfl⟩
  case round=>
   obtain⟨k,hk,rfl,ha⟩:=hrel
   have HA:=zh ha
   clear ha
   by_cases hlt:k<fn
   ·obtain⟨b5,o5,x,rfl,hb5,hx5,c5⟩:=HRO.o.at1 hlt
    obtain⟨b6,o6,r,rfl,hb6,hx6,c6⟩:=HI.o.refs.at1 hlt
    obtain⟨b7,o7,s,tA,tn,tc,rfl,hb7,hx7,d0,d1,d2,hsv⟩:=HI.o.slots.at_ (k:=k) hlt
    have c6':=(HB2.o.cell (p:=⟨b6,o6+k,none⟩) hb6).trans c6
    have d0':=(HB2.o.cell (p:=⟨b7,o7+k*3,none⟩) hb7).trans d0
    have HR:=zh (lg hx6 hx5 hx7)
    clear hx5 hx6 hx7 c6 d0 d1 d2 hsv
    cases h1:(r !=x)
    ·have h1':(r==x)=true:=by simpa using h1
     cases h2:(x==0)<;>cases h3:(s.kind==0)
     ·have HRR:=zh (show dS m k=true from by rw[HR.o,h1',h2,h3];rfl)
      go_wp2_with fail
      go_round
      case rel=>exact⟨k+1,by omega,by go_num,by rw[co,HA.o,HRR.o];rfl⟩
      case measure=>simp[intOf];omega
     ·have HRR:=zh (show dS m k=false from by rw[HR.o,h1',h2,h3];rfl)
      go_wp2_with fail
      go_ret
      exact⟨aw (gh HE.o (by rw[HSL.o];exact bO hlt HRR.o)),HB2.o⟩
     ·have HRR:=zh (show dS m k=false from by rw[HR.o,h1',h2,h3];rfl)
      go_wp2_with fail
      go_ret
      exact⟨aw (gh HE.o (by rw[HSL.o];exact bO hlt HRR.o)),HB2.o⟩
     ·have HRR:=zh (show dS m k=true from by rw[HR.o,h1',h2,h3];rfl)
      go_wp2_with fail
      go_round
      case rel=>exact⟨k+1,by omega,by go_num,by rw[co,HA.o,HRR.o];rfl⟩
      case measure=>simp[intOf];omega
    ·have HRR:=zh (show dS m k=false from by rw[HR.o,show(r==x)=false from by simpa using h1];rfl)
     go_wp2_with fail
     go_ret
     exact⟨aw (gh HE.o (by rw[HSL.o];exact bO hlt HRR.o)),HB2.o⟩
   ·have HD:=zh (show ab m=0 from lh HE.o (by rw[HSL.o,show fn=k from by omega];exact HA.o))
    go_wp2_with fail
    go_ret
    exact⟨aw HD.o,HB2.o⟩
 ·have R:=zh (rN he)
  have he':(aB m !=0)=true:=by simpa using he
  generalize aB m=er at*
  have K1:=zh K1'
  clear K1' h he
  go_enter func65,ntmps65
  go_wp2_with fail
  refine(K1.o _ HB1).mono ?_
  rintro e w1 ⟨rfl,hb1⟩
  go_wp2_with fail
  go_ret
  exact⟨aw R.o,aa HB1 hb1⟩
end
section
open Go.Proofs.Tryz
open Go.RowKit Sl
theorem bg (v:IV) (m:Img) (w:World) (h:ImgR w w.heap.size v m):
  Calls prog 89 #[.agg #[.int .i64 m.guest,.slice v.rA v.rn v.rc,.slice v.sA v.sn v.sc,.slice v.fA v.fn v.fc,.slice v.pA v.pn v.pc]] w λe w'=>e=.returned (.int .i64 (ab m))/\Below w.heap.size w w':=by
 obtain⟨rA,rn,rc,sA,sn,sc,fA,fn,fc,pA,pn,pc⟩:=v
 dsimp only
 have HB1:=ac w (.cells #[.int .i64 m.guest,.slice rA rn rc,.slice sA sn sc,.slice fA fn fc,.slice pA pn pc] 34)
 have K1':= λW (hb:Below w.heap.size w W)=>uZ ⟨rA,rn,rc,sA,sn,sc,fA,fn,fc,pA,pn,pc⟩ m W (h.next hb)
 have HX:=Box.new w m.guest ⟨rA,rn,rc,sA,sn,sc,fA,fn,fc,pA,pn,pc⟩ 34
 have hz:w.heap.size<(w.alloc (.cells #[.int .i64 m.guest,.slice rA rn rc,.slice sA sn sc,.slice fA fn fc,.slice pA pn pc] 34)).heap.size:=by simp
 have HX':=zh HX
 have HZ:=zh hz
 clear HX hz
 by_cases he:aB m=0
 ·have K2:=zh (λW (hb:Below w.heap.size w W)=>mL ⟨rA,rn,rc,sA,sn,sc,fA,fn,fc,pA,pn,pc⟩ m W (h.next hb) (dz he))
  rw[he]at K1'
  have K1:=zh K1'
  have HE:=zh he
  have HI:=zh h
  have hsl:m.slots.length=sn:=h.slen
  have hfl:m.refs.length=fn:=h.flen
  have hss:sn<=40:=by have:=(dz he).slots;omega
  have hfs:fn=sn:=by have:=(dI he).1.refs;omega
  have HSL:=zh hsl
  subst hfs
  clear K1' h he hsl hfl
  go_enter func89,ntmps89
  go_wp2_with fail
  refine(K1.o _ HB1).mono ?_
  rintro e w1 ⟨rfl,hb1⟩
  have HB:=aa HB1 hb1
  have HX1:=HX'.o.keep hb1 HZ.o
  have hz1:w.heap.size<w1.heap.size:=by have:=HZ.o;have:=hb1.size;omega
  obtain⟨b0,b1,b2,b3,b4⟩:=HX1
  dsimp only at b0 b1 b2 b3 b4
  go_wp2_with fail
  rw[HSL.o]at K2
  refine(K2.o _ HB).mono ?_
  rintro e w2 ⟨A,c,rfl,ho,hb2,hc1,hc2⟩
  have HRO:=zh (Rd.of_own ho)
  have HX2:=zh ((show Box w1 w.heap.size m.guest ⟨rA,rn,rc,sA,fn,sc,fA,fn,fc,pA,pn,pc⟩from⟨b0,b1,b2,b3,b4⟩).keep hb2 hz1)
  have hz2:w.heap.size<w2.heap.size:=by have:=hb2.size;omega
  have HB2:=zh (HB.trans (hb2.mono HB.size))
  clear ho hb2 b0 b1 b2 b3 b4 hb1 HB hz1
  go_wp2_with fail
  go_loopw [5] (λi wr=>∃k:Nat,k<=fn/\i=.int .i64 k/\upto (dS m) k=true/\Below w2.heap.size w2 wr) (λi _=>fn-(intOf i).toNat)
  case atStart=>exact⟨0,Nat.zero_le _,rfl,rfl,Below.refl _ _⟩
  case round=>
   obtain⟨k,hk,rfl,ha,hbw⟩:=hrel
   have HA:=zh ha
   have HBr:=zh (aa HB2.o hbw)
   obtain⟨b0,b1,b2,b3,b4⟩:=HX2.o.keep hbw hz2
   dsimp only at b0 b1 b2 b3 b4
   clear ha
   by_cases hlt:k<fn
   ·obtain⟨b5,o5,x,rfl,hb5,hx5,c5⟩:=HRO.o.at1 hlt
    obtain⟨b6,o6,r,rfl,hb6,hx6,c6⟩:=HI.o.refs.at1 hlt
    obtain⟨b7,o7,s,tA,tn,tc,rfl,hb7,hx7,d0,d1,d2,hsv⟩:=HI.o.slots.at_ (k:=k) hlt
    have c5':=(hbw.cell (p:=⟨b5,o5+k,none⟩) hb5).trans c5
    have c6':=(HBr.o.cell (p:=⟨b6,o6+k,none⟩) hb6).trans c6
    have d0':=(HBr.o.cell (p:=⟨b7,o7+k*3,none⟩) hb7).trans d0
    have HR:=zh (lg hx6 hx5 hx7)
    have k0:(0:Int)<=(k:Int):=by omega
    have k1:(k:Int)<(fn:Int):=by omega
    clear hx5 hx6 hx7 c6 d0 d1 d2 hsv c5
    cases h1:(r !=x)
    ·have h1':(r==x)=true:=by simpa using h1
     cases h2:(x==0)<;>cases h3:(s.kind==0)
     ·have HRR:=zh (show dS m k=true from by rw[HR.o,h1',h2,h3];rfl)
      clear h1'
      go_wp2_with fail
      go_quiet (fail)
      go_wp2_with fail
      go_roundw
      case rel=>exact⟨k+1,by omega,by go_num,by rw[co,HA.o,HRR.o];rfl,zb hbw _⟩
      case measure=>simp[intOf];omega
     ·have HRR:=zh (show dS m k=false from by rw[HR.o,h1',h2,h3];rfl)
      clear h1'
      go_wp2_with fail
      go_quiet (fail)
      go_wp2_with fail
      go_ret
      exact⟨aw (gh HE.o (by rw[HSL.o];exact bO hlt HRR.o)),zb HBr.o _⟩
     ·have HRR:=zh (show dS m k=false from by rw[HR.o,h1',h2,h3];rfl)
      clear h1'
      go_wp2_with fail
      go_quiet (fail)
      go_wp2_with fail
      go_ret
      exact⟨aw (gh HE.o (by rw[HSL.o];exact bO hlt HRR.o)),zb HBr.o _⟩
     ·have HRR:=zh (show dS m k=true from by rw[HR.o,h1',h2,h3];rfl)
      clear h1'
      go_wp2_with fail
      go_quiet (fail)
      go_wp2_with fail
      go_roundw
      case rel=>exact⟨k+1,by omega,by go_num,by rw[co,HA.o,HRR.o];rfl,zb hbw _⟩
      case measure=>simp[intOf];omega
    ·have HRR:=zh (show dS m k=false from by rw[HR.o,show(r==x)=false from by simpa using h1];rfl)
     go_wp2_with fail
     go_quiet (fail)
     go_wp2_with fail
     go_ret
     exact⟨aw (gh HE.o (by rw[HSL.o];exact bO hlt HRR.o)),zb HBr.o _⟩
   ·have HD:=zh (show ab m=0 from lh HE.o (by rw[HSL.o,show fn=k from by omega];exact HA.o))
    go_wp2_with fail
    go_ret
    exact⟨aw HD.o,HBr.o⟩
 ·have R:=zh (rN he)
  have he':(aB m !=0)=true:=by simpa using he
  generalize aB m=er at*
  have K1:=zh K1'
  clear K1' h he
  go_enter func89,ntmps89
  go_wp2_with fail
  refine(K1.o _ HB1).mono ?_
  rintro e w1 ⟨rfl,hb1⟩
  go_wp2_with fail
  go_ret
  exact⟨aw R.o,aa HB1 hb1⟩
theorem AE {m:Img} (h:ab m=0) {g:Int} {r:List Int} (hr:rootFine m.slots g r=true) {n:Nat} (hn:(n:Int)<g):EntOk m.slots r n:=by
 obtain⟨h1,h2⟩:=dW hr
 have hlt:n/4<r.length:=by unfold a6 at h1;omega
 refine⟨hlt,?_⟩
 rcases pi (h2 _ hlt)with h3|h3
 ·exact .inl h3
 ·obtain⟨k,s,e,k1,ks,kk⟩:=jQ (x:=int r (n/4)) (l:=m.slots) (by simp[h3])
  have hl:=(zl ks)
  rw[e]
  refine .inr ⟨by omega,by omega,?_⟩
  rw[bP ks,gz (dI (aq h).1).1.slots ks kk];omega
theorem jW {m:Img} (h:ab m=0) {n:Nat} (hn:(n:Int)<m.guest):EntOk m.slots m.root n:=by
 obtain⟨h1,h2,h3,h4,h5⟩:=dI (aq h).1
 unfold bU at h5
 rw[Bool.and_eq_true]at h5
 exact AE h h5.1 hn
theorem fh (v:IV) (m:Img) (x:Int) (w:World) (h:ImgR w w.heap.size v m):
  Calls prog 80 #[.agg #[.int .i64 m.guest,.slice v.rA v.rn v.rc,.slice v.sA v.sn v.sc,.slice v.fA v.fn v.fc,.slice v.pA v.pn v.pc],.int .i64 x] w λe w'=>e=.returned (.tuple #[.int .i64 (iZ m x),.int .i64 (aE m x)])/\Below w.heap.size w w':=by
 obtain⟨rA,rn,rc,sA,sn,sc,fA,fn,fc,pA,pn,pc⟩:=v
 dsimp only
 have HB1:=ac w (.cells #[.int .i64 m.guest,.slice rA rn rc,.slice sA sn sc,.slice fA fn fc,.slice pA pn pc] 34)
 have K1':= λW (hb:Below w.heap.size w W)=>bq ⟨rA,rn,rc,sA,sn,sc,fA,fn,fc,pA,pn,pc⟩ m W (h.next hb)
 have HX:=Box.new w m.guest ⟨rA,rn,rc,sA,sn,sc,fA,fn,fc,pA,pn,pc⟩ 34
 have hz:w.heap.size<(w.alloc (.cells #[.int .i64 m.guest,.slice rA rn rc,.slice sA sn sc,.slice fA fn fc,.slice pA pn pc] 34)).heap.size:=by simp
 have HX':=zh HX
 have HZ:=zh hz
 clear HX hz
 by_cases he:ab m=0
 ·rw[he]at K1'
  have K1:=zh K1'
  by_cases hx:0<=x/\x<m.guest
  ·obtain⟨n,rfl⟩:=Int.eq_ofNat_of_zero_le hx.1
   have R:=zh (mV he hx.2)
   have hrn:rn<=4611686018427387903:=h.rcap.1
   have K2:=zh (λW (hb:Below w.heap.size w W)=>xT ⟨rA,rn,rc,sA,sn,sc,fA,fn,fc,pA,pn,pc⟩ m rA rn rc m.root n W (h.next hb) (h.root.next hb) (jW he hx.2) hrn)
   have hx2:=hx.2
   clear K1' h he hx
   go_enter func80,ntmps80
   go_wp2_with fail
   refine(K1.o _ HB1).mono ?_
   rintro e w1 ⟨rfl,hb1⟩
   have HB:=aa HB1 hb1
   obtain⟨b0,b1,b2,b3,b4⟩:=HX'.o.keep hb1 HZ.o
   dsimp only at b0 b1 b2 b3 b4
   go_wp2_with fail
   refine(K2.o _ HB).mono ?_
   rintro e w2 ⟨rfl,hb2⟩
   go_wp2_with fail
   go_ret2
   exact⟨iy R.o.2 R.o.1,aa HB hb2⟩
  ·have R:=zh (zW he hx)
   have hx':x<0\/(0<=x/\m.guest<=x):=by omega
   clear K1' h he hx
   rcases hx' with hx|⟨hx1,hx2⟩
   all_goals
    go_enter func80,ntmps80
    go_wp2_with fail
    refine(K1.o _ HB1).mono ?_
    rintro e w1 ⟨rfl,hb1⟩
    have HB:=aa HB1 hb1
    obtain⟨b0,b1,b2,b3,b4⟩:=HX'.o.keep hb1 HZ.o
    dsimp only at b0 b1 b2 b3 b4
    go_wp2_with fail
    go_ret2
    exact⟨iy R.o.2 R.o.1,HB⟩
 ·have R:=zh (wW he x)
  have he':(ab m !=0)=true:=by simpa using he
  generalize ab m=er at*
  have K1:=zh K1'
  clear K1' h he
  go_enter func80,ntmps80
  go_wp2_with fail
  refine(K1.o _ HB1).mono ?_
  rintro e w1 ⟨rfl,hb1⟩
  go_wp2_with fail
  go_ret2
  exact⟨iy R.o.2 R.o.1,aa HB1 hb1⟩
theorem dq (v:IV) (m:Img) (x:Int) (w:World) (h:ImgR w w.heap.size v m):
  Calls prog 51 #[.agg #[.int .i64 m.guest,.slice v.rA v.rn v.rc,.slice v.sA v.sn v.sc,.slice v.fA v.fn v.fc,.slice v.pA v.pn v.pc],.int .i64 x] w λe w'=>e=.returned (.int .i64 (aE m x))/\Below w.heap.size w w':=by
 obtain⟨rA,rn,rc,sA,sn,sc,fA,fn,fc,pA,pn,pc⟩:=v
 dsimp only
 have HB1:=ac w (.cells #[.int .i64 m.guest,.slice rA rn rc,.slice sA sn sc,.slice fA fn fc,.slice pA pn pc] 34)
 have K1':= λW (hb:Below w.heap.size w W)=>bg ⟨rA,rn,rc,sA,sn,sc,fA,fn,fc,pA,pn,pc⟩ m W (h.next hb)
 have HX:=Box.new w m.guest ⟨rA,rn,rc,sA,sn,sc,fA,fn,fc,pA,pn,pc⟩ 34
 have hz:w.heap.size<(w.alloc (.cells #[.int .i64 m.guest,.slice rA rn rc,.slice sA sn sc,.slice fA fn fc,.slice pA pn pc] 34)).heap.size:=by simp
 have HX':=zh HX
 have HZ:=zh hz
 clear HX hz h
 by_cases he:ab m=0
 ·rw[he]at K1'
  have K1:=zh K1'
  have hg:=(dI (aq he).1).2.2.1
  unfold aV at hg
  rw[Bool.and_eq_true]at hg
  obtain⟨g0,g16⟩:=eI hg.1
  clear hg
  by_cases hx:0<=x/\x<m.guest
  ·have R:=zh (show aE m x=0 from by unfold aE;rw[if_neg (by omega),if_pos hx])
   have gx:(decide (0<=x)&&decide (x<=m.guest-1))=true:=by simp;omega
   clear K1' he hx
   go_enter func51,ntmps51
   go_wp2_with fail
   refine(K1.o _ HB1).mono ?_
   rintro e w1 ⟨rfl,hb1⟩
   have HB:=aa HB1 hb1
   obtain⟨b0,b1,b2,b3,b4⟩:=HX'.o.keep hb1 HZ.o
   dsimp only at b0 b1 b2 b3 b4
   go_wp2_with (go_at_call 88;refine(aW _ _ _ _).mono ?_;rintro e w2 ⟨rfl,rfl⟩)
   go_ret
   exact⟨aw R.o,HB⟩
  ·have R:=zh (show aE m x=3 from by unfold aE;rw[if_neg (by omega),if_neg hx])
   have gx:(decide (0<=x)&&decide (x<=m.guest-1))=false:=by rw[Bool.eq_false_iff];simp;omega
   clear K1' he hx
   go_enter func51,ntmps51
   go_wp2_with fail
   refine(K1.o _ HB1).mono ?_
   rintro e w1 ⟨rfl,hb1⟩
   have HB:=aa HB1 hb1
   obtain⟨b0,b1,b2,b3,b4⟩:=HX'.o.keep hb1 HZ.o
   dsimp only at b0 b1 b2 b3 b4
   go_wp2_with (go_at_call 88;refine(aW _ _ _ _).mono ?_;rintro e w2 ⟨rfl,rfl⟩)
   go_ret
   exact⟨aw R.o,HB⟩
 ·have R:=zh (wW he x)
  have he':(ab m !=0)=true:=by simpa using he
  generalize ab m=er at*
  have K1:=zh K1'
  clear K1' he
  go_enter func51,ntmps51
  go_wp2_with fail
  refine(K1.o _ HB1).mono ?_
  rintro e w1 ⟨rfl,hb1⟩
  go_wp2_with fail
  go_ret
  exact⟨aw R.o.1,aa HB1 hb1⟩
theorem ju (v:IV) (m:Img) (n:Nat) (w:World) (h:ImgR w w.heap.size v m) (he:EntOk m.slots m.root n):
  Calls prog 86 #[.agg #[.int .i64 m.guest,.slice v.rA v.rn v.rc,.slice v.sA v.sn v.sc,.slice v.fA v.fn v.fc,.slice v.pA v.pn v.pc],.int .i64 (n:Nat)] w λe w'=>e=.returned (.int .i64 (ag m.slots m.root n))/\Below w.heap.size w w':=by
 obtain⟨rA,rn,rc,sA,sn,sc,fA,fn,fc,pA,pn,pc⟩:=v
 dsimp only
 have HB1:=ac w (.cells #[.int .i64 m.guest,.slice rA rn rc,.slice sA sn sc,.slice fA fn fc,.slice pA pn pc] 34)
 have hrn:rn<=4611686018427387903:=h.rcap.1
 have K2:=zh (λW (hb:Below w.heap.size w W)=>Af ⟨rA,rn,rc,sA,sn,sc,fA,fn,fc,pA,pn,pc⟩ m rA rn rc m.root n W (h.next hb) (h.root.next hb) he hrn)
 clear h he
 go_enter func86,ntmps86
 go_wp2_with fail
 refine(K2.o _ HB1).mono ?_
 rintro e w2 ⟨rfl,hb2⟩
 go_wp2_with fail
 go_ret
 exact⟨rfl,aa HB1 hb2⟩
end
section
open Go.Proofs.Tryz
open Go.RowKit Sl
theorem ym (w:World):Calls prog 145 #[] w λe w'=>e=.returned (.string ng)/\w=w':=by
 go_enter func145,ntmps145
 go_wp2_with fail
 go_ret
 exact⟨rfl,rfl⟩
theorem AF (w:World):Calls prog 137 #[] w λe w'=>e=.returned (.string ng)/\Below w.heap.size w w':=by
 have hr:=strings_Repeat_main {data:=#[0]} 4 w (by decide) (by decide) (by decide) (by decide)
 have e1:(⟨(Lib.repeatL ({data:=#[0]}:ByteArray).data.toList 4).toArray⟩:ByteArray)=ng:=by decide+kernel
 rw[e1]at hr
 have HR:=zh hr
 clear hr e1
 go_enter func137,ntmps137
 go_wp2_with (go_at_call 183;refine HR.o.mono ?_;rintro e w' ⟨rfl,hb⟩)
 go_ret
 exact⟨rfl,hb⟩
end
section
open Go.RowKit Sl
theorem bK {w:World} {base size n c:Nat} {e:TypeId} {A:Option Addr} {xs:List Value} (h:w.ownsRow base e size (.slice A n c) n xs) (hn:0<n):∃g,A=some ⟨g,0,none⟩/\base<=g/\g<w.heap.size:=by
 rcases h.2 with⟨hv,rfl⟩|⟨g,cap,cur,hv,hb,hh,_⟩
 ·omega
 ·simp only[Value.slice.injEq]at hv
  obtain⟨rfl,_,_⟩:=hv
  exact⟨g,rfl,hb,(za hh)⟩
end
section
open Go.Proofs.Tryz
open Go.RowKit Sl
theorem mX {a b:ByteArray} (h:b=a):Ending.returned (.string a)=.returned (.string b):=by rw[h]
theorem AG (v:IV) (m:Img) (e:Int) (w:World) (h:ImgR w w.heap.size v m) (he:nj m.slots e):
  Calls prog 81 #[.agg #[.int .i64 m.guest,.slice v.rA v.rn v.rc,.slice v.sA v.sn v.sc,.slice v.fA v.fn v.fc,.slice v.pA v.pn v.pc],.int .i64 e] w λe' w'=>e'=.returned (.string (ch m.slots e))/\Below w.heap.size w w':=by
 obtain⟨rA,rn,rc,sA,sn,sc,fA,fn,fc,pA,pn,pc⟩:=v
 dsimp only
 have HB1:=ac w (.cells #[.int .i64 m.guest,.slice rA rn rc,.slice sA sn sc,.slice fA fn fc,.slice pA pn pc] 34)
 by_cases h0:e<=0
 ·have R:=zh (dX (l:=m.slots) h0)
  clear h he
  go_enter func81,ntmps81
  go_wp2_with fail
  refine(AF _).mono ?_
  rintro e w1 ⟨rfl,hb1⟩
  go_wp2_with fail
  go_ret
  exact⟨mX R.o,aa HB1 hb1⟩
 ·rcases he with he|⟨k,s,rfl,hk,hs,_⟩
  ·exact absurd he h0
  ·have R:=zh (fB hs hk)
   have hkl:k<sn:=by have:=h.slen;have:=(zl hs);dsimp only at*;omega
   obtain⟨b,o,s2,tA,tn,tc,rfl,hb,hx,d0,d1,d2,hsv⟩:=h.slots.at_ (k:=k) hkl
   rw[hs]at hx
   injection hx with hx
   subst hx
   have d1':=(HB1.cell (p:=⟨b,o+k*3+1,none⟩) hb).trans d1
   have e0:(0:Int)<=(k:Int):=by omega
   have e1:(k:Int)<(sn:Int):=by omega
   have e2:(0:Int)<(k:Int):=by omega
   clear h hs d0 d1 d2 hsv h0
   go_enter func81,ntmps81
   go_wp2_with fail
   go_ret
   exact⟨mX R.o,HB1⟩
theorem yn (v:IV) (m:Img) (e:Int) (w:World) (h:ImgR w w.heap.size v m) (he:nj m.slots e):
  Calls prog 90 #[.agg #[.int .i64 m.guest,.slice v.rA v.rn v.rc,.slice v.sA v.sn v.sc,.slice v.fA v.fn v.fc,.slice v.pA v.pn v.pc],.int .i64 e] w λe' w'=>e'=.returned (.string (ch m.slots e))/\Below w.heap.size w w':=by
 obtain⟨rA,rn,rc,sA,sn,sc,fA,fn,fc,pA,pn,pc⟩:=v
 dsimp only
 have HB1:=ac w (.cells #[.int .i64 m.guest,.slice rA rn rc,.slice sA sn sc,.slice fA fn fc,.slice pA pn pc] 34)
 by_cases h0:e<=0
 ·have R:=zh (dX (l:=m.slots) h0)
  clear h he
  go_enter func90,ntmps90
  go_wp2_with fail
  refine(ym _).mono ?_
  rintro e w1 ⟨rfl,rfl⟩
  go_wp2_with fail
  go_ret
  exact⟨mX R.o,HB1⟩
 ·rcases he with he|⟨k,s,rfl,hk,hs,_⟩
  ·exact absurd he h0
  ·have R:=zh (fB hs hk)
   have hkl:k<sn:=by have:=h.slen;have:=(zl hs);dsimp only at*;omega
   obtain⟨b,o,s2,tA,tn,tc,rfl,hb,hx,d0,d1,d2,hsv⟩:=h.slots.at_ (k:=k) hkl
   rw[hs]at hx
   injection hx with hx
   subst hx
   have d1':=(HB1.cell (p:=⟨b,o+k*3+1,none⟩) hb).trans d1
   have e0:(0:Int)<=(k:Int):=by omega
   have e1:(k:Int)<(sn:Int):=by omega
   have e2:(0:Int)<(k:Int):=by omega
   clear h hs d0 d1 d2 hsv h0
   go_enter func90,ntmps90
   go_wp2_with fail
   go_ret
   exact⟨mX R.o,HB1⟩
end
section
open Go.Proofs.Tryz
open Go.RowKit Sl
abbrev ae (m:Img) (v:IV):Value:=.agg #[.int .i64 m.guest,.slice v.rA v.rn v.rc,.slice v.sA v.sn v.sc,.slice v.fA v.fn v.fc,.slice v.pA v.pn v.pc]
theorem sH (v:IV) (m:Img) (k:Nat) (w:World) (h:ImgR w w.heap.size v m) (he:EntOk m.slots m.root k) (hp:nj m.slots (ag m.slots m.root k)):
  Calls prog 53 #[ae m v,.int .i64 (k:Nat)] w λe' w'=>e'=.returned (.string (ch m.slots (ag m.slots m.root k)))/\Below w.heap.size w w':=by
 have K1:=zh (λW (hb:Below w.heap.size w W)=>ju v m k W (h.next hb) he)
 have K2:=zh (λW (hb:Below w.heap.size w W)=>yn v m _ W (h.next hb) hp)
 obtain⟨rA,rn,rc,sA,sn,sc,fA,fn,fc,pA,pn,pc⟩:=v
 dsimp only[ae]at K1 K2⊢
 have HB1:=ac w (.cells #[.int .i64 m.guest,.slice rA rn rc,.slice sA sn sc,.slice fA fn fc,.slice pA pn pc] 34)
 generalize ag m.slots m.root k=en at K1 K2
 clear h he hp
 go_enter func53,ntmps53
 go_wp2_with fail
 have hz:w.heap.size<(w.alloc (.cells #[.int .i64 m.guest,.slice rA rn rc,.slice sA sn sc,.slice fA fn fc,.slice pA pn pc] 34)).heap.size:=by simp
 obtain⟨b0,b1,b2,b3,b4⟩:=Box.new w m.guest ⟨rA,rn,rc,sA,sn,sc,fA,fn,fc,pA,pn,pc⟩ 34
 generalize w.alloc (.cells #[.int .i64 m.guest,.slice rA rn rc,.slice sA sn sc,.slice fA fn fc,.slice pA pn pc] 34)=wa at*
 have HBd:Hid (Below wa.heap.size wa wa.drew):=zh (Below.refl _ _).drew
 have HBD:Hid (Below w.heap.size w wa.drew):=zh HB1.drew
 go_region_held3 (λw'=>w'.cell? ⟨w.heap.size,0,none⟩=some (.int .i64 m.guest)/\w'.cell? ⟨w.heap.size,1,none⟩=some (.slice rA rn rc)/\w'.cell? ⟨w.heap.size,2,none⟩=some (.slice sA sn sc)/\w'.cell? ⟨w.heap.size,3,none⟩=some (.slice fA fn fc)/\w'.cell? ⟨w.heap.size,4,none⟩=some (.slice pA pn pc)/\Below wa.heap.size wa w')
  (first|(refine⟨?_,?_,?_,?_,?_,?_⟩<;>first|assumption|exact HBd.o)|(apply cG hz hb6;apply cG hz hb5;(refine⟨?_,?_,?_,?_,?_,?_⟩<;>first|assumption|exact HBd.o))|(apply jO hz;apply cG hz hb6;apply cG hz hb5;(refine⟨?_,?_,?_,?_,?_,?_⟩<;>first|assumption|exact HBd.o))|(apply cG hz hb5;(refine⟨?_,?_,?_,?_,?_,?_⟩<;>first|assumption|exact HBd.o))|(apply jO hz;apply cG hz hb5;(refine⟨?_,?_,?_,?_,?_,?_⟩<;>first|assumption|exact HBd.o)))
  (first|(go_at_call 86;refine(K1.o _ HBD.o).mono ?_;rintro e w5 ⟨rfl,hb5⟩)|(go_at_call 90;refine(K2.o _ (aa HBD.o hb5)).mono ?_;rintro e w6 ⟨rfl,hb6⟩))
 go_wp2_with fail
 go_ret
 exact⟨rfl,aa (aa HBD.o hb5) hb6⟩
theorem dL (v:IV) (m:Img) (name:ByteArray) (w:World) (h:ImgR w w.heap.size v m):
  Calls prog 147 #[ae m v,.string name] w λe' w'=>e'=.returned (.int .i64 (bD (named name) m.snaps))/\Below w.heap.size w w':=by
 obtain⟨rA,rn,rc,sA,sn,sc,fA,fn,fc,pA,pn,pc⟩:=v
 dsimp only[ae]
 have HB1:=ac w (.cells #[.int .i64 m.guest,.slice rA rn rc,.slice sA sn sc,.slice fA fn fc,.slice pA pn pc] 34)
 have hpn:pn<=4611686018427387903:=h.pcap.1
 have HPL:=zh h.plen
 have HI:=zh (h.box (.cells #[.int .i64 m.guest,.slice rA rn rc,.slice sA sn sc,.slice fA fn fc,.slice pA pn pc] 34)).snaps
 clear h
 dsimp only at HPL HI
 go_enter func147,ntmps147
 go_wp2_with fail
 go_loop [5] (λi=>∃k:Nat,k<=pn/\i=.int .i64 k/\(m.snaps.take k).all (λy=> !named name y)=true) (λi=>pn-(intOf i).toNat)
 case atStart=>exact⟨0,Nat.zero_le _,rfl,by simp⟩
 case round=>
  obtain⟨k,hk,rfl,ha⟩:=hrel
  have HA:=zh ha
  clear ha
  by_cases hlt:k<pn
  ·obtain⟨b,o,s,tA,tn,tc,rfl,hb,hx,d0,d1,d2,hsv⟩:=HI.o.at_ (k:=k) hlt
   have HX:=zh hx
   clear hx d1 d2 hsv
   have e0:(0:Int)<=(k:Int):=by omega
   have e1:(k:Int)<(pn:Int):=by omega
   cases hp:(s.name.toList==name.toList)
   ·go_wp2_with fail
    go_round
    case rel=>exact⟨k+1,by omega,by go_num,by rw[bf _ m.snaps k s HX.o,HA.o];unfold named;rw[hp];rfl⟩
    case measure=>simp[intOf];omega
   ·go_wp2_with fail
    go_ret
    exact⟨aw (gK (named name) m.snaps k s HX.o hp HA.o),HB1⟩
  ·go_wp2_with fail
   go_ret
   exact⟨aw (fX (named name) m.snaps (cP _ m.snaps k (by rw[HPL.o];omega) HA.o)),HB1⟩
end
section
open Go.Proofs.Tryz
open Go.RowKit Sl
theorem Ct {m:Img} {x:Int} (h:aE m x≠0):fC m x=noP:=by unfold fC;rw[if_neg h]
theorem Cu {m:Img} {n:Nat} (h:aE m (n:Nat)=0):fC m (n:Nat)=ch m.slots (ag m.slots m.root n):=by unfold fC;rw[if_pos h,Int.toNat_natCast]
theorem bL {w:World} {base base' size n:Nat} {e:TypeId} {v:Value} {xs:List Value} (h:w.ownsRow base e size v n xs) (hb:base'<=base):w.ownsRow base' e size v n xs:=
 ⟨h.1,h.2.imp id λ⟨g,cap,cur,h1,h2,h3⟩=>⟨g,cap,cur,h1,by omega,h3⟩⟩
theorem yo (v:IV) (m:Img) (x:Int) (w:World) (h:ImgR w w.heap.size v m):
  Calls prog 37 #[ae m v,.int .i64 x] w λe w'=>e=.returned (.tuple #[.string (fC m x),.int .i64 (aE m x)])/\Below w.heap.size w w':=by
 have K1':= λW (hb:Below w.heap.size w W)=>fh v m x W (h.next hb)
 by_cases he:aE m x=0
 ·obtain⟨hck,hx0,hx1⟩:=dm he
  obtain⟨n,rfl⟩:=Int.eq_ofNat_of_zero_le hx0
  have K2:=zh (λW (hb:Below w.heap.size w W)=>AG v m _ W (h.next hb) (je hck m.root n))
  have R:=zh (Cu he)
  rw[(mV hck hx1).2,he]at K1'
  have K1:=zh K1'
  have HE:=zh he
  obtain⟨rA,rn,rc,sA,sn,sc,fA,fn,fc,pA,pn,pc⟩:=v
  dsimp only[ae]at K1 K2⊢
  have HB1:=ac w (.cells #[.int .i64 m.guest,.slice rA rn rc,.slice sA sn sc,.slice fA fn fc,.slice pA pn pc] 34)
  have HX:=zh (Box.new w m.guest ⟨rA,rn,rc,sA,sn,sc,fA,fn,fc,pA,pn,pc⟩ 34)
  have hz:w.heap.size<(w.alloc (.cells #[.int .i64 m.guest,.slice rA rn rc,.slice sA sn sc,.slice fA fn fc,.slice pA pn pc] 34)).heap.size:=by simp
  generalize ag m.slots m.root n=en at K1 K2 R
  clear K1' h he hck hx0 hx1
  go_enter func37,ntmps37
  go_wp2_with fail
  refine(K1.o _ HB1).mono ?_
  rintro e w1 ⟨rfl,hb1⟩
  have HB:=aa HB1 hb1
  obtain⟨b0,b1,b2,b3,b4⟩:=HX.o.keep hb1 hz
  dsimp only at b0 b1 b2 b3 b4
  go_wp2_with fail
  refine(K2.o _ HB).mono ?_
  rintro e w2 ⟨rfl,hb2⟩
  go_wp2_with fail
  go_ret2
  exact⟨zY R.o HE.o,aa HB hb2⟩
 ·have R:=zh (Ct he)
  obtain⟨ln,lz⟩:iZ m x=0/\(aE m x !=0)=true:=⟨by unfold iZ;rw[if_neg he],by simpa using he⟩
  rw[ln]at K1'
  generalize aE m x=er at*
  have K1:=zh K1'
  obtain⟨rA,rn,rc,sA,sn,sc,fA,fn,fc,pA,pn,pc⟩:=v
  dsimp only[ae]at K1⊢
  have HB1:=ac w (.cells #[.int .i64 m.guest,.slice rA rn rc,.slice sA sn sc,.slice fA fn fc,.slice pA pn pc] 34)
  clear K1' h he ln
  go_enter func37,ntmps37
  go_wp2_with fail
  refine(K1.o _ HB1).mono ?_
  rintro e w1 ⟨rfl,hb1⟩
  go_wp2_with fail
  go_ret2
  exact⟨zY R.o rfl,aa HB1 hb1⟩
end
section
open Go.Proofs.Tryz
open Go.RowKit Sl
section
variable {wa W W':World} {k b o o':Nat} {a b' c d f u:Value}
end
end
section
open Go.RowKit Sl
section
variable {W W':World} {b:Nat} {g:Int} {v:IV} {row:Option Nat}
theorem Box.kept (h:Box W b g v) (hg:W.grownBy W' row) (hn:some b≠row):Box W' b g v:=
 ⟨hg.cell h.1 hn,hg.cell h.2.1 hn,hg.cell h.2.2.1 hn,hg.cell h.2.2.2.1 hn,hg.cell h.2.2.2.2 hn⟩
theorem TypeB.kept {T:TypeId} (h:TypeB W b T) (hg:W.grownBy W' row) (hn:some b≠row):TypeB W' b T:=by
 obtain⟨c,f,e⟩:=h
 exact⟨c,f,(hg.block b (za e) hn).trans e⟩
theorem TypeB.ne {b':Nat} {T T':TypeId} (h:TypeB W b T) (h':TypeB W b' T') (hne:T≠T'):b≠b':=by
 rintro rfl
 obtain⟨c,f,e⟩:=h
 obtain⟨c',f',e'⟩:=h'
 rw[e]at e'
 injection e' with e'
 injection e' with _ e2 _
 exact hne e2
end
theorem TypeB.next {W W':World} {b:Nat} {T:TypeId} (h:TypeB W b T) (hb:Below W.heap.size W W'):TypeB W' b T:=by
 obtain⟨c,f,e⟩:=h
 exact⟨c,f,(hb.block b (za e)).trans e⟩
theorem fI {W W':World} {base:Nat} {row:Option Nat} (hg:W.grownBy W' row) (hb:base<=W.heap.size) (hr:∀k,row=some k->base<=k):Below base W W':=(Below.refl _ _).grown hg hb hr
section
variable {w w':World} {base:Nat} {tg tg':Nat->Nat} {v:IV} {q:List SV} {p:List PV} {m:Img}
theorem OwnI.kept (h:OwnI w base tg v q p m) {b:Nat} {T:TypeId} (hg:w.grownBy w' (some b)) (hT:TypeB w b T) (h1:T≠3) (h2:T≠108) (h3:T≠102):OwnI w' base tg v q p m:=by
 have ht:∀b',some b=some b'->b'<w.heap.size->∀t,(∃T,TypeB w b' T/\T≠3)\/tg b'≠t:= λb' e _ t=>by injection e with e;subst e;exact .inl ⟨T,hT,h1⟩
 exact⟨h.root.kept hg λb' e hl=>ht b' e hl _,h.refs.kept hg λb' e hl=>ht b' e hl _,h.slots.kept hg (bH h.slots hT h2),h.sle,h.scap,h.snaps.kept hg (bH h.snaps hT h3),h.ple,h.pcap,h.hq,h.hp,
  λk x hx=>⟨(h.tabs k x hx).1,(h.tabs k x hx).2.kept hg λb' e hl=>ht b' e hl _⟩,λk x hx=>⟨(h.roots k x hx).1,(h.roots k x hx).2.kept hg λb' e hl=>ht b' e hl _⟩⟩
theorem OwnI.retag (h:OwnI w base tg v q p m) (ht:∀b,b<w.heap.size->tg' b=tg b):OwnI w base tg' v q p m:=
 ⟨h.root.retag ht,h.refs.retag ht,h.slots,h.sle,h.scap,h.snaps,h.ple,h.pcap,h.hq,h.hp,λk x hx=>⟨(h.tabs k x hx).1,(h.tabs k x hx).2.retag ht⟩,λk x hx=>⟨(h.roots k x hx).1,(h.roots k x hx).2.retag ht⟩⟩
theorem OwnI.newRefs (h:OwnI w base tg v q p m) {A:Option Addr} {n c:Nat} {cs:List Int} (ho:TabO w base tg 1 A n c cs):OwnI w base tg {v with fA:=A,fn:=n,fc:=c} q p {m with refs:=cs}:=
 ⟨h.root,ho,h.slots,h.sle,h.scap,h.snaps,h.ple,h.pcap,h.hq,h.hp,h.tabs,h.roots⟩
theorem OwnI.newGuest (h:OwnI w base tg v q p m) (g:Int):OwnI w base tg v q p {m with guest:=g}:=⟨h.root,h.refs,h.slots,h.sle,h.scap,h.snaps,h.ple,h.pcap,h.hq,h.hp,h.tabs,h.roots⟩
theorem OwnI.turned (h:OwnI w base tg v q p m) {b k:Nat} (hA:v.sA=some ⟨b,0,none⟩) {x':SV} (hg:w.grownBy w' (some b)) (ho:w'.ownsRow base 108 3 (.slice v.sA v.sn v.sc) v.sn ((q.set k x').flatMap SV.cells))
  (hd:x'.s.data.size<=4611686018427387903) (ht:TabO w base tg (2*k+4) x'.A x'.n x'.c x'.s.table):OwnI w' base tg v (q.set k x') p {m with slots:=m.slots.set k x'.s}:=by
 have hT:TypeB w b 108:=au h.slots (by rw[hA];rfl)
 have ht':∀b',some b=some b'->b'<w.heap.size->∀t,(∃T,TypeB w b' T/\T≠3)\/tg b'≠t:= λb' e _ t=>by injection e with e;subst e;exact .inl ⟨_,hT,by decide⟩
 refine⟨h.root.kept hg λb' e hl=>ht' b' e hl _,h.refs.kept hg λb' e hl=>ht' b' e hl _,ho,h.sle,h.scap,h.snaps.kept hg (bH h.snaps hT (by decide)),h.ple,h.pcap,?_,h.hp,λj x hx=>?_,λj x hx=>⟨(h.roots j x hx).1,(h.roots j x hx).2.kept hg λb' e hl=>ht' b' e hl _⟩⟩
 ·rw[List.map_set,h.hq]
 ·rw[List.getElem?_set]at hx
  split at hx
  ·rename_i e
   subst e
   split at hx
   ·injection hx with hx;subst hx;exact⟨hd,ht.kept hg λb' e hl=>ht' b' e hl _⟩
   ·cases hx
  ·exact⟨(h.tabs j x hx).1,(h.tabs j x hx).2.kept hg λb' e hl=>ht' b' e hl _⟩
theorem OwnI.set3 (h:OwnI w base tg v q p m) {b k:Nat} {x x':SV} (hA:v.sA=some ⟨b,0,none⟩) (hk:q[k]? =some x)
  (hd:x'.s.data.size<=4611686018427387903) (ht:TabO w base tg (2*k+4) x'.A x'.n x'.c x'.s.table):
  OwnI (((w.setCell ⟨b,k*3,none⟩ (.int .i64 x'.s.kind)).setCell ⟨b,k*3+1,none⟩ (.string x'.s.data)).setCell ⟨b,k*3+2,none⟩ (.slice x'.A x'.n x'.c)) base tg v (q.set k x') p {m with slots:=m.slots.set k x'.s}/\
  w.grownBy (((w.setCell ⟨b,k*3,none⟩ (.int .i64 x'.s.kind)).setCell ⟨b,k*3+1,none⟩ (.string x'.s.data)).setCell ⟨b,k*3+2,none⟩ (.slice x'.A x'.n x'.c)) (some b):=by
 have h0:=h.slots
 rw[hA]at h0
 obtain⟨o1,g1⟩:=h0.stored (k*3) (.int .i64 x'.s.kind)
 obtain⟨o2,g2⟩:=o1.stored (k*3+1) (.string x'.s.data)
 obtain⟨o3,g3⟩:=o2.stored (k*3+2) (.slice x'.A x'.n x'.c)
 rw[gv SV.cells SV.cells_len q k x x' hk _ _ _ rfl]at o3
 have hg:=(g1.trans g2).trans g3
 exact⟨h.turned hA hg (by rw[hA];exact o3) hd ht,hg⟩
end
def freeSV:SV:=⟨freeSlot,none,0,0⟩
def BoxB (w:World) (b:Nat):Prop:=∃cur,w.heap[b]? =some (.cells cur 34 (0,0))
theorem BoxB.ty {w:World} {b:Nat} (h:BoxB w b):TypeB w b 34:=by obtain⟨c,e⟩:=h;exact⟨c,_,e⟩
theorem BoxB.fz {w:World} {b:Nat} (h:BoxB w b) (k:Nat):w.frozen? ⟨b,k,none⟩=false:=by obtain⟨c,e⟩:=h;exact frozen_of_row w b k c _ e
theorem BoxB.next {w w':World} {b:Nat} (h:BoxB w b) (hb:Below w.heap.size w w'):BoxB w' b:=by obtain⟨c,e⟩:=h;exact⟨c,(hb.block b (za e)).trans e⟩
theorem BoxB.set {w:World} {b:Nat} (h:BoxB w b) (k:Nat) (u:Value):BoxB (w.setCell ⟨b,k,none⟩ u) b:=by obtain⟨c,e⟩:=h;exact⟨_,heap_setCell_same w b k c _ _ e⟩
theorem BoxB.kept {w w':World} {b:Nat} {row:Option Nat} (h:BoxB w b) (hg:w.grownBy w' row) (hn:some b≠row):BoxB w' b:=by obtain⟨c,e⟩:=h;exact⟨c,(hg.block b (za e) hn).trans e⟩
theorem BoxB.new (w:World) (cs:Array Value):BoxB (w.alloc (.cells cs 34)) w.heap.size:=⟨cs,heap_alloc_new w _⟩
theorem ai (w:World) (b k:Nat) (u:Value):w.grownBy (w.setCell ⟨b,k,none⟩ u) (some b):=⟨rfl,rfl,rfl,by simp[World.setCell],λj _ hk=>heap_setCell_other w ⟨b,k,none⟩ j _ (λe=>hk (by simp[e]))⟩
end
end Go.Proofs.YtdbneghfbkjinaaGreatDoor
