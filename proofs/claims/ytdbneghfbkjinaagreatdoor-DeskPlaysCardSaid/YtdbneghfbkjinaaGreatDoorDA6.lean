/- Texts of the proof of deskPlays_holds: SlotsA. Conditions: as each text says. -/
import Derived.Test.YtdbneghfbkjinaaGreatDoorDA1
import Derived.Test.YtdbneghfbkjinaaGreatDoorDA4
set_option maxRecDepth 100000
set_option maxHeartbeats 400000
namespace Go.Proofs.YtdbneghfbkjinaaGreatDoor
section
open Go.Proofs.Tryz hiding bare
open Go.RowKit Sl
theorem aW (n lo hi:Int) (w:World):Calls prog 88 #[.int .i64 n,.int .i64 lo,.int .i64 hi] w
  λe w'=>e=.returned (.bool (decide (lo<=n)&&decide (n<=hi)))/\w=w':=by
 by_cases h1:lo<=n
 ·by_cases h2:n<=hi
  all_goals
   go_enter func88,ntmps88
   go_wp2
   go_ret
   exact⟨by simp[h1,h2],rfl⟩
 ·go_enter func88,ntmps88
  go_wp2
  go_ret
  exact⟨by rw[decide_eq_false (by omega:¬lo<=n)];rfl,rfl⟩
theorem nu (n:Int) (w:World):Calls prog 172 #[.int .i64 n] w
  λe w'=>e=.returned (.bool (cV n))/\w=w':=by
 by_cases h1: -1<=n
 ·by_cases h2:n<40
  all_goals
   go_enter func172,ntmps172
   go_wp2
   go_ret
   exact⟨by simp[h1,h2,cV],rfl⟩
 ·go_enter func172,ntmps172
  go_wp2
  go_ret
  exact⟨by unfold cV;rw[decide_eq_false (by omega:¬ -1<=n)];rfl,rfl⟩
theorem nv (n:Int) (w:World):Calls prog 218 #[.int .i64 n] w
  λe w'=>e=.returned (.bool (cV n))/\w=w':=by
 by_cases h0:n=0
 ·subst h0
  go_enter func218,ntmps218
  go_wp2
  go_ret
  exact⟨by simp[cV],rfl⟩
 ·by_cases h1:n= -1
  ·subst h1
   go_enter func218,ntmps218
   go_wp2
   go_ret
   exact⟨by simp[cV],rfl⟩
  ·go_enter func218,ntmps218
   go_wp2_with (go_at_call 88;refine(aW _ _ _ _).mono ?_;rintro e w' ⟨rfl,rfl⟩)
   go_ret
   refine⟨?_,rfl⟩
   have e1:decide (-1<=n)=decide (1<=n):=by rw[decide_eq_decide];omega
   have e2:decide (n<40)=decide (n<=39):=by rw[decide_eq_decide];omega
   unfold cV
   rw[e1,e2]
   simp[h0,h1]
theorem jP (A:Option Addr) (n c B:Nat) (xs:List Int) (w:World) (h:Rd w B 1 A n (ah xs)) (hc:n<=maxLen):Calls prog 192 #[.slice A n c] w
  λe w'=>e=.returned (.bool (bare xs))/\w=w':=by
 unfold maxLen at hc
 go_enter func192,ntmps192
 go_wp2
 go_loop [3] (λi=>∃k:Nat,k<=n/\i=.int .i64 k/\(xs.take k).all (· ==0)=true) (λi=>n-(intOf i).toNat)
 case atStart=>exact⟨0,Nat.zero_le _,rfl,by simp⟩
 case round=>
  obtain⟨k,hk,rfl,ha⟩:=hrel
  have HA:=zh ha
  clear ha
  by_cases hlt:k<n
  ·obtain⟨b,o,x,rfl,hb,hx,hcell⟩:=h.at1 hlt
   have HX:=zh hx
   clear hx
   cases hp:(x !=0)
   ·go_wp2
    go_round
    case rel=>exact⟨k+1,by omega,by go_num,by rw[bf _ xs k x HX.o,HA.o];simpa using hp⟩
    case measure=>simp[intOf];omega
   ·go_wp2
    go_ret
    exact⟨aH (dA _ xs k x HX.o (by simpa using hp)),rfl⟩
  ·go_wp2
   go_ret
   exact⟨aH (cP _ xs k (by rw[h.len];omega) HA.o),rfl⟩
theorem ko {t:List Int} (h:t.length≠4):ak t=1:=by unfold ak;rw[if_neg h]
theorem jh {t:List Int} (h:t.all cV=false):ak t=1:=by unfold ak;rw[h];split<;>rfl
theorem dB {t:List Int} (h:t.length=4) (h':t.all cV=true):ak t=0:=by unfold ak;rw[if_pos h,h'];rfl
theorem nw (A:Option Addr) (n c B:Nat) (xs:List Int) (w:World) (h:Rd w B 1 A n (ah xs)) (hc:n<=maxLen):Calls prog 191 #[.slice A n c] w
  λe w'=>e=.returned (.int .i64 (ak xs))/\w=w':=by
 unfold maxLen at hc
 by_cases h4:n=4
 ·have g4:((n:Int) !=4)=false:=by simp[h4]
  have hl:xs.length=4:=by rw[h.len,h4]
  have HL:=zh hl
  clear hl h4
  go_enter func191,ntmps191
  go_wp2_with fail
  go_loop [3] (λi=>∃k:Nat,k<=n/\i=.int .i64 k/\(xs.take k).all cV=true) (λi=>n-(intOf i).toNat)
  case atStart=>exact⟨0,Nat.zero_le _,rfl,by simp⟩
  case round=>
   obtain⟨k,hk,rfl,ha⟩:=hrel
   have HA:=zh ha
   clear ha
   by_cases hlt:k<n
   ·obtain⟨b,o,x,rfl,hb,hx,hcell⟩:=h.at1 hlt
    have HX:=zh hx
    clear hx
    cases hp:cV x
    ·go_wp2_with (go_at_call 218;refine(nv _ _).mono ?_;rintro e w' ⟨rfl,rfl⟩)
     go_ret
     exact⟨aw (jh (dA _ xs k x HX.o hp)),rfl⟩
    ·go_wp2_with (go_at_call 218;refine(nv _ _).mono ?_;rintro e w' ⟨rfl,rfl⟩)
     go_round
     case rel=>exact⟨k+1,by omega,by go_num,by rw[bf _ xs k x HX.o,HA.o,hp];rfl⟩
     case measure=>simp[intOf];omega
   ·go_wp2_with fail
    go_ret
    exact⟨aw (dB HL.o (cP _ xs k (by rw[h.len];omega) HA.o)),rfl⟩
 ·have g4:((n:Int) !=4)=true:=by simp;omega
  go_enter func191,ntmps191
  go_wp2_with fail
  go_ret
  exact⟨aw (ko (by rw[h.len];exact h4)),rfl⟩
end
section
open Go.Proofs.Tryz hiding bare
open Go.RowKit Sl
theorem xL (K:Nat) (p:Int->Bool) (A:Option Addr) (n c B:Nat) (xs:List Int) (w:World) (h:Rd w B 1 A n (ah xs)) (hc:n<=maxLen)
  (hk:∀(vs:Array Value) (W:World),(callFunc K vs).run prog W=.ok (.enter K vs) W)
  (hf:∀x,Calls prog K #[.int .i64 x] w λe w'=>e=.returned (.bool (p x))/\w=w'):
  Calls prog 202 #[.slice A n c,.func (.func K) #[] #[]] w
  λe w'=>e=.returned (.int .i64 (bD p xs))/\w=w':=by
 unfold maxLen at hc
 have HF:=zh hf
 clear hf
 go_enter func202,ntmps202
 go_wp2_with fail
 go_loop [8,5] (λi _=>∃k:Nat,k<=n/\i=.int .i64 k/\(xs.take k).all (λy=> !p y)=true) (λi _=>n-(intOf i).toNat)
 case atStart=>exact⟨0,Nat.zero_le _,rfl,by simp⟩
 case round=>
  obtain⟨k,hkn,rfl,ha⟩:=hrel
  have HA:=zh ha
  clear ha
  by_cases hlt:k<n
  ·obtain⟨b,o,x,rfl,hb,hx,hcell⟩:=h.at1 hlt
   have HX:=zh hx
   clear hx
   cases hp:p x
   ·go_wp2_with (refine(HF.o _).mono ?_;rintro e w' ⟨rfl,rfl⟩)
    go_round
    case rel=>exact⟨k+1,by omega,by go_num,by rw[bf _ xs k x HX.o,HA.o,hp];rfl⟩
    case measure=>simp[intOf];omega
   ·go_wp2_with (refine(HF.o _).mono ?_;rintro e w' ⟨rfl,rfl⟩)
    go_ret
    exact⟨aw (gK p xs k x HX.o hp HA.o),rfl⟩
  ·go_wp2_with fail
   go_ret
   exact⟨aw (fX p xs (cP _ xs k (by rw[h.len];omega) HA.o)),rfl⟩
theorem iz (K:Nat) (p:Int->Bool) (A:Option Addr) (n c B:Nat) (xs:List Int) (w:World) (h:Rd w B 1 A n (ah xs)) (hc:n<=maxLen)
  (hk:∀(vs:Array Value) (W:World),(callFunc K vs).run prog W=.ok (.enter K vs) W)
  (hf:∀x,Calls prog K #[.int .i64 x] w λe w'=>e=.returned (.bool (p x))/\w=w'):
  Calls prog 167 #[.slice A n c,.func (.func K) #[] #[]] w
  λe w'=>e=.returned (.bool (xs.any p))/\w=w':=by
 have HI:=zh (xL K p A n c B xs w h hc hk hf)
 clear hf hk
 go_enter func167,ntmps167
 go_wp2_with (go_at_call 202;refine HI.o.mono ?_;rintro e w' ⟨rfl,rfl⟩)
 go_ret
 exact⟨aH (jc p xs).symm,rfl⟩
theorem ny (K:Nat) (p:Slot->Bool) (A:Option Addr) (n c B:Nat) (l:List Slot) (w:World) (h:SlotsR w B A n l) (hB:B<=w.heap.size) (hc:n<=4611686018427387903)
  (hk:∀(vs:Array Value) (W:World),(callFunc K vs).run prog W=.ok (.enter K vs) W)
  (hf:∀(s:Slot) (tA:Option Addr) (tn tc:Nat) (W:World),B<=W.heap.size->SlotV W B s tA tn tc->Calls prog K #[.agg #[.int .i64 s.kind,.string s.data,.slice tA tn tc]] W λe w'=>e=.returned (.bool (p s))/\Below W.heap.size W w'):
  Calls prog 186 #[.slice A n c,.func (.func K) #[] #[]] w
  λe w'=>e=.returned (.int .i64 (bD p l))/\Below w.heap.size w w':=by
 have HF:=zh hf
 clear hf
 go_enter func186,ntmps186
 go_wp2_with fail
 go_loopw [8,5] (λi _ wr=>∃k:Nat,k<=n/\i=.int .i64 k/\(l.take k).all (λy=> !p y)=true/\Below w.heap.size w wr) (λi _ _=>n-(intOf i).toNat)
 case atStart=>exact⟨0,Nat.zero_le _,rfl,by simp,Below.refl _ _⟩
 case round=>
  obtain⟨k,hkn,rfl,ha,hbw⟩:=hrel
  have HA:=zh ha
  clear ha
  by_cases hlt:k<n
  ·obtain⟨b,o,s,tA,tn,tc,rfl,hb,hx,h0,h1,h2,hs⟩:=(h.below hbw hB).at_ hlt
   have HX:=zh hx
   clear hx
   have hz:=hbw.size
   cases hp:p s
   ·go_wp2_with (refine(HF.o s tA tn tc _ (by omega) hs).mono ?_;rintro e w' ⟨rfl,hb'⟩)
    go_roundw
    case rel=>exact⟨k+1,by omega,by go_num,by rw[bf _ l k s HX.o,HA.o,hp];rfl,hbw.trans (hb'.mono hz)⟩
    case measure=>simp[intOf];omega
   ·go_wp2_with (refine(HF.o s tA tn tc _ (by omega) hs).mono ?_;rintro e w' ⟨rfl,hb'⟩)
    go_ret
    exact⟨aw (gK p l k s HX.o hp HA.o),hbw.trans (hb'.mono hz)⟩
  ·go_wp2_with fail
   go_ret
   exact⟨aw (fX p l (cP _ l k (by rw[h.1];omega) HA.o)),hbw⟩
end
section
open Go.Proofs.Tryz hiding bare
open Go.RowKit Sl
theorem rR (n:Int) (w:World):Calls prog 171 #[.int .i64 n] w λe w'=>e=.returned (.bool (!cV n))/\w=w':=by
 go_enter func171,ntmps171
 go_wp2_with (go_at_call 172;refine(nu _ _).mono ?_;rintro e w' ⟨rfl,rfl⟩)
 go_ret
 exact⟨rfl,rfl⟩
theorem uD (n:Int) (w:World):Calls prog 173 #[.int .i64 n] w λe w'=>e=.returned (.bool (n !=0))/\w=w':=by
 go_enter func173,ntmps173
 go_wp2
 go_ret
 exact⟨rfl,rfl⟩
theorem lm {α:Type} (p:α->Bool) (l:List α):l.any (λx=> !p x)= !l.all p:=by
 induction l with
 |nil=>rfl
 |cons x l ih=>simp[ih]
theorem kA (A:Option Addr) (n c B:Nat) (xs:List Int) (w:World) (h:Rd w B 1 A n (ah xs)) (hc:n<=maxLen):Calls prog 119 #[.slice A n c] w
  λe w'=>e=.returned (.int .i64 (ak xs))/\w=w':=by
 have HC:=zh (iz 171 (λx=> !cV x) A n c B xs w h hc (λ_ _=>by kernel_rfl) (λx=>rR x w))
 by_cases h4:n=4
 ·have g4:((n:Int) !=4)=false:=by simp[h4]
  have hl:xs.length=4:=by rw[h.len,h4]
  have HL:=zh hl
  clear hl h4
  cases hp:xs.all cV
  ·have hq:xs.any (λx=> !cV x)=true:=by rw[lm,hp];rfl
   go_enter func119,ntmps119
   go_wp2_with (go_at_call 167;refine HC.o.mono ?_;rintro e w' ⟨rfl,rfl⟩)
   go_ret
   exact⟨aw (jh hp),rfl⟩
  ·have hq:xs.any (λx=> !cV x)=false:=by rw[lm,hp];rfl
   go_enter func119,ntmps119
   go_wp2_with (go_at_call 167;refine HC.o.mono ?_;rintro e w' ⟨rfl,rfl⟩)
   go_ret
   exact⟨aw (dB HL.o hp),rfl⟩
 ·have g4:((n:Int) !=4)=true:=by simp;omega
  go_enter func119,ntmps119
  go_wp2_with fail
  go_ret
  exact⟨aw (ko (by rw[h.len];exact h4)),rfl⟩
def eK (t:List Int):Bool:=ak t==0&&bare t
theorem pr (A:Option Addr) (n c B:Nat) (xs:List Int) (w:World) (h:Rd w B 1 A n (ah xs)) (hc:n<=maxLen):Calls prog 121 #[.slice A n c] w
  λe w'=>e=.returned (.tuple #[.bool (eK xs),.int .i64 (ak xs)])/\w=w':=by
 have HC:=zh (iz 173 (λx=>x !=0) A n c B xs w h hc (λ_ _=>by kernel_rfl) (λx=>uD x w))
 have HK:=zh (kA A n c B xs w h hc)
 have hb:(xs.any λx=>x !=0)= !bare xs:=by
  unfold bare;rw[<-lm];rfl
 have HB:=zh hb
 clear hb
 cases he:(ak xs==0)
 ·have he':(ak xs !=0)=true:=by simpa using he
  have hv:eK xs=false:=by unfold eK;rw[he];rfl
  have HV:=zh hv
  clear hv
  go_enter func121,ntmps121
  go_wp2_with (go_at_call 119;refine HK.o.mono ?_;rintro e w' ⟨rfl,rfl⟩)
  go_ret2
  exact⟨zX HV.o rfl,rfl⟩
 ·have he':(ak xs !=0)=false:=by simpa using he
  have h0:ak xs=0:=by simpa using he
  have hv:eK xs=bare xs:=by unfold eK;rw[he];rfl
  have HV:=zh hv
  have H0:=zh h0
  clear hv h0
  go_enter func121,ntmps121
  go_wp2_with (first|(go_at_call 119;refine HK.o.mono ?_;rintro e w' ⟨rfl,rfl⟩)|(go_at_call 167;refine HC.o.mono ?_;rintro e w' ⟨rfl,rfl⟩))
  go_ret2
  exact⟨zX (by rw[HV.o,HB.o];simp) H0.o,rfl⟩
end
section
open Go.Proofs.Tryz hiding bare
open Go.RowKit Sl
theorem rS (W:World) (o o':Obj):({W.alloc o with heap:=(W.alloc o).heap.setIfInBounds W.heap.size o'}:World)=W.alloc o':=by
 show({W with heap:=(W.heap.push o).setIfInBounds W.heap.size o'}:World)={W with heap:=W.heap.push o'}
 congr 1
 apply Array.ext_getElem?
 intro i
 rw[Array.getElem?_setIfInBounds,Array.getElem?_push,Array.getElem?_push]
 by_cases h:i=W.heap.size
 ·subst h;simp
 ·rw[if_neg (λe=>h e.symm)]
  simp[h]
theorem fZ (k:Int):∀(es:List MapEntry) (i:Nat),(∀e∈es,∃k',e.key=.int .i64 k'/\k'≠k)->Instr.findNow (.int .i64) (.int .i64 k) es i=some none
 |[],_,_=>rfl
 |e::es,i,h=>by
  obtain⟨k',he,hne⟩:=h e (by simp)
  have hb:(k==k')=false:=by simp;exactλe=>hne e.symm
  simp only[Instr.findNow,Instr.sameNow,he,if_true,hb]
  exact fZ k es (i+1) (λe he=>h e (by simp[he]))
section
variable {P:Program} {T K E:TypeId}
theorem de (hk:P.underlying K=some (.int .i64)) (b:Bool) (k:Int) (w:World):(Instr.checkKey b 10000 K (.int .i64 k)).run P w=.ok () w:=by
 have h:∀n:Nat,(Instr.checkKey b (n+1) K (.int .i64 k)).run P w=.ok () w:= λn=>by simp[Instr.checkKey,run_underlying hk]
 exact h 9999
theorem fD (ht:P.underlying T=some (.map K E)) (hk:P.underlying K=some (.int .i64)) (W:World) (b:Nat) (hb:W.heap.size=b) (es:Array MapEntry) (c:Nat) (k:Int) (v:Value)
  (hn:∀e∈es.toList,∃k',e.key=.int .i64 k'/\k'≠k):
  (Instr.mapUpdate T (.map (some b)) (.int .i64 k) v).run P (W.alloc (.map es c))=.ok () (W.alloc (.map (es.push ⟨.int .i64 k,v,c⟩) (c+1))):=by
 subst hb
 have hg:(W.alloc (.map es c)).heap[W.heap.size]? =some (.map es c):=heap_alloc_new W _
 have hf:(Instr.findKey K (.int .i64 k) es.toList).run P (W.alloc (.map es c))=.ok none (W.alloc (.map es c)):=by
  simp[Instr.findKey,run_underlying hk,fZ k es.toList 0 hn]
 simp[Instr.mapUpdate,run_underlying ht,MapKept.run_getObj_map hg,de hk,hf,MapKept.run_setObj_map _ hg]
 exact rS W _ _
theorem qH (ht:P.underlying T=some (.map K E)) (hk:P.underlying K=some (.int .i64)) (w:World) (b:Nat) (es:Array MapEntry) (c:Nat) (hb:w.heap[b]? =some (.map es c)) (k:Int) (i:Nat) (v:Value)
  (hf:Instr.findNow (.int .i64) (.int .i64 k) es.toList 0=some (some (i,v))):
  (Instr.lookup T (.map (some b)) (.int .i64 k) true).run P w=.ok (.tuple #[v,.bool true]) w:=by
 have hf':(Instr.findKey K (.int .i64 k) es.toList).run P w=.ok (some (i,v)) w:=by
  simp[Instr.findKey,run_underlying hk,hf]
 simp[Instr.lookup,run_underlying ht,MapKept.run_getObj_map hb,de hk,hf']
theorem qI (ht:P.underlying T=some (.map K E)) (hk:P.underlying K=some (.int .i64)) (w:World) (b:Nat) (es:Array MapEntry) (c:Nat) (hb:w.heap[b]? =some (.map es c)) (k:Int) (z:Value)
  (hz:(zeroValue E).run P w=.ok z w) (hn:∀e∈es.toList,∃k',e.key=.int .i64 k'/\k'≠k):
  (Instr.lookup T (.map (some b)) (.int .i64 k) true).run P w=.ok (.tuple #[z,.bool false]) w:=by
 have hf':(Instr.findKey K (.int .i64 k) es.toList).run P w=.ok none w:=by
  simp[Instr.findKey,run_underlying hk,fZ k es.toList 0 hn]
 simp[Instr.lookup,run_underlying ht,MapKept.run_getObj_map hb,de hk,hf',hz]
end
end
section
open Go.Proofs.Tryz hiding bare
open Go.RowKit Sl
theorem xM (b o:Nat) (d:ByteArray) (A:Option Addr) (n c:Nat) (w:World) (h1:w.cell? ⟨b,o+1,none⟩=some (.string d)) (h2:w.cell? ⟨b,o+2,none⟩=some (.slice A n c)) (hd:d.size<=4611686018427387903) (hn:n<=4611686018427387903):
  Calls prog 198 #[.pointer (some ⟨b,o,none⟩)] w λe w'=>e=.returned (.bool (d.size==0&&n==0))/\w=w':=by
 go_enter func198,ntmps198
 go_wp2
 go_ret
 refine⟨aH ?_,rfl⟩
 rw[Bool.eq_iff_iff];simp only[Bool.and_eq_true,beq_iff_eq];omega
theorem xN (b o:Nat) (d:ByteArray) (A:Option Addr) (n c:Nat) (w:World) (h1:w.cell? ⟨b,o+1,none⟩=some (.string d)) (h2:w.cell? ⟨b,o+2,none⟩=some (.slice A n c)):
  Calls prog 199 #[.pointer (some ⟨b,o,none⟩)] w λe w'=>e=.returned (.bool (d.size==4&&n==0))/\w=w':=by
 cases h4:((d.size:Int)==4)
 ·go_enter func199,ntmps199
  go_wp2
  go_ret
  refine⟨aH ?_,rfl⟩
  have:(d.size==4)=false:=by rw[beq_eq_false_iff_ne]at h4⊢;omega
  rw[this];rfl
 ·go_enter func199,ntmps199
  go_wp2
  go_ret
  refine⟨aH ?_,rfl⟩
  rw[beq_iff_eq]at h4
  rw[Bool.eq_iff_iff];simp only[Bool.and_eq_true,beq_iff_eq];omega
theorem kB (d:ByteArray):d.toList.isEmpty=(d.size==0):=by
 rw[Bool.eq_iff_iff]
 rw[List.isEmpty_iff,beq_iff_eq,<-List.length_eq_zero_iff,ByteArray.toList_eq]
 rfl
theorem xO (b o B:Nat) (d:ByteArray) (A:Option Addr) (n c:Nat) (xs:List Int) (w:World) (h:Rd w B 1 A n (ah xs)) (h1:w.cell? ⟨b,o+1,none⟩=some (.string d)) (h2:w.cell? ⟨b,o+2,none⟩=some (.slice A n c)) (hn:n<=maxLen):
  Calls prog 200 #[.pointer (some ⟨b,o,none⟩)] w λe w'=>e=.returned (.bool (d.size==0&&ak xs==0&& !bare xs))/\w=w':=by
 have HK:=zh (pr A n c B xs w h hn)
 clear hn h
 have HE:=zh (kB d)
 cases hd:d.toList.isEmpty
 ·go_enter func200,ntmps200
  go_wp2_with (go_at_call 121;refine HK.o.mono ?_;rintro e w' ⟨rfl,rfl⟩)
  go_ret
  exact⟨aH (by rw[<-HE.o,hd];rfl),rfl⟩
 ·have HD:d.size==0:=by rw[<-HE.o,hd]
  clear HE
  cases he:(ak xs==0)
  ·go_enter func200,ntmps200
   go_wp2_with (go_at_call 121;refine HK.o.mono ?_;rintro e w' ⟨rfl,rfl⟩)
   go_ret
   exact⟨aH (by rw[HD];rfl),rfl⟩
  ·have HV:eK xs=bare xs:=by unfold eK;rw[he];rfl
   cases hb:bare xs
   all_goals
    rw[hb]at HV
    go_enter func200,ntmps200
    go_wp2_with (go_at_call 121;refine HK.o.mono ?_;rintro e w' ⟨rfl,rfl⟩)
    go_ret
    exact⟨aH (by rw[HD];rfl),rfl⟩
theorem xP (W:World):(zeroValue 25).run prog W=.ok .nilFunc W:=by kernel_rfl
section
variable (W:World) (b:Nat) (hb:W.heap.size=b) (v v0 v1 v2:Value)
include hb
theorem qJ:(Instr.mapUpdate 195 (.map (some b)) (.int .i64 0) v).run prog (W.alloc (.map #[] 0))=.ok () (W.alloc (.map #[⟨.int .i64 0,v,0⟩] 1)):=
 fD (P:=prog) underlying195 underlying3 W b hb #[] 0 0 v (by simp)
theorem qK:(Instr.mapUpdate 195 (.map (some b)) (.int .i64 1) v).run prog (W.alloc (.map #[⟨.int .i64 0,v0,0⟩] 1))=.ok () (W.alloc (.map #[⟨.int .i64 0,v0,0⟩,⟨.int .i64 1,v,1⟩] 2)):=
 fD (P:=prog) underlying195 underlying3 W b hb #[⟨.int .i64 0,v0,0⟩] 1 1 v (by simp)
theorem qL:(Instr.mapUpdate 195 (.map (some b)) (.int .i64 2) v).run prog (W.alloc (.map #[⟨.int .i64 0,v0,0⟩,⟨.int .i64 1,v1,1⟩] 2))=
  .ok () (W.alloc (.map #[⟨.int .i64 0,v0,0⟩,⟨.int .i64 1,v1,1⟩,⟨.int .i64 2,v,2⟩] 3)):=
 fD (P:=prog) underlying195 underlying3 W b hb #[⟨.int .i64 0,v0,0⟩,⟨.int .i64 1,v1,1⟩] 2 2 v (by simp)
theorem nz (k:Int) (i:Nat) (hf:Instr.findNow (.int .i64) (.int .i64 k) [⟨.int .i64 0,v0,0⟩,⟨.int .i64 1,v1,1⟩,⟨.int .i64 2,v2,2⟩] 0=some (some (i,v))):
  (Instr.lookup 195 (.map (some b)) (.int .i64 k) true).run prog (W.alloc (.map #[⟨.int .i64 0,v0,0⟩,⟨.int .i64 1,v1,1⟩,⟨.int .i64 2,v2,2⟩] 3))=
  .ok (.tuple #[v,.bool true]) (W.alloc (.map #[⟨.int .i64 0,v0,0⟩,⟨.int .i64 1,v1,1⟩,⟨.int .i64 2,v2,2⟩] 3)):=
 qH (P:=prog) underlying195 underlying3 _ b _ _ (by rw[<-hb];exact heap_alloc_new W _) k i v hf
theorem zZ (k:Int) (h0:k≠0) (h1:k≠1) (h2:k≠2):
  (Instr.lookup 195 (.map (some b)) (.int .i64 k) true).run prog (W.alloc (.map #[⟨.int .i64 0,v0,0⟩,⟨.int .i64 1,v1,1⟩,⟨.int .i64 2,v2,2⟩] 3))=
  .ok (.tuple #[.nilFunc,.bool false]) (W.alloc (.map #[⟨.int .i64 0,v0,0⟩,⟨.int .i64 1,v1,1⟩,⟨.int .i64 2,v2,2⟩] 3)):=
 qI (P:=prog) underlying195 underlying3 _ b _ _ (by rw[<-hb];exact heap_alloc_new W _) k .nilFunc (xP _) (by simp;omega)
end
theorem xQ (kind:Int) (data:ByteArray) (A:Option Addr) (n c:Nat) (w:World) (h0:kind≠0) (h1:kind≠1) (h2:kind≠2):
  Calls prog 164 #[.agg #[.int .i64 kind,.string data,.slice A n c]] w
  λe w'=>e=.returned (.int .i64 1)/\Below w.heap.size w w':=by
 have hmm:= λW=>run_makeMap (P:=prog) 195 W
 have u1:=qJ;have u2:=qK;have u3:=qL
 have u4:= λW b hb v0 v1 v2=>zZ W b hb v0 v1 v2 kind h0 h1 h2
 clear h0 h1 h2
 go_enter func164,ntmps164
 go_wp2_with fail
 go_ret
 exact⟨rfl,((Below.refl _ _).alloc (Nat.le_refl _) _).alloc (by simp) _⟩
theorem DF (v0 v1 v2:Value):Instr.findNow (.int .i64) (.int .i64 0) [⟨.int .i64 0,v0,0⟩,⟨.int .i64 1,v1,1⟩,⟨.int .i64 2,v2,2⟩] 0=some (some (0,v0)):=rfl
theorem DG (v0 v1 v2:Value):Instr.findNow (.int .i64) (.int .i64 1) [⟨.int .i64 0,v0,0⟩,⟨.int .i64 1,v1,1⟩,⟨.int .i64 2,v2,2⟩] 0=some (some (1,v1)):=rfl
theorem DH (v0 v1 v2:Value):Instr.findNow (.int .i64) (.int .i64 2) [⟨.int .i64 0,v0,0⟩,⟨.int .i64 1,v1,1⟩,⟨.int .i64 2,v2,2⟩] 0=some (some (2,v2)):=rfl
def rT (b:Bool):Int:=if b then 0 else 1
theorem gk (w:World) (cs:Array Value) (T:TypeId) (o:Obj) (j:Nat):((w.alloc (.cells cs T)).alloc o).cell? ⟨w.heap.size,j,none⟩=cs[j]? :=by
 rw[World.cell?_alloc_lt _ _ _ (by simp)]
 exact cell_of_row _ _ j cs T (0,0) (heap_alloc_new w _)
theorem qM (w:World) (o o':Obj):Below w.heap.size w ((w.alloc o).alloc o'):=((Below.refl _ _).alloc (Nat.le_refl _) _).alloc (by simp) _
theorem z6 (data:ByteArray) (A:Option Addr) (n c:Nat) (w:World) (hc:n<=4611686018427387903) (hd:data.size<=4611686018427387903):
  Calls prog 164 #[.agg #[.int .i64 0,.string data,.slice A n c]] w
  λe w'=>e=.returned (.int .i64 (rT (data.size==0&&n==0)))/\Below w.heap.size w w':=by
 have hmm:= λW=>run_makeMap (P:=prog) 195 W
 have u1:=qJ;have u2:=qK;have u3:=qL
 have u4:= λW b hb v0 v1 v2=>nz W b hb v0 v0 v1 v2 0 0 (DF v0 v1 v2)
 cases hv:(data.size==0&&n==0)
 all_goals
  have HC:= λcs T o (h1:cs[0+1]? =some (.string data)) (h2:cs[0+2]? =some (.slice A n c))=>zh (xM w.heap.size 0 data A n c ((w.alloc (.cells cs T)).alloc o) (by rw[gk];exact h1) (by rw[gk];exact h2) hd hc)
  rw[hv]at HC
  clear hv
  go_enter func164,ntmps164
  go_wp2_with (go_at_call 198;refine(HC _ _ _ rfl rfl).o.mono ?_;rintro e w' ⟨rfl,rfl⟩)
  go_ret
  exact⟨rfl,qM _ _ _⟩
theorem z7 (data:ByteArray) (A:Option Addr) (n c:Nat) (w:World):
  Calls prog 164 #[.agg #[.int .i64 1,.string data,.slice A n c]] w
  λe w'=>e=.returned (.int .i64 (rT (data.size==4&&n==0)))/\Below w.heap.size w w':=by
 have hmm:= λW=>run_makeMap (P:=prog) 195 W
 have u1:=qJ;have u2:=qK;have u3:=qL
 have u4:= λW b hb v0 v1 v2=>nz W b hb v1 v0 v1 v2 1 1 (DG v0 v1 v2)
 cases hv:(data.size==4&&n==0)
 all_goals
  have HC:= λcs T o (h1:cs[0+1]? =some (.string data)) (h2:cs[0+2]? =some (.slice A n c))=>zh (xN w.heap.size 0 data A n c ((w.alloc (.cells cs T)).alloc o) (by rw[gk];exact h1) (by rw[gk];exact h2))
  rw[hv]at HC
  clear hv
  go_enter func164,ntmps164
  go_wp2_with (go_at_call 199;refine(HC _ _ _ rfl rfl).o.mono ?_;rintro e w' ⟨rfl,rfl⟩)
  go_ret
  exact⟨rfl,qM _ _ _⟩
theorem z8 (data:ByteArray) (A:Option Addr) (n c:Nat) (xs:List Int) (w:World) (h:Rd w w.heap.size 1 A n (ah xs)) (hn:n<=maxLen):
  Calls prog 164 #[.agg #[.int .i64 2,.string data,.slice A n c]] w
  λe w'=>e=.returned (.int .i64 (rT (data.size==0&&ak xs==0&& !bare xs)))/\Below w.heap.size w w':=by
 have hmm:= λW=>run_makeMap (P:=prog) 195 W
 have u1:=qJ;have u2:=qK;have u3:=qL
 have u4:= λW b hb v0 v1 v2=>nz W b hb v2 v0 v1 v2 2 2 (DH v0 v1 v2)
 cases hv:(data.size==0&&ak xs==0&& !bare xs)
 all_goals
  have HC:= λcs T o (h1:cs[0+1]? =some (.string data)) (h2:cs[0+2]? =some (.slice A n c))=>zh (xO w.heap.size 0 _ data A n c xs ((w.alloc (.cells cs T)).alloc o) (h.below (qM _ _ _) (Nat.le_refl _)) (by rw[gk];exact h1) (by rw[gk];exact h2) hn)
  rw[hv]at HC
  clear hv h hn
  go_enter func164,ntmps164
  go_wp2_with (go_at_call 200;refine(HC _ _ _ rfl rfl).o.mono ?_;rintro e w' ⟨rfl,rfl⟩)
  go_ret
  exact⟨rfl,qM _ _ _⟩
theorem uE (s:Slot) (A:Option Addr) (n c:Nat) (w:World) (h:Rd w w.heap.size 1 A n (ah s.table)) (hn:n<=4611686018427387903) (hd:s.data.size<=4611686018427387903):
  Calls prog 164 #[.agg #[.int .i64 s.kind,.string s.data,.slice A n c]] w
  λe w'=>e=.returned (.int .i64 (rT (aD s)))/\Below w.heap.size w w':=by
 obtain⟨k,d,t⟩:=s
 have hl:t.length=n:=h.len
 unfold aD
 dsimp only at*
 by_cases h0:k=0
 ·subst h0
  rw[if_pos rfl,hl]
  exact z6 d A n c w hn hd
 ·rw[if_neg h0]
  by_cases h1:k=1
  ·subst h1
   rw[if_pos rfl,hl]
   exact z7 d A n c w
  ·rw[if_neg h1]
   by_cases h2:k=2
   ·subst h2
    rw[if_pos rfl]
    exact z8 d A n c t w h (by unfold maxLen;omega)
   ·rw[if_neg h2]
    exact xQ k d A n c w h0 h1 h2
end
section
open Go.Proofs.Tryz hiding bare
open Go.RowKit Sl
theorem mc (k:Int) (d t:Value) (w:World):Calls prog 106 #[.agg #[.int .i64 k,d,t]] w λe w'=>e=.returned (.bool (k==0))/\Below w.heap.size w w':=by
 go_enter func106,ntmps106
 go_wp2
 go_ret
 exact⟨rfl,(Below.refl _ _).alloc (Nat.le_refl _) _⟩
theorem qN (B:Nat) (s:Slot) (A:Option Addr) (n c:Nat) (w:World) (hB:B<=w.heap.size) (h:SlotV w B s A n c):
  Calls prog 163 #[.agg #[.int .i64 s.kind,.string s.data,.slice A n c]] w λe w'=>e=.returned (.bool (!aD s))/\Below w.heap.size w w':=by
 have h':SlotV (w.alloc (.cells #[.int .i64 s.kind,.string s.data,.slice A n c] 108)) (w.heap.size+1) s A n c:=(h.below ((Below.refl _ _).alloc (Nat.le_refl _) _) hB).more (by omega)
 have HC:=zh (uE s A n c (w.alloc (.cells #[.int .i64 s.kind,.string s.data,.slice A n c] 108)) (h'.table.more (by simp)) (h.cap.1) h.data)
 cases hp:aD s
 all_goals
  rw[hp]at HC
  unfold rT at HC
  clear h h'
  go_enter func163,ntmps163
  go_wp2_with (go_at_call 164;refine HC.o.mono ?_;rintro e w' ⟨rfl,hb'⟩)
  go_ret
  exact⟨rfl,((Below.refl _ _).alloc (Nat.le_refl _) _).trans (hb'.mono (by simp))⟩
theorem oP (K:Nat) (p:Slot->Bool) (A:Option Addr) (n c B:Nat) (l:List Slot) (w:World) (h:SlotsR w B A n l) (hB:B<=w.heap.size) (hc:n<=4611686018427387903)
  (hk:∀(vs:Array Value) (W:World),(callFunc K vs).run prog W=.ok (.enter K vs) W)
  (hf:∀(s:Slot) (tA:Option Addr) (tn tc:Nat) (W:World),B<=W.heap.size->SlotV W B s tA tn tc->Calls prog K #[.agg #[.int .i64 s.kind,.string s.data,.slice tA tn tc]] W λe w'=>e=.returned (.bool (p s))/\Below W.heap.size W w'):
  Calls prog 162 #[.slice A n c,.func (.func K) #[] #[]] w
  λe w'=>e=.returned (.bool (l.any p))/\Below w.heap.size w w':=by
 have HI:=zh (ny K p A n c B l w h hB hc hk hf)
 clear hf hk h hB
 go_enter func162,ntmps162
 go_wp2_with (go_at_call 186;refine HI.o.mono ?_;rintro e w' ⟨rfl,hb'⟩)
 go_ret
 exact⟨aH (jc p l).symm,hb'⟩
theorem gX {l:List Slot} (h:l.length<1\/40<l.length):ar l=2:=by unfold ar;rw[if_pos h]
theorem lp {l:List Slot} (h:1<=l.length) (h':l.length<=40) (hp:l.all aD=false):ar l=1:=by
 unfold ar;rw[if_neg (by omega),hp];rfl
theorem ji {l:List Slot} (h:1<=l.length) (h':l.length<=40) (hp:pf l≠0):ar l=1:=by
 unfold ar;rw[if_neg (by omega),if_neg hp];split<;>rfl
theorem gP {l:List Slot} (h:1<=l.length) (h':l.length<=40) (hp:l.all aD=true) (h0:pf l=0):ar l=0:=by
 unfold ar;rw[if_neg (by omega),hp,h0];rfl
theorem ij {l:List Slot} {s:Slot} (h:l[0]? =some s):pf l=s.kind:=by
 cases l with
 |nil=>simp at h
 |cons a l=>simp at h;subst h;rfl
theorem kp (A:Option Addr) (n c:Nat) (l:List Slot) (w:World) (h:SlotsR w w.heap.size A n l) (hc:n<=4611686018427387903):
  Calls prog 105 #[.slice A n c] w λe w'=>e=.returned (.int .i64 (ar l))/\Below w.heap.size w w':=by
 by_cases h1:n<1
 ·have HV:=zh (gX (l:=l) (by rw[h.1];exact .inl h1))
  have g1:decide ((n:Int)<1)=true:=by simp;omega
  go_enter func105,ntmps105
  go_wp2_with fail
  go_ret
  exact⟨aw HV.o,Below.refl _ _⟩
 ·by_cases h2:40<n
  ·have HV:=zh (gX (l:=l) (by rw[h.1];exact .inr h2))
   go_enter func105,ntmps105
   go_wp2_with fail
   go_ret
   exact⟨aw HV.o,Below.refl _ _⟩
  ·have h1':1<=n:=by omega
   have h2':n<=40:=by omega
   have hl:=h.1
   have hcon:=oP 163 (λs=> !aD s) A n c w.heap.size l w h (Nat.le_refl _) hc (λ_ _=>by kernel_rfl) (λs tA tn tc W hW hs=>qN _ s tA tn tc W hW hs)
   rw[lm]at hcon
   have HC:=zh hcon
   obtain⟨b,o,s,tA,tn,tc,rfl,hb,hx,c0,c1,c2,hs⟩:=h.at_ (k:=0) (by omega)
   have hk0:=ij hx
   rw[Nat.zero_mul,Nat.add_zero]at c0
   cases hz:(s.kind !=0)
   ·cases hp:l.all aD
    ·have HV:=zh (lp (by omega) (by omega) hp)
     rw[hp]at HC
     clear hk0 hp hx hs c1 c2 hcon hl h
     go_enter func105,ntmps105
     go_wp2_with (go_at_call 162;refine HC.o.mono ?_;rintro e w' ⟨rfl,hb'⟩)
     go_ret
     exact⟨aw HV.o,hb'⟩
    ·have HV:=zh (gP (by omega) (by omega) hp (by rw[hk0];simpa using hz))
     rw[hp]at HC
     clear hk0 hp hx hs c1 c2 hcon hl h
     go_enter func105,ntmps105
     go_wp2_with (go_at_call 162;refine HC.o.mono ?_;rintro e w' ⟨rfl,hb'⟩)
     go_ret
     exact⟨aw HV.o,hb'⟩
   ·have HV:=zh (ji (l:=l) (by omega) (by omega) (by rw[hk0];simpa using hz))
    clear hk0 hx hs c1 c2 hcon hl h
    go_enter func105,ntmps105
    go_wp2_with fail
    go_ret
    exact⟨aw HV.o,Below.refl _ _⟩
end
section
open Go.Proofs.Tryz hiding bare
open Go.RowKit Sl
theorem uF (B:Nat) (s:Slot) (A:Option Addr) (n c:Nat) (w:World) (_:B<=w.heap.size) (_:SlotV w B s A n c):
  Calls prog 106 #[.agg #[.int .i64 s.kind,.string s.data,.slice A n c]] w λe w'=>e=.returned (.bool (s.kind==0))/\Below w.heap.size w w':=mc _ _ _ w
theorem Aa {l:List Slot} (h:ar l≠0):iX l=0/\iY l=ar l:=by unfold iX iY;rw[if_neg h,if_neg h];exact⟨rfl,rfl⟩
theorem Ab {l:List Slot} (h:ar l=0) (i:Int) (hi:bD (λs=>s.kind==0) (l.drop 1)=i) (h0:0<=i):iX l=i+1/\iY l=0:=by
 unfold bD at hi
 have hg:dH (l.drop 1)<(l.drop 1).length:=by
  unfold dH
  rcases Nat.lt_or_ge (bn (λs:Slot=>s.kind==0) (l.drop 1)) (l.drop 1).length with h|h
  ·exact h
  ·rw[if_neg (by omega)]at hi;omega
 have hi':(dH (l.drop 1):Int)=i:=by unfold dH at*;rw[if_pos hg]at hi;exact hi
 unfold iX iY aS
 rw[if_pos h,if_pos h,if_pos hg,if_neg (by omega)]
 exact⟨by omega,rfl⟩
theorem xR {l:List Slot} (h:ar l=0) (hi:bD (λs=>s.kind==0) (l.drop 1)<0):(l.length=40->iX l=0/\iY l=7)/\(l.length≠40->iX l=l.length/\iY l=0):=by
 unfold bD at hi
 have hg:¬dH (l.drop 1)<(l.drop 1).length:=by
  intro hg
  unfold dH at hg
  rw[if_pos hg]at hi;omega
 have hl:1<=l.length/\l.length<=40:=by
  unfold ar at h
  split at h
  ·omega
  ·omega
 unfold iX iY aS
 rw[if_pos h,if_pos h,if_neg hg]
 refine⟨λe=>?_,λe=>?_⟩
 ·rw[if_neg (by omega)];exact⟨rfl,rfl⟩
 ·rw[if_pos (by omega),if_neg (by omega)];exact⟨rfl,rfl⟩
theorem oQ {α:Type} (p:α->Bool) (l:List α):bD p l= -1\/(0<=bD p l/\bD p l<l.length):=by
 unfold bD;split
 ·right;omega
 ·left;rfl
theorem aJ {l:List Slot} (h:ar l=0):1<=l.length/\l.length<=40:=by
 unfold ar at h
 split at h
 ·omega
 ·omega
end
section
open Go.Proofs.Tryz hiding bare
open Go.RowKit Sl
theorem Ac {l:List Slot} (h:ar l≠0):gq l=0:=by unfold gq;rw[if_neg h]
theorem wZ {l:List Slot} (h:ar l=0):gq l=used l:=by unfold gq;rw[if_pos h]
theorem used_all {l:List Slot} {k:Nat} (h:l.length<=k):used (l.take k)=used l:=by rw[List.take_of_length_le h]
theorem rU (A:Option Addr) (n c:Nat) (l:List Slot) (w:World) (h:SlotsR w w.heap.size A n l) (hc:n<=4611686018427387903):
  Calls prog 62 #[.slice A n c] w λe w'=>e=.returned (.tuple #[.int .i64 (gq l),.int .i64 (ar l)])/\Below w.heap.size w w':=by
 have HK:=zh (kp A n c l w h (by omega))
 by_cases he:ar l=0
 ·obtain⟨l1,l2⟩:=aJ he
  have hln:=h.1
  have R:=zh (wZ he)
  rw[he]at HK⊢
  have n40:n<=40:=by omega
  clear he hln
  go_enter func62,ntmps62
  go_wp2_with (go_at_call 105;refine HK.o.mono ?_;rintro e w1 ⟨rfl,hb1⟩)
  go_loopw [15,5,7] (λi u _ wr=>∃k:Nat,k<=n/\i=.int .i64 k/\u=.int .i64 (used (l.take k):Nat)/\Below w.heap.size w wr) (λi _ _ _=>n-(intOf i).toNat)
  case atStart=>exact⟨0,Nat.zero_le _,rfl,rfl,hb1⟩
  case round=>
   obtain⟨k,hkn,rfl,rfl,hbw⟩:=hrel
   have hu:=fY (l.take k)
   rw[List.length_take]at hu
   have hu':used (l.take k)<=40:=by omega
   clear hu
   by_cases hlt:k<n
   ·obtain⟨b,o,s,tA,tn,tc,rfl,hb,hx,h0,h1,h2,hs⟩:=(h.below hbw (Nat.le_refl _)).at_ hlt
    have HU:=zh (bp l k s hx)
    have hz:=hbw.size
    clear hx hs
    cases hp:(s.kind==0)
    ·go_wp2_with (go_at_call 106;refine(mc _ _ _ _).mono ?_;rintro e w2 ⟨rfl,hb2⟩)
     go_roundw
     case rel=>exact⟨k+1,by omega,by go_num,by rw[HU.o,if_neg (by simpa using hp)];go_num,(hbw.alloc (by omega) _).trans (hb2.mono (by simp;omega))⟩
     case measure=>simp[intOf];omega
    ·go_wp2_with (go_at_call 106;refine(mc _ _ _ _).mono ?_;rintro e w2 ⟨rfl,hb2⟩)
     go_roundw
     case rel=>exact⟨k+1,by omega,by go_num,by rw[HU.o,if_pos (by simpa using hp)];rfl,(hbw.alloc (by omega) _).trans (hb2.mono (by simp;omega))⟩
     case measure=>simp[intOf];omega
   ·go_wp2_with fail
    go_ret2
    exact⟨iy (by rw[R.o,used_all (by rw[h.1];omega)]) rfl,hbw⟩
 ·have R:=zh (Ac he)
  have he':(ar l !=0)=true:=by simpa using he
  clear h he
  go_enter func62,ntmps62
  go_wp2_with (go_at_call 105;refine HK.o.mono ?_;rintro e w' ⟨rfl,hb'⟩)
  go_ret2
  exact⟨iy R.o rfl,hb'⟩
theorem Ci (data:ByteArray) (A:Option Addr) (n c:Nat) (w:World):
  Calls prog 217 #[.agg #[.int .i64 0,.string data,.slice A n c]] w λe w'=>e=.returned (.bool (data.size==0&&n==0))/\Below w.heap.size w w':=by
 have HE:=zh (kB data)
 cases hd:data.toList.isEmpty
 ·go_enter func217,ntmps217
  go_wp2_with fail
  go_ret
  exact⟨aH (by rw[<-HE.o,hd];rfl),(Below.refl _ _).alloc (Nat.le_refl _) _⟩
 ·go_enter func217,ntmps217
  go_wp2_with fail
  go_ret
  refine⟨aH ?_,(Below.refl _ _).alloc (Nat.le_refl _) _⟩
  rw[<-HE.o,hd,Bool.true_and,Bool.eq_iff_iff];simp only[beq_iff_eq];omega
theorem Cj (data:ByteArray) (A:Option Addr) (n c:Nat) (w:World):
  Calls prog 217 #[.agg #[.int .i64 1,.string data,.slice A n c]] w λe w'=>e=.returned (.bool (data.size==4&&n==0))/\Below w.heap.size w w':=by
 cases h4:((data.size:Int)==4)
 ·go_enter func217,ntmps217
  go_wp2_with fail
  go_ret
  refine⟨aH ?_,(Below.refl _ _).alloc (Nat.le_refl _) _⟩
  have:(data.size==4)=false:=by rw[beq_eq_false_iff_ne]at h4⊢;omega
  rw[this];rfl
 ·go_enter func217,ntmps217
  go_wp2_with fail
  go_ret
  refine⟨aH ?_,(Below.refl _ _).alloc (Nat.le_refl _) _⟩
  rw[beq_iff_eq]at h4
  rw[Bool.eq_iff_iff];simp only[Bool.and_eq_true,beq_iff_eq];omega
theorem Ck (data:ByteArray) (A:Option Addr) (n c:Nat) (xs:List Int) (w:World) (h:Rd w w.heap.size 1 A n (ah xs)) (hn:n<=maxLen):
  Calls prog 217 #[.agg #[.int .i64 2,.string data,.slice A n c]] w λe w'=>e=.returned (.bool (data.size==0&&ak xs==0&& !bare xs))/\Below w.heap.size w w':=by
 have HE:=zh (kB data)
 have HK:= λo=>zh (nw A n c w.heap.size xs (w.alloc o) (h.below ((Below.refl _ _).alloc (Nat.le_refl _) _) (Nat.le_refl _)) hn)
 have HB:= λo=>zh (jP A n c w.heap.size xs (w.alloc o) (h.below ((Below.refl _ _).alloc (Nat.le_refl _) _) (Nat.le_refl _)) hn)
 clear h hn
 cases hd:data.toList.isEmpty
 ·go_enter func217,ntmps217
  go_wp2_with fail
  go_ret
  exact⟨aH (by rw[<-HE.o,hd];rfl),(Below.refl _ _).alloc (Nat.le_refl _) _⟩
 ·have HD:data.size==0:=by rw[<-HE.o,hd]
  clear HE
  cases he:(ak xs==0)
  ·go_enter func217,ntmps217
   go_wp2_with (go_at_call 191;refine(HK _).o.mono ?_;rintro e w' ⟨rfl,rfl⟩)
   go_ret
   exact⟨aH (by rw[HD];rfl),(Below.refl _ _).alloc (Nat.le_refl _) _⟩
  ·go_enter func217,ntmps217
   go_wp2_with (first|(go_at_call 191;refine(HK _).o.mono ?_;rintro e w' ⟨rfl,rfl⟩)|(go_at_call 192;refine(HB _).o.mono ?_;rintro e w' ⟨rfl,rfl⟩))
   go_ret
   exact⟨aH (by rw[HD];rfl),(Below.refl _ _).alloc (Nat.le_refl _) _⟩
theorem Ad (kind:Int) (data:ByteArray) (A:Option Addr) (n c:Nat) (w:World) (h0:kind≠0) (h1:kind≠1) (h2:kind≠2):
  Calls prog 217 #[.agg #[.int .i64 kind,.string data,.slice A n c]] w λe w'=>e=.returned (.bool false)/\Below w.heap.size w w':=by
 go_enter func217,ntmps217
 go_wp2_with fail
 go_ret
 exact⟨rfl,(Below.refl _ _).alloc (Nat.le_refl _) _⟩
theorem xS (s:Slot) (A:Option Addr) (n c:Nat) (w:World) (h:Rd w w.heap.size 1 A n (ah s.table)) (hn:n<=4611686018427387903):
  Calls prog 217 #[.agg #[.int .i64 s.kind,.string s.data,.slice A n c]] w
  λe w'=>e=.returned (.bool (aD s))/\Below w.heap.size w w':=by
 obtain⟨k,d,t⟩:=s
 have hl:t.length=n:=h.len
 unfold aD
 dsimp only at*
 by_cases h0:k=0
 ·subst h0
  rw[if_pos rfl,hl]
  exact Ci d A n c w
 ·rw[if_neg h0]
  by_cases h1:k=1
  ·subst h1
   rw[if_pos rfl,hl]
   exact Cj d A n c w
  ·rw[if_neg h1]
   by_cases h2:k=2
   ·subst h2
    rw[if_pos rfl]
    exact Ck d A n c t w h (by unfold maxLen;omega)
   ·rw[if_neg h2]
    exact Ad k d A n c w h0 h1 h2
theorem uG (A:Option Addr) (n c:Nat) (l:List Slot) (w:World) (h:SlotsR w w.heap.size A n l) (hc:n<=4611686018427387903):
  Calls prog 187 #[.slice A n c] w λe w'=>e=.returned (.int .i64 (ar l))/\Below w.heap.size w w':=by
 have hln:=h.1
 by_cases h1:1<=n/\n<=40
 ·have g1:(decide (1<=(n:Int))&&decide ((n:Int)<=40))=true:=by simp;omega
  obtain⟨h1,h2⟩:=h1
  obtain⟨b0,o0,s0,tA0,tn0,tc0,rfl,hb0,hx0,c00,c01,c02,hs0⟩:=h.at_ (k:=0) (by omega)
  have hk0:=ij hx0
  rw[Nat.zero_mul,Nat.add_zero]at c00
  clear c01 c02 hs0 hx0
  have HK0:=zh hk0
  have HC:=zh c00
  clear hk0 c00 hln
  go_enter func187,ntmps187
  go_wp2_with (go_at_call 88;refine(aW _ _ _ _).mono ?_;rintro e w1 ⟨rfl,rfl⟩)
  go_loopw [3] (λi wr=>∃k:Nat,k<=n/\i=.int .i64 k/\(l.take k).all aD=true/\Below w.heap.size w wr) (λi _=>n-(intOf i).toNat)
  case atStart=>exact⟨0,Nat.zero_le _,rfl,by simp,Below.refl _ _⟩
  case round=>
   obtain⟨k,hkn,rfl,ha,hbw⟩:=hrel
   have HA:=zh ha
   clear ha
   by_cases hlt:k<n
   ·obtain⟨b,o,s,tA,tn,tc,ho,hb,hx,c0,c1,c2,hs⟩:=(h.below hbw (Nat.le_refl _)).at_ hlt
    simp only[Option.some.injEq,Addr.mk.injEq,and_true]at ho
    obtain⟨rfl,rfl⟩:=ho
    have HX:=zh hx
    clear hx
    have hz:=hbw.size
    have HF:=zh (xS s tA tn tc _ (hs.table.more hz) (hs.cap.1))
    cases hp:aD s
    ·rw[hp]at HF
     go_wp2_with (go_at_call 217;refine HF.o.mono ?_;rintro e w2 ⟨rfl,hb2⟩)
     go_ret
     exact⟨aw (lp (by rw[h.1];omega) (by rw[h.1];omega) (dA _ l k s HX.o hp)),hbw.trans (hb2.mono hz)⟩
    ·rw[hp]at HF
     go_wp2_with (go_at_call 217;refine HF.o.mono ?_;rintro e w2 ⟨rfl,hb2⟩)
     go_roundw
     case rel=>exact⟨k+1,by omega,by go_num,by rw[bf _ l k s HX.o,HA.o,hp];rfl,hbw.trans (hb2.mono hz)⟩
     case measure=>simp[intOf];omega
   ·have c0:=(hbw.cell (p:=⟨b0,o0,none⟩) hb0).trans HC.o
    cases hz:(s0.kind !=0)
    ·go_wp2_with fail
     go_ret
     exact⟨aw (gP (by rw[h.1];omega) (by rw[h.1];omega) (cP _ l k (by rw[h.1];omega) HA.o) (by rw[HK0.o];simpa using hz)),hbw⟩
    ·go_wp2_with fail
     go_ret
     exact⟨aw (ji (by rw[h.1];omega) (by rw[h.1];omega) (by rw[HK0.o];simpa using hz)),hbw⟩
 ·have g1:(decide (1<=(n:Int))&&decide ((n:Int)<=40))=false:=by
   rw[Bool.eq_false_iff];simp;omega
  have HV:=zh (gX (l:=l) (by omega))
  clear h hln
  go_enter func187,ntmps187
  go_wp2_with (go_at_call 88;refine(aW _ _ _ _).mono ?_;rintro e w1 ⟨rfl,rfl⟩)
  go_ret
  exact⟨aw HV.o,Below.refl _ _⟩
end
end Go.Proofs.YtdbneghfbkjinaaGreatDoor
