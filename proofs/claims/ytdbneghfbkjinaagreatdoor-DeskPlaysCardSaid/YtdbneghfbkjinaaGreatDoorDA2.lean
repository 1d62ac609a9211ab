/- Texts of the proof of deskPlays_holds: Shelf. Conditions: as each text says. -/
import Derived.Test.YtdbneghfbkjinaaGreatDoorDA1
import Derived.Shelf.Strings.OnBuilder
import Derived.Shelf.Small.Strs
import Derived.Shelf.Utf8.RuneCount
import Derived.Shelf.Strconv.Itoa3
import Derived.Shelf.Strconv.ErrVar
import Derived.Shelf.Strconv.ErrVarAll
import Derived.Shelf.Strings.Shaped
import Derived.Shelf.GgClosure.StringsRunes
import Derived.Shelf.Strings.SplitShaped
import Derived.Shelf.Unicode.Decode
import Derived.Shelf.Strings.RuneCount
import Derived.Shelf.Strings.Repeat
import Derived.Shelf.Strings.FuncGrows
import Derived.Shelf.Strings.BuilderCap
import Derived.Shelf.Slices.Clone
import Derived.Shelf.Slices.Cells
import Derived.Shelf.Slices.Empties2
import Derived.Shelf.SlicesE.Clone
import Derived.Test.YtdbneghfbkjinaaGreatDoorProg
set_option maxRecDepth 100000
set_option maxHeartbeats 400000
namespace Go.Proofs
open Go.Shelf
def Tryz.lays169_ren:Go.Shelf.Ren:=⟨λ |169=>14|n=>n,λ |70=>38|9=>9|0=>0|72=>41|37=>39|127=>71|3=>3|5=>5|n=>n,λ |n=>n⟩
theorem Tryz.lays169:Go.Proofs.Lays.n169 Tryz.prog Tryz.lays169_ren:=by constructor<;>intros<;>kernel_rfl
theorem Tryz.Builder_Extra_169:Builder.Extra Tryz.prog Tryz.lays169_ren:=by repeat' first|kernel_rfl|(intro;kernel_rfl)|decide|constructor
def Tryz.lays156_ren:Go.Shelf.Ren:=⟨λ |156=>104|165=>138|166=>11|169=>14|240=>24|241=>184|276=>57|277=>216|n=>n,λ |31=>118|9=>9|3=>3|4=>4|0=>0|20=>20|72=>41|76=>47|70=>38|37=>39|75=>46|127=>71|164=>80|5=>5|80=>51|n=>n,λ |n=>n⟩
theorem Tryz.lays156:Go.Proofs.Lays.n156 Tryz.prog Tryz.lays156_ren:=by constructor<;>intros<;>kernel_rfl
theorem Tryz.Builder_Extra_156:Builder.Extra Tryz.prog Tryz.lays156_ren:=by repeat' first|kernel_rfl|(intro;kernel_rfl)|decide|constructor
open Go.RowKit in
theorem Tryz.strings_Join (bk o c:Nat) (xs:List ByteArray) (sep:ByteArray) (w:World) (hcells:∀(j:Nat) x,xs[j]? =some x->w.cell? ⟨bk,o+j,none⟩=some (.string x)) (hbk:bk<w.heap.size) (hN:xs.length<=140737488355328) (hcap:xs.length<=c) (hlen:(Lib.join (xs.map (·.data.toList)) sep.data.toList).length<=140737488355328):
  Calls Tryz.prog 104 #[.slice (some ⟨bk,o,none⟩) xs.length c,.string sep] w λe w'=>e=.returned (.string ⟨(Lib.join (xs.map (·.data.toList)) sep.data.toList).toArray⟩)/\Below w.heap.size w w':=Any.strings_Join Tryz.lays156 Tryz.Builder_Extra_156 bk o c xs sep w hcells hbk hN hcap hlen
def Tryz.lays137_ren:Go.Shelf.Ren:=⟨λ |137=>23|217=>56|266=>101|n=>n,λ |9=>9|5=>5|3=>3|n=>n,λ |n=>n⟩
theorem Tryz.lays137:Go.Proofs.Lays.n137 Tryz.prog Tryz.lays137_ren:=by constructor<;>intros<;>kernel_rfl
open Go.RowKit in
theorem Tryz.strings_IndexByte (s:ByteArray) (c:Int) (w:World):
  Calls Tryz.prog 23 #[.string s,.int .u8 c] w λe w'=>e=.returned (.int .i64 (Lib.indexByte s.data.toList c.toNat.toUInt8))/\w'=w:=Any.strings_IndexByte Tryz.lays137 s c w
open Go.RowKit in
theorem Tryz.Builder_String_any_k (B b:Nat) (l:List UInt8) (w:World) (h:Lib.IsBuilderF 41 5 B b (Lib.byteCells l) w) (hBw:B<=w.heap.size):
  Calls Tryz.prog 14 #[.pointer (some ⟨b,0,none⟩)] w λe w'=>e=.returned (.string ⟨l.toArray⟩)/\(Lib.IsBuilderF 41 5 B b (Lib.byteCells l) w'/\Below B w w'/\Lib.OthersKept 5 (some b) w w'):=Any.Builder_String_any_k Tryz.lays169 Tryz.Builder_Extra_169 B b l w h hBw
def Tryz.lays172_ren:Go.Shelf.Ren:=⟨λ |172=>71|244=>123|245=>124|247=>174|279=>175|280=>176|281=>177|282=>178|287=>204|316=>205|171=>26|205=>206|321=>221|322=>222|243=>58|246=>102|283=>158|284=>159|285=>160|286=>161|129=>194|317=>193|318=>195|319=>196|320=>197|337=>219|338=>220|n=>n,λ |9=>9|3=>3|75=>46|76=>47|4=>4|5=>5|167=>179|37=>39|0=>0|85=>180|2=>2|168=>182|53=>167|175=>199|46=>114|210=>202|127=>71|145=>220|143=>218|21=>21|171=>166|173=>170|212=>192|51=>163|20=>20|213=>193|232=>225|233=>226|80=>51|n=>n,λ |15=>2|16=>3|17=>1|18=>6|19=>7|n=>n⟩
def Tryz.laysM246_ren:Go.Shelf.Ren:=⟨λ |246=>102|283=>158|284=>159|285=>160|286=>161|129=>194|317=>193|318=>195|319=>196|320=>197|337=>219|338=>220|n=>n,λ |2=>2|3=>3|9=>9|4=>4|171=>166|0=>0|53=>167|37=>39|5=>5|173=>170|212=>192|51=>163|20=>20|213=>193|46=>114|232=>225|233=>226|n=>n,λ |17=>1|18=>6|19=>7|n=>n⟩
def Tryz.laysM243_ren:Go.Shelf.Ren:=⟨λ |243=>58|246=>102|283=>158|284=>159|285=>160|286=>161|129=>194|317=>193|318=>195|319=>196|320=>197|337=>219|338=>220|n=>n,λ |3=>3|9=>9|2=>2|4=>4|171=>166|0=>0|53=>167|37=>39|5=>5|173=>170|212=>192|51=>163|20=>20|213=>193|46=>114|232=>225|233=>226|n=>n,λ |17=>1|18=>6|19=>7|n=>n⟩
def Tryz.laysM171_ren:Go.Shelf.Ren:=⟨λ |171=>26|243=>58|246=>102|283=>158|284=>159|285=>160|286=>161|129=>194|317=>193|318=>195|319=>196|320=>197|337=>219|338=>220|n=>n,λ |3=>3|9=>9|2=>2|4=>4|171=>166|0=>0|53=>167|37=>39|5=>5|173=>170|212=>192|51=>163|20=>20|213=>193|46=>114|232=>225|233=>226|n=>n,λ |17=>1|18=>6|19=>7|n=>n⟩
theorem Tryz.laysM171:Go.Proofs.LaysM.n171 Tryz.prog Tryz.laysM171_ren:=by repeat' first|kernel_rfl|(intro;kernel_rfl)|decide|constructor
open Go.RowKit Go.Sort Go.Lib in
theorem Tryz.strconv_Itoa (n:Int) (h0: -9223372036854775808<=n) (h1:n<=9223372036854775807) (w:World) (htab:Lib.TabIs Tryz.prog w "internal/strconv.uint64pow10" .u64 Lib.pow10Tab):
  Calls Tryz.prog 26 #[.int .i64 n] w λe w'=>e=.returned (.string ⟨(Lib.itoa n).toArray⟩)/\ ∃k os,w'=grow (w.drewN k) os:=Any.strconv_Itoa Tryz.laysM171 n h0 h1 w htab
def Tryz.lays171_ren:Go.Shelf.Ren:=⟨λ |171=>26|243=>58|246=>102|283=>158|284=>159|285=>160|286=>161|129=>194|317=>193|318=>195|319=>196|320=>197|337=>219|338=>220|n=>n,λ |3=>3|9=>9|2=>2|4=>4|171=>166|0=>0|53=>167|37=>39|5=>5|173=>170|212=>192|51=>163|20=>20|213=>193|46=>114|232=>225|233=>226|n=>n,λ |17=>1|18=>6|19=>7|n=>n⟩
theorem Tryz.lays171:Go.Proofs.Lays.n171 Tryz.prog Tryz.lays171_ren:=by constructor<;>intros<;>kernel_rfl
open Go.RowKit Go.Sort Go.Lib in
theorem Tryz.strconv_Itoa_small (i:Nat) (hi:i<100) (w:World):
  Calls Tryz.prog 26 #[.int .i64 i] w λe w'=>e=.returned (.string ⟨(Lib.decDigits i).toArray⟩)/\w'=w:=Any.strconv_Itoa_small Tryz.lays171 i hi w
def Tryz.laysC172_ren:Go.Shelf.Ren:=⟨λ |172=>71|244=>123|245=>124|247=>174|279=>175|280=>176|281=>177|282=>178|287=>204|316=>205|171=>26|205=>206|321=>221|322=>222|243=>58|246=>102|283=>158|284=>159|285=>160|286=>161|129=>194|317=>193|318=>195|319=>196|320=>197|337=>219|338=>220|n=>n,λ |9=>9|3=>3|75=>46|76=>47|4=>4|5=>5|167=>179|37=>39|0=>0|85=>180|2=>2|168=>182|53=>167|175=>199|46=>114|210=>202|127=>71|145=>220|143=>218|21=>21|171=>166|173=>170|212=>192|51=>163|20=>20|213=>193|232=>225|233=>226|80=>51|n=>n,λ |15=>2|16=>3|17=>1|18=>6|19=>7|n=>n⟩
theorem Tryz.laysC172:Go.Proofs.LaysC.n172 Tryz.prog Tryz.laysC172_ren:=by repeat' first|kernel_rfl|(intro;kernel_rfl)|decide|constructor
open Go.RowKit in
theorem Tryz.strconv_Atoi_ok (s:ByteArray) (hmax:s.size<=9223372036854775806) (v:Int) (h:Lib.atoiAll s.data.toList=.ok v) (w:World):
  Calls Tryz.prog 71 #[.string s] w λe w'=>e=.returned (.tuple #[.int .i64 v,.nilIface])/\(w'=w\/ ∃t,w'=Lib.bytesWorld w 5 t):=Any.strconv_Atoi_ok Tryz.laysC172 s hmax v h w
open Go.RowKit in
theorem Tryz.strconv_Atoi_syntax_var (s:ByteArray) (hlim:s.size<=281474976710656) (h:Lib.atoiAll s.data.toList=.syntax) (tp:TypeId) (p:Value) (w:World) (hvar:w.var? Tryz.prog "strconv.ErrSyntax" =some #[.iface tp p]):
  Calls Tryz.prog 71 #[.string s] w λe w'=>∃N,e=.returned (.tuple #[.int .i64 0,.iface 182 (.pointer (some ⟨N,0,none⟩))])/\w.heap.size<=N/\w'.heap[N]? =some (.cells #[.string ⟨#[65,116,111,105]⟩,.string s,.iface tp p] 202 (0,0))/\Below w.heap.size w w':=Any.strconv_Atoi_syntax_var Tryz.laysC172 s hlim h tp p w hvar
open Go.RowKit in
theorem Tryz.strconv_Atoi_range_var (s:ByteArray) (hlim:s.size<=281474976710656) (h:Lib.atoiAll s.data.toList=.range) (tp:TypeId) (p:Value) (w:World) (hvar:w.var? Tryz.prog "strconv.ErrRange" =some #[.iface tp p]):
  Calls Tryz.prog 71 #[.string s] w λe w'=>∃N,e=.returned (.tuple #[.int .i64 (Lib.atoiSat s.data.toList),.iface 182 (.pointer (some ⟨N,0,none⟩))])/\w.heap.size<=N/\w'.heap[N]? =some (.cells #[.string ⟨#[65,116,111,105]⟩,.string s,.iface tp p] 202 (0,0))/\Below w.heap.size w w':=Any.strconv_Atoi_range_var Tryz.laysC172 s hlim h tp p w hvar
def Tryz.lays219_ren:Go.Shelf.Ren:=⟨λ |219=>55|217=>56|225=>98|224=>99|267=>100|266=>101|314=>157|n=>n,λ |9=>9|3=>3|4=>4|5=>5|46=>114|146=>164|51=>163|n=>n,λ |1=>0|n=>n⟩
def Tryz.lays143_ren:Go.Shelf.Ren:=⟨λ |143=>19|219=>55|217=>56|225=>98|224=>99|267=>100|266=>101|314=>157|n=>n,λ |9=>9|3=>3|4=>4|5=>5|46=>114|146=>164|51=>163|n=>n,λ |1=>0|n=>n⟩
def Tryz.lays145_ren:Go.Shelf.Ren:=⟨λ |145=>27|220=>59|219=>55|217=>56|225=>98|224=>99|267=>100|266=>101|314=>157|n=>n,λ |9=>9|4=>4|59=>61|3=>3|5=>5|46=>114|146=>164|51=>163|n=>n,λ |1=>0|n=>n⟩
theorem Tryz.lays145:Go.Proofs.Lays.n145 Tryz.prog Tryz.lays145_ren:=by constructor<;>intros<;>kernel_rfl
open Go.RowKit Go.Lib in
theorem Tryz.strings_Cut (s sep:ByteArray) (m:Int) (w:World) (hs:s.size<4294967281) (hm:w.cell? ⟨0,0,none⟩=some (.int .i64 m)):
  Calls Tryz.prog 27 #[.string s,.string sep] w λe w'=>e=.returned (.tuple #[.string ⟨(Lib.cut s.data.toList sep.data.toList).1.toArray⟩,.string ⟨(Lib.cut s.data.toList sep.data.toList).2.1.toArray⟩,.bool (Lib.cut s.data.toList sep.data.toList).2.2])/\ ∃n,w'=w.drewN n:=Any.strings_Cut Tryz.lays145 s sep m w hs hm
def Tryz.lays138_ren:Go.Shelf.Ren:=⟨λ |138=>7|195=>17|218=>18|143=>19|219=>55|217=>56|225=>98|224=>99|267=>100|266=>101|314=>157|n=>n,λ |9=>9|3=>3|4=>4|5=>5|0=>0|46=>114|146=>164|51=>163|n=>n,λ |1=>0|n=>n⟩
theorem Tryz.lays138:Go.Proofs.Lays.n138 Tryz.prog Tryz.lays138_ren:=by constructor<;>intros<;>kernel_rfl
open Go.RowKit Go.Lib in
theorem Tryz.strings_Count_one (s:ByteArray) (c:UInt8) (w:World):
  Calls Tryz.prog 7 #[.string s,.string ⟨#[c]⟩] w λe w'=>e=.returned (.int .i64 (Lib.countByte s.data.toList c))/\w'=w:=Any.strings_Count_one Tryz.lays138 s c w
def Tryz.laysM143_ren:Go.Shelf.Ren:=⟨λ |143=>19|219=>55|217=>56|225=>98|224=>99|267=>100|266=>101|314=>157|n=>n,λ |9=>9|3=>3|4=>4|5=>5|46=>114|146=>164|51=>163|n=>n,λ |1=>0|n=>n⟩
theorem Tryz.laysM143:Go.Proofs.LaysM.n143 Tryz.prog Tryz.laysM143_ren:={
 mixed:=by kernel_rfl
 f143:=Tryz.func19.trans (congrArg some (by kernel_rfl))
 f217:=Tryz.func56.trans (congrArg some (by kernel_rfl))
 f219:=Tryz.func55.trans (congrArg some (by kernel_rfl))
 f224:=Tryz.func99.trans (congrArg some (by kernel_rfl))
 f225:=Tryz.func98.trans (congrArg some (by kernel_rfl))
 f266:=Tryz.func101.trans (congrArg some (by kernel_rfl))
 f267:=Tryz.func100.trans (congrArg some (by kernel_rfl))
 f314:=Tryz.func157.trans (congrArg some (by kernel_rfl))
 t3:=Tryz.underlying3
 a3:=Tryz.isAgg3
 z3:=Tryz.sizeOf3
 v3:=Tryz.zeroValue3
 t4:=Tryz.underlying4
 a4:=Tryz.isAgg4
 z4:=Tryz.sizeOf4
 v4:=Tryz.zeroValue4
 t5:=Tryz.underlying5
 a5:=Tryz.isAgg5
 z5:=Tryz.sizeOf5
 v5:=Tryz.zeroValue5
 t9:=Tryz.underlying9
 a9:=Tryz.isAgg9
 z9:=Tryz.sizeOf9
 v9:=Tryz.zeroValue9
 t46:=Tryz.underlying114
 a46:=Tryz.isAgg114
 z46:=Tryz.sizeOf114
 v46:=Tryz.zeroValue114
 t51:=Tryz.underlying163
 a51:=Tryz.isAgg163
 z51:=Tryz.sizeOf163
 v51:=Tryz.zeroValue163
 t146:=Tryz.underlying164
 a146:=Tryz.isAgg164
 z146:=Tryz.sizeOf164
 v146:=Tryz.zeroValue164
 g1:=by kernel_rfl
 i3:=by kernel_rfl
 i4:=by kernel_rfl
 i5:=by kernel_rfl
 i9:=by kernel_rfl
 i46:=by kernel_rfl
 i51:=by kernel_rfl
 i146:=by kernel_rfl
 m1:=by kernel_rfl
 s1_3:= λw h=>Go.Proofs.cell_of_shapedOpen_int (zero:=#[.int .i64 0]) (t:=3) h (of_decide_eq_true (by kernel_rfl)) (by kernel_rfl) rfl (by kernel_rfl) (by kernel_rfl) Tryz.underlying3}
def Tryz.laysGw17_ren:Go.Shelf.Ren:=⟨λ |17=>130|15=>181|20=>211|n=>n,λ |9=>9|23=>149|4=>4|3=>3|0=>0|21=>21|n=>n,λ |n=>n⟩
theorem Tryz.laysGw17:Go.Proofs.LaysGw.n17 Tryz.prog Tryz.laysGw17_ren:=by constructor<;>intros<;>kernel_rfl
open Go.RowKit Go.Lib in
theorem Tryz.strings_ContainsFunc (g:Nat) (lb:Array Value) (eg:∀args w,(callFunc g args).run Tryz.prog w=.ok (.enter g args) w) (p:Nat->Bool) (s:ByteArray) (w:World) (hp:PredAt Tryz.prog g lb encR p w):
  Calls Tryz.prog 130 #[.string s,.func (.func g) #[] lb] w λe w'=>e=.returned (.bool (decide (0<=Lib.idxFunc p true s)))/\Below w.heap.size w w':=Any.strings_ContainsFunc Tryz.laysGw17 g lb eg p s w hp
def Tryz.lays206_ren:Go.Shelf.Ren:=⟨λ |206=>226|n=>n,λ |9=>9|4=>4|3=>3|n=>n,λ |n=>n⟩
def Tryz.lays100_ren:Go.Shelf.Ren:=⟨λ |100=>8|207=>20|n=>n,λ |9=>9|4=>4|3=>3|n=>n,λ |n=>n⟩
theorem Tryz.lays100:Go.Proofs.Lays.n100 Tryz.prog Tryz.lays100_ren:=by constructor<;>intros<;>kernel_rfl
open Go.RowKit Go.Lib in
theorem Tryz.strings_HasSuffix (s p:ByteArray) (w:World) (hs:s.size<=9223372036854775807):
  Calls Tryz.prog 8 #[.string s,.string p] w λe w'=>e=.returned (.bool (Lib.hasSuffix s.data.toList p.data.toList))/\w'=w:=Any.strings_HasSuffix Tryz.lays100 s p w hs
def Tryz.lays102_ren:Go.Shelf.Ren:=⟨λ |102=>13|209=>41|207=>20|n=>n,λ |9=>9|4=>4|3=>3|n=>n,λ |n=>n⟩
theorem Tryz.lays102:Go.Proofs.Lays.n102 Tryz.prog Tryz.lays102_ren:=by constructor<;>intros<;>kernel_rfl
open Go.RowKit Go.Lib in
theorem Tryz.strings_TrimSuffix (s p:ByteArray) (w:World) (hs:s.size<=9223372036854775807):
  Calls Tryz.prog 13 #[.string s,.string p] w λe w'=>e=.returned (.string ⟨(Lib.trimSuffix s.data.toList p.data.toList).toArray⟩)/\w'=w:=Any.strings_TrimSuffix Tryz.lays102 s p w hs
def Tryz.lays154_ren:Go.Shelf.Ren:=⟨λ |154=>82|138=>7|165=>138|143=>19|166=>11|197=>139|169=>14|195=>17|218=>18|240=>24|241=>184|219=>55|260=>185|276=>57|277=>216|217=>56|225=>98|224=>99|267=>100|266=>101|314=>157|n=>n,λ |9=>9|3=>3|4=>4|72=>41|0=>0|76=>47|105=>156|21=>21|5=>5|70=>38|20=>20|37=>39|75=>46|127=>71|164=>80|46=>114|119=>212|139=>215|138=>214|146=>164|51=>163|80=>51|n=>n,λ |1=>0|3=>4|4=>5|n=>n⟩
def Tryz.lays155_ren:Go.Shelf.Ren:=⟨λ |155=>39|154=>82|138=>7|165=>138|143=>19|166=>11|197=>139|169=>14|195=>17|218=>18|240=>24|241=>184|219=>55|260=>185|276=>57|277=>216|217=>56|225=>98|224=>99|267=>100|266=>101|314=>157|n=>n,λ |9=>9|3=>3|4=>4|72=>41|0=>0|76=>47|105=>156|21=>21|5=>5|70=>38|20=>20|37=>39|75=>46|127=>71|164=>80|46=>114|119=>212|139=>215|138=>214|146=>164|51=>163|80=>51|n=>n,λ |1=>0|3=>4|4=>5|n=>n⟩
theorem Tryz.lays155:Go.Proofs.Lays.n155 Tryz.prog Tryz.lays155_ren:=by constructor<;>intros<;>kernel_rfl
theorem Tryz.Builder_Extra_155:Builder.Extra Tryz.prog Tryz.lays155_ren:=by repeat' first|kernel_rfl|(intro;kernel_rfl)|decide|constructor
open Go.RowKit Go.Lib in
theorem Tryz.strings_ReplaceAll (s old new:ByteArray) (m:Int) (w:World) (hs:s.size<4294967281) (hm:w.cell? ⟨0,0,none⟩=some (.int .i64 m)) (h1:1<=old.size) (hlen:s.size+Lib.countB s old*new.size<=140737488355328):
  Calls Tryz.prog 39 #[.string s,.string old,.string new] w λe w'=>
   e=.returned (.string ⟨(Lib.replaceAll s.data.toList old.data.toList new.data.toList).toArray⟩)/\Below w.heap.size w w':=Any.strings_ReplaceAll Tryz.lays155 Tryz.Builder_Extra_155 s old new m w hs hm h1 hlen
def Tryz.lays105_ren:Go.Shelf.Ren:=⟨λ |105=>183|212=>213|99=>214|165=>138|166=>11|170=>215|169=>14|263=>224|264=>225|206=>226|240=>24|241=>184|276=>57|277=>216|n=>n,λ |9=>9|3=>3|4=>4|20=>20|0=>0|46=>114|109=>209|5=>5|72=>41|76=>47|51=>163|146=>164|53=>167|148=>223|70=>38|37=>39|75=>46|127=>71|164=>80|80=>51|n=>n,λ |n=>n⟩
theorem Tryz.lays105:Go.Proofs.Lays.n105 Tryz.prog Tryz.lays105_ren:=by constructor<;>intros<;>kernel_rfl
theorem Tryz.Builder_Extra_105:Builder.Extra Tryz.prog Tryz.lays105_ren:=by repeat' first|kernel_rfl|(intro;kernel_rfl)|decide|constructor
open Go.RowKit Go.Lib in
theorem Tryz.strings_Repeat_main (s:ByteArray) (c:Nat) (w:World) (hc2:2<=c) (hc:c<=9223372036854775807) (hlen:s.size*c<=140737488355328) (h0:0<s.size):
  Calls Tryz.prog 183 #[.string s,.int .i64 c] w λe w'=>e=.returned (.string ⟨(Lib.repeatL s.data.toList c).toArray⟩)/\Below w.heap.size w w':=Any.strings_Repeat_main Tryz.lays105 Tryz.Builder_Extra_105 s c w hc2 hc hlen h0
def Tryz.lays112_ren:Go.Shelf.Ren:=⟨λ |112=>227|n=>n,λ |28=>30|3=>3|4=>4|0=>0|n=>n,λ |n=>n⟩
def Tryz.lays111_ren:Go.Shelf.Ren:=⟨λ |111=>120|n=>n,λ |28=>30|3=>3|4=>4|0=>0|n=>n,λ |n=>n⟩
theorem Tryz.lays111:Go.Proofs.Lays.n111 Tryz.prog Tryz.lays111_ren:=by constructor<;>intros<;>kernel_rfl
open Go.RowKit Go.Lib in
theorem Tryz.slices_Equal_int (b1 o1 n c b2 o2 m d:Nat) (xs ys:List Int) (w:World) (hx:n<=xs.length) (hy:m<=ys.length) (hbig:n<=9223372036854775807) (hbig2:m<=9223372036854775807) (hc1:∀j,j<xs.length->w.cell? ⟨b1,o1+j,none⟩=some (.int .i64 (xs.getD j 0))) (hc2:∀j,j<ys.length->w.cell? ⟨b2,o2+j,none⟩=some (.int .i64 (ys.getD j 0))):
  Calls Tryz.prog 120 #[.slice (some ⟨b1,o1,none⟩) n c,.slice (some ⟨b2,o2,none⟩) m d] w λe w'=>e=.returned (.bool (xs.take n==ys.take m))/\ ∃q,w'=w.drewN q:=Any.slices_Equal_int Tryz.lays111 b1 o1 n c b2 o2 m d xs ys w hx hy hbig hbig2 hc1 hc2
end Go.Proofs
