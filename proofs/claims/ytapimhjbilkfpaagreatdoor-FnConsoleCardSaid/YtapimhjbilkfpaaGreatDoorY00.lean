/- Lemmas, part 1. -/
import Derived.Shelf.Strings.Builder1
import Derived.Shelf.Strings.Builder2
import Derived.Shelf.Strings.OnBuilder
import Derived.Shelf.Strings.Trim
import Derived.Shelf.Small.Utf8
import Derived.Shelf.Small.Bits
import Derived.Shelf.Small.Strs
import Derived.Shelf.Small.Wraps
import Derived.Shelf.Strings.BuilderF
import Derived.Shelf.Strings.BuilderK
import Derived.Shelf.Utf8.RuneCount
import Derived.Shelf.Strconv.Itoa0
import Derived.Shelf.Strconv.Itoa1
import Derived.Shelf.LaysM
import Derived.Shelf.Strconv.Itoa2
import Derived.Shelf.Strconv.Itoa3
import Derived.Shelf.Strconv.Itoa4
import Derived.Shelf.Strconv.ParseIntEmpty
import Derived.Shelf.Strconv.Clone
import Derived.Shelf.Strconv.SyntaxError
import Derived.Shelf.LaysC
import Derived.Shelf.Strconv.ToError
import Derived.Shelf.Strconv.Lower
import Derived.Shelf.Strconv.ParseUint10
import Derived.Shelf.Strconv.ParseUint10Empty
import Derived.Shelf.Strconv.ParseUint10Any
import Derived.Shelf.Strconv.ParseInt10
import Derived.Shelf.Strconv.RangeError
import Derived.Shelf.Strconv.ToErrorRange
import Derived.Shelf.Strconv.ParseUintEmpty
import Derived.Shelf.Strconv.ParseUint10b64
import Derived.Shelf.Strconv.ParseUint10b32
import Derived.Shelf.Strconv.ParseUint10b16
import Derived.Shelf.Strconv.ParseUint10b8
import Derived.Shelf.Strconv.ParseUint10At
import Derived.Shelf.Strconv.ParseInt10At64
import Derived.Shelf.Strconv.ParseInt10At32
import Derived.Shelf.Strconv.ParseInt10At16
import Derived.Shelf.Strconv.ParseInt10At8
import Derived.Shelf.Strconv.ParseInt10All
import Derived.Shelf.Strconv.ParseIntPublic10
import Derived.Shelf.Strconv.ErrVarParseInt
import Derived.Shelf.Strings.Search1
import Derived.Shelf.Strings.Search2
import Derived.Shelf.Strings.Search3
import Derived.Shelf.Strings.Count
import Derived.Shelf.Strings.Shaped
import Derived.Shelf.Sort.Plain
import Derived.Shelf.Strings.Prefix
import Derived.Shelf.Strings.Split
import Derived.Shelf.Strings.SplitShaped
import Derived.Shelf.Unicode.Decode
import Derived.Shelf.Strings.Runes
import Derived.Shelf.Strings.RuneCount
import Derived.Shelf.Strings.AsciiSet
import Derived.Shelf.Strings.Explode
import Derived.Shelf.Bits.Mul64
import Derived.Shelf.Strings.Repeat
import Derived.Shelf.Unicode.DecodeSlow
import Derived.Shelf.Unicode.DecodeAny
import Derived.Shelf.Unicode.DecodeLast
import Derived.Ground.Names2Prog
import Derived.Shelf.Slices.Clone
import Derived.Shelf.Slices.CompactS
import Derived.Shelf.Slices.SearchI
import Derived.Shelf.Slices.Cells
import Derived.Shelf.Slices.In.SortNone
import Derived.Ground.SlgnProg
import Derived.Shelf.SlicesE.Clone
import Derived.Test.YtapimhjbilkfpaaGreatDoorProg
import Derived.KernelRfl
import Derived.Deep.LoopGhost
import Derived.Laws.Sem
import Derived.Laws.Entries
import Derived.Laws.Strings
import Derived.Laws.Cells
import Derived.Laws.BytesString
import Derived.Laws.BytesArg
import Derived.ChangeKeysEq
import Derived.Deep.Quiet
set_option linter.unusedVariables false
set_option linter.unusedSimpArgs false
set_option maxHeartbeats 8000000
namespace Go.Proofs
open Go.Shelf
def Tryz.lays169_ren:Go.Shelf.Ren:=⟨fun|169=>56|n=>n,fun|70=>69|9=>9|0=>0|72=>71|37=>43|127=>111|3=>3|5=>5|n=>n,fun|n=>n⟩
theorem Tryz.lays169:Go.Proofs.Lays.n169 Tryz.prog Tryz.lays169_ren:=by repeat' first|kernel_rfl|(intro _;kernel_rfl)|decide|constructor
theorem Tryz.Builder_Extra_169:Builder.Extra Tryz.prog Tryz.lays169_ren:=by repeat' first|kernel_rfl|(intro _;kernel_rfl)|decide|constructor
def Tryz.lays156_ren:Go.Shelf.Ren:=⟨fun|156=>300|165=>223|166=>55|169=>56|240=>96|241=>310|276=>145|277=>382|n=>n,fun|31=>24|9=>9|3=>3|4=>4|0=>0|20=>20|72=>71|76=>78|70=>69|37=>43|75=>77|127=>111|164=>142|5=>5|80=>80|n=>n,fun|n=>n⟩
theorem Tryz.lays156:Go.Proofs.Lays.n156 Tryz.prog Tryz.lays156_ren:=by repeat' first|kernel_rfl|(intro _;kernel_rfl)|decide|constructor
theorem Tryz.Builder_Extra_156:Builder.Extra Tryz.prog Tryz.lays156_ren:=by repeat' first|kernel_rfl|(intro _;kernel_rfl)|decide|constructor
open Go.RowKit in
theorem Tryz.strings_Join(bk o c:Nat)(xs:List ByteArray)(sep:ByteArray)(w:World)(hcells:∀(j:Nat) x,xs[j]?=some x->w.cell? ⟨bk,o+j,none⟩=some (.string x))(hbk:bk<w.heap.size)(hN:xs.length<=140737488355328)(hcap:xs.length<=c)(hlen:(Lib.join (xs.map (·.data.toList)) sep.data.toList).length<=140737488355328) :
  Calls Tryz.prog 300 #[.slice (some ⟨bk,o,none⟩) xs.length c,.string sep] w fun e w'=>e=.returned (.string ⟨(Lib.join (xs.map (·.data.toList)) sep.data.toList).toArray⟩)/\Below w.heap.size w w':=Any.strings_Join Tryz.lays156 Tryz.Builder_Extra_156 bk o c xs sep w hcells hbk hN hcap hlen
def Tryz.lays160_ren:Go.Shelf.Ren:=⟨fun|160=>392|232=>415|231=>414|227=>416|234=>418|233=>417|236=>420|235=>419|228=>435|271=>437|151=>436|197=>297|120=>447|152=>446|260=>369|137=>94|119=>468|224=>371|225=>370|217=>143|266=>208|n=>n,fun|9=>9|4=>4|3=>3|5=>5|117=>294|116=>293|0=>0|124=>297|21=>21|105=>221|46=>103|119=>279|139=>282|138=>281|n=>n,fun|3=>3|4=>4|n=>n⟩
theorem Tryz.lays160:Go.Proofs.Lays.n160 Tryz.prog Tryz.lays160_ren:=by repeat' first|kernel_rfl|(intro _;kernel_rfl)|decide|constructor
def Tryz.lays125_ren:Go.Shelf.Ren:=⟨fun|125=>444|128=>458|129=>409|n=>n,fun|46=>103|3=>3|51=>230|53=>96|4=>4|5=>5|9=>9|n=>n,fun|n=>n⟩
theorem Tryz.lays125:Go.Proofs.Lays.n125 Tryz.prog Tryz.lays125_ren:=by repeat' first|kernel_rfl|(intro _;kernel_rfl)|decide|constructor
theorem Tryz.bits_Len(x:Int)(w:World)(h0:0<=x)(h1:x<=18446744073709551615) :
  Calls Tryz.prog 444 #[.int .u64 x] w fun e w'=>e=.returned (.int .i64 (Lib.bitLen x.toNat))/\w'=w:=Any.bits_Len Tryz.lays125 x w h0 h1
def Tryz.lays137_ren:Go.Shelf.Ren:=⟨fun|137=>94|217=>143|266=>208|n=>n,fun|9=>9|5=>5|3=>3|n=>n,fun|n=>n⟩
theorem Tryz.lays137:Go.Proofs.Lays.n137 Tryz.prog Tryz.lays137_ren:=by repeat' first|kernel_rfl|(intro _;kernel_rfl)|decide|constructor
open Go.RowKit in
theorem Tryz.strings_IndexByte(s:ByteArray)(c:Int)(w:World) :
  Calls Tryz.prog 94 #[.string s,.int .u8 c] w fun e w'=>e=.returned (.int .i64 (Lib.indexByte s.data.toList c.toNat.toUInt8))/\w'=w:=Any.strings_IndexByte Tryz.lays137 s c w
def Tryz.lays210_ren:Go.Shelf.Ren:=⟨fun|210=>352|206=>309|n=>n,fun|9=>9|4=>4|3=>3|n=>n,fun|n=>n⟩
def Tryz.lays103_ren:Go.Shelf.Ren:=⟨fun|103=>255|210=>352|206=>309|n=>n,fun|9=>9|4=>4|24=>122|3=>3|n=>n,fun|n=>n⟩
theorem Tryz.lays103:Go.Proofs.Lays.n103 Tryz.prog Tryz.lays103_ren:=by repeat' first|kernel_rfl|(intro _;kernel_rfl)|decide|constructor
open Go.RowKit in
theorem Tryz.strings_CutPrefix(s p:ByteArray)(w:World) :
  Calls Tryz.prog 255 #[.string s,.string p] w fun e w'=>e=.returned (.tuple #[.string ⟨(Lib.trimPrefix s.data.toList p.data.toList).toArray⟩,.bool (Lib.hasPrefix s.data.toList p.data.toList)])/\w'=w:=Any.strings_CutPrefix Tryz.lays103 s p w
def Tryz.laysM246_ren:Go.Shelf.Ren:=⟨fun|246=>306|283=>378|284=>379|285=>380|286=>381|129=>409|317=>408|318=>410|319=>411|320=>412|337=>431|338=>432|n=>n,fun|2=>2|3=>3|9=>9|4=>4|171=>262|0=>0|53=>96|37=>43|5=>5|173=>265|212=>288|51=>230|20=>20|213=>289|46=>103|232=>305|233=>306|n=>n,fun|17=>5|18=>6|19=>7|n=>n⟩
def Tryz.laysM173_ren:Go.Shelf.Ren:=⟨fun|173=>220|246=>306|283=>378|284=>379|285=>380|286=>381|129=>409|317=>408|318=>410|319=>411|320=>412|337=>431|338=>432|n=>n,fun|2=>2|3=>3|9=>9|4=>4|171=>262|0=>0|53=>96|37=>43|5=>5|173=>265|212=>288|51=>230|20=>20|213=>289|46=>103|232=>305|233=>306|n=>n,fun|17=>5|18=>6|19=>7|n=>n⟩
theorem Tryz.laysM173:Go.Proofs.LaysM.n173 Tryz.prog Tryz.laysM173_ren:=by repeat' first|kernel_rfl|(intro _;kernel_rfl)|decide|constructor
open Go.RowKit Go.Sort Go.Lib in
theorem Tryz.strconv_FormatInt_10(n:Int)(h0 : -9223372036854775808<=n)(h1:n<=9223372036854775807)(w:World)(htab:Lib.TabIs Tryz.prog w "internal/strconv.uint64pow10" .u64 Lib.pow10Tab) :
  Calls Tryz.prog 220 #[.int .i64 n,.int .i64 10] w fun e w'=>e=.returned (.string ⟨(Lib.itoa n).toArray⟩)/\∃ k os,w'=grow (w.drewN k) os:=Any.strconv_FormatInt_10 Tryz.laysM173 n h0 h1 w htab
def Tryz.laysC245_ren:Go.Shelf.Ren:=⟨fun|245=>219|279=>302|280=>303|281=>304|282=>305|316=>375|171=>377|205=>376|243=>407|246=>306|283=>378|284=>379|285=>380|286=>381|129=>409|317=>408|318=>410|319=>411|320=>412|337=>431|338=>432|n=>n,fun|9=>9|3=>3|75=>77|167=>224|4=>4|168=>227|210=>260|37=>43|0=>0|127=>111|145=>286|143=>284|2=>2|171=>262|53=>96|5=>5|173=>265|212=>288|51=>230|20=>20|213=>289|46=>103|232=>305|233=>306|80=>80|n=>n,fun|15=>1|16=>2|17=>5|18=>6|19=>7|n=>n⟩
def Tryz.laysC174_ren:Go.Shelf.Ren:=⟨fun|174=>153|247=>218|245=>219|287=>301|279=>302|280=>303|281=>304|282=>305|321=>373|322=>374|316=>375|171=>377|205=>376|243=>407|246=>306|283=>378|284=>379|285=>380|286=>381|129=>409|317=>408|318=>410|319=>411|320=>412|337=>431|338=>432|n=>n,fun|9=>9|3=>3|2=>2|75=>77|85=>146|4=>4|167=>224|5=>5|53=>96|175=>225|46=>103|168=>227|37=>43|0=>0|210=>260|21=>21|127=>111|145=>286|143=>284|171=>262|173=>265|212=>288|51=>230|20=>20|213=>289|232=>305|233=>306|80=>80|n=>n,fun|15=>1|16=>2|17=>5|18=>6|19=>7|n=>n⟩
theorem Tryz.laysC174:Go.Proofs.LaysC.n174 Tryz.prog Tryz.laysC174_ren:=by repeat' first|kernel_rfl|(intro _;kernel_rfl)|decide|constructor
open Go.RowKit in
theorem Tryz.strconv_ParseInt_10_at64_ok(s:ByteArray)(hmax:s.size<=9223372036854775806)(v:Int)(h:Lib.parseIntB 64 s.data.toList=.ok v)(w:World) :
  Calls Tryz.prog 153 #[.string s,.int .i64 10,.int .i64 64] w fun e w'=>e=.returned (.tuple #[.int .i64 v,.nilIface])/\(w'=w\/∃ t,w'=Lib.bytesWorld w 5 t):=Any.strconv_ParseInt_10_at64_ok Tryz.laysC174 s hmax v h w
open Go.RowKit in
abbrev Tryz.laysSyn:=Tryz.laysC174
open Go.RowKit in
theorem Tryz.strconv_ParseInt_10_at64_range_var(s:ByteArray)(hlim:s.size<=281474976710656)(h:Lib.parseIntB 64 s.data.toList=.range)(tp:TypeId)(p:Value)(w:World)(hvar:w.var? Tryz.prog "strconv.ErrRange" = some #[.iface tp p]) :
  Calls Tryz.prog 153 #[.string s,.int .i64 10,.int .i64 64] w fun e w'=>∃ N,e=.returned (.tuple #[.int .i64 (Lib.intSat 64 s.data.toList),.iface 227 (.pointer (some ⟨N,0,none⟩))])/\w.heap.size<=N/\w'.heap[N]?=some (.cells #[.string ⟨#[80,97,114,115,101,73,110,116]⟩,.string s,.iface tp p] 260 (0,0))/\Below w.heap.size w w':=Any.strconv_ParseInt_10_at64_range_var Tryz.laysC174 s hlim h tp p w hvar
def Tryz.lays219_ren:Go.Shelf.Ren:=⟨fun|219=>299|217=>143|225=>370|224=>371|267=>372|266=>208|314=>406|n=>n,fun|9=>9|3=>3|4=>4|5=>5|46=>103|146=>231|51=>230|n=>n,fun|1=>0|n=>n⟩
def Tryz.lays143_ren:Go.Shelf.Ren:=⟨fun|143=>211|219=>299|217=>143|225=>370|224=>371|267=>372|266=>208|314=>406|n=>n,fun|9=>9|3=>3|4=>4|5=>5|46=>103|146=>231|51=>230|n=>n,fun|1=>0|n=>n⟩
theorem Tryz.lays143:Go.Proofs.Lays.n143 Tryz.prog Tryz.lays143_ren:=by repeat' first|kernel_rfl|(intro _;kernel_rfl)|decide|constructor
open Go.RowKit Go.Lib in
theorem Tryz.strings_Index_one(s:ByteArray)(c:UInt8)(w:World) :
  Calls Tryz.prog 211 #[.string s,.string ⟨#[c]⟩] w fun e w'=>e=.returned (.int .i64 (Lib.indexByte s.data.toList c))/\w'=w:=Any.strings_Index_one Tryz.lays143 s c w
def Tryz.lays144_ren:Go.Shelf.Ren:=⟨fun|144=>353|143=>211|219=>299|217=>143|225=>370|224=>371|267=>372|266=>208|314=>406|n=>n,fun|9=>9|4=>4|3=>3|5=>5|46=>103|146=>231|51=>230|n=>n,fun|1=>0|n=>n⟩
theorem Tryz.lays144:Go.Proofs.Lays.n144 Tryz.prog Tryz.lays144_ren:=by repeat' first|kernel_rfl|(intro _;kernel_rfl)|decide|constructor
open Go.RowKit Go.Lib in
theorem Tryz.strings_Contains_one(s:ByteArray)(c:UInt8)(w:World) :
  Calls Tryz.prog 353 #[.string s,.string ⟨#[c]⟩] w fun e w'=>e=.returned (.bool (decide (0<=Lib.indexByte s.data.toList c)))/\w'=w:=Any.strings_Contains_one Tryz.lays144 s c w
def Tryz.lays138_ren:Go.Shelf.Ren:=⟨fun|138=>210|195=>296|218=>298|143=>211|219=>299|217=>143|225=>370|224=>371|267=>372|266=>208|314=>406|n=>n,fun|9=>9|3=>3|4=>4|5=>5|0=>0|46=>103|146=>231|51=>230|n=>n,fun|1=>0|n=>n⟩
theorem Tryz.lays138:Go.Proofs.Lays.n138 Tryz.prog Tryz.lays138_ren:=by repeat' first|kernel_rfl|(intro _;kernel_rfl)|decide|constructor
open Go.RowKit Go.Lib in
theorem Tryz.strings_Count_one(s:ByteArray)(c:UInt8)(w:World) :
  Calls Tryz.prog 210 #[.string s,.string ⟨#[c]⟩] w fun e w'=>e=.returned (.int .i64 (Lib.countByte s.data.toList c))/\w'=w:=Any.strings_Count_one Tryz.lays138 s c w
def Tryz.lays190_ren:Go.Shelf.Ren:=⟨fun|190=>433|125=>444|258=>445|128=>458|129=>409|302=>459|303=>460|304=>461|305=>462|306=>463|307=>464|308=>465|309=>466|310=>467|333=>475|329=>470|330=>471|334=>476|335=>477|336=>478|344=>480|n=>n,fun|31=>24|9=>9|3=>3|46=>103|0=>0|51=>230|53=>96|4=>4|183=>312|182=>311|131=>317|5=>5|218=>325|222=>329|228=>333|229=>334|n=>n,fun|n=>n⟩
theorem Tryz.lays190:Go.Proofs.Lays.n190 Tryz.prog Tryz.lays190_ren:=by repeat' first|kernel_rfl|(intro _;kernel_rfl)|decide|constructor
open Go.Sort Go.RowKit in
theorem Tryz.slices_Sort_string(blk off cap:Nat)(ss:List (List UInt8))(w:World)(hH:Holds encStr w blk off ss.toArray)(hblk:blk<w.heap.size)(hsz:ss.length<4611686018427387904) :
  Calls Tryz.prog 433 #[.slice (some ⟨blk,off,none⟩) ss.length cap] w fun e w'=>
   e=.returned (.tuple #[])/\∃ n os,w'=grow (putRow encStr (Sort.ahead w n) blk off (ss.mergeSort fun x y=>decide (x<=y)).toArray) os:=Any.slices_Sort_string Tryz.lays190 blk off cap ss w hH hblk hsz
def Tryz.lays102_ren:Go.Shelf.Ren:=⟨fun|102=>54|209=>95|207=>144|n=>n,fun|9=>9|4=>4|3=>3|n=>n,fun|n=>n⟩
theorem Tryz.lays102:Go.Proofs.Lays.n102 Tryz.prog Tryz.lays102_ren:=by repeat' first|kernel_rfl|(intro _;kernel_rfl)|decide|constructor
open Go.RowKit Go.Lib in
theorem Tryz.strings_TrimSuffix(s p:ByteArray)(w:World)(hs:s.size<=9223372036854775807) :
  Calls Tryz.prog 54 #[.string s,.string p] w fun e w'=>e=.returned (.string ⟨(Lib.trimSuffix s.data.toList p.data.toList).toArray⟩)/\w'=w:=Any.strings_TrimSuffix Tryz.lays102 s p w hs
def Tryz.lays105_ren:Go.Shelf.Ren:=⟨fun|105=>155|212=>221|99=>222|165=>223|166=>55|170=>224|169=>56|263=>307|264=>308|206=>309|240=>96|241=>310|276=>145|277=>382|n=>n,fun|9=>9|3=>3|4=>4|20=>20|0=>0|46=>103|109=>191|5=>5|72=>71|76=>78|51=>230|146=>231|53=>96|148=>233|70=>69|37=>43|75=>77|127=>111|164=>142|80=>80|n=>n,fun|n=>n⟩
theorem Tryz.lays105:Go.Proofs.Lays.n105 Tryz.prog Tryz.lays105_ren:=by repeat' first|kernel_rfl|(intro _;kernel_rfl)|decide|constructor
theorem Tryz.Builder_Extra_105:Builder.Extra Tryz.prog Tryz.lays105_ren:=by repeat' first|kernel_rfl|(intro _;kernel_rfl)|decide|constructor
open Go.RowKit Go.Lib in
theorem Tryz.strings_Repeat(s:ByteArray)(c:Nat)(w:World)(hc:c<=9223372036854775807)(hlen:s.size*c<=140737488355328) :
  Calls Tryz.prog 155 #[.string s,.int .i64 c] w fun e w'=>e=.returned (.string ⟨(Lib.repeatL s.data.toList c).toArray⟩)/\Below w.heap.size w w':=Any.strings_Repeat Tryz.lays105 Tryz.Builder_Extra_105 s c w hc hlen
def Tryz.lays194_ren:Go.Shelf.Ren:=⟨fun|194=>434|n=>n,fun|31=>24|9=>9|3=>3|4=>4|0=>0|n=>n,fun|n=>n⟩
theorem Tryz.lays194:Go.Proofs.Lays.n194 Tryz.prog Tryz.lays194_ren:=by repeat' first|kernel_rfl|(intro _;kernel_rfl)|decide|constructor
open Go.RowKit Go.Lib Go.Sort in
theorem Tryz.slices_Compact_string(blk off cap:Nat)(zs:List (List UInt8))(w:World)(hH:Holds encStr w blk off zs.toArray)(hsz:zs.length<=9223372036854775807)(hcap:zs.length<=cap) :
  Calls Tryz.prog 434 #[.slice (some ⟨blk,off,none⟩) zs.length cap] w fun e w'=>e=.returned (.slice (some ⟨blk,off,none⟩) (Lib.compact zs).length cap)/\∃ q,w'=putRow encStr (Sort.ahead w q) blk off (Lib.compact zs++List.replicate (zs.length-(Lib.compact zs).length) []).toArray:=Any.slices_Compact_string Tryz.lays194 blk off cap zs w hH hsz hcap
end Go.Proofs
namespace Go.Proofs.YtapimhjbilkfpaaGreatDoor
open List
abbrev B8:=List UInt8
theorem bNe{α:Type}[BEq α][LawfulBEq α]{a b:α}:(a==b)=false↔a≠b:=beq_eq_false_iff_ne
theorem gEl{α:Type}{l:List α}{i:Nat}(h:i<l.length):l[i]?=some l[i]:=getElem?_eq_getElem h
theorem gDe{α:Type}{l:List α}{i:Nat}{a:α}:l.getD i a=l[i]?.getD a:=getD_eq_getElem?_getD
theorem lAp{α:Type}{a b:List α}:(a++b).length=a.length+b.length:=length_append
theorem lTa{α:Type}{l:List α}{i:Nat}:(l.take i).length=min i l.length:=length_take
theorem lRf(n:Nat):n<=n:=Nat.le_refl n
theorem lZe(n:Nat):0<=n:=Nat.zero_le n
theorem dTe{p:Prop}[Decidable p]:(decide p=true)=p:=decide_eq_true_eq
theorem bAn(a b:Bool):((a&&b)=true)=(a=true/\b=true):=Bool.and_eq_true a b
theorem dTr{p:Prop}[Decidable p](h:p):decide p=true:=decide_eq_true h
theorem dFa{p:Prop}[Decidable p](h:¬ p):decide p=false:=decide_eq_false h
theorem lSi{α:Type}{a:α}:[a].length=1:=length_singleton
theorem iNa(n:Nat):(n:Int).toNat=n:=Int.toNat_natCast n
theorem lDr{α:Type}{i:Nat}{l:List α}:(l.drop i).length=l.length-i:=length_drop
theorem lCo{α:Type}{a:α}{l:List α}:(a::l).length=l.length+1:=length_cons
theorem gMe{α:Type}{l:List α}{n:Nat}(h:n<l.length):l[n]∈l:=getElem_mem h
end Go.Proofs.YtapimhjbilkfpaaGreatDoor
namespace Go.Proofs.YtapimhjbilkfpaaGreatDoor
open Go List
abbrev Env:=Nat->Value
def ev(env:Env):Operand->Value
 | .tmp t=>env t
 | .const v=>v
 | .global g=>.pointer (some ⟨g,0,none⟩)
 | .func f=>.func (.func f) #[] #[]
def put(env:Env)(d:Option Tmp)(v:Value):Env:=
 match d with
 | some d=>fun t=>if t=d then v else env t
 | none=>env
inductive Blk where
 | cells (own:Bool) (xs:List Value) (tot:Nat)
 | obj (o:Obj)
def Blk.own:Blk->Bool
 | .cells o _ _=>o
 | .obj _=>true
abbrev Mem:=Nat->Option Blk
abbrev VP:=Value->Mem->Prop
def Mem.put(M:Mem)(b:Nat)(B:Blk):Mem:=fun i=>if i=b then some B else M i
def Mem.del(M:Mem)(b:Nat):Mem:=fun i=>if i=b then none else M i
def Blk.holds(w:World)(b:Nat):Blk->Prop
 | .cells own xs tot=>∃ c e fr,w.heap[b]?=some (.cells c e fr)/\c.size=tot/\(∃ ys,c.toList=xs++ys) /\
   (own=true->fr.1=fr.2\/tot<=fr.1)
 | .obj o=>w.heap[b]?=some o/\∀ c e fr,o≠.cells c e fr
def Rep(M:Mem)(w:World):Prop:=∀ b B,M b=some B->B.holds w b
def owns(M:Mem)(b:Nat):Prop:=∃ B,M b=some B/\B.own=true
structure Ext(M:Mem)(w:World)(M':Mem)(w':World):Prop where
 os:w'.os=w.os
 tape:w'.tape=w.tape
 output:w'.output=w.output
 size:w.heap.size<=w'.heap.size
 block:∀ b,b<w.heap.size->¬ owns M b->w'.heap[b]?=w.heap[b]?
 own:∀ b,owns M' b->owns M b\/w.heap.size<=b
theorem Ext.refl(M:Mem)(w:World):Ext M w M w:=⟨rfl,rfl,rfl,lRf _,fun _ _ _=>rfl,fun _ h=>.inl h⟩
theorem Ext.trans{M M' M'':Mem}{w w' w'':World}(h:Ext M w M' w')(k:Ext M' w' M'' w''):Ext M w M'' w'':=
 ⟨k.os.trans h.os,k.tape.trans h.tape,k.output.trans h.output,Nat.le_trans h.size k.size,
  fun b hb ho=>(k.block b (Nat.lt_of_lt_of_le hb h.size) (fun ho'=>(h.own b ho').elim ho (fun h'=>absurd hb (Nat.not_lt.2 h')))).trans (h.block b hb ho),
  fun b hb=>(k.own b hb).elim (fun h'=>h.own b h') (fun h'=>.inr (Nat.le_trans h.size h'))⟩
def Sub(M N:Mem):Prop:=∀ b B,M b=some B->N b=some B
theorem Sub.refl(M:Mem):Sub M M:=fun _ _ h=>h
theorem Sub.trans{A B C:Mem}(h:Sub A B)(k:Sub B C):Sub A C:=fun b x hx=>k b x (h b x hx)
theorem Sub.put{M N:Mem}(h:Sub M N){b:Nat}(hb:M b=none)(B:Blk):Sub M (N.put b B):=by
 intro i x hx;unfold Mem.put;split
 .rename_i e;subst e;rw[hb]at hx;cases hx
 .exact h i x hx
theorem Sub.both{M N:Mem}(h:Sub M N)(b:Nat)(B:Blk):Sub (M.put b B) (N.put b B):=by
 intro i x hx;unfold Mem.put at *;split at hx
 .rename_i e;rw[if_pos e];exact hx
 .rename_i e;rw[if_neg e];exact h i x hx
theorem Rep.sub{M N:Mem}{w:World}(h:Rep N w)(hs:Sub M N):Rep M w:=fun b B hb=>h b B (hs b B hb)
theorem F1{M N:Mem}(hs:Sub M N){b:Nat}(h:owns M b):owns N b:=let ⟨B,h1,h2⟩:=h;⟨B,hs b B h1,h2⟩
theorem Ext.sub{M M' N:Mem}{w w':World}(h:Ext M w N w')(hs:Sub M' N):Ext M w M' w':=
 ⟨h.os,h.tape,h.output,h.size,h.block,fun b hb=>h.own b (F1 hs hb)⟩
def sf(P:Program)(f:FuncId):Prop:=∃ fn,P.funcs[f]?=some fn/\(fn.name == "runtime.NumGoroutine")=false/\fn.body.isNone=false
def ar(P:Program)(f:FuncId)(args:List Value)(M:Mem)(R:VP):Prop:=
 sf P f/\∀ w,Rep M w->Calls P f args.toArray w fun e w'=>∃ v M',e=.returned v/\Rep M' w'/\Ext M w M' w'/\R v M'
theorem ar.mono{P:Program}{f:FuncId}{args:List Value}{M:Mem}{R R':VP}(h:ar P f args M R)(hr:∀ v M',R v M'->R' v M'):ar P f args M R':=
 ⟨h.1,fun w hw=>(h.2 w hw).mono fun _ _ ⟨v,M',h1,h2,h3,h4⟩=>⟨v,M',h1,h2,h3,hr v M' h4⟩⟩
structure Fits(n:Nat)(env:Env)(a:Act):Prop where
 defers:a.defers=[]
 size:a.tmps.size=n
 ev:a.eval=ev env
theorem Fits.put{n:Nat}{env:Env}{a:Act}(h:Fits n env a){d:Option Tmp}(hd:∀ t,d=some t->t<n)(v:Value):Fits n (put env d v) (a.put d v):=by
 cases d with
 | none=>exact h
 | some d=>
  have hd':=hd d rfl;refine⟨h.defers,by simp[Act.put,h.size],?_⟩;have he:=h.ev
  funext x
  cases x with
  | tmp t=>
   have h1:=congrFun he (.tmp t);simp only[Act.eval,Proofs.YtapimhjbilkfpaaGreatDoor.ev]at h1;simp only[Act.put,Act.eval,Proofs.YtapimhjbilkfpaaGreatDoor.ev,Proofs.YtapimhjbilkfpaaGreatDoor.put];by_cases e:t=d
   .subst e;rw[if_pos rfl];simp[h.size,hd']
   .rw[if_neg e,<-h1];simp only[Array.getD_eq_getD_getElem?];rw[Array.getElem?_setIfInBounds_ne (Ne.symm e)]
  | const v=>rfl
  | global g=>rfl
  | func f=>rfl
def Way(n:Nat)(M0:Mem)(w0:World)(Q:Exit->Env->Mem->Prop):Exit->Act->World->Prop:=
 fun e a w=>∃ env M,Fits n env a/\Rep M w/\Ext M0 w0 M w/\Q e env M
def cK(P:Program)(n:Nat)(c:Code)(Q:Exit->Env->Mem->Prop)(env:Env)(M:Mem):Prop:=
 ∀ M0 w0 a w,Fits n env a->Rep M w->Ext M0 w0 M w->c.wp P (Way n M0 w0 Q) a w
def jV(P:Program)(o:Op)(env:Env)(M:Mem)(K:VP):Prop:=
 ∀(o':Oper) (a:Act) (w:World) (next:Act->World->Prop) (Q:Exit->Act->World->Prop),o'.op=o->a.eval=ev env->Rep M w ->
  (∀ v M' w',Rep M' w'->Ext M w M' w'->K v M'->next (a.put o'.dst v) w')->o'.upon P a next Q ((execOp a.eval o').run P w)
section
variable {P:Program} {n:Nat} {Q:Exit->Env->Mem->Prop} {env:Env} {M:Mem}
theorem cK.mono{c:Code}{Q':Exit->Env->Mem->Prop}(h:cK P n c Q env M)(hq:∀ e env M,Q e env M->Q' e env M):cK P n c Q' env M:=
 fun M0 w0 a w h1 h2 h3=>wp_mono (h M0 w0 a w h1 h2 h3) fun _ _ _ ⟨e',m',a1,a2,a3,a4⟩=>⟨e',m',a1,a2,a3,hq _ _ _ a4⟩
theorem Iq(h:Q .normal env M):cK P n .skip Q env M:=fun _ _ _ _ h1 h2 h3=>wp_skip ⟨_,_,h1,h2,h3,h⟩
theorem Jg(h:Q .ret env M):cK P n .ret Q env M:=fun _ _ _ _ h1 h2 h3=>wp_ret ⟨_,_,h1,h2,h3,h⟩
theorem IE{id:Nat}(h:Q (.exit id) env M):cK P n (.exit id) Q env M:=fun _ _ _ _ h1 h2 h3=>wp_exit ⟨_,_,h1,h2,h3,h⟩
def mR(A:Env->Mem->Prop)(Q:Exit->Env->Mem->Prop):Exit->Env->Mem->Prop
 | .normal,env,M=>A env M
 | e,env,M=>Q e env M
theorem I6{x y:Code}(h:cK P n x (mR (cK P n y Q) Q) env M):cK P n (.seq x y) Q env M:=by
 intro M0 w0 a w h1 h2 h3;refine wp_seq (wp_mono (h M0 w0 a w h1 h2 h3) ?_)
 rintro e a' w' ⟨env',M',a1,a2,a3,a4⟩
 cases e with
 | normal=>exact a4 M0 w0 a' w' a1 a2 a3
 | exit id=>exact⟨_,_,a1,a2,a3,a4⟩
 | goto id=>exact⟨_,_,a1,a2,a3,a4⟩
 | ret=>exact⟨_,_,a1,a2,a3,a4⟩
 | panic c=>exact⟨_,_,a1,a2,a3,a4⟩
 | outgrown=>exact⟨_,_,a1,a2,a3,a4⟩
theorem Hr{c:Operand}{x y:Code}{t:Bool}(hc:ev env c=.bool t)(ht:t=true->cK P n x Q env M)(hf:t=false->cK P n y Q env M):cK P n (.cond c x y) Q env M:=by
 intro M0 w0 a w h1 h2 h3;exact wp_cond_split (by rw[h1.ev];exact hc) (fun e=>ht e M0 w0 a w h1 h2 h3) (fun e=>hf e M0 w0 a w h1 h2 h3)
def tD(id:Nat)(Q:Exit->Env->Mem->Prop):Exit->Env->Mem->Prop
 | .exit id',env,M=>if id'=id then Q .normal env M else Q (.exit id') env M
 | e,env,M=>Q e env M
theorem EL{id:Nat}{c:Code}(h:cK P n c (tD id Q) env M):cK P n (.block id c) Q env M:=by
 intro M0 w0 a w h1 h2 h3;refine wp_block (wp_mono (h M0 w0 a w h1 h2 h3) ?_)
 rintro e a' w' ⟨env',M',a1,a2,a3,a4⟩
 cases e with
 | normal=>exact⟨_,_,a1,a2,a3,a4⟩
 | exit id'=>
  simp only[tD]at a4;simp only[Exit.inBlock];split
  .rename_i e;rw[if_pos e]at a4;exact⟨_,_,a1,a2,a3,a4⟩
  .rename_i e;rw[if_neg e]at a4;exact⟨_,_,a1,a2,a3,a4⟩
 | goto id=>exact⟨_,_,a1,a2,a3,a4⟩
 | ret=>exact⟨_,_,a1,a2,a3,a4⟩
 | panic c=>exact⟨_,_,a1,a2,a3,a4⟩
 | outgrown=>exact⟨_,_,a1,a2,a3,a4⟩
theorem Ia{body:Code}(I:Nat->Env->Mem->Prop)(k:Nat)(h0:I k env M)
  (round:∀ k env M,I k env M->cK P n body (mR (fun env' M'=>∃ k' M1,Sub M1 M'/\k'<k/\I k' env' M1) Q) env M):cK P n (.loop body) Q env M:=by
 intro M0 w0 a w h1 h2 h3;refine wp_loop_ghost (fun k a w=>Way n M0 w0 (fun _ env M=>I k env M) .normal a w) k ⟨_,_,h1,h2,h3,h0⟩ ?_
 rintro k a w ⟨env',M',a1,a2,a3,a4⟩
 refine wp_mono (round k env' M' a4 M0 w0 a w a1 a2 a3) ?_
 rintro e a' w' ⟨env'',M'',b1,b2,b3,b4⟩
 cases e with
 | normal=>obtain⟨k',M1,hs,hk,hi⟩:=b4;exact⟨k',hk,_,_,b1,b2.sub hs,b3.sub hs,hi⟩
 | exit id=>exact⟨_,_,b1,b2,b3,b4⟩
 | goto id=>exact⟨_,_,b1,b2,b3,b4⟩
 | ret=>exact⟨_,_,b1,b2,b3,b4⟩
 | panic c=>exact⟨_,_,b1,b2,b3,b4⟩
 | outgrown=>exact⟨_,_,b1,b2,b3,b4⟩
def yE(ops:List Oper)(env:Env)(j:Nat):Option Bool:=
 match (ops[j]?).bind (·.dst) with
 | some d=>match env d with
  | .bool b=>some b
  | _=>none
 | none=>none
theorem fc{a:Act}(h:Fits n env a)(ops:Array Oper)(j:Nat):yielded ops a.tmps j=yE ops.toList env j:=by
 unfold yielded yE;rw[Array.getElem?_toList];cases hd:(ops[j]?).bind (·.dst) with
 | none=>rfl
 | some d=>
  have h1:=congrFun h.ev (.tmp d);simp only[Act.eval,Proofs.YtapimhjbilkfpaaGreatDoor.ev,Array.getD_eq_getD_getElem?]at h1;simp only[Option.bind_some];cases he:a.tmps[d]? with
  | none=>rw[he]at h1;simp only[Option.getD_none]at h1;rw[<-h1];rfl
  | some v=>rw[he]at h1;simp only[Option.getD_some]at h1;rw[<-h1];cases v<;>rfl
def rM(P:Program)(n:Nat)(ops:List Oper)(Q:Exit->Env->Mem->Prop)(l:List Oper)(env:Env)(M:Mem):Prop:=
 ∀ M0 w0 a w,Fits n env a->Rep M w->Ext M0 w0 M w->wpList P ops.toArray (Way n M0 w0 Q) l a w
theorem NU{ops:List Oper}(h:Q .normal env M):rM P n ops Q [] env M:=fun _ _ _ _ h1 h2 h3=>⟨_,_,h1,h2,h3,h⟩
theorem Iu{ops:List Oper}{o:Oper}{rest:List Oper}(hg:o.guard=none)(hd:∀ t,o.dst=some t->t<n)(h:jV P o.op env M fun v M'=>rM P n ops Q rest (put env o.dst v) M') :
  rM P n ops Q (o::rest) env M:=by
 intro M0 w0 a w h1 h2 h3;unfold wpList;rw[if_pos (by simp[Region.wanted,hg])];exact .inl (h o a w _ _ rfl h1.ev h2 fun v M' w' a1 a2 a3=>a3 M0 w0 _ _ (h1.put hd v) a1 (h3.trans a2))
theorem Hk{ops:List Oper}{o:Oper}{rest:List Oper}{j:Nat}{b:Bool}(hg:o.guard=some (j,b))(hy:yE ops env j=some b)(hd:∀ t,o.dst=some t->t<n)
  (h:jV P o.op env M fun v M'=>rM P n ops Q rest (put env o.dst v) M'):rM P n ops Q (o::rest) env M:=by
 intro M0 w0 a w h1 h2 h3;unfold wpList;rw[if_pos (by simp[Region.wanted,hg,fc h1,hy])];exact .inl (h o a w _ _ rfl h1.ev h2 fun v M' w' a1 a2 a3=>a3 M0 w0 _ _ (h1.put hd v) a1 (h3.trans a2))
theorem Er{ops:List Oper}{o:Oper}{rest:List Oper}{j:Nat}{b:Bool}(hg:o.guard=some (j,b))(hy:yE ops env j≠some b)(hd:∀ t,o.dst=some t->t<n)
  (h:rM P n ops Q rest (put env o.dst undef) M):rM P n ops Q (o::rest) env M:=by
 intro M0 w0 a w h1 h2 h3;unfold wpList;rw[if_neg (by simp[Region.wanted,hg,fc h1,hy])];exact h M0 w0 _ _ (h1.put hd undef) h2 h3
theorem Bm{id:Nat}{ops:Array Oper}(h:rM P n ops.toList Q ops.toList env M):cK P n (.region id ops false) Q env M:=
 fun M0 w0 a w h1 h2 h3=>wp_region_list (by have:=h M0 w0 a w h1 h2 h3;simpa using this)
end
section
variable {P:Program} {o:Op} {env:Env} {M:Mem} {K:VP}
theorem jV.mono{K':VP}(h:jV P o env M K)(hk:∀ v M',K v M'->K' v M'):jV P o env M K':=
 fun o' a w next Q e he hr hn=>h o' a w next Q e he hr fun v M' w' a1 a2 a3=>hn v M' w' a1 a2 (hk v M' a3)
theorem zM(h:∀ w o',Rep M w->o'.op=o->∃ v w' M',(execOp (ev env) o').run P w=.ok (.value v) w'/\Rep M' w'/\Ext M w M' w'/\K v M'):jV P o env M K:=by
 intro o' a w next Q e he hr hn
 obtain⟨v,w',M',h1,h2,h3,h4⟩:=h w o' hr e;rw[he,h1];exact hn v M' w' h2 h3 h4
theorem BT(h:∀ w o',Rep M w->o'.op=o->∃ w' M',(execOp (ev env) o').run P w=.ok .skip w'/\Rep M' w'/\Ext M w M' w'/\K undef M'):jV P o env M K:=by
 intro o' a w next Q e he hr hn
 obtain⟨w',M',h1,h2,h3,h4⟩:=h w o' hr e;rw[he,h1];exact hn undef M' w' h2 h3 h4
theorem pn(v:Value)(h:∀ w o',o'.op=o->(execOp (ev env) o').run P w=.ok (.value v) w)(hk:K v M):jV P o env M K:=
 zM fun w o' hr e=>⟨v,w,M,h w o' e,hr,Ext.refl _ _,hk⟩
theorem KL(f:FuncId)(args:List Value)(h:∀ w o',o'.op=o->(execOp (ev env) o').run P w=.ok (.enter f args.toArray) w)(hk:ar P f args M K):jV P o env M K:=by
 intro o' a w next Q e he hr hn
 rw[he,h w o' e];exact(hk.2 w hr).mono fun e' w' ⟨v,M',h1,h2,h3,h4⟩=>by rw[h1];exact hn v M' w' h2 h3 h4
end
def Mem.get?(M:Mem)(b i:Nat):Option Value:=
 match M b with
 | some (.cells _ xs _)=>xs[i]?
 | _=>none
theorem Rep.cell{M:Mem}{w:World}(h:Rep M w){b i:Nat}{v:Value}(hv:M.get? b i=some v):w.cell? ⟨b,i,none⟩=some v:=by
 unfold Mem.get? at hv;split at hv
 .rename_i own xs tot hb;obtain⟨c,e,fr,h1,h2,⟨ys,h3⟩,_⟩:=h b _ hb;have hi:i<xs.length:=by
   rcases Nat.lt_or_ge i xs.length with h|h
   .exact h
   .rw[getElem?_eq_none h]at hv;cases hv
  simp only[World.cell?,h1,Option.isSome_none,Bool.false_eq_true,if_false];rw[<-Array.getElem?_toList,h3,getElem?_append_left hi,hv]
 .cases hv
inductive TD where
 | bool|int (k:IntKind)|str|flat|iface|func
 | slc (e:TypeId) (sz bytes:Nat) (z:Value)
 | strct (fs:List (Nat×Nat×Bool))
 | arr (n sz:Nat) (agg:Bool)
def TD.agg:TD->Bool
 | .strct _|.arr _ _ _=>true
 | _=>false
structure TI where
 d:TD
 size:Nat
 zero:Value
abbrev Tab:=TypeId->Option TI
def Lm(P:Program)(t:TypeId):Bool:=match P.underlying t with
 | some (.struct _)|some (.array _ _)=>true
 | _=>false
def TD.ok(P:Program)(t:TypeId):TD->Prop
 | .bool=>P.underlying t=some .bool
 | .int k=>P.underlying t=some (.int k)
 | .str=>P.underlying t=some .string
 | .flat=>∃ d,P.underlying t=some d/\(match d with|.struct _|.array _ _|.interface _=>false|_=>true)=true
 | .iface=>∃ ms,P.underlying t=some (.interface ms)
 | .func=>∃ a b c,P.underlying t=some (.func a b c)
 | .slc e sz bytes z=>P.underlying t=some (.slice e)/\∃ I,P.info? e=some I/\I.size=sz/\I.bytes=bytes/\I.zero=some z
 | .strct fs=>∃ F:Array Field,P.underlying t=some (.struct F)/\F.toList.map (fun f=>(f.offset,P.cellsOf f.type,Lm P f.type))=fs/\∀ f,f∈F.toList->(P.info? f.type).isSome=true/\(P.underlying f.type).isSome=true
 | .arr n sz g=>∃ e,P.underlying t=some (.array n e)/\(∃ I,P.info? e=some I/\I.size=sz)/\Lm P e=g/\(P.underlying e).isSome=true
def TI.ok(P:Program)(t:TypeId)(i:TI):Prop:=i.d.ok P t/\∃ I,P.info? t=some I/\I.zero=some i.zero/\I.size=i.size
def bY(P:Program)(T:Tab):Prop:=∀ t i,T t=some i->i.ok P t
def str(l:B8):Value:=.string ⟨⟨l⟩⟩
def sl(s:ByteArray):B8:=s.data.toList
theorem me(l:B8):Value.string ⟨l.toArray⟩=str l:=rfl
theorem pz(l:B8):Value.string ⟨⟨l⟩⟩=str l:=rfl
inductive Out where
 | ok (v:Value)
 | need (p:Prop) (v:Value)
 | no
def vR(r:Out)(K:VP)(M:Mem):Prop:=
 match r with
 | .ok v=>K v M
 | .need p v=>p/\K v M
 | .no=>False
inductive EqK where
 | bool|slice|iface
def eqD(d:Option TI)(k:EqK)(v:Value):Out:=
 match d,k with
 | some ⟨.bool,_,_⟩,.bool=>.ok v
 | some ⟨.slc _ _ _ _,_,_⟩,.slice=>.ok v
 | some ⟨.iface,_,_⟩,.iface=>.ok v
 | _,_=>.no
def cY(T:Tab)(op:BinOp)(t:TypeId)(x y:Value):Out:=
 match op,x,y with
 | .shl,.int k a,.int _ b=>.need (0<=b) (.int k (k.wrap (a*2 ^ (min b.toNat k.bits))))
 | .shr,.int k a,.int _ b=>.need (0<=b) (.int k (a.fdiv (2 ^ (min b.toNat k.bits))))
 | .add,.int k a,.int k' b=>if k=k' then .ok (.int k (k.wrap (a+b))) else .no
 | .sub,.int k a,.int k' b=>if k=k' then .ok (.int k (k.wrap (a-b))) else .no
 | .mul,.int k a,.int k' b=>if k=k' then .ok (.int k (k.wrap (a*b))) else .no
 | .quo,.int k a,.int k' b=>if k=k' then .need (b≠0) (.int k (k.wrap (a.tdiv b))) else .no
 | .rem,.int k a,.int k' b=>if k=k' then .need (b≠0) (.int k (a.tmod b)) else .no
 | .and,.int k a,.int k' b=>if k=k' then .ok (.int k (k.wrap (BitVec.ofInt k.bits a &&& BitVec.ofInt k.bits b).toNat)) else .no
 | .or,.int k a,.int k' b=>if k=k' then .ok (.int k (k.wrap (BitVec.ofInt k.bits a ||| BitVec.ofInt k.bits b).toNat)) else .no
 | .xor,.int k a,.int k' b=>if k=k' then .ok (.int k (k.wrap (BitVec.ofInt k.bits a ^^^ BitVec.ofInt k.bits b).toNat)) else .no
 | .eql,.int k a,.int k' b=>if k=k' then .ok (.bool (a==b)) else .no
 | .neq,.int k a,.int k' b=>if k=k' then .ok (.bool (a != b)) else .no
 | .lss,.int k a,.int k' b=>if k=k' then .ok (.bool (decide (a<b))) else .no
 | .leq,.int k a,.int k' b=>if k=k' then .ok (.bool (decide (a<=b))) else .no
 | .gtr,.int k a,.int k' b=>if k=k' then .ok (.bool (decide (b<a))) else .no
 | .geq,.int k a,.int k' b=>if k=k' then .ok (.bool (decide (b<=a))) else .no
 | .add,.string a,.string b=>.need ((sl a).length+(sl b).length<=9223372036854775807) (str (sl a++sl b))
 | .eql,.string a,.string b=>.ok (.bool (sl a==sl b))
 | .neq,.string a,.string b=>.ok (.bool (!(sl a==sl b)))
 | .lss,.string a,.string b=>.ok (.bool (Op.bytesLess (sl a) (sl b)))
 | .leq,.string a,.string b=>.ok (.bool (Op.bytesLess (sl a) (sl b)||sl a==sl b))
 | .gtr,.string a,.string b=>.ok (.bool (!(Op.bytesLess (sl a) (sl b)||sl a==sl b)))
 | .geq,.string a,.string b=>.ok (.bool (!Op.bytesLess (sl a) (sl b)))
 | .eql,.bool a,.bool b=>eqD (T t) .bool (.bool (a==b))
 | .neq,.bool a,.bool b=>eqD (T t) .bool (.bool (!(a==b)))
 | .eql,.slice a _ _,.slice none _ _=>eqD (T t) .slice (.bool a.isNone)
 | .neq,.slice a _ _,.slice none _ _=>eqD (T t) .slice (.bool (!a.isNone))
 | .eql,.iface _ _,.nilIface=>eqD (T t) .iface (.bool false)
 | .neq,.iface _ _,.nilIface=>eqD (T t) .iface (.bool true)
 | _,_,_=>.no
def isLit:Operand->Bool
 | .const _=>true
 | _=>false
def nnR(T:Tab)(op:BinOp)(t:TypeId):Out:=
 match op with
 | .eql=>eqD (T t) .iface (.bool true)
 | .neq=>eqD (T t) .iface (.bool false)
 | _=>.no
def oa(T:Tab)(op:BinOp)(t:TypeId)(lit:Bool)(a b:Value):Out:=
 match a with
 | .nilIface=>match b,lit with
  | .nilIface,true=>nnR T op t
  | b,_=>cY T op t .nilIface b
 | a=>cY T op t a b
def unR(op:UnOp)(x:Value):Out:=
 match op,x with
 | .neg,.int k n=>.ok (.int k (k.wrap (0-n)))
 | .not,.bool b=>.ok (.bool !b)
 | _,_=>.no
def mq:Option Value->Option Int
 | none=>some 0
 | some (.int _ i)=>some i
 | some _=>none
def mX(n:Nat):Option Value->Option Int
 | none=>some n
 | some (.int _ i)=>some i
 | some _=>none
def dQ(o a m sz:Nat):Nat:=if m=a then o else o+a*sz
def jv(x:Value)(lo hi mx:Option Value)(d:Option TI):Out:=
 match x with
 | .string s=>match d,mq lo,mX (sl s).length hi,mx with
  | some ⟨.str,_,_⟩,some a,some b,none=>.need (0<=a/\a<=b/\b<=(sl s).length) (str (((sl s).take b.toNat).drop a.toNat))
  | _,_,_,_=>.no
 | .slice (some ⟨g,o,none⟩) n c=>match d,mq lo,mX n hi,mx with
  | some ⟨.slc _ sz _ _,_,_⟩,some a,some b,none=>.need (0<=a/\a<=b/\b<=n/\n<=c)
    (.slice (some ⟨g,dQ o a.toNat c sz,none⟩) (b.toNat-a.toNat) (c-a.toNat))
  | some ⟨.slc _ sz _ _,_,_⟩,some a,some b,some (.int _ m)=>.need (0<=a/\a<=b/\b<=m/\m<=c/\hi≠none)
    (.slice (some ⟨g,dQ o a.toNat m.toNat sz,none⟩) (b.toNat-a.toNat) (m.toNat-a.toNat))
  | _,_,_,_=>.no
 | .pointer (some ⟨g,o,none⟩)=>match d,mq lo,mx with
  | some ⟨.arr n sz _,_,_⟩,some a,none=>match mX n hi with
   | some b=>.need (0<=a/\a<=b/\b<=n) (.slice (some ⟨g,dQ o a.toNat n sz,none⟩) (b.toNat-a.toNat) (n-a.toNat))
   | none=>.no
  | _,_,_=>.no
 | _=>.no
def uB(T:Tab)(t:TypeId)(x:Value)(lo hi mx:Option Value):Out:=jv x lo hi mx (T t)
def B6(cs:List Value)(off sz:Nat)(agg:Bool):Option Value:=
 if agg then some (.agg ((cs.drop off).take sz).toArray) else cs[off]?
def QF(x i:Value)(d:Option TI):Out:=
 match x,i,d with
 | .string s,.int _ i,some ⟨.str,_,_⟩=>.need (0<=i/\i<(sl s).length) (.int .u8 ((sl s).getD i.toNat 0).toNat)
 | .agg cs,.int _ i,some ⟨.arr n sz g,_,_⟩=>match B6 cs.toList (i.toNat*sz) sz g with
  | some v=>.need (0<=i/\i<n) v
  | none=>.no
 | _,_,_=>.no
def MP(T:Tab)(t:TypeId)(x i:Value):Out:=QF x i (T t)
def oS(x i:Value)(d:Option TI):Out:=
 match x,i,d with
 | .slice (some ⟨g,o,none⟩) n _,.int _ i,some ⟨.slc _ sz _ _,_,_⟩=>.need (0<=i/\i<n) (.pointer (some ⟨g,o+i.toNat*sz,none⟩))
 | .pointer (some ⟨g,o,none⟩),.int _ i,some ⟨.arr n sz _,_,_⟩=>.need (0<=i/\i<n) (.pointer (some ⟨g,o+i.toNat*sz,none⟩))
 | _,_,_=>.no
def lP(T:Tab)(t:TypeId)(x i:Value):Out:=oS x i (T t)
def jL(x:Value)(f:Nat)(d:Option TI):Out:=
 match x,d with
 | .pointer (some ⟨g,o,none⟩),some ⟨.strct fs,_,_⟩=>match fs[f]? with
  | some (off,sz,_)=>.need (sz≠0) (.pointer (some ⟨g,o+off,none⟩))
  | none=>.no
 | _,_=>.no
def gV(T:Tab)(t:TypeId)(x:Value)(f:Nat):Out:=jL x f (T t)
def Ql(x:Value)(f:Nat)(d:Option TI):Out:=
 match x,d with
 | .agg cs,some ⟨.strct fs,_,_⟩=>match fs[f]? with
  | some (off,sz,g)=>match B6 cs.toList off sz g with
   | some v=>.ok v
   | none=>.no
  | none=>.no
 | _,_=>.no
def Fa(T:Tab)(t:TypeId)(x:Value)(f:Nat):Out:=Ql x f (T t)
def yg(x:Value)(s d:Option TI):Out:=
 match x,s,d with
 | .int _ n,some ⟨.int _,_,_⟩,some ⟨.int k,_,_⟩=>.ok (.int k (k.wrap n))
 | .string x,some ⟨.str,_,_⟩,some ⟨.str,_,_⟩=>.ok (.string x)
 | .int _ n,some ⟨.int _,_,_⟩,some ⟨.str,_,_⟩=>.ok (.string (Utf8.encode n))
 | _,_,_=>.no
def FF(T:Tab)(s d:TypeId)(x:Value):Out:=yg x (T s) (T d)
def DH:Option Value->Out
 | some v=>.ok v
 | none=>.no
def Ku(x:Value)(i:Nat):Out:=
 match x with
 | .tuple vs=>DH vs[i]?
 | _=>.no
def Rs(x:Value)(d:Option TI):Out:=
 match x,d with
 | .string s,some ⟨.str,_,_⟩=>.ok (.int .i64 (sl s).length)
 | .slice _ n _,some ⟨.slc _ _ _ _,_,_⟩=>.ok (.int .i64 n)
 | _,some ⟨.arr n _ _,_,_⟩=>.ok (.int .i64 n)
 | _,_=>.no
def ES(T:Tab)(t:TypeId)(x:Value):Out:=Rs x (T t)
def FD:List Value->Out
 | [.int k x,.int _ y]=>.ok (.int k (if y<x then y else x))
 | _=>.no
def Gq:List Value->Out
 | [.int k x,.int _ y]=>.ok (.int k (if x<y then y else x))
 | _=>.no
def Cu(c a b:Value):Out:=
 match c with
 | .bool t=>.ok (if t then a else b)
 | _=>.no
def Kd(x:Value):Out:=
 match x with
 | .pointer (some a)=>.ok (.pointer (some a))
 | .func (.func f) x y=>.ok (.func (.func f) x y)
 | .slice a n c=>.ok (.slice a n c)
 | _=>.no
def QW(t:TypeId)(x:Value)(d:Option TI):Out:=
 match d with
 | some ⟨.iface,_,_⟩=>.no
 | some _=>.ok (.iface t x)
 | none=>.no
def Kz(T:Tab)(t:TypeId)(x:Value):Out:=QW t x (T t)
def Out.Is(r:Out)(P:Program)(s:Sem Value):Prop:=
 match r with
 | .ok v=>∀ w,s.run P w=.ok v w
 | .need p v=>p->∀ w,s.run P w=.ok v w
 | .no=>True
theorem Em(P:Program){t:TypeId}(h:P.underlying t=some .bool)(n:Nat)(a b:Bool)(w:World):(Op.equalIn (n+1) t (.bool a) (.bool b)).run P w=.ok (a==b) w:=by
 simp only[Op.equalIn,Sem.run_bind,run_underlying h,Result.andThen_ok,Sem.run_pure]
theorem Bd(P:Program){t e:TypeId}(h:P.underlying t=some (.slice e))(k:Nat)(a:Option Addr)(n c n' c':Nat)(w:World):(Op.equalIn (k+1) t (.slice a n c) (.slice none n' c')).run P w=.ok a.isNone w:=by
 cases a<;>simp only[Op.equalIn,Sem.run_bind,run_underlying h,Result.andThen_ok,Sem.run_pure]<;>rfl
theorem BQ(P:Program){t:TypeId}{ms:Array (String×TypeId)}(h:P.underlying t=some (.interface ms))(n:Nat)(d:TypeId)(v:Value)(w:World):(Op.equalIn (n+1) t (.iface d v) .nilIface).run P w=.ok false w:=by
 simp only[Op.equalIn,Sem.run_bind,run_underlying h,Result.andThen_ok,Sem.run_pure]
theorem KY(P:Program){t:TypeId}(h:P.underlying t=some .bool)(a b:Bool)(w:World):(Op.equal t (.bool a) (.bool b)).run P w=.ok (a==b) w:=Em P h 9999 a b w
theorem Ie(P:Program){t e:TypeId}(h:P.underlying t=some (.slice e))(a:Option Addr)(n c n' c':Nat)(w:World):(Op.equal t (.slice a n c) (.slice none n' c')).run P w=.ok a.isNone w:=Bd P h 9999 a n c n' c' w
theorem F2(P:Program){t:TypeId}{ms:Array (String×TypeId)}(h:P.underlying t=some (.interface ms))(d:TypeId)(v:Value)(w:World):(Op.equal t (.iface d v) .nilIface).run P w=.ok false w:=BQ P h 9999 d v w
theorem J9(P:Program){t:TypeId}{ms:Array (String×TypeId)}(h:P.underlying t=some (.interface ms))(n:Nat)(w:World):(Op.equalIn (n+1) t .nilIface .nilIface).run P w=.ok true w:=by
 simp only[Op.equalIn,Sem.run_bind,run_underlying h,Result.andThen_ok,Sem.run_pure]
theorem Pv(P:Program){t:TypeId}{ms:Array (String×TypeId)}(h:P.underlying t=some (.interface ms))(w:World):(Op.equal t .nilIface .nilIface).run P w=.ok true w:=J9 P h 9999 w
def EqK.fits(k:EqK)(d:TD):Prop:=
 match d,k with
 | .bool,.bool|.slc _ _ _ _,.slice|.iface,.iface=>True
 | _,_=>False
theorem Pa{P:Program}{s:Sem Value}{d:Option TI}{k:EqK}{v:Value}(h:∀ i,d=some i->k.fits i.d->∀ w,s.run P w=.ok v w):(eqD d k v).Is P s:=by
 unfold eqD;split
 .exact h _ rfl trivial
 .exact h _ rfl trivial
 .exact h _ rfl trivial
 .trivial
theorem RB(P:Program)(T:Tab)(hT:bY P T)(op:BinOp)(t:TypeId)(x y:Value):(cY T op t x y).Is P (binOp op t x y):=by
 have hu:∀ {t:TypeId} {i:TI},T t=some i->i.d.ok P t:=fun h=>(hT _ _ h).1;unfold cY;split
 all_goals first
  | (
    refine Pa fun i hi hk w=>?_;have h':=hu hi;obtain⟨d,_,_⟩:=i;cases d<;>(first|exact hk.elim|skip)
    first
     | (simp[binOp,KY P h'];done)
     | (simp[binOp,Ie P h'.1];done)
     | (obtain⟨_,h'⟩:=h';simp[binOp,F2 P h'];done))
  | skip
 all_goals ((try split)<;>(try trivial)<;>(try simp only[Out.Is])<;>(try intro hp)<;>(try intro w))
 all_goals (try subst_vars)
 all_goals (first
  | (simp[binOp,Op.intDiv,Op.shift,hp];done)
  | (simp[binOp,Op.intArith,Op.intBits,Op.intCmp,Op.shift];done)
  | (simp[binOp,Op.shift,Int.not_lt.2 hp];done)
  | (simp[binOp,Op.stringOp,sl,ByteArray.toList_eq,str];done)
  | skip)
 case h_17=>
  rename_i a b;have hx:¬(((a.size+b.size:Nat):Int)>IntKind.i64.max):=by
   have h1:(sl a).length=a.size:=rfl;have h2:(sl b).length=b.size:=rfl;have h3:IntKind.i64.max=9223372036854775807:=rfl;omega
  have hs:a++b=(⟨⟨sl a++sl b⟩⟩:ByteArray):=by
   apply ByteArray.ext;simp[sl]
  simp only[binOp,Op.stringOp,str,hs,if_neg hx,Sem.run_pure]
theorem WA(P:Program)(T:Tab)(hT:bY P T)(op:BinOp)(t:TypeId):(nnR T op t).Is P (binOp op t .nilIface .nilIface):=by
 have hu:∀ {t:TypeId} {i:TI},T t=some i->i.d.ok P t:=fun h=>(hT _ _ h).1;unfold nnR;split
 all_goals first
  | (
    refine Pa fun i hi hk w=>?_;have h':=hu hi;obtain⟨d,_,_⟩:=i;cases d<;>(first|exact hk.elim|skip);obtain⟨_,h'⟩:=h';simp[binOp,Pv P h'];done)
  | trivial
theorem L4(P:Program)(T:Tab)(hT:bY P T)(op:BinOp)(t:TypeId)(lit:Bool)(x y:Value):(oa T op t lit x y).Is P (binOp op t x y):=by
 unfold oa;split
 .split
  .exact WA P T hT op t
  .exact RB P T hT op t _ _
 .exact RB P T hT op t _ _
theorem TA(P:Program)(op:UnOp)(x:Value):(unR op x).Is P (Op.unary op x):=by
 unfold unR;split<;>simp[Out.Is,Op.unary,Op.intArith]
theorem Pk(P:Program)(x:Value)(i:Nat):(Ku x i).Is P (Instr.extract x i):=by
 unfold Ku;split
 .rename_i vs;cases h:vs[i]? with
  | some v=>simp[DH,Out.Is,Instr.extract,h]
  | none=>trivial
 .trivial
theorem Li(P:Program)(T:Tab)(hT:bY P T)(s d:TypeId)(x:Value):(FF T s d x).Is P (convert s d x):=by
 have hu:∀ {t:TypeId} {i:TI},T t=some i->i.d.ok P t:=fun h=>(hT _ _ h).1;unfold FF yg;split
 .rename_i h1 h2;have h1:=hu h1;have h2:=hu h2;simp only[TD.ok]at h1 h2;simp[Out.Is,convert,run_underlying h1,run_underlying h2,Conv.intToInt]
 .rename_i h1 h2;have h1:=hu h1;have h2:=hu h2;simp only[TD.ok]at h1 h2;simp[Out.Is,convert,run_underlying h1,run_underlying h2]
 .rename_i h1 h2;have h1:=hu h1;have h2:=hu h2;simp only[TD.ok]at h1 h2;simp[Out.Is,convert,run_underlying h1,run_underlying h2,Conv.intToString]
 .trivial
theorem Rv(P:Program)(T:Tab)(hT:bY P T)(t r:TypeId)(x:Value):(ES T t x).Is P (Builtin.len_ #[t] r #[x]):=by
 have hu:∀ {t:TypeId} {i:TI},T t=some i->i.d.ok P t:=fun h=>(hT _ _ h).1;unfold ES Rs;split
 .rename_i h1;have h1:=hu h1;simp only[TD.ok]at h1;simp[Out.Is,Builtin.len_,run_underlying h1,goInt,sl]
 .rename_i h1;have h1:=(hu h1).1;simp[Out.Is,Builtin.len_,run_underlying h1,goInt]
 .rename_i h1;obtain⟨e,h1,_⟩:=hu h1;simp[Out.Is,Builtin.len_,run_underlying h1,goInt]
 .trivial
theorem PE(P:Program)(ts:Array TypeId)(r:TypeId)(l:List Value):(FD l).Is P (Builtin.min_ ts r l.toArray):=by
 unfold FD;split
 .simp[Out.Is,Builtin.min_,Builtin.min2]
 .trivial
theorem Rr(P:Program)(ts:Array TypeId)(r:TypeId)(l:List Value):(Gq l).Is P (Builtin.max_ ts r l.toArray):=by
 unfold Gq;split
 .simp[Out.Is,Builtin.max_,Builtin.max2]
 .trivial
theorem Mg(P:Program)(c a b:Value):(Cu c a b).Is P (do pure (if <-asBool c then a else b)):=by
 unfold Cu;split
 .simp[Out.Is,asBool]
 .trivial
theorem O0(P:Program)(T:Tab)(hT:bY P T)(t:TypeId)(x:Value):(Kz T t x).Is P (Instr.makeInterface t x):=by
 have hu:∀ {t:TypeId} {i:TI},T t=some i->i.d.ok P t:=fun h=>(hT _ _ h).1;unfold Kz QW;split
 .trivial
 .rename_i i h0 h;intro w;have h1:=hu h;obtain⟨d,s,z⟩:=i;cases d<;>simp only[TD.ok]at h1
  case iface=>exact absurd rfl (h0 s z)
  case flat=>
   obtain⟨d,h1,h2⟩:=h1;simp only[Instr.makeInterface,Sem.run_bind,run_underlying h1,Result.andThen_ok];cases d<;>first|rfl|cases h2
  case func=>obtain⟨_,_,_,h1⟩:=h1;simp[Instr.makeInterface,run_underlying h1]
  case slc=>obtain⟨h1,_⟩:=h1;simp[Instr.makeInterface,run_underlying h1]
  case strct=>obtain⟨_,h1,_⟩:=h1;simp[Instr.makeInterface,run_underlying h1]
  case arr=>obtain⟨_,h1,_⟩:=h1;simp[Instr.makeInterface,run_underlying h1]
  all_goals simp[Instr.makeInterface,run_underlying h1]
 .trivial
theorem nC(P:Program)(k:IntKind)(i:Int)(y:Nat)(c:BoundsCode)(w:World)(h:0<=i/\i<=y):(Instr.sliceBound (.int k i) y c).run P w=.ok i.toNat w:=by
 simp[Instr.sliceBound,asIntOf,h]
theorem vY(P:Program)(isS:Bool)(n c:Nat)(lo hi:Option Value)(a b:Int)(ha:mq lo=some a)(hb:mX n hi=some b)(h:0<=a/\a<=b/\b<=n/\n<=c)(w:World) :
  (Instr.sliceBounds isS n c lo hi none).run P w=.ok (a.toNat,b.toNat,c) w:=by
 have h1:(match hi with|some v=>Instr.sliceBound v c (if isS then .sliceAcap else .sliceAlen)|none=>pure n:Sem Nat).run P w=.ok b.toNat w:=by
  cases hi with
  | none=>simp only[mX,Option.some.injEq]at hb;subst hb;simp
  | some v=>
   cases v<;>simp only[mX,Option.some.injEq,reduceCtorEq]at hb;subst hb;exact nC P _ _ _ _ w ⟨by omega,by omega⟩
 have h2:(match lo with|some v=>Instr.sliceBound v b.toNat .sliceB|none=>pure 0:Sem Nat).run P w=.ok a.toNat w:=by
  cases lo with
  | none=>simp only[mq,Option.some.injEq]at ha;subst ha;simp
  | some v=>
   cases v<;>simp only[mq,Option.some.injEq,reduceCtorEq]at ha;subst ha;exact nC P _ _ _ _ w ⟨by omega,by omega⟩
 unfold Instr.sliceBounds;cases hi with
 | none=>cases lo<;>simp_all
 | some v=>cases lo<;>simp_all
theorem Ji(P:Program)(n c:Nat)(lo hi:Option Value)(k:IntKind)(a b m:Int)(ha:mq lo=some a)(hb:mX n hi=some b)(h:0<=a/\a<=b/\b<=m/\m<=c/\hi≠none)(w:World) :
  (Instr.sliceBounds true n c lo hi (some (.int k m))).run P w=.ok (a.toNat,b.toNat,m.toNat) w:=by
 have h0:=nC P k m c .slice3Acap w ⟨by omega,by omega⟩;have h2:(match lo with|some v=>Instr.sliceBound v b.toNat .slice3C|none=>pure 0:Sem Nat).run P w=.ok a.toNat w:=by
  cases lo with
  | none=>simp only[mq,Option.some.injEq]at ha;subst ha;simp
  | some v=>
   cases v<;>simp only[mq,Option.some.injEq,reduceCtorEq]at ha;subst ha;exact nC P _ _ _ _ w ⟨by omega,by omega⟩
 unfold Instr.sliceBounds;cases hi with
 | none=>exact absurd rfl h.2.2.2.2
 | some v=>
  cases v<;>simp only[mX,Option.some.injEq,reduceCtorEq]at hb;rename_i kb nb;subst hb;have h1:=nC P kb nb m.toNat .slice3B w ⟨by omega,by omega⟩;cases lo<;>simp_all
theorem addr_add(g o k:Nat):(⟨g,o,none⟩:Addr).add k=⟨g,o+k,none⟩:=by
 unfold Addr.add;split
 .rename_i h;subst h;rfl
 .rfl
theorem KE(s:ByteArray)(a b:Nat):s.extract a b=(⟨⟨((sl s).take b).drop a⟩⟩:ByteArray):=by
 apply ByteArray.ext;apply Array.ext';simp[sl,ByteArray.data_extract,Array.toList_extract,extract_eq_take_drop,drop_take]
theorem GB(P:Program)(T:Tab)(hT:bY P T)(t:TypeId)(x:Value)(lo hi mx:Option Value):(uB T t x lo hi mx).Is P (Instr.sliceAt t x lo hi mx):=by
 have hu:∀ {t:TypeId} {i:TI},T t=some i->i.d.ok P t:=fun h=>(hT _ _ h).1;unfold uB jv;split
 .rename_i s;split
  .rename_i a b h1 ha hb;have h1:=hu h1;simp only[TD.ok]at h1;intro hp w;have hs:(sl s).length=s.size:=rfl;rw[hs]at hb hp;simp only[Instr.sliceAt,Instr.slice,Sem.run_bind,run_underlying h1,Result.andThen_ok,Option.isSome_none,Bool.false_eq_true,if_false,vY P false s.size s.size lo hi a b ha hb ⟨hp.1,hp.2.1,hp.2.2,lRf _⟩ w,Sem.run_pure,KE,str]
  .trivial
 .split
  .rename_i a b h1 ha hb;obtain⟨h1,I,h2,h3,_⟩:=hu h1;intro hp w;simp only[Instr.sliceAt,Instr.slice,Sem.run_bind,run_underlying h1,Result.andThen_ok,vY P true _ _ lo hi a b ha hb hp w,Sem.run_pure,sizeOf,typeInfo,run_program,h2,h3,dQ,Option.map_some,addr_add];split<;>rfl
  .rename_i a b kk m h1 ha hb;obtain⟨h1,I,h2,h3,_⟩:=hu h1;intro hp w;simp only[Instr.sliceAt,Instr.slice,Sem.run_bind,run_underlying h1,Result.andThen_ok,Ji P _ _ lo hi _ a b m ha hb hp w,Sem.run_pure,sizeOf,typeInfo,run_program,h2,h3,dQ,Option.map_some,addr_add];split<;>rfl
  .trivial
 .split
  .rename_i n sz _ _ _ a h1 ha;obtain⟨e,h1,⟨I,h2,h3⟩,_⟩:=hu h1;split
   .rename_i b hb;intro hp w;simp only[Instr.sliceAt,Sem.run_bind,run_underlying h1,Result.andThen_ok,Instr.sureAddr,vY P false n n lo hi a b ha hb ⟨hp.1,hp.2.1,hp.2.2,lRf _⟩ w,Sem.run_pure,sizeOf,typeInfo,run_program,h2,h3,dQ,addr_add];split<;>rfl
   .trivial
  .trivial
 .trivial
theorem LG(P:Program)(t:TypeId){g:Bool}{off sz:Nat}{cs:Array Value}{v:Value}(hg:Lm P t=g)(hu:(P.underlying t).isSome=true){I:TypeInfo}(hI:P.info? t=some I)(hs:I.size=sz)
  (h:B6 cs.toList off sz g=some v) (w:World):(part t cs off).run P w=.ok v w:=by
 obtain⟨d,hd⟩:=Option.isSome_iff_exists.1 hu;have ha:(isAgg t).run P w=.ok g w:=by
  unfold Lm at hg;rw[hd]at hg;subst hg;simp only[isAgg,Sem.run_bind,run_underlying hd,Result.andThen_ok];cases d<;>rfl
 unfold B6 at h;cases g with
 | true=>
  rw[if_pos rfl]at h;injection h with h
  subst h;simp only[part,Sem.run_bind,ha,Result.andThen_ok,if_pos,sizeOf,typeInfo,run_program,hI,Sem.run_pure,hs]
  congr 2
  apply Array.ext';simp[Array.toList_extract,extract_eq_take_drop]
 | false=>
  rw[if_neg (by simp)]at h;have h':cs[off]?=some v:=by rw[<-Array.getElem?_toList];exact h
  simp only[part,Sem.run_bind,ha,Result.andThen_ok,Bool.false_eq_true,if_false,h',Sem.run_pure]
theorem P9(P:Program)(T:Tab)(hT:bY P T)(t:TypeId)(x i:Value):(MP T t x i).Is P (Instr.index t x i):=by
 have hu:∀ {t:TypeId} {i:TI},T t=some i->i.d.ok P t:=fun h=>(hT _ _ h).1;unfold MP QF;split
 .rename_i s k i a b h1;have h1:=hu h1;simp only[TD.ok]at h1;intro hp w;have hl:i.toNat<s.size:=by have:(sl s).length=s.size:=rfl;omega
  have e1:s[i.toNat]?=some (s[i.toNat]'hl):=by simp[hl]
  have e2:(sl s).getD i.toNat 0=s[i.toNat]'hl:=by
   unfold sl;rw[gDe,gEl (by simpa using hl)];rfl
  simp only[Instr.index,asIntOf,Sem.run_bind,Sem.run_pure,run_underlying h1,Result.andThen_ok,if_pos hp.1,e1,e2]
 .split
  .rename_i cs k i n sz g _ _ h1 _ v hv;obtain⟨e,h1,⟨I,h2,h3⟩,h4,h5⟩:=hu h1;intro hp w;simp only[Instr.index,asIntOf,Sem.run_bind,Sem.run_pure,run_underlying h1,Result.andThen_ok,if_pos hp,sizeOf,typeInfo,run_program,h2,h3];exact LG P e h4 h5 h2 h3 hv w
  .trivial
 .trivial
theorem AL(P:Program)(T:Tab)(hT:bY P T)(t:TypeId)(x i:Value):(lP T t x i).Is P (Instr.indexAt t x i):=by
 have hu:∀ {t:TypeId} {i:TI},T t=some i->i.d.ok P t:=fun h=>(hT _ _ h).1;unfold lP oS;split
 .rename_i h1;obtain⟨h1,I,h2,h3,_⟩:=hu h1;intro hp w;simp[Instr.indexAt,asIntOf,run_underlying h1,hp,sizeOf,typeInfo,h2,h3,Addr.add]
 .rename_i h1;obtain⟨e,h1,⟨I,h2,h3⟩,_⟩:=hu h1;intro hp w;simp[Instr.indexAt,asIntOf,run_underlying h1,hp,sizeOf,typeInfo,h2,h3,Instr.sureAddr,Addr.add]
 .trivial
theorem uo(P:Program)(T:Tab)(hT:bY P T)(t:TypeId)(x:Value)(f:Nat):(gV T t x f).Is P (Instr.fieldAt t x f):=by
 have hu:∀ {t:TypeId} {i:TI},T t=some i->i.d.ok P t:=fun h=>(hT _ _ h).1;unfold gV jL;split
 .split
  .rename_i h1 _ _ _ _ h4;obtain⟨F,h1,h2,h3⟩:=hu h1;intro hp w;rw[<-h2,getElem?_map]at h4;obtain⟨fd,hf,he⟩:=Option.map_eq_some_iff.1 h4;injection he with e1 e2
   injection e2 with e2 e3
   have hf':F[f]?=some fd:=by rw[<-Array.getElem?_toList];exact hf
   have hi:=(h3 fd (mem_of_getElem? hf)).1;obtain⟨I,hI⟩:=Option.isSome_iff_exists.1 hi;have hs:I.size≠0:=by
    have:P.cellsOf fd.type=I.size:=by simp[Program.cellsOf,hI]
    omega
   simp[Instr.fieldAt,run_underlying h1,hf',Instr.sureAddr,fieldPlace,sizeOf,typeInfo,hI,hs,addr_add,e1]
  .trivial
 .trivial
theorem Hq(P:Program)(T:Tab)(hT:bY P T)(t:TypeId)(x:Value)(f:Nat):(Fa T t x f).Is P (Instr.field t x f):=by
 have hu:∀ {t:TypeId} {i:TI},T t=some i->i.d.ok P t:=fun h=>(hT _ _ h).1;unfold Fa Ql;split
 .rename_i cs fs _ _ h1;obtain⟨F,h1,h2,h3⟩:=hu h1;split
  .rename_i off sz g h4;split
   .rename_i v hv;intro w;rw[<-h2,getElem?_map]at h4;obtain⟨fd,hf,he⟩:=Option.map_eq_some_iff.1 h4;injection he with e1 e2
    injection e2 with e2 e3
    have hf':F[f]?=some fd:=by rw[<-Array.getElem?_toList];exact hf
    obtain⟨hi,hj⟩:=h3 fd (mem_of_getElem? hf);obtain⟨I,hI⟩:=Option.isSome_iff_exists.1 hi;have hs:I.size=sz:=by rw[<-e2];simp[Program.cellsOf,hI]
    simp only[Instr.field,Sem.run_bind,run_underlying h1,Result.andThen_ok,hf',asAgg,Sem.run_pure,e1];exact LG P fd.type e3 hj hI hs hv w
   .trivial
  .trivial
 .trivial
theorem ae(M:Mem)(b:Nat)(B:Blk):(M.put b B) b=some B:=by simp[Mem.put]
theorem al(M:Mem){b i:Nat}(B:Blk)(h:i≠b):(M.put b B) i=M i:=by simp[Mem.put,h]
theorem aG{M:Mem}{b i:Nat}{B:Blk}:(M.put b B) i=none↔i≠b/\M i=none:=by
 unfold Mem.put;split<;>simp_all
def Mem.set(M:Mem)(b:Nat)(B:Blk):Mem:=M.put b B
theorem Fv(M:Mem)(b:Nat)(B B':Blk):(M.put b B).set b B'=M.put b B':=by
 funext i;simp only[Mem.set,Mem.put];split<;>rfl
theorem Ug(M:Mem){b g:Nat}(B B':Blk)(h:g≠b):(M.put b B).set g B'=(M.set g B').put b B:=by
 funext i;simp only[Mem.set,Mem.put];split<;>(try split)<;>(try rfl);subst_vars;exact absurd rfl h
theorem set_set(M:Mem)(b:Nat)(B B':Blk):(M.set b B).set b B'=M.set b B':=Fv M b B B'
theorem Ri(M:Mem)(b:Nat)(B:Blk)(h:M b=none):(M.put b B).del b=M:=by
 funext i;simp only[Mem.del,Mem.put];split
 .subst_vars;exact h.symm
 .rfl
theorem Rep.fresh{M:Mem}{w:World}(h:Rep M w){b:Nat}(hb:w.heap.size<=b):M b=none:=by
 cases hM:M b with
 | none=>rfl
 | some B=>
  have:=h b B hM;have hn:w.heap[b]?=none:=Array.getElem?_eq_none hb;cases B with
  | cells own xs tot=>obtain⟨c,e,fr,h1,_⟩:=this;rw[hn]at h1;cases h1
  | obj o=>have h1:=this.1;rw[hn]at h1;cases h1
theorem Blk.holds_of{w w':World}{b:Nat}(h:w'.heap[b]?=w.heap[b]?){B:Blk}(hB:B.holds w b):B.holds w' b:=by
 cases B with
 | cells own xs tot=>simp only[Blk.holds]at *;rw[h];exact hB
 | obj o=>simp only[Blk.holds]at *;rw[h];exact hB
def Mem.sub?(M:Mem)(b o n:Nat):Option (List Value):=
 match M b with
 | some (.cells _ xs _)=>if o+n<=xs.length then some ((xs.drop o).take n) else none
 | _=>none
theorem Rep.sub?{M:Mem}{w:World}(h:Rep M w){b o n:Nat}{l:List Value}(hl:M.sub? b o n=some l):l.length=n/\∀ j v,l[j]?=some v->w.cell? ⟨b,o+j,none⟩=some v:=by
 unfold Mem.sub? at hl;split at hl
 .rename_i own xs tot hM;split at hl
  .rename_i hle;injection hl with hl
   subst hl;refine⟨by rw[lTa,lDr];omega,fun j v hv=>h.cell ?_⟩;have hj:j<n:=by
    rcases Nat.lt_or_ge j n with h|h
    .exact h
    .rw[getElem?_eq_none (by rw[lTa];omega)]at hv;cases hv
   rw[getElem?_take_of_lt hj,getElem?_drop]at hv;simp[Mem.get?,hM,hv]
  .cases hl
 .cases hl
def cO(P:Program){α:Type}(s:Sem α)(M:Mem)(K:α->Mem->Prop):Prop:=
 ∀ w,Rep M w->∃ a w' M',s.run P w=.ok a w'/\Rep M' w'/\Ext M w M' w'/\K a M'
section
variable {P:Program} {α β:Type} {M:Mem}
theorem aP{s:Sem α}{K:α->Mem->Prop}(a:α)(h:∀ w,Rep M w->s.run P w=.ok a w)(hk:K a M):cO P s M K:=
 fun w hw=>⟨a,w,M,h w hw,hw,Ext.refl _ _,hk⟩
theorem bG{K:α->Mem->Prop}{a:α}(hk:K a M):cO P (pure a) M K:=aP a (fun _ _=>rfl) hk
theorem ay{s:Sem α}{f:α->Sem β}{K:β->Mem->Prop}(h:cO P s M fun a M'=>cO P (f a) M' K):cO P (s >>= f) M K:=by
 intro w hw;obtain⟨a,w1,M1,h1,h2,h3,h4⟩:=h w hw;obtain⟨b,w2,M2,k1,k2,k3,k4⟩:=h4 w1 h2;exact⟨b,w2,M2,by rw[Sem.run_bind,h1,Result.andThen_ok,k1],k2,h3.trans k3,k4⟩
theorem Nb{K:Nat->Mem->Prop}{cells:Array Value}{e':TypeId}(h:∀ b,M b=none->K b (M.put b (.cells true cells.toList cells.size))):cO P (newObj (.cells cells e')) M K:=by
 intro w hw;have hf:=hw.fresh (lRf w.heap.size);refine⟨w.heap.size,_,_,run_newObj P w _,?_,?_,h _ hf⟩
 .intro i B hB;by_cases e:i=w.heap.size
  .subst e;rw[ae]at hB;injection hB with hB
   subst hB;exact⟨cells,e',(0,0),by simp,rfl,⟨[],by simp⟩,fun _=>.inl rfl⟩
  .rw[al _ _ e]at hB;have hh:=hw i B hB;have hlt:i<w.heap.size:=by
    rcases Nat.lt_or_ge i w.heap.size with h|h
    .exact h
    .rw[hw.fresh h]at hB;cases hB
   exact Blk.holds_of (w:=w) (by simp[Array.getElem?_push,Nat.ne_of_lt hlt]) hh
 .refine⟨rfl,rfl,rfl,by simp,fun i hi _=>by simp[Array.getElem?_push,Nat.ne_of_lt hi],fun i ⟨B,h1,h2⟩=>?_⟩;by_cases e:i=w.heap.size
  .exact .inr (by omega)
  .rw[al _ _ e]at h1;exact .inl ⟨B,h1,h2⟩
theorem lV{K:Addr->Mem->Prop}{cells:Array Value}{e:TypeId}(h:∀ b,M b=none->K ⟨b,0,none⟩ (M.put b (.cells true cells.toList cells.size))):cO P (newRow e cells) M K:=by
 unfold newRow;exact ay (Nb fun b hb=>bG (h b hb))
theorem tr{K:Nat->Mem->Prop}{q:Question}(hq:q.forced=false)(h:∀ t,K (q.cut t) M):cO P (choose q) M K:=by
 intro w hw;refine⟨_,_,M,(run_choose P w q).trans (if_neg (by simp[hq])),?_,⟨rfl,rfl,rfl,lRf _,fun _ _ _=>rfl,fun _ h=>.inl h⟩,h _⟩;intro b B hB;exact Blk.holds_of (w:=w) rfl (hw b B hB)
theorem pT{K:Unit->Mem->Prop}{b:Nat}{xs:List Value}{tot:Nat}(hb:M b=some (.cells true xs tot))(h:K () M):cO P (markStringish ⟨b,0,none⟩) M K:=by
 intro w hw;obtain⟨c,e,fr,h1,h2,h3,h4⟩:=hw b _ hb;have hs:w.shape? b=some (e,c.size):=by simp[World.shape?,h1]
 refine⟨(),w.freeze ⟨b,c.size,none⟩ 1,M,by simp[markStringish,hs],?_,?_,h⟩
 .intro i B hB;by_cases ei:i=b
  .subst ei;rw[hb]at hB;injection hB with hB;subst hB
   refine⟨c,e,if fr.1==fr.2 then (c.size,c.size+1) else (min fr.1 c.size,max fr.2 (c.size+1)),?_,h2,h3,fun ho=>?_⟩
   .simp only[World.freeze,Nat.one_ne_zero,if_false,Array.getElem?_modify,if_pos,h1,Option.map_some]
   .have:=h4 ho;split
    .right;show tot<=c.size;omega
    .rename_i hne;simp only[beq_iff_eq]at hne;right;show tot<=min fr.1 c.size;omega
  .exact Blk.holds_of (w:=w) (by simp[World.freeze,Array.getElem?_modify,Ne.symm ei]) (hw i B hB)
 .refine⟨rfl,rfl,rfl,by simp[World.freeze],fun i hi ho=>?_,fun _ h=>.inl h⟩;have ei:i≠b:=fun e=>ho (e▸⟨_,hb,rfl⟩);simp[World.freeze,Array.getElem?_modify,Ne.symm ei]
def bE:Value->Bool
 | .agg _|.tuple _=>false
 | _=>true
theorem Pf{v:Value}(h:bE v=true):v.oneCell'=true:=by cases v<;>first|rfl|cases h
theorem jU{v:Value}(h:bE v=true):v.cells = #[v]:=by cases v<;>first|rfl|cases h
theorem Rep.notFrozen{M:Mem}{w:World}(h:Rep M w){b:Nat}{xs:List Value}{tot i:Nat}(hb:M b=some (.cells true xs tot))(hi:i<tot):w.frozen? ⟨b,i,none⟩=false:=by
 obtain⟨c,e,fr,h1,h2,h3,h4⟩:=h b _ hb;have:=h4 rfl;simp only[World.frozen?,h1,Bool.and_eq_false_iff,decide_eq_false_iff_not];omega
theorem FL{K:Unit->Mem->Prop}{b i:Nat}{v:Value}{xs:List Value}{tot:Nat}(hb:M b=some (.cells true xs tot))(hi:i<=xs.length)(ht:i<tot)(hv:bE v=true)
  (h:K () (M.set b (.cells true (xs.take i++v::xs.drop (i+1)) tot))):cO P (store ⟨b,i,none⟩ v) M K:=by
 intro w hw;obtain⟨c,e,fr,h1,h2,⟨ys,h3⟩,h4⟩:=hw b _ hb;have hlt:i<c.size:=by omega
 have hcell:w.cell? ⟨b,i,none⟩=some (c[i]'hlt):=by simp[World.cell?,h1,hlt]
 refine⟨(),w.setCell ⟨b,i,none⟩ v,_,?_,?_,?_,h⟩
 .rw[run_store _ _ _ _ _ (Pf hv),hcell];simp[hw.notFrozen hb ht]
 .intro j B hB;by_cases ej:j=b
  .subst ej;unfold Mem.set at hB;rw[ae]at hB;injection hB with hB;subst hB
   refine⟨c.setIfInBounds i v,e,fr,by simp only[World.setCell,Array.getElem?_modify,if_pos,h1,Option.map_some,Option.isSome_none,Bool.false_eq_true,if_false],by simpa using h2,⟨(c.toList.drop (i+1)).drop (xs.drop (i+1)).length,?_⟩,h4⟩;rw[Array.toList_setIfInBounds,set_eq_take_append_cons_drop,if_pos (by simpa using hlt),h3];have e1:(xs++ys).take i=xs.take i:=take_append_of_le_length hi;rw[e1,append_assoc,cons_append]
   congr 2
   by_cases hh:i<xs.length
   .have e2:(xs++ys).drop (i+1)=xs.drop (i+1)++ys:=drop_append_of_le_length (by omega);rw[e2,drop_left]
   .have e3:xs.drop (i+1)=[]:=drop_eq_nil_of_le (by omega);rw[e3];simp
  .unfold Mem.set at hB;rw[al _ _ ej]at hB;exact Blk.holds_of (w:=w) (by simp[World.setCell,Array.getElem?_modify,Ne.symm ej]) (hw j B hB)
 .refine⟨rfl,rfl,rfl,by simp[World.setCell],fun j hj ho=>?_,fun j ⟨B,h1,h2⟩=>?_⟩
  .have ej:j≠b:=fun e=>ho (e▸⟨_,hb,rfl⟩);simp[World.setCell,Array.getElem?_modify,Ne.symm ej]
  .by_cases ej:j=b
   .subst ej;exact .inl ⟨_,hb,rfl⟩
   .unfold Mem.set at h1;rw[al _ _ ej]at h1;exact .inl ⟨B,h1,h2⟩
theorem dT{K:Unit->Mem->Prop}{b o:Nat}:∀(vs:List Value) (i:Nat) (M:Mem) (xs:List Value) (tot:Nat),M b=some (.cells true xs tot)->o+i<=xs.length->o+i+vs.length<=tot->(∀ v∈vs,bE v=true) ->
  K () (M.set b (.cells true (xs.take (o+i)++vs++xs.drop (o+i+vs.length)) tot))->cO P (storeCells ⟨b,o,none⟩ vs i) M K
 | [],i,M,xs,tot,hb,h1,h2,h3,hk=>by
  unfold storeCells;refine bG ?_;have:M.set b (.cells true (xs.take (o+i)++[]++xs.drop (o+i+([]:List Value).length)) tot)=M:=by
   funext j
   simp only[Mem.set,Mem.put];split
   .subst_vars;rw[hb];simp
   .rfl
  rw[this]at hk;exact hk
 | v::vs,i,M,xs,tot,hb,h1,h2,h3,hk=>by
  unfold storeCells;rw[lCo]at h2;rw[addr_add];refine ay (FL hb h1 (by omega) (h3 v (by simp)) ?_);refine dT vs (i+1) _ _ tot (ae _ _ _) ?_ (by omega) (fun u hu=>h3 u (by simp[hu])) ?_
  .simp only[lAp,lTa,lCo,lDr];omega
  .rw[set_set];have e1:(xs.take (o+i)++v::xs.drop (o+i+1)).take (o+(i+1))=xs.take (o+i)++[v]:=by
    rw[take_append,take_of_length_le (by rw[lTa];omega),lTa,Nat.min_eq_left h1,show o+(i+1)-(o+i)=1 by omega];simp
   have e2:(xs.take (o+i)++v::xs.drop (o+i+1)).drop (o+(i+1)+vs.length)=xs.drop (o+i+(vs.length+1)):=by
    rw[drop_append,drop_eq_nil_of_le (by rw[lTa];omega),lTa,Nat.min_eq_left h1,show o+(i+1)+vs.length-(o+i)=vs.length+1 by omega];simp[Nat.add_assoc,Nat.add_comm,Nat.add_left_comm]
   rw[e1,e2];simpa using hk
theorem lp{t:TypeId}{I:TypeInfo}(h:P.info? t=some I)(w:World):(typeInfo t).run P w=.ok I w:=by simp[typeInfo,h]
theorem iF{t:TypeId}{I:TypeInfo}(h:P.info? t=some I)(w:World):(sizeOf t).run P w=.ok I.size w:=by simp[sizeOf,lp h]
theorem iP{t:TypeId}{I:TypeInfo}{z:Value}(h:P.info? t=some I)(hz:I.zero=some z)(w:World):(zeroValue t).run P w=.ok z w:=by simp[zeroValue,lp h,hz]
def QB(b:Nat):Value:=.pointer (some ⟨b,0,none⟩)
def Ib(cells:List Value)(mk:Nat->Value)(K:VP)(M:Mem):Prop:=∀ b,M b=none->K (mk b) (M.put b (.cells true cells cells.length))
def B9(cells:List Value)(K:VP)(M:Mem):Prop:=
 ∀ b c,M b=none->cells.length<=c->K (.slice (some ⟨b,0,none⟩) cells.length c) (M.put b (.cells true cells c))
theorem Eu(K:VP)(cells:Array Value)(e:TypeId)(mk:Addr->Value)(h:Ib cells.toList (fun b=>mk ⟨b,0,none⟩) K M):cO P (do pure (mk (<-newRow e cells))) M K:=
 ay (lV fun b hb=>bG (by have:=h b hb;simpa using this))
def HQ(v:Value)(K:VP)(M:Mem):Prop:=Ib v.cells.toList QB K M
theorem RI(K:VP)(e:TypeId)(v:Value)(h:HQ v K M):cO P (Instr.box e v) M K:=by
 unfold Instr.box newVar;refine ay (lV fun b hb=>bG ?_);have:=h b hb;simpa[QB] using this
def yb(d:Option TI)(K:VP)(M:Mem):Prop:=
 match d with
 | some i=>HQ i.zero K M
 | none=>False
def yQ(T:Tab)(t:TypeId)(K:VP)(M:Mem):Prop:=yb (T t) K M
theorem Rg(T:Tab)(hT:bY P T)(K:VP)(e:TypeId)(v:Value)(h:yQ T e K M):cO P (Instr.alloc e true v) M K:=by
 unfold yQ yb at h;split at h
 .rename_i i hi;obtain⟨_,I,h1,h2,_⟩:=hT _ _ hi;unfold Instr.alloc;refine ay (aP i.zero (fun w _=>iP h1 h2 w) ?_);exact RI K e i.zero h
 .exact h.elim
def sd(parts:List (Nat×Value))(cells:List Value):List Value:=parts.foldl (fun cs p=>cs.set p.1 p.2) cells
theorem GY:∀(parts:List (Nat×Value)) (cells:Array Value),(∀ p∈parts,p.1<cells.size/\bE p.2=true)->Instr.fill (fun i=>some (i*1,1)) cells parts=some (sd parts cells.toList).toArray
 | [],cells,_=>by simp[Instr.fill,sd]
 | (i,v)::rest,cells,h=>by
  have h0:=h (i,v) (by simp);simp only at h0;have hc:v.cells = #[v]:=jU h0.2;have ih:=GY rest (cells.setIfInBounds i v) (fun p hp=>by have:=h p (by simp[hp]);simpa using this);have hz:(#[v].zipIdx).foldl (fun (cs:Array Value) (x:Value×Nat)=>cs.setIfInBounds (i*1+x.2) x.1) cells=cells.setIfInBounds i v:=by simp
  unfold Instr.fill;simp only[hc];rw[if_neg (by simp;omega)];exact(congrArg (fun c=>Instr.fill (fun i=>some (i*1,1)) c rest) hz).trans (by rw[ih];simp[sd])
def dR(p q:Prop):Prop:=p/\q
def vBd(p:Prop)(K:VP)(v:Value)(M:Mem):Prop:=p/\K v M
def sV(d:Option TI)(len:Nat)(parts:List (Nat×Value))(K:VP)(M:Mem):Prop:=
 match d with
 | some ⟨.slc _ 1 _ z,_,_⟩=>dR (len<=16777216/\bE z=true/\∀ p∈parts,p.1<len/\bE p.2=true)
   (Ib (sd parts (replicate len z)) (fun b=>.slice (some ⟨b,0,none⟩) len len) K M)
 | _=>False
def uf(T:Tab)(t:TypeId)(len:Nat)(parts:List (Nat×Value))(K:VP)(M:Mem):Prop:=sV (T t) len parts K M
theorem GW(z:Value)(hz:bE z=true)(n:Nat):((Array.range n).map fun i=>z.cells[i%z.cells.size]!)=(replicate n z).toArray:=by
 rw[jU hz];apply Array.ext';simp only[Array.toList_map,Array.toList_range];apply ext_getElem
 .simp
 .intro i h1 h2;simp[Nat.mod_one]
theorem MF(T:Tab)(hT:bY P T)(K:VP)(t:TypeId)(len:Nat)(parts:Array (Nat×Value))(h:uf T t len parts.toList K M):cO P (Instr.buildSlice t len parts) M K:=by
 unfold uf sV at h;split at h
 .rename_i e by_ z _ _ hi;obtain⟨⟨hl,hz,hp⟩,hk⟩:=h;obtain⟨⟨h1,I,h2,h3,h4,h5⟩,_⟩:=hT _ _ hi;unfold Instr.buildSlice;refine ay (aP _ (fun w _=>run_underlying h1 w) ?_);dsimp only;refine ay (aP I.size (fun w _=>iF h2 w) ?_);rw[h3,Nat.mul_one,if_neg (by omega)];have hf:∀(c0:Array Value),c0.size=len->c0=(replicate len z).toArray->Instr.fill (fun i=>some (i*1,1)) c0 parts.toList=some (sd parts.toList (replicate len z)).toArray:=by
   intro c0 hc hc';have:=GY parts.toList c0 (fun p hp'=>by rw[hc];exact hp p hp');rw[this,hc']
  by_cases hz0:len=0
  .rw[if_pos hz0];refine ay (bG ?_);rw[hf _ (by simp) (by subst hz0;simp)];dsimp only;exact Eu K _ e (fun a=>.slice (some a) len len) (by simpa using hk)
  .rw[if_neg hz0];refine ay (aP z (fun w _=>iP h2 h5 w) (ay (bG ?_)));rw[hf _ (by simp) (GW z hz len)];dsimp only;exact Eu K _ e (fun a=>.slice (some a) len len) (by simpa using hk)
 .exact h.elim
def MV(v:Option Value)(K:VP)(M:Mem):Prop:=
 match v with
 | some v=>K v M
 | none=>False
def BX(v:Option (List Value))(K:VP)(M:Mem):Prop:=
 match v with
 | some l=>K (.agg l.toArray) M
 | none=>False
def uT(x:Value)(d:Option TI)(K:VP)(M:Mem):Prop:=
 match x,d with
 | .pointer (some ⟨b,o,none⟩),some i=>if i.d.agg then BX (M.sub? b o i.size) K M else MV (M.get? b o) K M
 | _,_=>False
def Ix(T:Tab)(t:TypeId)(x:Value)(K:VP)(M:Mem):Prop:=uT x (T t) K M
theorem GV(T:Tab)(hT:bY P T){t:TypeId}{i:TI}(hi:T t=some i)(w:World):(isAgg t).run P w=.ok i.d.agg w:=by
 have h:=(hT _ _ hi).1;obtain⟨d,s,z⟩:=i;cases d<;>simp only[TD.ok]at h
 case flat=>
  obtain⟨d,h1,h2⟩:=h;simp only[isAgg,Sem.run_bind,run_underlying h1,Result.andThen_ok];cases d<;>first|rfl|cases h2
 case iface=>obtain⟨_,h⟩:=h;simp only[isAgg,Sem.run_bind,run_underlying h,Result.andThen_ok];rfl
 case func=>obtain⟨_,_,_,h⟩:=h;simp only[isAgg,Sem.run_bind,run_underlying h,Result.andThen_ok];rfl
 case slc=>obtain⟨h,_⟩:=h;simp only[isAgg,Sem.run_bind,run_underlying h,Result.andThen_ok];rfl
 case strct=>obtain⟨_,h,_⟩:=h;simp only[isAgg,Sem.run_bind,run_underlying h,Result.andThen_ok];rfl
 case arr=>obtain⟨_,h,_⟩:=h;simp only[isAgg,Sem.run_bind,run_underlying h,Result.andThen_ok];rfl
 all_goals (simp only[isAgg,Sem.run_bind,run_underlying h,Result.andThen_ok];rfl)
theorem mK{K:Array Value->Mem->Prop}{b o n:Nat}{l:List Value}(h:M.sub? b o n=some l)(hk:K l.toArray M):cO P (loadCells ⟨b,o,none⟩ n) M K:=by
 refine aP l.toArray (fun w hw=>?_) hk;obtain⟨h1,h2⟩:=hw.sub? h;rw[<-h1];exact run_loadCells_list w ⟨b,o,none⟩ l (fun j v hv=>by rw[addr_add];exact h2 j v hv)
theorem K4(T:Tab)(hT:bY P T)(K:VP)(t:TypeId)(b o:Nat){i:TI}(hi:T t=some i)(h:if i.d.agg then BX (M.sub? b o i.size) K M else MV (M.get? b o) K M):cO P (loadVar t ⟨b,o,none⟩) M K:=by
 obtain⟨_,I,h1,h2,h3⟩:=hT _ _ hi;unfold loadVar;refine ay (aP i.d.agg (fun w _=>GV T hT hi w) ?_);cases ha:i.d.agg with
 | true=>
  rw[ha,if_pos rfl]at h;rw[if_pos rfl];refine ay (aP I.size (fun w _=>iF h1 w) ?_);rw[h3];unfold BX at h;split at h
  .rename_i l hl;exact ay (mK hl (bG h))
  .exact h.elim
 | false=>
  rw[ha,if_neg (by simp)]at h;rw[if_neg (by simp)];unfold MV at h;split at h
  .rename_i v hv;exact aP v (fun w hw=>by rw[run_load,hw.cell hv]) h
  .exact h.elim
theorem SM(T:Tab)(hT:bY P T)(K:VP)(t:TypeId)(x:Value)(h:Ix T t x K M):cO P (Instr.loadAt t x) M K:=by
 unfold Ix uT at h;split at h
 .rename_i b o i hi;unfold Instr.loadAt Instr.sureAddr;exact ay (bG (K4 T hT K t b o hi h))
 .exact h.elim
def gX(xs:List Value)(o:Nat)(vs:List Value):List Value:=xs.take o++vs++xs.drop (o+vs.length)
theorem JB(xs:List Value)(o:Nat)(v:Value)(h:o<xs.length):gX xs o [v]=xs.set o v:=by
 rw[set_eq_take_append_cons_drop,if_pos h];simp[gX]
def vSt(B:Option Blk)(b o:Nat)(vs:List Value)(K:VP)(M:Mem):Prop:=
 match B with
 | some (.cells true xs tot)=>dR (o+vs.length<=xs.length/\xs.length<=tot/\∀ v∈vs,bE v=true) (vBd True K undef (M.set b (.cells true (gX xs o vs) tot)))
 | _=>False
def Sn(B:Option Blk)(b o:Nat)(v:Value)(K:VP)(M:Mem):Prop:=
 match B with
 | some (.cells true xs tot)=>vBd (o<xs.length/\bE v=true) K undef (M.set b (.cells true (xs.set o v) tot))
 | _=>False
def x8(x v:Value)(d:Option TI)(K:VP)(M:Mem):Prop:=
 match x,d with
 | .pointer (some ⟨b,o,none⟩),some i=>if i.d.agg then dR (v.cells.size=i.size) (vSt (M b) b o v.cells.toList K M) else dR (i.size=1) (Sn (M b) b o v K M)
 | _,_=>False
def zr(T:Tab)(t:TypeId)(x v:Value)(K:VP)(M:Mem):Prop:=x8 x v (T t) K M
theorem Rep.le{M:Mem}{w:World}(h:Rep M w){b:Nat}{own:Bool}{xs:List Value}{tot:Nat}(hb:M b=some (.cells own xs tot)):xs.length<=tot:=by
 obtain⟨c,e,fr,h1,h2,⟨ys,h3⟩,h4⟩:=h b _ hb;have:c.toList.length=xs.length+ys.length:=by rw[h3,lAp]
 rw[Array.length_toList]at this;omega
theorem pb{α:Type}{s:Sem α}{K:α->Mem->Prop}(h:(∃ w,Rep M w)->cO P s M K):cO P s M K:=fun w hw=>h ⟨w,hw⟩ w hw
theorem HA(T:Tab)(hT:bY P T)(K:VP)(t:TypeId)(x v:Value)(h:zr T t x v K M):cO P (Instr.storeAt t x v) M (fun _ M'=>K undef M'):=by
 unfold zr x8 at h;split at h
 .rename_i b o i hi;obtain⟨_,I,h1,h2,h3⟩:=hT _ _ hi;unfold Instr.storeAt Instr.sureAddr storeVar;refine ay (bG (ay (aP I.size (fun w _=>iF h1 w) ?_)));split at h
  .obtain⟨hs,h⟩:=h;rw[h3,if_neg (by omega)];unfold vSt at h;split at h
   .rename_i xs tot hM;obtain⟨⟨ha,hb,hc⟩,_,h⟩:=h;exact dT _ 0 _ xs tot hM (by omega) (by omega) hc h
   .exact h.elim
  .obtain⟨hs,h⟩:=h;unfold Sn at h;split at h
   .rename_i xs tot hM;obtain⟨⟨ha,hb⟩,h⟩:=h;have hc:=jU hb;rw[h3,hc,if_neg (by simpa using hs.symm)];refine pb fun ⟨w,hw⟩=>?_;have hle:=hw.le hM;refine dT _ 0 _ xs tot hM (by omega) (by simp;omega) (by simpa using hb) ?_;rw[<-JB xs o v ha]at h;simpa[gX] using h
   .exact h.elim
 .exact h.elim
def E0(l c:Value)(d:Option TI)(K:VP)(M:Mem):Prop:=
 match d,l,c with
 | some ⟨.slc _ 1 bytes z,_,_⟩,.int _ l,.int _ c=>dR (0<=l/\l<=c/\c<=1099511627776/\bytes<=32/\bE z=true)
   (Ib (replicate c.toNat z) (fun b=>.slice (some ⟨b,0,none⟩) l.toNat c.toNat) K M)
 | _,_,_=>False
def Gi(T:Tab)(t:TypeId)(l c:Value)(K:VP)(M:Mem):Prop:=E0 l c (T t) K M
theorem R8(T:Tab)(hT:bY P T)(K:VP)(t:TypeId)(l c:Value)(h:Gi T t l c K M):cO P (Instr.makeSlice t l c) M K:=by
 unfold Gi E0 at h;split at h
 .rename_i e bytes z _ _ k l k' c hi;obtain⟨⟨h0,h1,h2,h3,hz⟩,hk⟩:=h;obtain⟨⟨u1,I,u2,u3,u4,u5⟩,_⟩:=hT _ _ hi;unfold Instr.makeSlice;refine ay (aP _ (fun w _=>run_underlying u1 w) ?_);dsimp only;refine ay (aP l (fun w _=>by simp[asInt,asIntOf]) (ay (aP c (fun w _=>by simp[asInt,asIntOf]) ?_)));refine ay (aP I (fun w _=>lp u2 w) ?_);have wl:IntKind.i64.wrap l=l:=by simp[IntKind.wrap,IntKind.bits,IntKind.signed];omega
  have wc:IntKind.i64.wrap c=c:=by simp[IntKind.wrap,IntKind.bits,IntKind.signed];omega
  have hb:(I.bytes:Int)*c<=32*1099511627776:=by
   rw[u4];have h9:(bytes:Int)*c<=32*c:=Int.mul_le_mul_of_nonneg_right (by omega) (by omega);omega
  have hc0:(decide (c<0)||decide ((I.bytes:Int)*c>2 ^ 48))=false:=by
   simp only[Bool.or_eq_false_iff,decide_eq_false_iff_not];omega
  have hl0:decide (l<0)=false:=by simp;omega
  have hl1:decide (l>c)=false:=by simp;omega
  simp only[wl,wc,hc0,hl0,hl1,Bool.false_or,Bool.or_self,Bool.false_eq_true,if_false];refine ay (aP () (fun w _=>run_askRoom P w _) ?_);refine ay (aP I.size (fun w _=>iF u2 w) ?_);rw[u3,Nat.mul_one];by_cases hc1:c.toNat=0
  .rw[if_pos hc1];refine ay (bG ?_);have:((Array.range c.toNat).map fun i=>(#[]:Array Value)[i%(#[]:Array Value).size]!)=(replicate c.toNat z).toArray:=by rw[hc1];simp
   rw[this];exact Eu K _ e (fun a=>.slice (some a) l.toNat c.toNat) (by simpa using hk)
  .rw[if_neg hc1];refine ay (aP z (fun w _=>iP u2 u5 w) (ay (bG ?_)));rw[GW z hz];exact Eu K _ e (fun a=>.slice (some a) l.toNat c.toNat) (by simpa using hk)
 .exact h.elim
def av(l:B8):List Value:=l.map fun u=>.int .u8 u.toNat
theorem aO(l:B8):(av l).length=l.length:=by simp[av]
def isByte(d:Option TI):Bool:=
 match d with
 | some ⟨.int .u8,_,_⟩=>true
 | _=>false
def Qw(T:Tab)(s d:Option TI)(x:Value)(K:VP)(M:Mem):Prop:=
 match s,d,x with
 | some ⟨.str,_,_⟩,some ⟨.slc e 1 _ _,_,_⟩,.string x=>dR (isByte (T e)=true) (B9 (av (sl x)) K M)
 | _,_,_=>False
def Xo(T:Tab)(s d:TypeId)(x:Value)(K:VP)(M:Mem):Prop:=Qw T (T s) (T d) x K M
theorem oC{d:Option TI}(h:isByte d=true):∃ n z,d=some ⟨.int .u8,n,z⟩:=by
 unfold isByte at h;split at h
 .exact⟨_,_,rfl⟩
 .cases h
theorem KX(s old e t:Nat):s<=Question.cut (.appendCap s old e) t:=by simp[Question.cut]
theorem zn{K:Addr->Mem->Prop}{e:TypeId}(xs:List Value)(c:Nat)(z:Value)(hc:xs.length<=c)(h:∀ b,M b=none->K ⟨b,0,none⟩ (M.put b (.cells true xs c))) :
  cO P (newRow e (xs.toArray++Array.replicate (c-xs.length) z)) M K:=by
 intro w hw;obtain⟨a,w',M',h1,h2,h3,b,hb,e1,e2⟩:=lV (P:=P) (e:=e) (cells:=xs.toArray++Array.replicate (c-xs.length) z) (K:=fun a M'=>∃ b,M b=none/\a=⟨b,0,none⟩/\M'=M.put b (.cells true (xs++replicate (c-xs.length) z) c))
  (fun b hb=>⟨b,hb,rfl,by congr 2<;>simp;omega⟩) w hw
 subst e2;refine⟨a,w',_,h1,?_,?_,by rw[e1];exact h b hb⟩
 .intro i B hB;by_cases ei:i=b
  .subst ei;rw[ae]at hB;injection hB with hB;subst hB
   obtain⟨cs,e,fr,k1,k2,⟨ys,k3⟩,k4⟩:=h2 i _ (ae _ _ _);exact⟨cs,e,fr,k1,k2,⟨replicate (c-xs.length) z++ys,by rw[k3,append_assoc]⟩,k4⟩
  .refine h2 i B ?_;rw[al _ _ ei]at hB ⊢;exact hB
 .refine⟨h3.os,h3.tape,h3.output,h3.size,h3.block,fun i ⟨B,g1,g2⟩=>h3.own i ?_⟩;by_cases ei:i=b
  .subst ei;exact⟨_,ae _ _ _,rfl⟩
  .rw[al _ _ ei]at g1;exact⟨B,by rw[al _ _ ei];exact g1,g2⟩
theorem Us(T:Tab)(hT:bY P T)(K:VP)(s d:TypeId)(x:Value)(h:Xo T s d x K M):cO P (convert s d x) M K:=by
 unfold Xo Qw at h;split at h
 .rename_i e _ _ _ _ x hs hd;obtain⟨he,h⟩:=h;obtain⟨_,_,he⟩:=oC he
  .have u1:=(hT _ _ hs).1;obtain⟨u2,_⟩:=(hT _ _ hd).1;have u3:=(hT _ _ he).1;simp only[TD.ok]at u1 u3;unfold convert;refine ay (aP _ (fun w _=>run_underlying u1 w) (ay (aP _ (fun w _=>run_underlying u2 w) ?_)));dsimp only;refine ay (aP _ (fun w _=>run_underlying u3 w) ?_);dsimp only;unfold Conv.stringToBytes;refine ay (tr rfl fun t=>?_);have hx:(x.data.map fun b=>Value.int .u8 b.toNat)=(av (sl x)).toArray:=by apply Array.ext';simp[av,sl]
   have hl:x.size=(av (sl x)).length:=by simp[av,sl]
   dsimp only;rw[hx,hl];refine ay (zn _ _ _ (KX _ _ _ _) fun b hb=>?_);refine ay (pT (ae _ _ _) (bG ?_));exact h b _ hb (KX _ _ _ _)
 .exact h.elim
def xg:List Value->Option B8
 | []=>some []
 | .int .u8 n::l=>(xg l).map fun r=>UInt8.ofNat n.toNat::r
 | _=>none
theorem oX(l:B8):xg (av l)=some l:=by
 induction l with
 | nil=>rfl
 | cons u l ih=>simp only[av,map_cons]at *;simp[xg,ih]
def G3(l:Option (List Value))(K:VP)(M:Mem):Prop:=
 match l with
 | some vs=>(match xg vs with|some r=>vBd True K (str r) M|none=>False)
 | none=>False
def O6(T:Tab)(s d:Option TI)(x:Value)(K:VP)(M:Mem):Prop:=
 match s,d,x with
 | some ⟨.slc e 1 _ _,_,_⟩,some ⟨.str,_,_⟩,.slice (some ⟨b,o,none⟩) n _=>dR (isByte (T e)=true) (G3 (M.sub? b o n) K M)
 | some ⟨.slc e 1 _ _,_,_⟩,some ⟨.str,_,_⟩,.slice none _ _=>dR (isByte (T e)=true) (vBd True K (str []) M)
 | _,_,_=>False
def XV(T:Tab)(s d:TypeId)(x:Value)(K:VP)(M:Mem):Prop:=O6 T (T s) (T d) x K M
theorem C8:∀(vs:List Value) (r:B8),xg vs=some r->∃ ns:List Int,vs=ns.map (Value.int .u8)/\ns.map (fun n=>UInt8.ofNat n.toNat)=r
 | [],r,h=>by simp only[xg,Option.some.injEq]at h;subst h;exact⟨[],rfl,rfl⟩
 | v::l,r,h=>by
  unfold xg at h;split at h
  .rename_i he;cases he
  .rename_i n l' he;injection he with e1 e2
   subst e1;subst e2;obtain⟨r',h1,h2⟩:=Option.map_eq_some_iff.1 h;obtain⟨ns,h3,h4⟩:=C8 _ r' h1;exact⟨n::ns,by rw[h3];rfl,by rw[map_cons,h4,h2]⟩
  .cases h
theorem Uv(T:Tab)(hT:bY P T)(K:VP)(s d:TypeId)(x:Value)(h:XV T s d x K M):cO P (convert s d x) M K:=by
 unfold XV O6 at h;split at h
 .rename_i e _ _ _ _ _ _ b o n c hs hd;obtain⟨he,h⟩:=h;obtain⟨_,_,he⟩:=oC he
  .obtain⟨u1,_⟩:=(hT _ _ hs).1;have u2:=(hT _ _ hd).1;have u3:=(hT _ _ he).1;simp only[TD.ok]at u2 u3;unfold G3 at h;split at h
   .rename_i vs hvs;split at h
    .rename_i r hr;obtain⟨ns,h1,h2⟩:=C8 vs r hr;refine aP (str r) (fun w hw=>?_) h.2;obtain⟨g1,g2⟩:=hw.sub? hvs;have hld:(loadCells ⟨b,o,none⟩ n).run P w=.ok (ns.map (Value.int .u8)).toArray w:=by
      rw[<-g1,<-h1];exact run_loadCells_list w ⟨b,o,none⟩ vs (fun j v hv=>by rw[addr_add];exact g2 j v hv)
     have hrun:=run_bytesToString (P:=P) w ⟨b,o,none⟩ n c ns hld;have hs':(convert s d (.slice (some ⟨b,o,none⟩) n c)).run P w=(Conv.bytesToString (.slice (some ⟨b,o,none⟩) n c)).run P w:=by
      simp only[convert,Sem.run_bind,run_underlying u1,run_underlying u2,run_underlying u3,Result.andThen_ok]
     rw[hs',hrun,str,foldl_push_bytes,h2]
     congr 2
     apply ByteArray.ext;simp
    .exact h.elim
   .exact h.elim
 .rename_i hs hd;obtain⟨he,h⟩:=h;obtain⟨_,_,he⟩:=oC he
  .obtain⟨u1,_⟩:=(hT _ _ hs).1;have u2:=(hT _ _ hd).1;have u3:=(hT _ _ he).1;simp only[TD.ok]at u2 u3;refine aP (str []) (fun w hw=>?_) h.2;simp only[convert,Sem.run_bind,run_underlying u1,run_underlying u2,run_underlying u3,Result.andThen_ok,Conv.bytesToString,Sem.run_pure];rfl
 .exact h.elim
def du(M:Mem)(x:Value):Option (List Value):=
 match x with
 | .slice none 0 _=>some []
 | .slice (some ⟨b,o,none⟩) n _=>M.sub? b o n
 | .string s=>some (av (sl s))
 | _=>none
theorem RJ{K:Array Value->Mem->Prop}{x:Value}{l:List Value}(h:du M x=some l)(hk:K l.toArray M):cO P (Builtin.firstCells 1 l.length x) M K:=by
 unfold du at h;split at h
 .injection h with h;subst h
  exact bG hk
 .rename_i b o n c;unfold Builtin.firstCells;refine pb fun ⟨w,hw⟩=>?_;rw[Nat.mul_one];exact mK (by rw[(hw.sub? h).1];exact h) hk
 .rename_i s;injection h with h;subst h
  refine aP (av (sl s)).toArray (fun w _=>?_) hk;have hl:(av (sl s)).length=s.size:=by simp[av,sl]
  have hx:((s.extract 0 s.size).data.map fun b=>Value.int .u8 b.toNat)=(av (sl s)).toArray:=by
   apply Array.ext';simp[av,sl]
  simp only[Builtin.firstCells,hl,hx,Sem.run_pure]
 .cases h
theorem Vd{x:Value}{l:List Value}(h:du M x=some l)(w:World)(hw:Rep M w):(Builtin.lenOf x).run P w=.ok l.length w:=by
 unfold du at h;split at h
 .injection h with h;subst h;rfl
 .rw[(hw.sub? h).1];rfl
 .injection h with h;subst h;simp[Builtin.lenOf,av,sl]
 .cases h
def GH(bytes:Nat)(B:Option Blk)(g n c:Nat)(src:Option (List Value))(K:VP)(M:Mem):Prop:=
 match B,src with
 | some (.cells true xs tot),some news=>dR (n=xs.length/\c=tot/\(n+news.length)*bytes<=70368744177664/\∀ v∈news,bE v=true) (B9 (xs++news) K (M.del g))
 | _,_=>False
def yS(bytes:Nat)(src:Option (List Value))(K:VP)(M:Mem):Prop:=
 match src with
 | some []=>vBd True K (.slice none 0 0) M
 | some (v::vs)=>dR ((vs.length+1)*bytes<=70368744177664) (B9 (v::vs) K M)
 | none=>False
def ti(d:Option TI):Bool:=
 match d with
 | some ⟨.slc _ _ _ _,_,_⟩|some ⟨.str,_,_⟩=>true
 | _=>false
def zW(d d':Option TI)(s x:Value)(K:VP)(M:Mem):Prop:=
 match d,s with
 | some ⟨.slc _ 1 bytes z,_,_⟩,.slice none 0 0=>dR (ti d'=true/\bE z=true/\1<=bytes/\bytes<=32) (yS bytes (du M x) K M)
 | some ⟨.slc _ 1 bytes z,_,_⟩,.slice (some ⟨g,0,none⟩) n c=>dR (ti d'=true/\bE z=true/\1<=bytes/\bytes<=32) (GH bytes (M g) g n c (du M x) K M)
 | _,_=>False
def QX(T:Tab)(ts:List TypeId)(s x:Value)(K:VP)(M:Mem):Prop:=
 match ts with
 | [t,t']=>zW (T t) (T t') s x K M
 | _=>False
theorem qj{z:Value}(hz:bE z=true)(n:Nat):Builtin.zeroCells z.cells n=Array.replicate n z:=by
 rw[jU hz];unfold Builtin.zeroCells;apply Array.ext';apply ext_getElem
 .simp
 .intro i h1 h2;simp[Nat.mod_one]
theorem BW(n:Nat):∀(r c:Nat),Builtin.growBy n r c<=max c (2*n+192)
 | 0,c=>by simp only[Builtin.growBy];omega
 | r+1,c=>by
  unfold Builtin.growBy;split
  .omega
  .have ih:=BW n r (c+(c+768)/4);omega
theorem K0(need old:Nat)(h:old<need):Builtin.nextslicecap need old<=2*need+192:=by
 unfold Builtin.nextslicecap;split
 .omega
 .split
  .omega
  .have:=BW need 4 old;omega
theorem MI(T:Tab)(hT:bY P T)(K:VP)(ts:Array TypeId)(r:TypeId)(s x:Value)(h:QX T ts.toList s x K M):cO P (Builtin.append_ ts r #[s,x]) M K:=by
 unfold QX at h;split at h
 .rename_i t t' hts;have hts':ts = #[t,t']:=by apply Array.ext';exact hts
  subst hts';have happ:=h;clear h;have main:∀ {e:TypeId} {bytes:Nat} {z:Value} {sz:Nat} {zz:Value},T t=some ⟨.slc e 1 bytes z,sz,zz⟩->ti (T t')=true/\bE z=true/\1<=bytes/\bytes<=32 ->
    (s=.slice none 0 0/\yS bytes (du M x) K M\/∃ g n c,s=.slice (some ⟨g,0,none⟩) n c/\GH bytes (M g) g n c (du M x) K M)->cO P (Builtin.append_ #[t,t'] r #[s,x]) M K:=by
   rintro e bytes z _ _ hi ⟨hok,hz,hb1,hb⟩ h
   obtain⟨⟨u1,I,u2,u3,u4,u5⟩,_⟩:=hT _ _ hi;have hx:∃ d,P.underlying t'=some d/\(match d with|.int _=>true|_=>false)=false:=by
    unfold ti at hok;split at hok
    .rename_i h';obtain⟨h',_⟩:=(hT _ _ h').1;exact⟨_,h',rfl⟩
    .rename_i h';have h':=(hT _ _ h').1;simp only[TD.ok]at h';exact⟨_,h',rfl⟩
    .cases hok
   obtain⟨d,hd1,hd2⟩:=hx;have key:∀(base:Option Addr) (sLen sCap:Nat) (old news:List Value),s=.slice base sLen sCap->du M x=some news->old.length=sLen->(sLen+news.length)*bytes<=70368744177664 ->
     (∀(w:World),Rep M w->(Builtin.firstCells 1 sLen s).run P w=.ok old.toArray w) ->
     (sLen+news.length<=sCap->cO P (match base with|some a=>(do storeCells (a.add (sLen*1)) news;pure (Value.slice base (sLen+news.length) sCap):Sem Value)|none=>pure (Value.slice base (sLen+news.length) sCap)) M K) ->
     (sCap<sLen+news.length->∀ b c,M b=none->sLen+news.length<=c->∃ M1,Sub M1 (M.put b (.cells true (old++news) c))/\K (.slice (some ⟨b,0,none⟩) (sLen+news.length) c) M1)->cO P (Builtin.append_ #[t,t'] r #[s,x]) M K:=by
    intro base sLen sCap old news hs hsrc hlen hbd hold hin hout;subst hs;unfold Builtin.append_;dsimp only[getElem?_toArray];refine ay (aP _ (fun w _=>run_underlying u1 w) ?_);dsimp only;refine ay (aP _ (fun w _=>iF u2 w) ?_);rw[u3];refine ay (aP d (fun w _=>run_underlying hd1 w) ?_);refine ay (aP false (fun w _=>by cases d<;>first|rfl|cases hd2) ?_);simp only[Bool.false_eq_true,if_false,false_or];refine ay (aP news.length (fun w hw=>Vd hsrc w hw) ?_);split
    .rename_i hle;refine ay ?_;simp only[Bool.not_false,if_true];refine RJ hsrc ?_;have:=hin hle;cases base with
     | none=>exact this
     | some a=>exact this
    .rename_i hgt;have hgt':sCap<sLen+news.length:=by omega
     have hI0:¬ I.bytes=0:=by omega
     refine ay (aP I (fun w _=>lp u2 w) ?_);rw[if_neg (fun h=>hI0 h.2)];refine ay (aP I (fun w _=>lp u2 w) ?_);have hcap:=K0 _ _ hgt';have hcb:¬ Builtin.nextslicecap (sLen+news.length) sCap*I.bytes>2 ^ 48:=by
      rw[u4];have h9:=Nat.mul_le_mul_right bytes hcap;rw[Nat.add_mul,Nat.mul_assoc]at h9;omega
     rw[if_neg hcb];refine ay (tr rfl fun tt=>?_);have hge:=KX (sLen+news.length) sCap e tt;generalize Question.cut (.appendCap (sLen+news.length) sCap e) tt=cc at hge ⊢;refine ay (aP I (fun w _=>lp u2 w) ?_);refine ay (aP () (fun w _=>run_askRoom P w _) ?_);refine ay (aP old.toArray (fun w hw=>hold w hw) ?_);simp only[Bool.not_false,if_true];refine ay (RJ hsrc ?_);refine ay (aP z (fun w _=>iP u2 u5 w) ?_);rw[qj hz];have hl:(old++news).length=sLen+news.length:=by rw[lAp,hlen]
     have:=zn (P:=P) (M:=M) (e:=e) (K:=fun a M'=>∃ M1,Sub M1 M'/\K (.slice (some a) (sLen+news.length) cc) M1) (old++news) cc z (by omega) (fun b hb=>hout hgt' b cc hb hge);rw[hl]at this;refine ay ?_;have e1:old.toArray++news.toArray++Array.replicate (cc-(sLen+news.length)) z=(old++news).toArray++Array.replicate (cc-(sLen+news.length)) z:=by simp
     rw[e1];intro w hw;obtain⟨a,w',M',h1,h2,h3,M1,h4,h5⟩:=this w hw;exact⟨a,w',M1,h1,h2.sub h4,h3.sub h4,bG h5⟩
   clear happ;rcases h with ⟨hs,h⟩|⟨g,n,c,hs,h⟩
   .subst hs;unfold yS at h;split at h
    .rename_i hsrc;exact key none 0 0 [] [] rfl hsrc rfl (by simp) (fun w _=>rfl) (fun _=>bG h.2) (fun h=>by simp at h)
    .rename_i v vs hsrc;exact key none 0 0 [] (v::vs) rfl hsrc rfl (by simpa using h.1) (fun w _=>rfl) (fun h=>by simp at h) (fun _ b c hb hc=>⟨_,Sub.refl _,by have:=h.2 b c hb (by simpa using hc);simpa using this⟩)
    .exact h.elim
   .subst hs;unfold GH at h;split at h
    .rename_i xs tot news hM hsrc;obtain⟨⟨e1,e2,hbd,hfl⟩,hk⟩:=h;subst e1;subst e2;refine pb fun ⟨w0,hw0⟩=>?_;have hle:=hw0.le hM;have hsub:M.sub? g 0 xs.length=some xs:=by simp[Mem.sub?,hM]
     have hfc:∀ w,Rep M w->(Builtin.firstCells 1 xs.length (.slice (some ⟨g,0,none⟩) xs.length c)).run P w=.ok xs.toArray w:=by
      intro w hw;obtain⟨g1,g2⟩:=hw.sub? hsub;have:=run_loadCells_list (P:=P) w ⟨g,0,none⟩ xs (fun j v hv=>by rw[addr_add];exact g2 j v hv);unfold Builtin.firstCells;rw[Nat.mul_one];exact this
     refine key (some ⟨g,0,none⟩) xs.length c xs news rfl hsrc rfl hbd hfc (fun hin=>?_) (fun hout b c' hb hc=>?_)
     .dsimp only;rw[addr_add,Nat.mul_one,Nat.zero_add];refine ay (dT news 0 M xs c hM (by omega) (by omega) hfl ?_);refine bG ?_;have:=hk g c (by simp[Mem.del]) (by rw[lAp];omega);have e3:(M.del g).put g (.cells true (xs++news) c)=M.set g (.cells true (xs.take (xs.length+0)++news++xs.drop (xs.length+0+news.length)) c):=by
       funext i
       simp only[Mem.set,Mem.put,Mem.del];split
       .congr 2
        rw[Nat.add_zero,take_length,drop_eq_nil_of_le (by omega),append_nil]
       .rfl
      rw[e3]at this;rw[lAp]at this;exact this
     .have hsd:Sub (M.del g) M:=by
       intro i B hB;unfold Mem.del at hB;split at hB
       .cases hB
       .exact hB
      have:=hk b c' (by unfold Mem.del;split<;>first|rfl|exact hb) (by rw[lAp];exact hc);rw[lAp]at this;exact⟨_,hsd.both b _,this⟩
    .exact h.elim
  unfold zW at happ;split at happ
  .rename_i hd;exact main hd happ.1 (.inl ⟨rfl,happ.2⟩)
  .rename_i hd;exact main hd happ.1 (.inr ⟨_,_,_,rfl,happ.2⟩)
  .exact happ.elim
 .exact h.elim
def Mu(B:Option Blk)(b o n:Nat)(z:Value)(K:VP)(M:Mem):Prop:=match B with
 | some (.cells true xs tot)=>vBd (o+n<=xs.length/\bE z=true) K (.tuple #[]) (M.set b (.cells true (xs.take o++replicate n z++xs.drop (o+n)) tot))
 | _=>False
def QK(d:Option TI)(x:Value)(K:VP)(M:Mem):Prop:=
 match d,x with
 | some ⟨.slc _ 1 _ _,_,_⟩,.slice none _ _=>K (.tuple #[]) M
 | some ⟨.slc _ 1 _ _,_,_⟩,.slice (some _) 0 _=>K (.tuple #[]) M
 | some ⟨.slc _ 1 _ z,_,_⟩,.slice (some ⟨b,o,none⟩) (n+1) _=>Mu (M b) b o (n+1) z K M
 | _,_=>False
def Qz(T:Tab)(t:TypeId)(x:Value)(K:VP)(M:Mem):Prop:=QK (T t) x K M
theorem RO(T:Tab)(hT:bY P T)(K:VP)(t r:TypeId)(x:Value)(h:Qz T t x K M):cO P (Builtin.clear_ #[t] r #[x]) M K:=by
 unfold Qz QK at h;split at h
 .rename_i hi;obtain⟨⟨u1,I,u2,u3,u4,u5⟩,_⟩:=hT _ _ hi;unfold Builtin.clear_;refine ay (aP _ (fun w _=>run_underlying u1 w) ?_);exact ay (bG (bG h))
 .rename_i hi;obtain⟨⟨u1,I,u2,u3,u4,u5⟩,_⟩:=hT _ _ hi;unfold Builtin.clear_;refine ay (aP _ (fun w _=>run_underlying u1 w) ?_);exact ay (bG (bG h))
 .rename_i e bytes z _ _ b o n c hi;obtain⟨⟨u1,I,u2,u3,u4,u5⟩,_⟩:=hT _ _ hi;unfold Mu at h;split at h
  .rename_i xs tot hM;obtain⟨⟨h1,hz⟩,hk⟩:=h;unfold Builtin.clear_;refine ay (aP _ (fun w _=>run_underlying u1 w) ?_);refine ay (aP z (fun w _=>iP u2 u5 w) ?_);rw[qj hz];refine pb fun ⟨w,hw⟩=>?_;have hle:=hw.le hM;refine ay ?_;refine dT _ 0 _ xs tot hM (by omega) (by simp;omega) (fun v hv=>by
    have:v=z:=by simpa using hv
    rw[this];exact hz) ?_
   refine bG ?_;simpa using hk
  .exact h.elim
 .exact h.elim
end
def gO(fs:Nat->Option (Nat×Nat)):List Value->List (Nat×Value)->Option (List Value)
 | cells,[]=>some cells
 | cells,(i,v)::rest=>match fs i with
  | some (off,sz)=>if v.cells.size=sz/\off+sz<=cells.length then gO fs (gX cells off v.cells.toList) rest else none
  | none=>none
def qV:Option (List Value)->Out
 | some l=>.ok (.agg l.toArray)
 | none=>.no
def yM(parts:List (Nat×Value))(d:Option TI):Out:=
 match d with
 | some ⟨.strct fs,_,z⟩=>qV (gO (fun i=>(fs[i]?).map fun x=>(x.1,x.2.1)) z.cells.toList parts)
 | some ⟨.arr _ sz _,_,z⟩=>qV (gO (fun i=>some (i*sz,sz)) z.cells.toList parts)
 | _=>.no
def AA(T:Tab)(t:TypeId)(parts:List (Nat×Value)):Out:=yM parts (T t)
theorem CT:∀(vs:List Value) (k off:Nat) (cells:Array Value),off+k+vs.length<=cells.size ->
  (vs.zipIdx k).foldl (fun (cs:Array Value) (x:Value×Nat)=>cs.setIfInBounds (off+x.2) x.1) cells=(gX cells.toList (off+k) vs).toArray
 | [],k,off,cells,h=>by simp[gX]
 | v::vs,k,off,cells,h=>by
  rw[lCo]at h;have ih:=CT vs (k+1) off (cells.setIfInBounds (off+k) v) (by simp;omega);rw[zipIdx_cons,foldl_cons,ih]
  congr 1
  unfold gX;rw[Array.toList_setIfInBounds,set_eq_take_append_cons_drop,if_pos (by simp;omega)];have hk:off+k<=cells.toList.length:=by simp;omega
  have hp:∀ p (L:List Value),p<=L.length->(L.take p++v::L.drop (p+1)).take (p+1)=L.take p++[v]/\(L.take p++v::L.drop (p+1)).drop (p+1+vs.length)=L.drop (p+(vs.length+1)):=by
   intro p L hL;constructor
   .rw[take_append,take_of_length_le (by rw[lTa];omega),lTa,Nat.min_eq_left hL,show p+1-p=1 by omega];simp
   .rw[drop_append,drop_eq_nil_of_le (by rw[lTa];omega),lTa,Nat.min_eq_left hL,show p+1+vs.length-p=vs.length+1 by omega];simp[Nat.add_comm,Nat.add_left_comm]
  obtain⟨h1,h2⟩:=hp (off+k) cells.toList hk;rw[show off+(k+1)=off+k+1 by omega,h1,h2];simp
theorem nH(place:Nat->Option (Nat×Nat)):∀(parts:List (Nat×Value)) (cells:Array Value) (l:List Value),gO place cells.toList parts=some l->Instr.fill place cells parts=some l.toArray
 | [],cells,l,h=>by simp only[gO,Option.some.injEq]at h;subst h;simp[Instr.fill]
 | (i,v)::rest,cells,l,h=>by
  unfold gO at h;unfold Instr.fill;cases hp:place i with
  | none=>rw[hp]at h;cases h
  | some x=>
   obtain⟨off,sz⟩:=x;rw[hp]at h;dsimp only at h ⊢;split at h
   .rename_i hc;obtain⟨h1,h2⟩:=hc;rw[Array.length_toList]at h2;rw[if_neg (by simp;omega)];have hz:(v.cells.zipIdx).foldl (fun (cs:Array Value) (x:Value×Nat)=>cs.setIfInBounds (off+x.2) x.1) cells=(gX cells.toList off v.cells.toList).toArray:=by
     have:=CT v.cells.toList 0 off cells (by simp;omega);rw[<-Array.foldl_toList,Array.toList_zipIdx];simpa using this
    exact(congrArg (fun c=>Instr.fill place c rest) hz).trans (nH place rest _ l h)
   .cases h
section
variable {P:Program} {M:Mem}
theorem Rw(T:Tab)(hT:bY P T)(t:TypeId)(parts:Array (Nat×Value)):(AA T t parts.toList).Is P (Instr.build t parts):=by
 unfold AA yM;split
 .rename_i fs sz z hi;obtain⟨⟨F,h1,h2,h3⟩,I,h4,h5,h6⟩:=hT _ _ hi;unfold qV;split
  .rename_i l hl;intro w;have hm:∀(L:List Field),(∀ f∈L,(P.info? f.type).isSome=true)->(L.mapM (fun f=>(do pure (f.offset,<-sizeOf f.type):Sem (Nat×Nat)))).run P w=.ok (L.map fun f=>(f.offset,P.cellsOf f.type)) w:=by
    intro L
    induction L with
    | nil=>intro _;rfl
    | cons f L ih=>
     intro hL;obtain⟨J,hJ⟩:=Option.isSome_iff_exists.1 (hL f (by simp));simp only[mapM_cons,Sem.run_bind,iF hJ,Result.andThen_ok,Sem.run_pure,ih (fun g hg=>hL g (by simp[hg])),map_cons];simp[Program.cellsOf,hJ]
   have hma:(F.mapM (fun f=>(do pure (f.offset,<-sizeOf f.type):Sem (Nat×Nat)))).run P w=.ok (F.toList.map fun f=>(f.offset,P.cellsOf f.type)).toArray w:=by
    rw[Array.mapM_eq_mapM_toList];simp only[Sem.run_map,hm F.toList (fun f hf=>(h3 f hf).1),Result.andThen_ok]
   have hfill:=nH (fun i=>((F.toList.map fun f=>(f.offset,P.cellsOf f.type)).toArray)[i]?) parts.toList z.cells l (by
    rw[<-hl]
    congr 1
    funext i
    rw[<-h2];simp only[getElem?_toArray,getElem?_map,Option.map_map];rfl)
   unfold Instr.build;simp only[Sem.run_bind,iP h4 h5,Result.andThen_ok,run_underlying h1,hma,hfill,Sem.run_pure]
  .trivial
 .rename_i n sz g sz' z hi;obtain⟨⟨e,h1,⟨J,h2,h3⟩,_⟩,I,h4,h5,h6⟩:=hT _ _ hi;unfold qV;split
  .rename_i l hl;intro w;have hfill:=nH (fun i=>some (i*sz,sz)) parts.toList z.cells l hl;unfold Instr.build;simp only[Sem.run_bind,iP h4 h5,Result.andThen_ok,run_underlying h1,iF h2,h3,hfill,Sem.run_pure]
  .trivial
 .trivial
def nO(T:Tab)(s d:Option TI)(x:Value)(K:VP)(M:Mem):Prop:=
 match s,d with
 | some ⟨.str,_,_⟩,some ⟨.slc _ _ _ _,_,_⟩=>Qw T s d x K M
 | some ⟨.slc _ _ _ _,_,_⟩,some ⟨.str,_,_⟩=>O6 T s d x K M
 | _,_=>vR (yg x s d) K M
def Mc(T:Tab)(s d:TypeId)(x:Value)(K:VP)(M:Mem):Prop:=nO T (T s) (T d) x K M
def fO(P:Program)(f:Value)(args:List Value)(K:VP)(M:Mem):Prop:=
 match f with
 | .func (.func g) first cap=>ar P g (first.toList++args++cap.toList) M K
 | _=>False
def yD(T:Tab)(b:Builtin)(ts:List TypeId)(args:List Value)(K:VP)(M:Mem):Prop:=
 match b,ts,args with
 | .len,[t],[x]=>vR (ES T t x) K M
 | .append,ts,[s,x]=>QX T ts s x K M
 | .min,_,l=>vR (FD l) K M
 | .max,_,l=>vR (Gq l) K M
 | .clear,[t],[x]=>Qz T t x K M
 | _,_,_=>False
def ff(P:Program)(T:Tab)(o:Op)(env:Env)(b:Builtin)(ts:List TypeId)(args:List Value)(K:VP)(M:Mem):Prop:=
 match b,args with
 | .len,[.map _]=>jV P o env M K
 | b,args=>yD T b ts args K M
def vOp(P:Program)(T:Tab)(o:Op)(env:Env)(K:VP)(M:Mem):Prop:=
 match o with
 | .move x|.assign x=>K (ev env x) M
 | .pick c a b=>vR (Cu (ev env c) (ev env a) (ev env b)) K M
 | .alloc e=>yQ T e K M
 | .box _ x=>HQ (ev env x) K M
 | .build t ps=>vR (AA T t (ps.toList.map fun p=>(p.1,ev env p.2))) K M
 | .buildSlice t n ps=>uf T t n (ps.toList.map fun p=>(p.1,ev env p.2)) K M
 | .load t x=>Ix T t (ev env x) K M
 | .store t x v=>zr T t (ev env x) (ev env v) K M
 | .nilCheck x=>vR (Kd (ev env x)) K M
 | .binOp op t x y _=>vR (oa T op t (isLit y) (ev env x) (ev env y)) K M
 | .unOp op _ x=>vR (unR op (ev env x)) K M
 | .convert s d x=>Mc T s d (ev env x) K M
 | .makeInterface t x=>vR (Kz T t (ev env x)) K M
 | .makeFunc fn a b=>K (.func fn (a.toList.map (ev env)).toArray (b.toList.map (ev env)).toArray) M
 | .makeSlice t l c=>Gi T t (ev env l) (ev env c) K M
 | .slice t x lo hi mx=>vR (uB T t (ev env x) (lo.map (ev env)) (hi.map (ev env)) (mx.map (ev env))) K M
 | .fieldAddr t x f=>vR (gV T t (ev env x) f) K M
 | .field t x f=>vR (Fa T t (ev env x) f) K M
 | .indexAddr t x i=>vR (lP T t (ev env x) (ev env i)) K M
 | .index t x i=>vR (MP T t (ev env x) (ev env i)) K M
 | .extract x i=>vR (Ku (ev env x) i) K M
 | .call ⟨.value f,args,_⟩=>fO P (ev env f) (args.toList.map (ev env)) K M
 | .call ⟨.builtin b,args,ts⟩=>ff P T (.call ⟨.builtin b,args,ts⟩) env b ts.toList (args.toList.map (ev env)) K M
 | o=>jV P o env M K
end
section
variable {P:Program} {env:Env} {M:Mem} {K:VP}
theorem cg{o:Op}(s:Oper->Sem Value)(hx:∀ o',o'.op=o->execOp (ev env) o'=(do pure (Next.value (<-s o'))))(h:∀ o',cO P (s o') M K):jV P o env M K:=by
 refine zM fun w o' hr e=>?_;obtain⟨v,w',M',h1,h2,h3,h4⟩:=h o' w hr;exact⟨v,w',M',by rw[hx o' e,Sem.run_bind,h1];rfl,h2,h3,h4⟩
theorem cE{r:Out}{s:Sem Value}(hi:r.Is P s)(h:vR r K M):cO P s M K:=by
 cases r with
 | ok v=>exact aP v (fun w _=>hi w) h
 | need p v=>exact aP v (fun w _=>hi h.1 w) h.2
 | no=>exact h.elim
theorem zk{T:Tab}{op:BinOp}{t:TypeId}{x y:Operand}{a b:Value}(h:cY T op t a b≠.no)(w:World):(eqGuard op t x y a b).run P w=.ok () w:=by
 cases op<;>(first|rfl|skip)
 all_goals cases a<;>cases b<;>(first|rfl|(exact absurd rfl h))
theorem nF{T:Tab}{op:BinOp}{t:TypeId}{x y:Operand}{a b:Value}(h:oa T op t (isLit y) a b≠.no)(w:World):(eqGuard op t x y a b).run P w=.ok () w:=by
 unfold oa at h;split at h
 .split at h
  .rename_i hy;cases y with
   | const v=>cases op<;>(first|rfl|(unfold eqGuard;simp))
   | tmp n=>cases hy
   | global g=>cases hy
   | func f=>cases hy
  .exact zk h w
 .exact zk h w
theorem qD(T:Tab)(hT:bY P T)(o:Op)(h:vOp P T o env K M):jV P o env M K:=by
 unfold vOp at h;split at h
 case h_1=>exact pn _ (fun w o' e=>by simp only[execOp,e];rfl) h
 case h_2=>exact pn _ (fun w o' e=>by simp only[execOp,e];rfl) h
 case h_3 c a b=>exact cg (fun _=>do pure (if <-asBool (ev env c) then ev env a else ev env b)) (fun o' e=>by simp only[execOp,e];simp) fun _=>cE (Mg P _ _ _) h
 case h_4 e0=>exact cg (fun _=>Instr.alloc e0 true (.tuple #[])) (fun o' e=>by simp only[execOp,e]) fun _=>Rg T hT K _ _ h
 case h_5 e0 x=>exact cg (fun _=>Instr.box e0 (ev env x)) (fun o' e=>by simp only[execOp,e]) fun _=>RI K _ _ h
 case h_6 t ps=>exact cg (fun _=>Instr.build t (ps.map fun p=>(p.1,ev env p.2))) (fun o' e=>by simp only[execOp,e]) fun _=>cE (Rw T hT t _) (by simpa using h)
 case h_7 t n ps=>exact cg (fun _=>Instr.buildSlice t n (ps.map fun p=>(p.1,ev env p.2))) (fun o' e=>by simp only[execOp,e]) fun _=>MF T hT K t n _ (by simpa using h)
 case h_8=>exact cg (fun _=>_) (fun o' e=>by simp only[execOp,e]) fun _=>SM T hT K _ _ h
 case h_9 t x v=>
  refine BT fun w o' hr e=>?_;obtain⟨_,w',M',h1,h2,h3,h4⟩:=HA T hT K t (ev env x) (ev env v) h w hr;exact⟨w',M',by simp only[execOp,e,Sem.run_bind,h1,Result.andThen_ok,Sem.run_pure],h2,h3,h4⟩
 case h_10 x=>
  unfold Kd at h;split at h
  all_goals first
   | (rename_i hx;exact pn _ (fun w o' e=>by simp only[execOp,e,hx];rfl) h)
   | exact h.elim
 case h_11 op t x y t'=>
  have hne:oa T op t (isLit y) (ev env x) (ev env y)≠.no:=by intro e;rw[e]at h;exact h
  refine cg (fun _=>do eqGuard op t x y (ev env x) (ev env y);binOp op t (ev env x) (ev env y)) (fun o' e=>by simp only[execOp,e]) fun _=>?_;exact ay (aP () (fun w _=>nF hne w) (cE (L4 P T hT op t _ _ _) h))
 case h_12=>exact cg (fun _=>_) (fun o' e=>by simp only[execOp,e]) fun _=>cE (TA P _ _) h
 case h_13 s d x=>
  refine cg (fun _=>convert s d (ev env x)) (fun o' e=>by simp only[execOp,e]) fun _=>?_;unfold Mc nO at h;split at h
  .exact Us T hT K _ _ _ h
  .exact Uv T hT K _ _ _ h
  .exact cE (Li P T hT _ _ _) h
 case h_14=>exact cg (fun _=>_) (fun o' e=>by simp only[execOp,e]) fun _=>cE (O0 P T hT _ _) h
 case h_15 fn a b=>exact pn _ (fun w o' e=>by simp only[execOp,e];simp only[Instr.makeFunc,Sem.run_bind,Sem.run_pure,Result.andThen_ok];congr 3<;>(apply Array.ext';simp)) h
 case h_16=>exact cg (fun _=>_) (fun o' e=>by simp only[execOp,e]) fun _=>R8 T hT K _ _ _ h
 case h_17=>exact cg (fun _=>_) (fun o' e=>by simp only[execOp,e]) fun _=>cE (GB P T hT _ _ _ _ _) h
 case h_18=>exact cg (fun _=>_) (fun o' e=>by simp only[execOp,e]) fun _=>cE (uo P T hT _ _ _) h
 case h_19=>exact cg (fun _=>_) (fun o' e=>by simp only[execOp,e]) fun _=>cE (Hq P T hT _ _ _) h
 case h_20=>exact cg (fun _=>_) (fun o' e=>by simp only[execOp,e]) fun _=>cE (AL P T hT _ _ _) h
 case h_21=>exact cg (fun _=>_) (fun o' e=>by simp only[execOp,e]) fun _=>cE (P9 P T hT _ _ _) h
 case h_22=>exact cg (fun _=>_) (fun o' e=>by simp only[execOp,e]) fun _=>cE (Pk P _ _) h
 case h_23 f args ts=>
  unfold fO at h;split at h
  .rename_i g first cap hf
   obtain⟨fn,h1,h2,h3⟩:=h.1;refine KL g _ (fun w o' e=>?_) h;simp only[execOp,e,resolve,hf,Deferred.ofValue,Sem.run_bind,Sem.run_pure,Result.andThen_ok,invoke,callFunc,run_program,h1,h2,h3,Bool.false_eq_true,if_false]
   congr 2
   apply Array.ext';simp
  .exact h.elim
 case h_24 b args ts=>
  replace h:jV P (.call ⟨.builtin b,args,ts⟩) env M K\/yD T b ts.toList (args.toList.map (ev env)) K M:=by
   unfold ff at h;split at h
   .exact .inl h
   .exact .inr h
  rcases h with h|h
  .exact h
  unfold yD at h;split at h
  .rename_i t x ht hx;have e1:ts = #[t]:=Array.ext' ht;have e2:args.map (ev env) = #[x]:=Array.ext' (by simpa using hx);refine cg (fun o'=>Builtin.len_ #[t] o'.type #[x]) (fun o' e=>?_) fun o'=>cE (Rv P T hT t o'.type x) h;simp only[execOp,e,resolve,invoke,builtin,e1,e2];rfl
  .rename_i s x hx;have e2:args.map (ev env) = #[s,x]:=Array.ext' (by simpa using hx);refine cg (fun o'=>Builtin.append_ ts o'.type #[s,x]) (fun o' e=>?_) fun o'=>MI T hT K ts o'.type s x h;simp only[execOp,e,resolve,invoke,builtin,e2];rfl
  .rename_i l hx;have e2:args.map (ev env)=(args.toList.map (ev env)).toArray:=by apply Array.ext';simp
   refine cg (fun o'=>Builtin.min_ ts o'.type (args.toList.map (ev env)).toArray) (fun o' e=>?_) fun o'=>cE (PE P ts o'.type _) h;simp only[execOp,e,resolve,invoke,builtin,e2];rfl
  .rename_i l hx;have e2:args.map (ev env)=(args.toList.map (ev env)).toArray:=by apply Array.ext';simp
   refine cg (fun o'=>Builtin.max_ ts o'.type (args.toList.map (ev env)).toArray) (fun o' e=>?_) fun o'=>cE (Rr P ts o'.type _) h;simp only[execOp,e,resolve,invoke,builtin,e2];rfl
  .rename_i t x ht hx;have e1:ts = #[t]:=Array.ext' ht;have e2:args.map (ev env) = #[x]:=Array.ext' (by simpa using hx);refine cg (fun o'=>Builtin.clear_ #[t] o'.type #[x]) (fun o' e=>?_) fun o'=>RO T hT K t o'.type x h;simp only[execOp,e,resolve,invoke,builtin,e1,e2];rfl
  .exact h.elim
 case h_25=>exact h
end
def Kt(rest:Env->Mem->Prop)(env:Env)(d:Option Tmp):VP:=fun v M=>rest (put env d v) M
def vGd(y:Option Bool)(b:Bool)(A B:Env->Mem->Prop)(env:Env)(M:Mem):Prop:=(y=some b->A env M)/\(y≠some b->B env M)
def gA(P:Program)(T:Tab)(o:Op)(d:Option Tmp)(rest:Env->Mem->Prop):Env->Mem->Prop:=fun env M=>vOp P T o env (Kt rest env d) M
def gB(d:Option Tmp)(rest:Env->Mem->Prop):Env->Mem->Prop:=fun env M=>rest (put env d undef) M
def ly(P:Program)(T:Tab)(ops:List Oper)(Q:Exit->Env->Mem->Prop):List Oper->Env->Mem->Prop
 | [],env,M=>Q .normal env M
 | o::rest,env,M=>match o.guard with
  | none=>vOp P T o.op env (Kt (ly P T ops Q rest) env o.dst) M
  | some (j,b)=>vGd (yE ops env j) b (gA P T o.op o.dst (ly P T ops Q rest)) (gB o.dst (ly P T ops Q rest)) env M
def kP(n:Nat)(o:Oper):Bool:=
 match o.dst with
 | some d=>Nat.blt d n
 | none=>true
theorem cF{n:Nat}{o:Oper}(h:kP n o=true):∀ t,o.dst=some t->t<n:=by
 intro t ht;unfold kP at h;rw[ht]at h;simpa[Nat.blt_eq] using h
theorem xM(P:Program)(T:Tab)(hT:bY P T)(n:Nat)(ops:List Oper)(Q:Exit->Env->Mem->Prop):∀(l:List Oper) (env:Env) (M:Mem),l.all (kP n)=true->ly P T ops Q l env M->rM P n ops Q l env M
 | [],env,M,_,h=>NU h
 | o::rest,env,M,hd,h=>by
  simp only[all_cons,bAn]at hd;unfold ly at h;split at h
  .rename_i hg;exact Iu hg (cF hd.1) ((qD T hT o.op h).mono fun v M' h'=>xM P T hT n ops Q rest _ _ hd.2 h')
  .rename_i j b hg;by_cases hy:yE ops env j=some b
   .exact Hk hg hy (cF hd.1) ((qD T hT o.op (h.1 hy)).mono fun v M' h'=>xM P T hT n ops Q rest _ _ hd.2 h')
   .exact Er hg hy (cF hd.1) (xM P T hT n ops Q rest _ _ hd.2 (h.2 hy))
def eu(n:Nat):Code->Bool
 | .region _ ops _=>ops.toList.all (kP n)
 | .seq a b=>eu n a&&eu n b
 | .cond _ a b=>eu n a&&eu n b
 | .block _ c=>eu n c
 | .loop c=>eu n c
 | _=>true
def vIf(v:Value)(A B:Env->Mem->Prop)(env:Env)(M:Mem):Prop:=
 match v with
 | .bool t=>(t=true->A env M)/\(t=false->B env M)
 | _=>False
def vc(P:Program)(T:Tab)(n:Nat):Code->(Exit->Env->Mem->Prop)->Env->Mem->Prop
 | .skip,Q,env,M=>Q .normal env M
 | .region _ ops false,Q,env,M=>ly P T ops.toList Q ops.toList env M
 | .region id ops true,Q,env,M=>cK P n (.region id ops true) Q env M
 | .seq a b,Q,env,M=>vc P T n a (mR (vc P T n b Q) Q) env M
 | .cond c a b,Q,env,M=>vIf (ev env c) (vc P T n a Q) (vc P T n b Q) env M
 | .block id c,Q,env,M=>vc P T n c (tD id Q) env M
 | .loop c,Q,env,M=>cK P n (.loop c) Q env M
 | .ret,Q,env,M=>Q .ret env M
 | .exit id,Q,env,M=>Q (.exit id) env M
 | _,_,_,_=>False
theorem Ty(P:Program)(T:Tab)(hT:bY P T)(n:Nat):∀(c:Code) (Q:Exit->Env->Mem->Prop) (env:Env) (M:Mem),eu n c=true->vc P T n c Q env M->cK P n c Q env M:=by
 intro c
 induction c with
 | skip=>exact fun Q env M _ h=>Iq h
 | region id ops d=>
  intro Q env M hd h;cases d with
  | false=>exact Bm (xM P T hT n ops.toList Q _ _ _ hd h)
  | true=>exact h
 | seq a b iha ihb=>
  intro Q env M hd h;simp only[eu,bAn]at hd;refine I6 ((iha _ _ _ hd.1 h).mono fun e env' M' h'=>?_);cases e<;>first|exact ihb _ _ _ hd.2 h'|exact h'
 | cond c a b iha ihb=>
  intro Q env M hd h;simp only[eu,bAn]at hd;unfold vc vIf at h;split at h
  .rename_i t ht;exact Hr ht (fun e=>iha _ _ _ hd.1 (h.1 e)) (fun e=>ihb _ _ _ hd.2 (h.2 e))
  .exact h.elim
 | block id c ih=>exact fun Q env M hd h=>EL (ih _ _ _ hd h)
 | loop c ih=>exact fun Q env M _ h=>h
 | ret=>exact fun Q env M _ h=>Jg h
 | exit id=>exact fun Q env M _ h=>IE h
 | _=>exact fun Q env M _ h=>h.elim
def oM(args:List Value):Env:=fun t=>args.getD t undef
def Ar(T:Tab)(env:Env)(M:Mem):ResultVar->Option Value
 | .tmp t=>some (env t)
 | .cell a t=>match env a,T t with
  | .pointer (some ⟨b,o,none⟩),some i=>if i.d.agg then (M.sub? b o i.size).map (fun l=>.agg l.toArray) else M.get? b o
  | _,_=>none
def dA(T:Tab)(env:Env)(M:Mem):List ResultVar->Option (List Value)
 | []=>some []
 | r::rs=>match Ar T env M r,dA T env M rs with
  | some v,some vs=>some (v::vs)
  | _,_=>none
def IK:List Value->Value
 | [v]=>v
 | vs=>.tuple vs.toArray
def QE(R:VP)(v:Value)(M:Mem):Prop:=∃ M1,Sub M1 M/\R v M1
def oN(l:Option (List Value))(R:VP)(M:Mem):Prop:=
 match l with
 | some vs=>QE R (IK vs) M
 | none=>False
def Cg(T:Tab)(rs:List ResultVar)(R:VP):Exit->Env->Mem->Prop
 | .normal,env,M=>oN (dA T env M rs) R M
 | .ret,env,M=>oN (dA T env M rs) R M
 | _,_,_=>False
section
variable {P:Program} {T:Tab} {M:Mem}
def An(tmps:Array Value):ResultVar->Sem Value
 | .tmp t=>pure (tmps.getD t undef)
 | .cell a t=>do loadVar t (<-asAddr (tmps.getD a undef))
theorem JV(fn:Func)(tmps:Array Value):results fn tmps=(do let vs <-fn.results.mapM (An tmps);pure (if h:vs.size=1 then vs[0] else .tuple vs)):=by
 unfold results
 congr 1
theorem wU(hT:bY P T){t:TypeId}{i:TI}(hi:T t=some i){w:World}(hw:Rep M w){b o:Nat}{v:Value}(h:(if i.d.agg then (M.sub? b o i.size).map (fun l=>Value.agg l.toArray) else M.get? b o)=some v) :
  (loadVar t ⟨b,o,none⟩).run P w=.ok v w:=by
 obtain⟨_,I,h1,h2,h3⟩:=hT _ _ hi;unfold loadVar;rw[Sem.run_bind,GV T hT hi,Result.andThen_ok];split at h
 .rename_i hg;rw[if_pos hg];obtain⟨l,hl,e⟩:=Option.map_eq_some_iff.1 h;obtain⟨k1,k2⟩:=hw.sub? hl;have:=run_loadCells_list (P:=P) w ⟨b,o,none⟩ l (fun j v hv=>by rw[addr_add];exact k2 j v hv);rw[k1]at this;simp only[Sem.run_bind,iF h1,h3,Result.andThen_ok,this,Sem.run_pure,e]
 .rename_i hg;rw[if_neg hg,run_load,hw.cell h]
theorem BZ(hT:bY P T){env:Env}{tmps:Array Value}(he:∀ t,tmps.getD t undef=env t){w:World}(hw:Rep M w):∀(rs:List ResultVar) (vs:List Value),dA T env M rs=some vs ->
  (rs.mapM (An tmps)).run P w=.ok vs w
 | [],vs,h=>by simp only[dA,Option.some.injEq]at h;subst h;rfl
 | r::rs,vs,h=>by
  unfold dA at h;split at h
  .rename_i v vs' h1 h2;injection h with h
   subst h;have ih:=BZ hT he hw rs vs' h2;have hr:(An tmps r).run P w=.ok v w:=by
    cases r with
    | tmp t=>simp only[Ar,Option.some.injEq]at h1;simp only[An,he,h1,Sem.run_pure]
    | cell a t=>
     simp only[Ar]at h1;split at h1
     .rename_i b o i hp hi;simp only[An,he,hp,asAddr,Sem.run_bind,Sem.run_pure,Result.andThen_ok];exact wU hT hi hw h1
     .cases h1
   simp only[mapM_cons,Sem.run_bind,hr,Result.andThen_ok,ih,Sem.run_pure]
  .cases h
theorem S6(vs:List Value):(if h:vs.toArray.size=1 then vs.toArray[0] else .tuple vs.toArray)=IK vs:=by
 match vs with
 | []=>rfl
 | [v]=>rfl
 | a::b::l=>rfl
theorem xT(hT:bY P T){fn:Func}{n:Nat}{env:Env}{R:VP}{a:Act}{w:World}(hf:Fits n env a)(hw:Rep M w)(h:oN (dA T env M fn.results.toList) R M) :
  ∃ v,(results fn a.tmps).run P w=.ok v w/\QE R v M:=by
 unfold oN at h;split at h
 .rename_i vs hvs;refine⟨IK vs,?_,h⟩;have he:∀ t,a.tmps.getD t undef=env t:=fun t=>congrFun hf.ev (.tmp t);have:=BZ hT he hw _ vs hvs;rw[JV,Sem.run_bind,Array.mapM_eq_mapM_toList,Sem.run_map,this,Result.andThen_ok,Result.andThen_ok,Sem.run_pure,S6]
 .exact h.elim
theorem R9(hT:bY P T){f:FuncId}{fn:Func}{c:Code}(hf:P.funcs[f]?=some fn)(hb:fn.body=some c)(hn:(fn.name == "runtime.NumGoroutine")=false)(hi:eu fn.ntmps c=true)
  {args:List Value} {R:VP} (ha:args.length<=fn.ntmps) (h:vc P T fn.ntmps c (Cg T fn.results.toList R) (oM args) M):ar P f args M R:=by
 refine⟨⟨fn,hf,hn,by rw[hb];rfl⟩,fun w hw=>?_⟩;refine calls_of_wp hf hb ?_;have hfit:Fits fn.ntmps (oM args) { tmps:=args.toArray++Array.replicate (fn.ntmps-args.toArray.size) undef,defers:=[] }:=by
  refine⟨rfl,by simp;omega,?_⟩
  funext x
  cases x with
  | tmp t=>
   simp only[Act.eval,ev,oM,Array.getD_eq_getD_getElem?,gDe];rw[Array.getElem?_append];split
   .simp
   .rename_i hlt;rw[getElem?_eq_none (by simpa using hlt)];simp only[Array.getElem?_replicate];split<;>rfl
  | const v=>rfl
  | global g=>rfl
  | func f=>rfl
 refine wp_mono (Ty P T hT fn.ntmps c _ _ _ hi h M w _ w hfit hw (Ext.refl M w)) ?_
 rintro e a w' ⟨env,M',h1,h2,h3,h4⟩
 cases e with
 | normal=>
  obtain⟨v,k1,M1,k2,k3⟩:=xT hT h1 h2 h4;exact⟨h1.defers,v,k1,v,M1,rfl,h2.sub k2,h3.sub k2,k3⟩
 | ret=>
  obtain⟨v,k1,M1,k2,k3⟩:=xT hT h1 h2 h4;exact⟨h1.defers,v,k1,v,M1,rfl,h2.sub k2,h3.sub k2,k3⟩
 | exit id=>exact h4.elim
 | goto id=>exact h4.elim
 | panic c=>exact h4.elim
 | outgrown=>exact h4.elim
def mrg(A:List Nat)(g e:Env):Env:=fun t=>if A.contains t then g t else e t
def gh(A:List Nat)(e e':Env):Prop:=∀ t,A.contains t=false->e' t=e t
def Gl(e:Env):List (Nat×Value)->Env
 | []=>e
 | (d,v)::l=>put (Gl e l) (some d) v
def fI(e:Env):List (Nat×Value)->Prop
 | []=>True
 | (d,v)::l=>e d=v/\fI e l
theorem wy(e:Env):∀(l:List (Nat×Value)),fI e l->Gl e l=e
 | [],_=>rfl
 | (d,v)::l,h=>by
  unfold Gl;rw[wy e l h.2]
  funext t
  simp only[put];split
  .rename_i ht;rw[ht,h.1]
  .rfl
theorem NT{A:List Nat}{e e':Env}(h:gh A e e'):mrg A e' e=e':=by
 funext t
 unfold mrg;split
 .rfl
 .rename_i ht;exact(h t (by simpa using ht)).symm
structure Rnd{X:Type}(A:List Nat)(e:Env)(live:X->List (Nat×Value))(J:X->Mem->Prop)(μ:X->Nat)(k:Nat)(e':Env)(M':Mem):Prop where
 out:∃ x' M1,Sub M1 M'/\μ x'<k/\gh A e e'/\fI e' (live x')/\J x' M1
theorem Rnd.mk'{X:Type}{A:List Nat}{e:Env}{live:X->List (Nat×Value)}{J:X->Mem->Prop}{μ:X->Nat}{k:Nat}{e':Env}{M':Mem}(x':X)(h1:μ x'<k)(h2:gh A e e')(h3:fI e' (live x'))(h4:J x' M') :
  Rnd A e live J μ k e' M':=⟨x',M',Sub.refl _,h1,h2,h3,h4⟩
theorem Rnd.mk''{X:Type}{A:List Nat}{e:Env}{live:X->List (Nat×Value)}{J:X->Mem->Prop}{μ:X->Nat}{k:Nat}{e':Env}{M':Mem}(M1:Mem)(x':X)(hs:Sub M1 M')(h1:μ x'<k)(h2:gh A e e')(h3:fI e' (live x'))(h4:J x' M1) :
  Rnd A e live J μ k e' M':=⟨x',M1,hs,h1,h2,h3,h4⟩
theorem aR(hT:bY P T){n:Nat}{body:Code}{Q:Exit->Env->Mem->Prop}{env:Env}{X:Type}(A:List Nat)(live:X->List (Nat×Value))(J:X->Mem->Prop)(μ:X->Nat)(x0:X)
  (hi:eu n body=true) (h0:fI env (live x0)) (hJ:J x0 M)
  (round:∀ x M g,J x M->vc P T n body (mR (Rnd A env live J μ (μ x)) Q) (Gl (mrg A g env) (live x)) M):cK P n (.loop body) Q env M:=by
 refine Ia (fun k e M=>∃ x,μ x=k/\gh A env e/\fI e (live x)/\J x M) (μ x0) ⟨x0,rfl,fun _ _=>rfl,h0,hJ⟩ ?_
 rintro k e M ⟨x,rfl,h1,h2,h3⟩
 have h:=round x M e h3;rw[NT h1,wy e _ h2]at h;refine(Ty P T hT n body _ _ _ hi h).mono ?_;intro ex e' M' h';cases ex with
 | normal=>obtain⟨x',M1,a0,a1,a2,a3,a4⟩:=h'.out;exact⟨μ x',M1,a0,a1,x',rfl,a2,a3,a4⟩
 | _=>exact h'
end
def Jo(P:Program)(f:Value)(args:List Value)(K:VP)(M:Mem):Prop:=∃ v,fO P f args (fun v' M'=>v'=v/\M'=M) M/\K v M
def vQ(P:Program)(T:Tab)(o:Op)(env:Env)(K:VP)(M:Mem):Prop:=
 match o with
 | .move _|.assign _|.pick _ _ _|.load _ _|.binOp _ _ _ _ _|.unOp _ _ _|.slice _ _ _ _ _|.fieldAddr _ _ _|.field _ _ _|.indexAddr _ _ _|.index _ _ _|.extract _ _|.nilCheck _=>vOp P T o env K M
 | .convert a b x=>vR (FF T a b (ev env x)) K M
 | .call ⟨.builtin .len,⟨[x]⟩,⟨[t]⟩⟩=>vR (ES T t (ev env x)) K M
 | .call ⟨.builtin .min,args,_⟩=>vR (FD (args.toList.map (ev env))) K M
 | .call ⟨.builtin .max,args,_⟩=>vR (Gq (args.toList.map (ev env))) K M
 | .call ⟨.value f,args,_⟩=>Jo P (ev env f) (args.toList.map (ev env)) K M
 | _=>False
def gQ(P:Program)(T:Tab)(o:Op)(d:Option Tmp)(rest:Env->Mem->Prop):Env->Mem->Prop:=fun env M=>vQ P T o env (Kt rest env d) M
def vQs(P:Program)(T:Tab)(ops:List Oper)(Q:Exit->Env->Mem->Prop):List Oper->Env->Mem->Prop
 | [],env,M=>Q .normal env M
 | o::rest,env,M=>match o.guard with
  | none=>vQ P T o.op env (Kt (vQs P T ops Q rest) env o.dst) M
  | some (j,b)=>vGd (yE ops env j) b (gQ P T o.op o.dst (vQs P T ops Q rest)) (gB o.dst (vQs P T ops Q rest)) env M
section
variable {P:Program} {T:Tab} {env:Env} {M:Mem} {K:VP}
def xP(P:Program)(o:Op)(env:Env)(M:Mem)(v:Value):Prop:=
 ∀ w o',Rep M w->o'.op=o->((execOp (ev env) o').run P w=.ok (.value v) w\/∃ f args,(execOp (ev env) o').run P w=.ok (.enter f args) w/\Calls P f args w fun e w'=>e=.returned v/\Rep M w'/\Ext M w M w')
theorem df{o:Op}{r:Out}{s:Oper->Sem Value}(hx:∀ o',o'.op=o->execOp (ev env) o'=(do pure (Next.value (<-s o'))))(hi:∀ o',r.Is P (s o'))(h:vR r K M):∃ v,xP P o env M v/\K v M:=by
 cases r with
 | ok v=>exact⟨v,fun w o' _ e=>.inl (by rw[hx o' e,Sem.run_bind,hi o' w];rfl),h⟩
 | need p v=>exact⟨v,fun w o' _ e=>.inl (by rw[hx o' e,Sem.run_bind,hi o' h.1 w];rfl),h.2⟩
 | no=>exact h.elim
theorem RM(hT:bY P T)(o:Op)(h:vQ P T o env K M):∃ v,xP P o env M v/\K v M:=by
 unfold vQ at h;split at h
 case h_1 x=>exact⟨_,fun w o' _ e=>.inl (by simp only[execOp,e];rfl),h⟩
 case h_2 x=>exact⟨_,fun w o' _ e=>.inl (by simp only[execOp,e];rfl),h⟩
 case h_3 c a b=>exact df (s:=fun _=>do pure (if <-asBool (ev env c) then ev env a else ev env b)) (fun o' e=>by simp only[execOp,e];simp) (fun _=>Mg P _ _ _) h
 case h_4 t x=>
  have h':uT (ev env x) (T t) K M:=h;unfold uT at h';split at h'
  .rename_i b o i hx hi;have hv:∃ v,(if i.d.agg then (M.sub? b o i.size).map (fun l=>Value.agg l.toArray) else M.get? b o)=some v/\K v M:=by
    by_cases hg:i.d.agg=true
    .rw[if_pos hg]at h' ⊢;unfold BX at h';cases hl:M.sub? b o i.size with
     | some l=>rw[hl]at h';exact⟨_,rfl,h'⟩
     | none=>rw[hl]at h';exact h'.elim
    .rw[if_neg hg]at h' ⊢;unfold MV at h';cases hl:M.get? b o with
     | some l=>rw[hl]at h';exact⟨_,rfl,h'⟩
     | none=>rw[hl]at h';exact h'.elim
   obtain⟨v,hv,hk⟩:=hv;refine⟨v,fun w o' hw e=>.inl ?_,hk⟩;simp only[execOp,e,hx,Instr.loadAt,Instr.sureAddr,Sem.run_bind,Sem.run_pure,Result.andThen_ok,wU hT hi hw hv]
  .exact h'.elim
 case h_5 op t x y t'=>
  have h':vR (oa T op t (isLit y) (ev env x) (ev env y)) K M:=h;have hne:oa T op t (isLit y) (ev env x) (ev env y)≠.no:=by intro e;rw[e]at h';exact h'
  refine df (s:=fun _=>do eqGuard op t x y (ev env x) (ev env y);binOp op t (ev env x) (ev env y)) (fun o' e=>by simp only[execOp,e]) (fun _=>?_) h';have hb:=L4 P T hT op t (isLit y) (ev env x) (ev env y);cases hr:oa T op t (isLit y) (ev env x) (ev env y) with
  | ok v=>rw[hr]at hb;exact fun w=>by rw[Sem.run_bind,nF hne,Result.andThen_ok,hb w]
  | need p v=>rw[hr]at hb;exact fun hp w=>by rw[Sem.run_bind,nF hne,Result.andThen_ok,hb hp w]
  | no=>trivial
 case h_6=>exact df (s:=fun _=>_) (fun o' e=>by simp only[execOp,e]) (fun _=>TA P _ _) h
 case h_7=>exact df (s:=fun _=>_) (fun o' e=>by simp only[execOp,e]) (fun _=>GB P T hT _ _ _ _ _) h
 case h_8=>exact df (s:=fun _=>_) (fun o' e=>by simp only[execOp,e]) (fun _=>uo P T hT _ _ _) h
 case h_9=>exact df (s:=fun _=>_) (fun o' e=>by simp only[execOp,e]) (fun _=>Hq P T hT _ _ _) h
 case h_10=>exact df (s:=fun _=>_) (fun o' e=>by simp only[execOp,e]) (fun _=>AL P T hT _ _ _) h
 case h_11=>exact df (s:=fun _=>_) (fun o' e=>by simp only[execOp,e]) (fun _=>P9 P T hT _ _ _) h
 case h_12=>exact df (s:=fun _=>_) (fun o' e=>by simp only[execOp,e]) (fun _=>Pk P _ _) h
 case h_13 x=>
  have h':vR (Kd (ev env x)) K M:=h;unfold Kd at h';split at h'
  all_goals first
   | (rename_i hx;exact⟨_,fun w o' _ e=>.inl (by simp only[execOp,e,hx];rfl),h'⟩)
   | exact h'.elim
 case h_14 a b x=>exact df (s:=fun _=>convert a b (ev env x)) (fun o' e=>by simp only[execOp,e]) (fun _=>Li P T hT _ _ _) h
 case h_15 x t=>exact df (s:=fun o'=>Builtin.len_ #[t] o'.type #[ev env x]) (fun o' e=>by
  have e2:Array.map (ev env) ⟨[x]⟩ = #[ev env x]:=by simp
  simp only[execOp,e,resolve,invoke,builtin,e2];rfl) (fun o'=>Rv P T hT t o'.type _) h
 case h_16 args ts=>exact df (s:=fun o'=>Builtin.min_ ts o'.type (args.toList.map (ev env)).toArray) (fun o' e=>by
  have e2:args.map (ev env)=(args.toList.map (ev env)).toArray:=by apply Array.ext';simp
  simp only[execOp,e,resolve,invoke,builtin,e2];rfl) (fun o'=>PE P ts o'.type _) h
 case h_17 args ts=>exact df (s:=fun o'=>Builtin.max_ ts o'.type (args.toList.map (ev env)).toArray) (fun o' e=>by
  have e2:args.map (ev env)=(args.toList.map (ev env)).toArray:=by apply Array.ext';simp
  simp only[execOp,e,resolve,invoke,builtin,e2];rfl) (fun o'=>Rr P ts o'.type _) h
 case h_18 f args ts=>
  obtain⟨v,h,hk⟩:=h;refine⟨v,fun w o' hw e=>.inr ?_,hk⟩;unfold fO at h;split at h
  .rename_i g first cap hf
   obtain⟨fn,h1,h2,h3⟩:=h.1;refine⟨g,_,?_,(h.2 w hw).mono fun e' w' ⟨v',M',k1,k2,k3,k4,k5⟩=>⟨by rw[k1,k4],k5▸k2,by rw[k5]at k3;exact k3⟩⟩;simp only[execOp,e,resolve,hf,Deferred.ofValue,Sem.run_bind,Sem.run_pure,Result.andThen_ok,invoke,callFunc,run_program,h1,h2,h3,Bool.false_eq_true,if_false]
   congr 2
   apply Array.ext';simp
  .exact h.elim
 case h_19=>exact h.elim
theorem Sy(hT:bY P T){n id:Nat}{l:List Oper}{Q:Exit->Env->Mem->Prop}(hm:P.follows .mixedOrders=true)(hB:Region.lexB .any l.toArray=true)(hd:l.all (kP n)=true)
  (h:vQs P T l Q l env M):cK P n (.region id l.toArray true) Q env M:=by
 intro M0 w0 a w h1 h2 h3;refine wp_region_quiet (C:=fun w'=>Rep M w'/\Ext M0 w0 M w') hm hB ⟨fun b B hB'=>Blk.holds_of (w:=w) rfl (h2 b B hB'),⟨h3.os,h3.tape,h3.output,h3.size,h3.block,h3.own⟩⟩ ?_;have key:∀(rest:List Oper) (env:Env) (a:Act),rest.all (kP n)=true->Fits n env a->vQs P T l Q rest env M ->
   wpQuiet P l.toArray (fun w'=>Rep M w'/\Ext M0 w0 M w') (fun a'=>∀ w',Rep M w'/\Ext M0 w0 M w'->Way n M0 w0 Q .normal a' w') rest a:=by
  intro rest
  induction rest with
  | nil=>exact fun env a _ hf h w' ⟨k1,k2⟩=>⟨env,M,hf,k1,k2,h⟩
  | cons o rest ih=>
   intro env a hd hf h;simp only[all_cons,bAn]at hd;have hop:vQ P T o.op env (Kt (vQs P T l Q rest) env o.dst) M->o.quiet P a (fun w'=>Rep M w'/\Ext M0 w0 M w') (wpQuiet P l.toArray (fun w'=>Rep M w'/\Ext M0 w0 M w') (fun a'=>∀ w',Rep M w'/\Ext M0 w0 M w'->Way n M0 w0 Q .normal a' w') rest):=by
    intro hq;obtain⟨v,hv,hk⟩:=RM hT o.op hq;refine⟨v,fun w' ⟨k1,k2⟩=>?_,ih _ _ hd.2 (hf.put (cF hd.1) v) hk⟩;unfold Oper.quietAt;rw[hf.ev];rcases hv w' o k1 rfl with hr|⟨f,args,hr,hc⟩
    .rw[hr];exact⟨rfl,rfl⟩
    .rw[hr];exact⟨rfl,hc.mono fun e w'' ⟨g1,g2,g3⟩=>⟨g1,g2,k2.trans g3⟩⟩
   unfold vQs at h;unfold wpQuiet;split at h
   .rename_i hg;rw[if_pos (by simp[Region.wanted,hg])];exact hop h
   .rename_i j b hg;have hy:=fc hf l.toArray j;by_cases hyb:yE l env j=some b
    .rw[if_pos (by simp[Region.wanted,hg,hy,hyb])];exact hop (h.1 hyb)
    .rw[if_neg (by simp[Region.wanted,hg,hy,hyb])];exact ih _ _ hd.2 (hf.put (cF hd.1) undef) (h.2 hyb)
 exact key l env a hd h1 (by simpa using h)
end
def xW(v:Value)(d:Option TI)(M:Mem):Option Value:=
 match v,d with
 | .pointer (some ⟨b,o,none⟩),some i=>if i.d.agg then (M.sub? b o i.size).map (fun l=>.agg l.toArray) else M.get? b o
 | _,_=>none
def Ts:Option Value->Option (List Value)->Option (List Value)
 | some v,some vs=>some (v::vs)
 | _,_=>none
def Ej(fs:Nat->Option (Nat×Nat))(cs:List Value)(rest:List (Nat×Value))(v:Value):Option (Nat×Nat)->Option (List Value)
 | some (off,sz)=>if v.cells.size=sz/\off+sz<=cs.length then gO fs (gX cs off v.cells.toList) rest else none
 | none=>none
theorem nr{α:Sort _}{a b:α}(h:a=b):a=b:=h
attribute [simp] me pz ae
@[simp] theorem WW{α:Type}(a:α)(l:List α):(a::l)[0]?=some a:=rfl
@[simp] theorem Wx{α:Type}(a:α)(l:List α)(i:Nat):(a::l)[i+1]?=l[i]?:=rfl
section
variable {P:Program} {T:Tab} {n:Nat} {Q:Exit->Env->Mem->Prop} {env:Env} {M:Mem} {K:VP} {ops rest:List Oper}
@[simp] theorem ZT(t:Tmp):ev env (.tmp t)=env t:=nr rfl
@[simp] theorem WS(v:Value):ev env (.const v)=v:=nr rfl
@[simp] theorem Za(f:FuncId):ev env (.func f)=.func (.func f) #[] #[]:=nr rfl
@[simp] theorem QD(d t:Nat)(v:Value):put env (some d) v t=if t=d then v else env t:=nr rfl
@[simp] theorem aaG(v:Value):put env none v=env:=nr rfl
def lR:List Value->Nat->Env
 | [],_=>fun _=>undef
 | v::l,k=>put (lR l (k+1)) (some k) v
theorem Ho:∀(l:List Value) (k t:Nat),lR l k t=if k<=t then l.getD (t-k) undef else undef
 | [],k,t=>by simp[lR]
 | v::l,k,t=>by
  simp only[lR,put];split
  .rename_i h;subst h;simp
  .rename_i h;rw[Ho l (k+1) t];by_cases h1:k+1<=t
   .rw[if_pos h1,if_pos (by omega),show t-k=(t-(k+1))+1 by omega];simp
   .rw[if_neg h1,if_neg (by omega)]
theorem Me(args:List Value):oM args=lR args 0:=by
 funext t;rw[Ho];simp[oM]
@[simp] theorem Uk(v:Value)(l:List Value)(k:Nat):lR (v::l) k=put (lR l (k+1)) (some k) v:=nr rfl
theorem Ls{P:Program}{T:Tab}(hT:bY P T){f:FuncId}{fn:Func}{c:Code}(hf:P.funcs[f]?=some fn)(hb:fn.body=some c)(hn:(fn.name == "runtime.NumGoroutine")=false)(hi:eu fn.ntmps c=true)
  {n:Nat} {rs:List ResultVar} (hnt:fn.ntmps=n) (hrs:fn.results=rs.toArray) {args:List Value} {R:VP} {M:Mem} (ha:Nat.ble args.length n=true) (h:vc P T n c (Cg T rs R) (lR args 0) M):ar P f args M R:=by
 subst hnt;refine R9 hT hf hb hn hi (Nat.le_of_ble_eq_true ha) ?_;rw[hrs,Me];exact h
@[simp] theorem aah(A:List Nat)(g:Env)(t:Nat):mrg A g env t=if A.contains t then g t else env t:=nr rfl
@[simp] theorem W7:Gl env []=env:=nr rfl
@[simp] theorem Vz(d:Nat)(v:Value)(l:List (Nat×Value)):Gl env ((d,v)::l)=put (Gl env l) (some d) v:=nr rfl
@[simp] theorem TZ:fI env []=True:=nr rfl
@[simp] theorem TS(d:Nat)(v:Value)(l:List (Nat×Value)):fI env ((d,v)::l)=(env d=v/\fI env l):=nr rfl
theorem Mw{A:List Nat}{e:Env}{d:Nat}(v:Value)(h:A.contains d=true):gh A env (put e (some d) v)=gh A env e:=by
 apply propext;constructor
 .intro hk t ht;have:=hk t ht;rw[QD,if_neg (by rintro rfl;rw[h]at ht;cases ht)]at this;exact this
 .intro hk t ht;rw[QD,if_neg (by rintro rfl;rw[h]at ht;cases ht)];exact hk t ht
theorem MJ{A:List Nat}{g:Env}:gh A env (mrg A g env)=True:=by
 apply eq_true;intro t ht;unfold mrg;rw[ht];rfl
theorem Kx{A B:List Nat}{g e:Env}(h:B.all (A.contains ·)=true):gh A env (mrg B g e)=gh A env e:=by
 have hh:∀ t,A.contains t=false->B.contains t=false:=by
  intro t ht;cases hb:B.contains t with
  | false=>rfl
  | true=>
   rw[all_eq_true]at h;have:=h t (by simpa using hb);rw[this]at ht;cases ht
 apply propext;constructor
 .intro hk t ht;have:=hk t ht;simp only[mrg,hh t ht]at this;simpa using this
 .intro hk t ht;simp only[mrg,hh t ht];simpa using hk t ht
theorem kp{A:List Nat}{e:Env}{d:Nat}{v:Value}(h:A.contains d=true)(hk:gh A env e):gh A env (put e (some d) v):=by rw[Mw v h];exact hk
theorem km{A:List Nat}{g:Env}:gh A env (mrg A g env):=by rw[MJ];trivial
theorem km'{A B:List Nat}{g e:Env}(h:B.all (A.contains ·)=true)(hk:gh A env e):gh A env (mrg B g e):=by rw[Kx h];exact hk
@[simp] theorem Yd:vc P T n .skip Q env M=Q .normal env M:=nr rfl
@[simp] theorem VN{id:Nat}{l:List Oper}:vc P T n (.region id l.toArray false) Q env M=ly P T l Q l env M:=nr rfl
@[simp] theorem Zm{a b:Code}:vc P T n (.seq a b) Q env M=vc P T n a (mR (vc P T n b Q) Q) env M:=nr rfl
@[simp] theorem YN{c:Operand}{a b:Code}:vc P T n (.cond c a b) Q env M=vIf (ev env c) (vc P T n a Q) (vc P T n b Q) env M:=nr rfl
@[simp] theorem X5{id:Nat}{c:Code}:vc P T n (.block id c) Q env M=vc P T n c (tD id Q) env M:=nr rfl
@[simp] theorem YH{c:Code}:vc P T n (.loop c) Q env M=cK P n (.loop c) Q env M:=nr rfl
@[simp] theorem Z7:vc P T n .ret Q env M=Q .ret env M:=nr rfl
@[simp] theorem Y7{id:Nat}:vc P T n (.exit id) Q env M=Q (.exit id) env M:=nr rfl
@[simp] theorem Ys{A:Env->Mem->Prop}:mR A Q .normal env M=A env M:=nr rfl
@[simp] theorem Yc{A:Env->Mem->Prop}:mR A Q .ret env M=Q .ret env M:=nr rfl
@[simp] theorem Ze{A:Env->Mem->Prop}{i:Nat}:mR A Q (.exit i) env M=Q (.exit i) env M:=nr rfl
@[simp] theorem YA{i:Nat}:tD i Q .normal env M=Q .normal env M:=nr rfl
@[simp] theorem YI{i:Nat}:tD i Q .ret env M=Q .ret env M:=nr rfl
@[simp] theorem YD{i j:Nat}:tD i Q (.exit j) env M=if j=i then Q .normal env M else Q (.exit j) env M:=nr rfl
@[simp] theorem Yn{rs:List ResultVar}:Cg T rs K .normal env M=oN (dA T env M rs) K M:=nr rfl
@[simp] theorem YM{rs:List ResultVar}:Cg T rs K .ret env M=oN (dA T env M rs) K M:=nr rfl
@[simp] theorem T3:dA T env M []=some []:=nr rfl
@[simp] theorem UC{t:Tmp}{rs:List ResultVar}:dA T env M (.tmp t::rs)=(dA T env M rs).map (env t :: ·):=by
 simp only[dA,Ar];cases dA T env M rs<;>rfl
@[simp] theorem TW{a:Tmp}{t:TypeId}{rs:List ResultVar}:dA T env M (.cell a t::rs)=Ts (xW (env a) (T t) M) (dA T env M rs):=by
 have e1:Ar T env M (.cell a t)=xW (env a) (T t) M:=rfl
 conv=>lhs;unfold dA
 rw[e1];cases xW (env a) (T t) M<;>cases dA T env M rs<;>rfl
@[simp] theorem US{b o:Nat}{i:TI}:xW (.pointer (some ⟨b,o,none⟩)) (some i) M=if i.d.agg then (M.sub? b o i.size).map (fun l=>.agg l.toArray) else M.get? b o:=nr rfl
@[simp] theorem UX{v:Value}{vs:List Value}:Ts (some v) (some vs)=some (v::vs):=nr rfl
@[simp] theorem T0{vs:List Value}:oN (some vs) K M=QE K (IK vs) M:=nr rfl
@[simp] theorem XY{v:Value}:IK [v]=v:=nr rfl
@[simp] theorem Xw{a b:Value}{l:List Value}:IK (a::b::l)=.tuple (a::b::l).toArray:=nr rfl
@[simp] theorem Wy:IK []=.tuple #[]:=nr rfl
@[simp] theorem abi{A B:Env->Mem->Prop}:vIf (.bool true) A B env M=A env M:=by simp[vIf]
@[simp] theorem aa2{A B:Env->Mem->Prop}:vIf (.bool false) A B env M=B env M:=by simp[vIf]
@[simp] theorem SU{t:Bool}{A B:Env->Mem->Prop}:vIf (.bool (!t)) A B env M=vIf (.bool t) B A env M:=by cases t<;>simp[vIf]
theorem Un{p:Prop}[Decidable p]{A B:Env->Mem->Prop}(h:p):vIf (.bool (decide p)) A B env M=A env M:=by simp[vIf,h]
theorem Um{p:Prop}[Decidable p]{A B:Env->Mem->Prop}(h:¬ p):vIf (.bool (decide p)) A B env M=B env M:=by simp[vIf,h]
attribute [simp] Un Um
@[simp] theorem Zy{a b:Int}{A B:Env->Mem->Prop}(h:a=b):vIf (.bool (a==b)) A B env M=A env M:=by simp[vIf,h]
@[simp] theorem Ye{a b:Int}{A B:Env->Mem->Prop}(h:¬ a=b):vIf (.bool (a==b)) A B env M=B env M:=by simp[vIf,h]
@[simp] theorem YK{a b:Int}{A B:Env->Mem->Prop}:vIf (.bool (a != b)) A B env M=vIf (.bool (a==b)) B A env M:=by
 have:(a != b) = !(a==b):=rfl;rw[this,SU]
@[simp] theorem WG:ly P T ops Q [] env M=Q .normal env M:=nr rfl
@[simp] theorem Uu{d:Option Tmp}{o:Op}{ty:TypeId}{pos:String}{af:Array Edge}:ly P T ops Q (⟨d,o,ty,pos,af,none⟩::rest) env M=vOp P T o env (Kt (ly P T ops Q rest) env d) M:=nr rfl
@[simp] theorem Ua{d:Option Tmp}{o:Op}{ty:TypeId}{pos:String}{af:Array Edge}{j:Nat}{b:Bool}:ly P T ops Q (⟨d,o,ty,pos,af,some (j,b)⟩::rest) env M=vGd (yE ops env j) b (gA P T o d (ly P T ops Q rest)) (gB d (ly P T ops Q rest)) env M:=nr rfl
@[simp] theorem abc{r:Env->Mem->Prop}{d:Option Tmp}{v:Value}:Kt r env d v M=r (put env d v) M:=nr rfl
@[simp] theorem aa4{o:Op}{d:Option Tmp}{r:Env->Mem->Prop}:gA P T o d r env M=vOp P T o env (Kt r env d) M:=nr rfl
@[simp] theorem aa3{d:Option Tmp}{r:Env->Mem->Prop}:gB d r env M=r (put env d undef) M:=nr rfl
@[simp] theorem aad{A B:Env->Mem->Prop}:vGd (some true) true A B env M=A env M:=by simp[vGd]
@[simp] theorem Zz{A B:Env->Mem->Prop}:vGd (some true) false A B env M=B env M:=by simp[vGd]
@[simp] theorem aab{A B:Env->Mem->Prop}:vGd (some false) true A B env M=B env M:=by simp[vGd]
@[simp] theorem Z0{A B:Env->Mem->Prop}:vGd (some false) false A B env M=A env M:=by simp[vGd]
@[simp] theorem XH{b:Bool}{A B:Env->Mem->Prop}:vGd none b A B env M=B env M:=by simp[vGd]
@[simp] theorem aao{t:Bool}{A B:Env->Mem->Prop}:vGd (some t) true A B env M=vIf (.bool t) A B env M:=by cases t<;>simp
@[simp] theorem Yq{t:Bool}{A B:Env->Mem->Prop}:vGd (some t) false A B env M=vIf (.bool t) B A env M:=by cases t<;>simp
@[simp] theorem aa5{j:Nat}:yE ops env j=match (ops[j]?).bind (·.dst) with
 | some d=>match env d with
  | .bool b=>some b
  | _=>none
 | none=>none:=nr rfl
@[simp] theorem aaU{v:Value}:vR (.ok v) K M=K v M:=nr rfl
@[simp] theorem Y2{p:Prop}{v:Value}:vR (.need p v) K M=vBd p K v M:=nr rfl
@[simp] theorem aaX{p:Prop}{v:Value}(h:p):vBd p K v M=K v M:=by simp[vBd,h]
@[simp] theorem Ui{q:Prop}:dR True q=q:=by simp[dR]
@[simp] theorem WZ{v:Value}:vBd True K v M=K v M:=by simp[vBd]
@[simp] theorem YB{p q:Prop}(h:p):dR p q=q:=by simp[dR,h]
@[simp] theorem VR{x:Operand}:vOp P T (.move x) env K M=K (ev env x) M:=nr rfl
@[simp] theorem U5{x:Operand}:vOp P T (.assign x) env K M=K (ev env x) M:=nr rfl
@[simp] theorem VT{c a b:Operand}:vOp P T (.pick c a b) env K M=vR (Cu (ev env c) (ev env a) (ev env b)) K M:=nr rfl
@[simp] theorem Vt{e:TypeId}:vOp P T (.alloc e) env K M=yQ T e K M:=nr rfl
@[simp] theorem Yl{e:TypeId}{x:Operand}:vOp P T (.box e x) env K M=HQ (ev env x) K M:=nr rfl
@[simp] theorem Vn{t:TypeId}{ps:List (Nat×Operand)}:vOp P T (.build t ps.toArray) env K M=vR (AA T t (ps.map fun p=>(p.1,ev env p.2))) K M:=nr rfl
@[simp] theorem Ul{t:TypeId}{k:Nat}{ps:List (Nat×Operand)}:vOp P T (.buildSlice t k ps.toArray) env K M=uf T t k (ps.map fun p=>(p.1,ev env p.2)) K M:=nr rfl
@[simp] theorem XR{t:TypeId}{x:Operand}:vOp P T (.load t x) env K M=Ix T t (ev env x) K M:=nr rfl
@[simp] theorem Vh{t:TypeId}{x v:Operand}:vOp P T (.store t x v) env K M=zr T t (ev env x) (ev env v) K M:=nr rfl
@[simp] theorem YV{x:Operand}:vOp P T (.nilCheck x) env K M=vR (Kd (ev env x)) K M:=nr rfl
@[simp] theorem YZ{op:BinOp}{t t':TypeId}{x y:Operand}:vOp P T (.binOp op t x y t') env K M=vR (oa T op t (isLit y) (ev env x) (ev env y)) K M:=nr rfl
@[simp] theorem VJ{i:Tmp}:isLit (.tmp i)=false:=nr rfl
@[simp] theorem Tq{v:Value}:isLit (.const v)=true:=nr rfl
@[simp] theorem Wm{op:BinOp}{t:TypeId}{l:Bool}{k:IntKind}{n:Int}{b:Value}:oa T op t l (.int k n) b=cY T op t (.int k n) b:=nr rfl
@[simp] theorem WT{op:BinOp}{t:TypeId}{l:Bool}{s:B8}{b:Value}:oa T op t l (str s) b=cY T op t (str s) b:=nr rfl
@[simp] theorem Vk{op:BinOp}{t:TypeId}{l:Bool}{s:Bool}{b:Value}:oa T op t l (.bool s) b=cY T op t (.bool s) b:=nr rfl
@[simp] theorem Uz{op:BinOp}{t:TypeId}{l:Bool}{a:Option Addr}{n' c':Nat}{b:Value}:oa T op t l (.slice a n' c') b=cY T op t (.slice a n' c') b:=nr rfl
@[simp] theorem U3{op:BinOp}{t:TypeId}{l:Bool}{d:TypeId}{x b:Value}:oa T op t l (.iface d x) b=cY T op t (.iface d x) b:=nr rfl
@[simp] theorem Yp{op:BinOp}{t:TypeId}:oa T op t true .nilIface .nilIface=nnR T op t:=nr rfl
@[simp] theorem Ym{t:TypeId}:nnR T .neq t=eqD (T t) .iface (.bool false):=nr rfl
@[simp] theorem aai{op:UnOp}{t:TypeId}{x:Operand}:vOp P T (.unOp op t x) env K M=vR (unR op (ev env x)) K M:=nr rfl
@[simp] theorem Xb{s d:TypeId}{x:Operand}:vOp P T (.convert s d x) env K M=Mc T s d (ev env x) K M:=nr rfl
@[simp] theorem Zs{fn:Fn}{a b:List Operand}:vOp P T (.makeFunc fn a.toArray b.toArray) env K M=K (.func fn (a.map (ev env)).toArray (b.map (ev env)).toArray) M:=nr rfl
@[simp] theorem Xj{t:TypeId}{l c:Operand}:vOp P T (.makeSlice t l c) env K M=Gi T t (ev env l) (ev env c) K M:=nr rfl
@[simp] theorem Vw{t:TypeId}{x:Operand}{lo hi mx:Option Operand}:vOp P T (.slice t x lo hi mx) env K M=vR (uB T t (ev env x) (lo.map (ev env)) (hi.map (ev env)) (mx.map (ev env))) K M:=nr rfl
@[simp] theorem R1{t:TypeId}{x:Operand}{f:Nat}:vOp P T (.fieldAddr t x f) env K M=vR (gV T t (ev env x) f) K M:=nr rfl
@[simp] theorem TB{t:TypeId}{x i:Operand}:vOp P T (.indexAddr t x i) env K M=vR (lP T t (ev env x) (ev env i)) K M:=nr rfl
@[simp] theorem Yo{t:TypeId}{x i:Operand}:vOp P T (.index t x i) env K M=vR (MP T t (ev env x) (ev env i)) K M:=nr rfl
@[simp] theorem Zd{x:Operand}{i:Nat}:vOp P T (.extract x i) env K M=vR (Ku (ev env x) i) K M:=nr rfl
@[simp] theorem VY{f:Operand}{l:List Operand}{ts:Array TypeId}:vOp P T (.call ⟨.value f,l.toArray,ts⟩) env K M=fO P (ev env f) (l.map (ev env)) K M:=nr rfl
@[simp] theorem TX{b:Builtin}{l:List Operand}{ts:List TypeId}:vOp P T (.call ⟨.builtin b,l.toArray,ts.toArray⟩) env K M=ff P T (.call ⟨.builtin b,l.toArray,ts.toArray⟩) env b ts (l.map (ev env)) K M:=nr rfl
@[simp] theorem VD{g:FuncId}{a c args:List Value}:fO P (.func (.func g) a.toArray c.toArray) args K M=ar P g (a++args++c) M K:=nr rfl
@[simp] theorem Xs{o:Op}{t:TypeId}{l:B8}:ff P T o env .len [t] [str l] K M=vR (ES T t (str l)) K M:=nr rfl
@[simp] theorem Xh{o:Op}{t:TypeId}{a:Option Addr}{n c:Nat}:ff P T o env .len [t] [.slice a n c] K M=vR (ES T t (.slice a n c)) K M:=nr rfl
@[simp] theorem Y1{o:Op}{ts:List TypeId}{s x:Value}:ff P T o env .append ts [s,x] K M=QX T ts s x K M:=nr rfl
@[simp] theorem abw{o:Op}{ts:List TypeId}{a b:Value}:ff P T o env .min ts [a,b] K M=vR (FD [a,b]) K M:=nr rfl
@[simp] theorem Wl{o:Op}{t:TypeId}{x:Value}:ff P T o env .clear [t] [x] K M=Qz T t x K M:=nr rfl
@[simp] theorem Zh{t:TypeId}{x:Value}:Qz T t x K M=QK (T t) x K M:=nr rfl
@[simp] theorem abv{o:Op}{ts:List TypeId}{a b:Value}:ff P T o env .max ts [a,b] K M=vR (Gq [a,b]) K M:=nr rfl
@[simp] theorem Y6{t:Bool}{a b:Value}:Cu (.bool t) a b=.ok (if t then a else b):=nr rfl
@[simp] theorem ZZ{t:Bool}:unR .not (.bool t)=.ok (.bool !t):=nr rfl
@[simp] theorem ZC{k:IntKind}{a:Int}:unR .neg (.int k a)=.ok (.int k (k.wrap (0-a))):=nr rfl
@[simp] theorem TQ{v:Value}:DH (some v)=.ok v:=nr rfl
@[simp] theorem Z3{vs:List Value}{i:Nat}:Ku (.tuple vs.toArray) i=DH vs[i]?:=by
 unfold Ku;dsimp only;rw[getElem?_toArray]
end
section
variable {T:Tab} {t:TypeId} {k:IntKind} {a b:Int}
@[simp] theorem Yb:cY T .add t (.int k a) (.int k b)=.ok (.int k (k.wrap (a+b))):=by simp[cY]
@[simp] theorem YF:cY T .sub t (.int k a) (.int k b)=.ok (.int k (k.wrap (a-b))):=by simp[cY]
@[simp] theorem YJ:cY T .mul t (.int k a) (.int k b)=.ok (.int k (k.wrap (a*b))):=by simp[cY]
@[simp] theorem Y3:cY T .quo t (.int k a) (.int k b)=.need (b≠0) (.int k (k.wrap (a.tdiv b))):=by simp[cY]
@[simp] theorem Yz:cY T .rem t (.int k a) (.int k b)=.need (b≠0) (.int k (a.tmod b)):=by simp[cY]
@[simp] theorem Yv:cY T .eql t (.int k a) (.int k b)=.ok (.bool (a==b)):=by simp[cY]
@[simp] theorem Yi:cY T .neq t (.int k a) (.int k b)=.ok (.bool (a != b)):=by simp[cY]
@[simp] theorem Y4:cY T .lss t (.int k a) (.int k b)=.ok (.bool (decide (a<b))):=by simp[cY]
@[simp] theorem Yf:cY T .leq t (.int k a) (.int k b)=.ok (.bool (decide (a<=b))):=by simp[cY]
@[simp] theorem YW:cY T .gtr t (.int k a) (.int k b)=.ok (.bool (decide (b<a))):=by simp[cY]
@[simp] theorem YC:cY T .geq t (.int k a) (.int k b)=.ok (.bool (decide (b<=a))):=by simp[cY]
@[simp] theorem X7{x y:B8}:cY T .add t (str x) (str y)=.need (x.length+y.length<=9223372036854775807) (str (x++y)):=nr rfl
@[simp] theorem Xx{x y:B8}:cY T .eql t (str x) (str y)=.ok (.bool (x==y)):=nr rfl
@[simp] theorem X1{x y:B8}:cY T .neq t (str x) (str y)=.ok (.bool (!(x==y))):=nr rfl
@[simp] theorem Xr{x y:B8}:cY T .lss t (str x) (str y)=.ok (.bool (Op.bytesLess x y)):=nr rfl
@[simp] theorem WO{x y:B8}:cY T .leq t (str x) (str y)=.ok (.bool (Op.bytesLess x y||x==y)):=nr rfl
@[simp] theorem Wj{x y:B8}:cY T .gtr t (str x) (str y)=.ok (.bool (!(Op.bytesLess x y||x==y))):=nr rfl
theorem Ck{x:Int}(h1 : -9223372036854775808<=x)(h2:x<=9223372036854775807):IntKind.i64.wrap x=x:=by
 simp[IntKind.wrap,IntKind.bits,IntKind.signed];omega
@[simp] theorem wrap_u8{x:Int}(h:0<=x/\x<=255):IntKind.u8.wrap x=x:=by
 simp[IntKind.wrap,IntKind.bits,IntKind.signed];omega
@[simp] theorem Xm{x:Int}(h : -9223372036854775808<=x/\x<=9223372036854775807):IntKind.i64.wrap x=x:=Ck h.1 h.2
end
section
variable {T:Tab} {t:TypeId} {K:VP} {M:Mem} {k k':IntKind} {sz s bytes g o c n:Nat} {z zz v:Value} {e:TypeId} {i:Int}
@[simp] theorem Wz:TD.agg .bool=false:=nr rfl
@[simp] theorem Yw:TD.agg (.int k)=false:=nr rfl
@[simp] theorem Yy:TD.agg .str=false:=nr rfl
@[simp] theorem WU:TD.agg .func=false:=nr rfl
@[simp] theorem YX:TD.agg (.slc e sz bytes z)=false:=nr rfl
@[simp] theorem VM{fs:List (Nat×Nat×Bool)}:TD.agg (.strct fs)=true:=nr rfl
@[simp] theorem Yh{b:Bool}:TD.agg (.arr n sz b)=true:=nr rfl
@[simp] theorem Ww:bE (.int k i)=true:=nr rfl
@[simp] theorem Vu{b:Bool}:bE (.bool b)=true:=nr rfl
@[simp] theorem VZ{l:B8}:bE (str l)=true:=nr rfl
@[simp] theorem Uo{a:Option Addr}:bE (.slice a n c)=true:=nr rfl
@[simp] theorem VS:eqD (some ⟨.bool,s,z⟩) .bool v=.ok v:=nr rfl
@[simp] theorem Vj:eqD (some ⟨.slc e sz bytes z,s,zz⟩) .slice v=.ok v:=nr rfl
@[simp] theorem Vm:eqD (some ⟨.iface,s,z⟩) .iface v=.ok v:=nr rfl
@[simp] theorem WH{a b:Bool}:cY T .neq t (.bool a) (.bool b)=eqD (T t) .bool (.bool (!(a==b))):=nr rfl
@[simp] theorem UZ{a:Option Addr}{n' c':Nat}:cY T .eql t (.slice a n c) (.slice none n' c')=eqD (T t) .slice (.bool a.isNone):=nr rfl
@[simp] theorem Ut:cY T .neq t (.iface e v) .nilIface=eqD (T t) .iface (.bool true):=nr rfl
@[simp] theorem ix{a b:Int}:cY T .shl t (.int k a) (.int k' b)=.need (0<=b) (.int k (k.wrap (a*2 ^ (min b.toNat k.bits)))):=nr rfl
@[simp] theorem ug{a b:Int}:cY T .shr t (.int k a) (.int k' b)=.need (0<=b) (.int k (a.fdiv (2 ^ (min b.toNat k.bits)))):=nr rfl
@[simp] theorem sj{a b:Int}:cY T .and t (.int k a) (.int k b)=.ok (.int k (k.wrap (BitVec.ofInt k.bits a &&& BitVec.ofInt k.bits b).toNat)):=by simp[cY]
@[simp] theorem AS{a b:Int}:cY T .or t (.int k a) (.int k b)=.ok (.int k (k.wrap (BitVec.ofInt k.bits a ||| BitVec.ofInt k.bits b).toNat)):=by simp[cY]
@[simp] theorem YR:mq none=some 0:=nr rfl
@[simp] theorem YY:mq (some (.int k i))=some i:=nr rfl
@[simp] theorem Zb:mX n none=some (n:Int):=nr rfl
@[simp] theorem YL:mX n (some (.int k i))=some i:=nr rfl
@[simp] theorem WD{x:Value}{lo hi mx:Option Value}:uB T t x lo hi mx=jv x lo hi mx (T t):=nr rfl
@[simp] theorem Vx{l:B8}{lo hi:Option Value}:jv (str l) lo hi none (some ⟨.str,s,z⟩)=match mq lo,mX l.length hi with
 | some a,some b=>.need (0<=a/\a<=b/\b<=l.length) (str ((l.take b.toNat).drop a.toNat))
 | _,_=>.no:=by
 unfold jv str;dsimp only[sl];cases mq lo<;>cases mX l.length hi<;>rfl
@[simp] theorem VQ{lo hi:Option Value}:jv (.slice (some ⟨g,o,none⟩) n c) lo hi none (some ⟨.slc e sz bytes z,s,zz⟩)=match mq lo,mX n hi with
 | some a,some b=>.need (0<=a/\a<=b/\b<=n/\n<=c) (.slice (some ⟨g,dQ o a.toNat c sz,none⟩) (b.toNat-a.toNat) (c-a.toNat))
 | _,_=>.no:=by
 unfold jv;dsimp only;cases mq lo<;>cases mX n hi<;>rfl
@[simp] theorem UQ{lo hi:Option Value}{m:Int}:jv (.slice (some ⟨g,o,none⟩) n c) lo hi (some (.int k m)) (some ⟨.slc e sz bytes z,s,zz⟩)=match mq lo,mX n hi with
 | some a,some b=>.need (0<=a/\a<=b/\b<=m/\m<=c/\hi≠none) (.slice (some ⟨g,dQ o a.toNat m.toNat sz,none⟩) (b.toNat-a.toNat) (m.toNat-a.toNat))
 | _,_=>.no:=by
 unfold jv;dsimp only;cases mq lo<;>cases mX n hi<;>rfl
@[simp] theorem VO{lo hi:Option Value}{b:Bool}:jv (.pointer (some ⟨g,o,none⟩)) lo hi none (some ⟨.arr n sz b,s,zz⟩)=match mq lo,mX n hi with
 | some a,some b=>.need (0<=a/\a<=b/\b<=n) (.slice (some ⟨g,dQ o a.toNat n sz,none⟩) (b.toNat-a.toNat) (n-a.toNat))
 | _,_=>.no:=by
 unfold jv;dsimp only;cases mq lo<;>(try rfl)<;>(dsimp only;cases mX n hi<;>rfl)
@[simp] theorem XK{a m:Nat}(h:a<m):dQ o a m sz=o+a*sz:=by unfold dQ;rw[if_neg (by omega)]
@[simp] theorem Up{m:Nat}:dQ o 0 m sz=o:=by unfold dQ;split<;>simp
@[simp] theorem aaA{x i:Value}:MP T t x i=QF x i (T t):=nr rfl
@[simp] theorem Yu{l:B8}:QF (str l) (.int k i) (some ⟨.str,s,z⟩)=.need (0<=i/\i<l.length) (.int .u8 (l.getD i.toNat 0).toNat):=nr rfl
@[simp] theorem Y8{cs:List Value}{b:Bool}:QF (.agg cs.toArray) (.int k i) (some ⟨.arr n sz b,s,z⟩)=match B6 cs (i.toNat*sz) sz b with
 | some v=>.need (0<=i/\i<n) v
 | none=>.no:=nr rfl
@[simp] theorem UL{x i:Value}:lP T t x i=oS x i (T t):=nr rfl
@[simp] theorem TV:oS (.slice (some ⟨g,o,none⟩) n c) (.int k i) (some ⟨.slc e sz bytes z,s,zz⟩)=.need (0<=i/\i<n) (.pointer (some ⟨g,o+i.toNat*sz,none⟩)):=nr rfl
@[simp] theorem TH{b:Bool}:oS (.pointer (some ⟨g,o,none⟩)) (.int k i) (some ⟨.arr n sz b,s,zz⟩)=.need (0<=i/\i<n) (.pointer (some ⟨g,o+i.toNat*sz,none⟩)):=nr rfl
@[simp] theorem Sk{x:Value}{f:Nat}:gV T t x f=jL x f (T t):=nr rfl
def yt(g o:Nat):Option (Nat×Nat×Bool)->Out
 | some (off,sz,_)=>.need (sz≠0) (.pointer (some ⟨g,o+off,none⟩))
 | none=>.no
@[simp] theorem R0{off:Nat}{b:Bool}:yt g o (some (off,sz,b))=.need (sz≠0) (.pointer (some ⟨g,o+off,none⟩)):=nr rfl
@[simp] theorem R3{fs:List (Nat×Nat×Bool)}{f:Nat}:jL (.pointer (some ⟨g,o,none⟩)) f (some ⟨.strct fs,s,zz⟩)=yt g o fs[f]?:=by
 unfold jL yt;rfl
@[simp] theorem Uw{cs:List Value}{off:Nat}:B6 cs off sz false=cs[off]?:=nr rfl
@[simp] theorem Yx{a b:TypeId}{x:Value}:FF T a b x=yg x (T a) (T b):=nr rfl
@[simp] theorem Y5{a b:TypeId}{x:Value}:Mc T a b x K M=nO T (T a) (T b) x K M:=nr rfl
@[simp] theorem Xc{n':Nat}:nO T (some ⟨.int k,n,z⟩) (some ⟨.int k',n',zz⟩) (.int k i) K M=K (.int k' (k'.wrap i)) M:=nr rfl
theorem Jk{i:Int}(h:0<=i/\i<128):Utf8.encode i=(⟨⟨[UInt8.ofNat i.toNat]⟩⟩:ByteArray):=by
 unfold Utf8.encode;have hv:Utf8.valid i=true:=by unfold Utf8.valid;simp;omega
 simp only[hv,if_true];rw[if_pos (by omega)]
@[simp] theorem Vq{n':Nat}(h:0<=i/\i<128):nO T (some ⟨.int k,n,z⟩) (some ⟨.str,n',zz⟩) (.int k' i) K M=K (str [UInt8.ofNat i.toNat]) M:=by
 have e:=Jk h;show vR (yg (.int k' i) (some ⟨.int k,n,z⟩) (some ⟨.str,n',zz⟩)) K M=_;unfold yg;show vR (.ok (.string (Utf8.encode i))) K M=_;rw[e];rfl
@[simp] theorem Wr{l:B8}:nO T (some ⟨.str,n,z⟩) (some ⟨.slc e 1 bytes v,s,zz⟩) (str l) K M=dR (isByte (T e)=true) (B9 (av l) K M):=nr rfl
@[simp] theorem Vr:isByte (some ⟨.int .u8,n,z⟩)=true:=nr rfl
@[simp] theorem WM:nO T (some ⟨.slc e 1 bytes v,s,zz⟩) (some ⟨.str,n,z⟩) (.slice (some ⟨g,o,none⟩) sz c) K M=dR (isByte (T e)=true) (G3 (M.sub? g o sz) K M):=nr rfl
@[simp] theorem Sb:nO T (some ⟨.slc e 1 bytes v,s,zz⟩) (some ⟨.str,n,z⟩) (.slice none sz c) K M=dR (isByte (T e)=true) (vBd True K (str []) M):=nr rfl
def UA(r:Option B8)(K:VP)(M:Mem):Prop:=
 match r with
 | some l=>K (str l) M
 | none=>False
@[simp] theorem VB{l:B8}:UA (some l) K M=K (str l) M:=nr rfl
@[simp] theorem U4{l:List Value}:G3 (some l) K M=UA (xg l) K M:=by
 unfold G3 UA;dsimp only;cases xg l<;>simp[vBd]
attribute [simp] oX
@[simp] theorem XN:xg []=some []:=nr rfl
@[simp] theorem VK{l:List Value}{a:Int}:xg (.int .u8 a::l)=(xg l).map fun r=>UInt8.ofNat a.toNat::r:=nr rfl
@[simp] theorem Zq{x:Value}:ES T t x=Rs x (T t):=nr rfl
@[simp] theorem YQ{l:B8}:Rs (str l) (some ⟨.str,s,z⟩)=.ok (.int .i64 l.length):=nr rfl
@[simp] theorem Yr{a:Option Addr}:Rs (.slice a n c) (some ⟨.slc e sz bytes z,s,zz⟩)=.ok (.int .i64 n):=nr rfl
@[simp] theorem aau{a b:Int}:FD [.int k a,.int k' b]=.ok (.int k (if b<a then b else a)):=nr rfl
@[simp] theorem Zk{a b:Int}:Gq [.int k a,.int k' b]=.ok (.int k (if a<b then b else a)):=nr rfl
@[simp] theorem YP{a:Addr}:Kd (.pointer (some a))=.ok (.pointer (some a)):=nr rfl
@[simp] theorem W6:yQ T t K M=yb (T t) K M:=nr rfl
@[simp] theorem TT{i:TI}:yb (some i) K M=HQ i.zero K M:=nr rfl
@[simp] theorem VL{v:Value}(h:bE v=true):HQ v K M=Ib [v] QB K M:=by unfold HQ;rw[jU h]
@[simp] theorem Xp{l:List Value}:HQ (.agg l.toArray) K M=Ib l QB K M:=nr rfl
@[simp] theorem Zc{b:Nat}:QB b=.pointer (some ⟨b,0,none⟩):=nr rfl
@[simp] theorem VC{len:Nat}{ps:List (Nat×Value)}:uf T t len ps K M=sV (T t) len ps K M:=nr rfl
@[simp] theorem Tu{len:Nat}{ps:List (Nat×Value)}:sV (some ⟨.slc e 1 bytes z,s,zz⟩) len ps K M=dR (len<=16777216/\bE z=true/\∀ p∈ps,p.1<len/\bE p.2=true)
   (Ib (sd ps (replicate len z)) (fun b=>.slice (some ⟨b,0,none⟩) len len) K M):=nr rfl
@[simp] theorem VE{l:List Value}:sd [] l=l:=nr rfl
@[simp] theorem UN{j:Nat}{x:Value}{ps:List (Nat×Value)}{l:List Value}:sd ((j,x)::ps) l=sd ps (l.set j x):=nr rfl
@[simp] theorem YG{x:Value}:Ix T t x K M=uT x (T t) K M:=nr rfl
@[simp] theorem WN{i:TI}:uT (.pointer (some ⟨g,o,none⟩)) (some i) K M=if i.d.agg then BX (M.sub? g o i.size) K M else MV (M.get? g o) K M:=nr rfl
@[simp] theorem VF:MV (some v) K M=K v M:=nr rfl
@[simp] theorem Uq{l:List Value}:BX (some l) K M=K (.agg l.toArray) M:=nr rfl
@[simp] theorem Zf{b:Nat}{w:Bool}{xs:List Value}:(M.put b (.cells w xs n)).get? b o=xs[o]?:=by simp[Mem.get?]
@[simp] theorem ZY{b:Nat}{B:Blk}(h:g≠b):(M.put b B).get? g o=M.get? g o:=by simp[Mem.get?,al _ _ h]
open Classical in
noncomputable def lN {α:Type} (p:Prop) (v:α):Option α:=if p then some v else none
@[simp] theorem UP{α:Type}{v:α}:lN True v=some v:=by simp[lN]
@[simp] theorem YO{α:Type}{p:Prop}{v:α}(h:p):lN p v=some v:=by simp[lN,h]
@[simp] theorem YT{b:Nat}{w:Bool}{xs:List Value}:(M.put b (.cells w xs sz)).sub? b o n=lN (o+n<=xs.length) ((xs.drop o).take n):=by
 unfold Mem.sub? lN;rw[ae];by_cases h:o+n<=xs.length<;>simp[h]
attribute [simp] aO
@[simp] theorem Zv{b:Nat}{B:Blk}(h:g≠b):(M.put b B).sub? g o n=M.sub? g o n:=by simp[Mem.sub?,al _ _ h]
@[simp] theorem Xq{b:Nat}{B:Blk}(h:g≠b):(M.put b B) g=M g:=al M B h
@[simp] theorem WL{x v:Value}:zr T t x v K M=x8 x v (T t) K M:=nr rfl
@[simp] theorem VA{x:Value}{i:TI}:x8 (.pointer (some ⟨g,o,none⟩)) x (some i) K M=if i.d.agg then dR (x.cells.size=i.size) (vSt (M g) g o x.cells.toList K M) else dR (i.size=1) (Sn (M g) g o x K M):=nr rfl
@[simp] theorem Xe{x:Value}{xs:List Value}:Sn (some (.cells true xs n)) g o x K M=vBd (o<xs.length/\bE x=true) K undef (M.set g (.cells true (xs.set o x) n)):=nr rfl
@[simp] theorem YS{vs xs:List Value}:vSt (some (.cells true xs n)) g o vs K M=dR (o+vs.length<=xs.length/\xs.length<=n/\∀ v∈vs,bE v=true) (vBd True K undef (M.set g (.cells true (gX xs o vs) n))):=nr rfl
attribute [simp] Fv
@[simp] theorem WX{b:Nat}{B B':Blk}(h:g≠b):(M.put b B).set g B'=(M.set g B').put b B:=Ug M B B' h
@[simp] theorem T6{b:Nat}{B:Blk}(h:M b=none):(M.put b B).del b=M:=Ri M b B h
@[simp] theorem Y0{l c:Value}:Gi T t l c K M=E0 l c (T t) K M:=nr rfl
@[simp] theorem XD{l c:Int}:E0 (.int k l) (.int k' c) (some ⟨.slc e 1 bytes z,s,zz⟩) K M=dR (0<=l/\l<=c/\c<=1099511627776/\bytes<=32/\bE z=true)
   (Ib (replicate c.toNat z) (fun b=>.slice (some ⟨b,0,none⟩) l.toNat c.toNat) K M):=nr rfl
@[simp] theorem XQ{a b:TypeId}{x y:Value}:QX T [a,b] x y K M=zW (T a) (T b) x y K M:=nr rfl
@[simp] theorem OV{d:Option TI}{x:Value}:zW (some ⟨.slc e 1 bytes z,s,zz⟩) d (.slice none 0 0) x K M=dR (ti d=true/\bE z=true/\1<=bytes/\bytes<=32) (yS bytes (du M x) K M):=nr rfl
@[simp] theorem PJ{d:Option TI}{x:Value}:zW (some ⟨.slc e 1 bytes z,s,zz⟩) d (.slice (some ⟨g,0,none⟩) n c) x K M=dR (ti d=true/\bE z=true/\1<=bytes/\bytes<=32) (GH bytes (M g) g n c (du M x) K M):=nr rfl
@[simp] theorem Vv:ti (some ⟨.slc e sz bytes z,s,zz⟩)=true:=nr rfl
@[simp] theorem YU:du M (.slice (some ⟨g,o,none⟩) n c)=M.sub? g o n:=nr rfl
@[simp] theorem OS:yS bytes (some []) K M=K (.slice none 0 0) M:=by simp[yS,vBd]
@[simp] theorem KR{x:Value}{xs:List Value}:yS bytes (some (x::xs)) K M=dR ((xs.length+1)*bytes<=70368744177664) (B9 (x::xs) K M):=nr rfl
@[simp] theorem My{xs news:List Value}{m:Nat}:GH bytes (some (.cells true xs m)) g n c (some news) K M=dR (n=xs.length/\c=m/\(n+news.length)*bytes<=70368744177664/\∀ v∈news,bE v=true) (B9 (xs++news) K (M.del g)):=nr rfl
@[simp] theorem XS{ps:List (Nat×Value)}:AA T t ps=yM ps (T t):=nr rfl
@[simp] theorem Wa{ps:List (Nat×Value)}{fs:List (Nat×Nat×Bool)}:yM ps (some ⟨.strct fs,s,z⟩)=qV (gO (fun i=>(fs[i]?).map fun x=>(x.1,x.2.1)) z.cells.toList ps):=nr rfl
@[simp] theorem VH{ps:List (Nat×Value)}{b:Bool}:yM ps (some ⟨.arr n sz b,s,z⟩)=qV (gO (fun i=>some (i*sz,sz)) z.cells.toList ps):=nr rfl
@[simp] theorem U8{fs:Nat->Option (Nat×Nat)}{cs:List Value}:gO fs cs []=some cs:=nr rfl
@[simp] theorem TM{fs:Nat->Option (Nat×Nat)}{cs:List Value}{i:Nat}{v:Value}{rest:List (Nat×Value)}:gO fs cs ((i,v)::rest)=Ej fs cs rest v (fs i):=by
 unfold Ej
 conv=>lhs;unfold gO
 all_goals (cases fs i<;>rfl)
@[simp] theorem Sa{fs:Nat->Option (Nat×Nat)}{cs:List Value}{v:Value}{rest:List (Nat×Value)}{off sz:Nat}:Ej fs cs rest v (some (off,sz))=if v.cells.size=sz/\off+sz<=cs.length then gO fs (gX cs off v.cells.toList) rest else none:=nr rfl
@[simp] theorem Tp{a:Option Addr}{n c:Nat}:(Value.slice a n c).cells = #[.slice a n c]:=nr rfl
@[simp] theorem Vl{l:B8}:(str l).cells = #[str l]:=nr rfl
@[simp] theorem Vp{k:IntKind}{i:Int}:(Value.int k i).cells = #[.int k i]:=nr rfl
@[simp] theorem UK{b:Bool}:(Value.bool b).cells = #[.bool b]:=nr rfl
@[simp] theorem UY{l:Array Value}:(Value.agg l).cells=l:=nr rfl
@[simp] theorem VI{cs vs:List Value}{o:Nat}:gX cs o vs=cs.take o++vs++cs.drop (o+vs.length):=nr rfl
@[simp] theorem TL{l:List Value}:qV (some l)=.ok (.agg l.toArray):=nr rfl
end
section
variable {P:Program} {T:Tab} {n:Nat} {Q:Exit->Env->Mem->Prop} {env:Env} {M:Mem} {K:VP} {ops rest:List Oper}
@[simp] theorem Yj:vQs P T ops Q [] env M=Q .normal env M:=nr rfl
@[simp] theorem VG{d:Option Tmp}{o:Op}{ty:TypeId}{pos:String}{af:Array Edge}:vQs P T ops Q (⟨d,o,ty,pos,af,none⟩::rest) env M=vQ P T o env (Kt (vQs P T ops Q rest) env d) M:=nr rfl
@[simp] theorem Vi{d:Option Tmp}{o:Op}{ty:TypeId}{pos:String}{af:Array Edge}{j:Nat}{b:Bool}:vQs P T ops Q (⟨d,o,ty,pos,af,some (j,b)⟩::rest) env M=vGd (yE ops env j) b (gQ P T o d (vQs P T ops Q rest)) (gB d (vQs P T ops Q rest)) env M:=nr rfl
@[simp] theorem aaT{o:Op}{d:Option Tmp}{r:Env->Mem->Prop}:gQ P T o d r env M=vQ P T o env (Kt r env d) M:=nr rfl
@[simp] theorem Y9{x:Operand}:vQ P T (.move x) env K M=vOp P T (.move x) env K M:=nr rfl
@[simp] theorem Vs{x:Operand}:vQ P T (.assign x) env K M=vOp P T (.assign x) env K M:=nr rfl
@[simp] theorem YE{c a b:Operand}:vQ P T (.pick c a b) env K M=vOp P T (.pick c a b) env K M:=nr rfl
@[simp] theorem Yt{t:TypeId}{x:Operand}:vQ P T (.load t x) env K M=vOp P T (.load t x) env K M:=nr rfl
@[simp] theorem aaf{op:BinOp}{t t':TypeId}{x y:Operand}:vQ P T (.binOp op t x y t') env K M=vOp P T (.binOp op t x y t') env K M:=nr rfl
@[simp] theorem aaQ{op:UnOp}{t:TypeId}{x:Operand}:vQ P T (.unOp op t x) env K M=vOp P T (.unOp op t x) env K M:=nr rfl
@[simp] theorem Yg{a b:TypeId}{x:Operand}:vQ P T (.convert a b x) env K M=vR (FF T a b (ev env x)) K M:=nr rfl
@[simp] theorem Vo{k k':IntKind}{m m':Nat}{z zz:Value}{i:Int}:yg (.int k i) (some ⟨.int k,m,z⟩) (some ⟨.int k',m',zz⟩)=.ok (.int k' (k'.wrap i)):=nr rfl
@[simp] theorem XW{t:TypeId}{x:Operand}{lo hi mx:Option Operand}:vQ P T (.slice t x lo hi mx) env K M=vOp P T (.slice t x lo hi mx) env K M:=nr rfl
@[simp] theorem SE{t:TypeId}{x:Operand}{f:Nat}:vQ P T (.fieldAddr t x f) env K M=vOp P T (.fieldAddr t x f) env K M:=nr rfl
@[simp] theorem Uh{t:TypeId}{x i:Operand}:vQ P T (.indexAddr t x i) env K M=vOp P T (.indexAddr t x i) env K M:=nr rfl
@[simp] theorem ZI{t:TypeId}{x i:Operand}:vQ P T (.index t x i) env K M=vOp P T (.index t x i) env K M:=nr rfl
@[simp] theorem ZN{x:Operand}{i:Nat}:vQ P T (.extract x i) env K M=vOp P T (.extract x i) env K M:=nr rfl
@[simp] theorem ZB{x:Operand}:vQ P T (.nilCheck x) env K M=vOp P T (.nilCheck x) env K M:=nr rfl
@[simp] theorem aaH{x:Operand}{t:TypeId}:vQ P T (.call ⟨.builtin .len,[x].toArray,[t].toArray⟩) env K M=vR (ES T t (ev env x)) K M:=nr rfl
@[simp] theorem Zg{l:List Operand}{ts:Array TypeId}:vQ P T (.call ⟨.builtin .min,l.toArray,ts⟩) env K M=vR (FD (l.map (ev env))) K M:=nr rfl
@[simp] theorem Z8{l:List Operand}{ts:Array TypeId}:vQ P T (.call ⟨.builtin .max,l.toArray,ts⟩) env K M=vR (Gq (l.map (ev env))) K M:=nr rfl
@[simp] theorem Ya{f:Operand}{l:List Operand}{ts:Array TypeId}:vQ P T (.call ⟨.value f,l.toArray,ts⟩) env K M=Jo P (ev env f) (l.map (ev env)) K M:=nr rfl
theorem aX{g:FuncId}{a c args:List Value}{v:Value}(h:ar P g (a++args++c) M fun v' M'=>v'=v/\M'=M)(hk:K v M):Jo P (.func (.func g) a.toArray c.toArray) args K M:=⟨v,h,hk⟩
end
theorem ad{R:VP}{v:Value}{M:Mem}(h:R v M):QE R v M:=⟨M,Sub.refl M,h⟩
theorem ag{R:VP}{v:Value}{M M1:Mem}(hs:Sub M1 M)(h:R v M1):QE R v M:=⟨M1,hs,h⟩
end Go.Proofs.YtapimhjbilkfpaaGreatDoor
