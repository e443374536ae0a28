/- Lemmas, part 2. -/
import Derived.Test.YtapimhjbilkfpaaGreatDoorY00
import Derived.Test.YtapimhjbilkfpaaGreatDoorProg
import Derived.KernelRfl
import Derived.StillTail
import Derived.Below
import Derived.SliceStrings
import Derived.ChangeSame
import Derived.WideShapes
import Derived.Deep.Strs
import Derived.RangeFuncGives
import Derived.RangeFuncLeaves
import Derived.OwnWalkIn
import Derived.TacticsInMore
import Derived.LoopNIn
import Derived.LoopIn
import Derived.Shelf.Strings.BuilderK
import Derived.RangeFuncBox
import Derived.Shelf.Abstract
import Derived.Shelf.RegionOpen
import Derived.WalkKit
import Derived.Lib.ParseIntB
import Derived.Lib.ItoaMem
set_option linter.unusedVariables false
set_option linter.unusedSimpArgs false
set_option maxHeartbeats 8000000
namespace Go.Proofs.YtapimhjbilkfpaaGreatDoor
open Go Go.Proofs.Tryz List
def Pr:Tab:=fun t=>match t with
 | 1=>some ⟨.func,1,.nilFunc⟩
 | 2=>some ⟨.int .i64,1,.int .i64 0⟩
 | 3=>some ⟨.int .i64,1,.int .i64 0⟩
 | 4=>some ⟨.bool,1,.bool false⟩
 | 5=>some ⟨.int .u8,1,.int .u8 0⟩
 | 6=>some ⟨.int .u8,1,.int .u8 0⟩
 | 7=>some ⟨.strct [(0,1,false),(1,1,false),(2,1,false),(3,1,false)],4,.agg #[.int .i64 0,.int .i64 0,.bool false,.int .u8 0]⟩
 | 8=>some ⟨.strct [(0,1,false),(1,1,false),(2,1,false),(3,1,false)],4,.agg #[.int .i64 0,.int .i64 0,.bool false,.int .u8 0]⟩
 | 9=>some ⟨.str,1,str []⟩
 | 10=>some ⟨.str,1,str []⟩
 | 12=>some ⟨.int .u64,1,.int .u64 0⟩
 | 20=>some ⟨.iface,1,.nilIface⟩
 | 21=>some ⟨.int .i32,1,.int .i32 0⟩
 | 22=>some ⟨.func,1,.nilFunc⟩
 | 23=>some ⟨.func,1,.nilFunc⟩
 | 24=>some ⟨.slc 9 1 16 (str []),1,.slice none 0 0⟩
 | 25=>some ⟨.strct [(0,1,false)],1,.agg #[.slice none 0 0]⟩
 | 26=>some ⟨.strct [(0,1,false)],1,.agg #[.slice none 0 0]⟩
 | 27=>some ⟨.strct [(0,1,false),(1,1,false),(2,1,true)],3,.agg #[str [],str [],.slice none 0 0]⟩
 | 28=>some ⟨.strct [(0,1,false),(1,1,false),(2,1,true)],3,.agg #[str [],str [],.slice none 0 0]⟩
 | 36=>some ⟨.strct [(0,1,false)],1,.agg #[.slice none 0 0]⟩
 | 37=>some ⟨.strct [(0,1,false),(1,1,false),(2,1,true)],3,.agg #[str [],str [],.slice none 0 0]⟩
 | 38=>some ⟨.strct [(0,1,false),(1,1,false),(2,1,true)],3,.agg #[str [],str [],.slice none 0 0]⟩
 | 43=>some ⟨.slc 5 1 1 (.int .u8 0),1,.slice none 0 0⟩
 | 59=>some ⟨.flat,1,.pointer none⟩
 | 69=>some ⟨.flat,1,.pointer none⟩
 | 70=>some ⟨.strct [(0,1,false),(1,1,false)],2,.agg #[.pointer none,.slice none 0 0]⟩
 | 71=>some ⟨.strct [(0,1,false),(1,1,false)],2,.agg #[.pointer none,.slice none 0 0]⟩
 | 72=>some ⟨.func,1,.nilFunc⟩
 | 73=>some ⟨.func,1,.nilFunc⟩
 | 76=>some ⟨.iface,1,.nilIface⟩
 | 77=>some ⟨.iface,1,.nilIface⟩
 | 81=>some ⟨.strct [(0,3,true),(3,1,false),(4,1,false)],5,.agg #[str [],str [],.slice none 0 0,str [],.int .i64 0]⟩
 | 82=>some ⟨.strct [(0,3,true),(3,1,false),(4,1,false)],5,.agg #[str [],str [],.slice none 0 0,str [],.int .i64 0]⟩
 | 92=>some ⟨.slc 2 1 8 (.int .i64 0),1,.slice none 0 0⟩
 | 96=>some ⟨.int .u64,1,.int .u64 0⟩
 | 97=>some ⟨.strct [(0,1,false),(1,1,false),(2,1,false)],3,.agg #[.slice none 0 0,.int .i64 0,.int .u64 0]⟩
 | 98=>some ⟨.strct [(0,1,false),(1,1,false),(2,1,false)],3,.agg #[.slice none 0 0,.int .i64 0,.int .u64 0]⟩
 | 99=>some ⟨.func,1,.nilFunc⟩
 | 103=>some ⟨.int .u64,1,.int .u64 0⟩
 | 105=>some ⟨.func,1,.nilFunc⟩
 | 111=>some ⟨.flat,1,.pointer none⟩
 | 152=>some ⟨.func,1,.nilFunc⟩
 | 156=>some ⟨.slc 3 1 8 (.int .i64 0),1,.slice none 0 0⟩
 | 177=>some ⟨.slc 92 1 24 (.slice none 0 0),1,.slice none 0 0⟩
 | 201=>some ⟨.flat,1,.map none⟩
 | 219=>some ⟨.slc 4 1 1 (.bool false),1,.slice none 0 0⟩
 | 230=>some ⟨.int .u32,1,.int .u32 0⟩
 | 237=>some ⟨.arr 3 1 false,3,.agg #[str [],str [],str []]⟩
 | 243=>some ⟨.func,1,.nilFunc⟩
 | 245=>some ⟨.func,1,.nilFunc⟩
 | 257=>some ⟨.func,1,.nilFunc⟩
 | 268=>some ⟨.func,1,.nilFunc⟩
 | 276=>some ⟨.func,1,.nilFunc⟩
 | 277=>some ⟨.func,1,.nilFunc⟩
 | 311=>some ⟨.int .i64,1,.int .i64 0⟩
 | _=>none
def tab:Tab:=fun t=>Pr t
@[simp] theorem abp:tab 1=some ⟨.func,1,.nilFunc⟩:=rfl
@[simp] theorem abo:tab 2=some ⟨.int .i64,1,.int .i64 0⟩:=rfl
@[simp] theorem abn:tab 3=some ⟨.int .i64,1,.int .i64 0⟩:=rfl
@[simp] theorem abA:tab 4=some ⟨.bool,1,.bool false⟩:=rfl
@[simp] theorem aby:tab 5=some ⟨.int .u8,1,.int .u8 0⟩:=rfl
@[simp] theorem abq:tab 6=some ⟨.int .u8,1,.int .u8 0⟩:=rfl
@[simp] theorem abx:tab 7=some ⟨.strct [(0,1,false),(1,1,false),(2,1,false),(3,1,false)],4,.agg #[.int .i64 0,.int .i64 0,.bool false,.int .u8 0]⟩:=rfl
@[simp] theorem abB:tab 8=some ⟨.strct [(0,1,false),(1,1,false),(2,1,false),(3,1,false)],4,.agg #[.int .i64 0,.int .i64 0,.bool false,.int .u8 0]⟩:=rfl
@[simp] theorem abz:tab 9=some ⟨.str,1,str []⟩:=rfl
@[simp] theorem abg:tab 10=some ⟨.str,1,str []⟩:=rfl
@[simp] theorem aaM:tab 12=some ⟨.int .u64,1,.int .u64 0⟩:=rfl
@[simp] theorem aaJ:tab 20=some ⟨.iface,1,.nilIface⟩:=rfl
@[simp] theorem aa7:tab 21=some ⟨.int .i32,1,.int .i32 0⟩:=rfl
@[simp] theorem aba:tab 22=some ⟨.func,1,.nilFunc⟩:=rfl
@[simp] theorem aa9:tab 23=some ⟨.func,1,.nilFunc⟩:=rfl
@[simp] theorem aa1:tab 24=some ⟨.slc 9 1 16 (str []),1,.slice none 0 0⟩:=rfl
@[simp] theorem aaS:tab 25=some ⟨.strct [(0,1,false)],1,.agg #[.slice none 0 0]⟩:=rfl
@[simp] theorem aaO:tab 26=some ⟨.strct [(0,1,false)],1,.agg #[.slice none 0 0]⟩:=rfl
@[simp] theorem aaL:tab 27=some ⟨.strct [(0,1,false),(1,1,false),(2,1,true)],3,.agg #[str [],str [],.slice none 0 0]⟩:=rfl
@[simp] theorem abh:tab 28=some ⟨.strct [(0,1,false),(1,1,false),(2,1,true)],3,.agg #[str [],str [],.slice none 0 0]⟩:=rfl
@[simp] theorem aaP:tab 36=some ⟨.strct [(0,1,false)],1,.agg #[.slice none 0 0]⟩:=rfl
@[simp] theorem aaZ:tab 37=some ⟨.strct [(0,1,false),(1,1,false),(2,1,true)],3,.agg #[str [],str [],.slice none 0 0]⟩:=rfl
@[simp] theorem aa0:tab 38=some ⟨.strct [(0,1,false),(1,1,false),(2,1,true)],3,.agg #[str [],str [],.slice none 0 0]⟩:=rfl
@[simp] theorem abf:tab 43=some ⟨.slc 5 1 1 (.int .u8 0),1,.slice none 0 0⟩:=rfl
@[simp] theorem aaN:tab 59=some ⟨.flat,1,.pointer none⟩:=rfl
@[simp] theorem aaV:tab 69=some ⟨.flat,1,.pointer none⟩:=rfl
@[simp] theorem abk:tab 70=some ⟨.strct [(0,1,false),(1,1,false)],2,.agg #[.pointer none,.slice none 0 0]⟩:=rfl
@[simp] theorem abe:tab 71=some ⟨.strct [(0,1,false),(1,1,false)],2,.agg #[.pointer none,.slice none 0 0]⟩:=rfl
@[simp] theorem abj:tab 72=some ⟨.func,1,.nilFunc⟩:=rfl
@[simp] theorem aaR:tab 73=some ⟨.func,1,.nilFunc⟩:=rfl
@[simp] theorem aaW:tab 76=some ⟨.iface,1,.nilIface⟩:=rfl
@[simp] theorem abl:tab 77=some ⟨.iface,1,.nilIface⟩:=rfl
@[simp] theorem aaY:tab 81=some ⟨.strct [(0,3,true),(3,1,false),(4,1,false)],5,.agg #[str [],str [],.slice none 0 0,str [],.int .i64 0]⟩:=rfl
@[simp] theorem aa8:tab 82=some ⟨.strct [(0,3,true),(3,1,false),(4,1,false)],5,.agg #[str [],str [],.slice none 0 0,str [],.int .i64 0]⟩:=rfl
@[simp] theorem abm:tab 92=some ⟨.slc 2 1 8 (.int .i64 0),1,.slice none 0 0⟩:=rfl
@[simp] theorem aaK:tab 96=some ⟨.int .u64,1,.int .u64 0⟩:=rfl
@[simp] theorem abd:tab 97=some ⟨.strct [(0,1,false),(1,1,false),(2,1,false)],3,.agg #[.slice none 0 0,.int .i64 0,.int .u64 0]⟩:=rfl
@[simp] theorem aa6:tab 98=some ⟨.strct [(0,1,false),(1,1,false),(2,1,false)],3,.agg #[.slice none 0 0,.int .i64 0,.int .u64 0]⟩:=rfl
@[simp] theorem abb:tab 99=some ⟨.func,1,.nilFunc⟩:=rfl
@[simp] theorem ZV:tab 103=some ⟨.int .u64,1,.int .u64 0⟩:=rfl
@[simp] theorem ZO:tab 105=some ⟨.func,1,.nilFunc⟩:=rfl
@[simp] theorem Z2:tab 111=some ⟨.flat,1,.pointer none⟩:=rfl
@[simp] theorem Zn:tab 152=some ⟨.func,1,.nilFunc⟩:=rfl
@[simp] theorem ZU:tab 156=some ⟨.slc 3 1 8 (.int .i64 0),1,.slice none 0 0⟩:=rfl
@[simp] theorem aaq:tab 177=some ⟨.slc 92 1 24 (.slice none 0 0),1,.slice none 0 0⟩:=rfl
@[simp] theorem aaE:tab 201=some ⟨.flat,1,.map none⟩:=rfl
@[simp] theorem aas:tab 219=some ⟨.slc 4 1 1 (.bool false),1,.slice none 0 0⟩:=rfl
@[simp] theorem ZR:tab 230=some ⟨.int .u32,1,.int .u32 0⟩:=rfl
@[simp] theorem ZG:tab 237=some ⟨.arr 3 1 false,3,.agg #[str [],str [],str []]⟩:=rfl
@[simp] theorem Zx:tab 243=some ⟨.func,1,.nilFunc⟩:=rfl
@[simp] theorem ZP:tab 245=some ⟨.func,1,.nilFunc⟩:=rfl
@[simp] theorem aaw:tab 257=some ⟨.func,1,.nilFunc⟩:=rfl
@[simp] theorem aaj:tab 268=some ⟨.func,1,.nilFunc⟩:=rfl
@[simp] theorem aav:tab 276=some ⟨.func,1,.nilFunc⟩:=rfl
@[simp] theorem Z4:tab 277=some ⟨.func,1,.nilFunc⟩:=rfl
@[simp] theorem Zw:tab 311=some ⟨.int .i64,1,.int .i64 0⟩:=rfl
theorem kg{t:TypeId}{z:Value}{s b:Nat}(h:(prog.info? t).map (fun i=>(i.zero,i.size,i.bytes))=some (some z,s,b)):∃ I,prog.info? t=some I/\I.size=s/\I.bytes=b/\I.zero=some z:=by
 obtain⟨I,h1,h2⟩:=Option.map_eq_some_iff.1 h;injection h2 with h2 h3
 injection h3 with h3 h4
 exact⟨I,h1,h3,h4,h2⟩
theorem aJ{t:TypeId}{z:Value}{s b:Nat}(h:(prog.info? t).map (fun i=>(i.zero,i.size,i.bytes))=some (some z,s,b)):∃ I,prog.info? t=some I/\I.zero=some z/\I.size=s:=by
 obtain⟨I,h1,h2,_,h4⟩:=kg h;exact⟨I,h1,h4,h2⟩
theorem ZM:(prog.info? 1).map (fun i=>(i.zero,i.size,i.bytes))=some (some (.nilFunc),1,8):=by kernel_rfl
theorem VU:(prog.info? 2).map (fun i=>(i.zero,i.size,i.bytes))=some (some (.int .i64 0),1,8):=by kernel_rfl
theorem Xv:(prog.info? 3).map (fun i=>(i.zero,i.size,i.bytes))=some (some (.int .i64 0),1,8):=by kernel_rfl
theorem WE:(prog.info? 4).map (fun i=>(i.zero,i.size,i.bytes))=some (some (.bool false),1,1):=by kernel_rfl
theorem XC:(prog.info? 5).map (fun i=>(i.zero,i.size,i.bytes))=some (some (.int .u8 0),1,1):=by kernel_rfl
theorem aan:(prog.info? 6).map (fun i=>(i.zero,i.size,i.bytes))=some (some (.int .u8 0),1,1):=by kernel_rfl
theorem aay:(prog.info? 7).map (fun i=>(i.zero,i.size,i.bytes))=some (some (.agg #[.int .i64 0,.int .i64 0,.bool false,.int .u8 0]),4,24):=by kernel_rfl
theorem aae:(prog.info? 8).map (fun i=>(i.zero,i.size,i.bytes))=some (some (.agg #[.int .i64 0,.int .i64 0,.bool false,.int .u8 0]),4,24):=by kernel_rfl
theorem U1:(prog.info? 9).map (fun i=>(i.zero,i.size,i.bytes))=some (some (str []),1,16):=by kernel_rfl
theorem WJ:(prog.info? 10).map (fun i=>(i.zero,i.size,i.bytes))=some (some (str []),1,16):=by kernel_rfl
theorem Ws:(prog.info? 12).map (fun i=>(i.zero,i.size,i.bytes))=some (some (.int .u64 0),1,8):=by kernel_rfl
theorem XX:(prog.info? 20).map (fun i=>(i.zero,i.size,i.bytes))=some (some (.nilIface),1,16):=by kernel_rfl
theorem Wp:(prog.info? 21).map (fun i=>(i.zero,i.size,i.bytes))=some (some (.int .i32 0),1,4):=by kernel_rfl
theorem WC:(prog.info? 22).map (fun i=>(i.zero,i.size,i.bytes))=some (some (.nilFunc),1,8):=by kernel_rfl
theorem XF:(prog.info? 23).map (fun i=>(i.zero,i.size,i.bytes))=some (some (.nilFunc),1,8):=by kernel_rfl
theorem W8:(prog.info? 24).map (fun i=>(i.zero,i.size,i.bytes))=some (some (.slice none 0 0),1,24):=by kernel_rfl
theorem VV:(prog.info? 25).map (fun i=>(i.zero,i.size,i.bytes))=some (some (.agg #[.slice none 0 0]),1,24):=by kernel_rfl
theorem XI:(prog.info? 26).map (fun i=>(i.zero,i.size,i.bytes))=some (some (.agg #[.slice none 0 0]),1,24):=by kernel_rfl
theorem XG:(prog.info? 27).map (fun i=>(i.zero,i.size,i.bytes))=some (some (.agg #[str [],str [],.slice none 0 0]),3,56):=by kernel_rfl
theorem Wn:(prog.info? 28).map (fun i=>(i.zero,i.size,i.bytes))=some (some (.agg #[str [],str [],.slice none 0 0]),3,56):=by kernel_rfl
theorem Wf:(prog.info? 36).map (fun i=>(i.zero,i.size,i.bytes))=some (some (.agg #[.slice none 0 0]),1,24):=by kernel_rfl
theorem XL:(prog.info? 37).map (fun i=>(i.zero,i.size,i.bytes))=some (some (.agg #[str [],str [],.slice none 0 0]),3,56):=by kernel_rfl
theorem Xd:(prog.info? 38).map (fun i=>(i.zero,i.size,i.bytes))=some (some (.agg #[str [],str [],.slice none 0 0]),3,56):=by kernel_rfl
theorem XT:(prog.info? 43).map (fun i=>(i.zero,i.size,i.bytes))=some (some (.slice none 0 0),1,24):=by kernel_rfl
theorem WR:(prog.info? 59).map (fun i=>(i.zero,i.size,i.bytes))=some (some (.pointer none),1,8):=by kernel_rfl
theorem XJ:(prog.info? 69).map (fun i=>(i.zero,i.size,i.bytes))=some (some (.pointer none),1,8):=by kernel_rfl
theorem Wu:(prog.info? 70).map (fun i=>(i.zero,i.size,i.bytes))=some (some (.agg #[.pointer none,.slice none 0 0]),2,32):=by kernel_rfl
theorem XU:(prog.info? 71).map (fun i=>(i.zero,i.size,i.bytes))=some (some (.agg #[.pointer none,.slice none 0 0]),2,32):=by kernel_rfl
theorem Wv:(prog.info? 72).map (fun i=>(i.zero,i.size,i.bytes))=some (some (.nilFunc),1,8):=by kernel_rfl
theorem WV:(prog.info? 73).map (fun i=>(i.zero,i.size,i.bytes))=some (some (.nilFunc),1,8):=by kernel_rfl
theorem Xg:(prog.info? 76).map (fun i=>(i.zero,i.size,i.bytes))=some (some (.nilIface),1,16):=by kernel_rfl
theorem Xi:(prog.info? 77).map (fun i=>(i.zero,i.size,i.bytes))=some (some (.nilIface),1,16):=by kernel_rfl
theorem VW:(prog.info? 81).map (fun i=>(i.zero,i.size,i.bytes))=some (some (.agg #[str [],str [],.slice none 0 0,str [],.int .i64 0]),5,80):=by kernel_rfl
theorem WY:(prog.info? 82).map (fun i=>(i.zero,i.size,i.bytes))=some (some (.agg #[str [],str [],.slice none 0 0,str [],.int .i64 0]),5,80):=by kernel_rfl
theorem Tt:(prog.info? 92).map (fun i=>(i.zero,i.size,i.bytes))=some (some (.slice none 0 0),1,24):=by kernel_rfl
theorem Xa:(prog.info? 96).map (fun i=>(i.zero,i.size,i.bytes))=some (some (.int .u64 0),1,8):=by kernel_rfl
theorem WI:(prog.info? 97).map (fun i=>(i.zero,i.size,i.bytes))=some (some (.agg #[.slice none 0 0,.int .i64 0,.int .u64 0]),3,40):=by kernel_rfl
theorem Xn:(prog.info? 98).map (fun i=>(i.zero,i.size,i.bytes))=some (some (.agg #[.slice none 0 0,.int .i64 0,.int .u64 0]),3,40):=by kernel_rfl
theorem XM:(prog.info? 99).map (fun i=>(i.zero,i.size,i.bytes))=some (some (.nilFunc),1,8):=by kernel_rfl
theorem T9:(prog.info? 103).map (fun i=>(i.zero,i.size,i.bytes))=some (some (.int .u64 0),1,8):=by kernel_rfl
theorem T8:(prog.info? 105).map (fun i=>(i.zero,i.size,i.bytes))=some (some (.nilFunc),1,8):=by kernel_rfl
theorem Ud:(prog.info? 111).map (fun i=>(i.zero,i.size,i.bytes))=some (some (.pointer none),1,8):=by kernel_rfl
theorem T2:(prog.info? 152).map (fun i=>(i.zero,i.size,i.bytes))=some (some (.nilFunc),1,8):=by kernel_rfl
theorem Vg:(prog.info? 156).map (fun i=>(i.zero,i.size,i.bytes))=some (some (.slice none 0 0),1,24):=by kernel_rfl
theorem UT:(prog.info? 177).map (fun i=>(i.zero,i.size,i.bytes))=some (some (.slice none 0 0),1,24):=by kernel_rfl
theorem UF:(prog.info? 201).map (fun i=>(i.zero,i.size,i.bytes))=some (some (.map none),1,8):=by kernel_rfl
theorem UW:(prog.info? 219).map (fun i=>(i.zero,i.size,i.bytes))=some (some (.slice none 0 0),1,24):=by kernel_rfl
theorem UJ:(prog.info? 230).map (fun i=>(i.zero,i.size,i.bytes))=some (some (.int .u32 0),1,4):=by kernel_rfl
theorem Ur:(prog.info? 237).map (fun i=>(i.zero,i.size,i.bytes))=some (some (.agg #[str [],str [],str []]),3,48):=by kernel_rfl
theorem UE:(prog.info? 243).map (fun i=>(i.zero,i.size,i.bytes))=some (some (.nilFunc),1,8):=by kernel_rfl
theorem T5:(prog.info? 245).map (fun i=>(i.zero,i.size,i.bytes))=some (some (.nilFunc),1,8):=by kernel_rfl
theorem UD:(prog.info? 257).map (fun i=>(i.zero,i.size,i.bytes))=some (some (.nilFunc),1,8):=by kernel_rfl
theorem Vb:(prog.info? 268).map (fun i=>(i.zero,i.size,i.bytes))=some (some (.nilFunc),1,8):=by kernel_rfl
theorem Uc:(prog.info? 276).map (fun i=>(i.zero,i.size,i.bytes))=some (some (.nilFunc),1,8):=by kernel_rfl
theorem Ve:(prog.info? 277).map (fun i=>(i.zero,i.size,i.bytes))=some (some (.nilFunc),1,8):=by kernel_rfl
theorem UB:(prog.info? 311).map (fun i=>(i.zero,i.size,i.bytes))=some (some (.int .i64 0),1,8):=by kernel_rfl
theorem ok1:TI.ok prog 1 ⟨.func,1,.nilFunc⟩:=⟨⟨_,_,_,underlying1⟩,aJ ZM⟩
theorem ok2:TI.ok prog 2 ⟨.int .i64,1,.int .i64 0⟩:=⟨underlying2,aJ VU⟩
theorem ok3:TI.ok prog 3 ⟨.int .i64,1,.int .i64 0⟩:=⟨underlying3,aJ Xv⟩
theorem ok4:TI.ok prog 4 ⟨.bool,1,.bool false⟩:=⟨underlying4,aJ WE⟩
theorem ok5:TI.ok prog 5 ⟨.int .u8,1,.int .u8 0⟩:=⟨underlying5,aJ XC⟩
theorem ok6:TI.ok prog 6 ⟨.int .u8,1,.int .u8 0⟩:=⟨underlying6,aJ aan⟩
theorem ok7:TI.ok prog 7 ⟨.strct [(0,1,false),(1,1,false),(2,1,false),(3,1,false)],4,.agg #[.int .i64 0,.int .i64 0,.bool false,.int .u8 0]⟩:=⟨⟨_,underlying7,by kernel_rfl,by
  intro f hf;simp only[mem_cons,not_mem_nil,or_false]at hf
  (first|(rcases hf with rfl|rfl|rfl|rfl)|(obtain rfl:=hf))<;>exact⟨by kernel_rfl,by kernel_rfl⟩⟩,aJ aay⟩
theorem ok8:TI.ok prog 8 ⟨.strct [(0,1,false),(1,1,false),(2,1,false),(3,1,false)],4,.agg #[.int .i64 0,.int .i64 0,.bool false,.int .u8 0]⟩:=⟨⟨_,underlying8,by kernel_rfl,by
  intro f hf;simp only[mem_cons,not_mem_nil,or_false]at hf
  (first|(rcases hf with rfl|rfl|rfl|rfl)|(obtain rfl:=hf))<;>exact⟨by kernel_rfl,by kernel_rfl⟩⟩,aJ aae⟩
theorem ok9:TI.ok prog 9 ⟨.str,1,str []⟩:=⟨underlying9,aJ U1⟩
theorem Z6:TI.ok prog 10 ⟨.str,1,str []⟩:=⟨underlying10,aJ WJ⟩
theorem aaC:TI.ok prog 12 ⟨.int .u64,1,.int .u64 0⟩:=⟨underlying12,aJ Ws⟩
theorem Zp:TI.ok prog 20 ⟨.iface,1,.nilIface⟩:=⟨⟨_,underlying20⟩,aJ XX⟩
theorem aaI:TI.ok prog 21 ⟨.int .i32,1,.int .i32 0⟩:=⟨underlying21,aJ Wp⟩
theorem ZE:TI.ok prog 22 ⟨.func,1,.nilFunc⟩:=⟨⟨_,_,_,underlying22⟩,aJ WC⟩
theorem aar:TI.ok prog 23 ⟨.func,1,.nilFunc⟩:=⟨⟨_,_,_,underlying23⟩,aJ XF⟩
theorem Z5:TI.ok prog 24 ⟨.slc 9 1 16 (str []),1,.slice none 0 0⟩:=⟨⟨underlying24,kg U1⟩,aJ W8⟩
theorem Zj:TI.ok prog 25 ⟨.strct [(0,1,false)],1,.agg #[.slice none 0 0]⟩:=⟨⟨_,underlying25,by kernel_rfl,by
  intro f hf;simp only[mem_cons,not_mem_nil,or_false]at hf
  (first|(rcases hf with rfl)|(obtain rfl:=hf))<;>exact⟨by kernel_rfl,by kernel_rfl⟩⟩,aJ VV⟩
theorem aak:TI.ok prog 26 ⟨.strct [(0,1,false)],1,.agg #[.slice none 0 0]⟩:=⟨⟨_,underlying26,by kernel_rfl,by
  intro f hf;simp only[mem_cons,not_mem_nil,or_false]at hf
  (first|(rcases hf with rfl)|(obtain rfl:=hf))<;>exact⟨by kernel_rfl,by kernel_rfl⟩⟩,aJ XI⟩
theorem aag:TI.ok prog 27 ⟨.strct [(0,1,false),(1,1,false),(2,1,true)],3,.agg #[str [],str [],.slice none 0 0]⟩:=⟨⟨_,underlying27,by kernel_rfl,by
  intro f hf;simp only[mem_cons,not_mem_nil,or_false]at hf
  (first|(rcases hf with rfl|rfl|rfl)|(obtain rfl:=hf))<;>exact⟨by kernel_rfl,by kernel_rfl⟩⟩,aJ XG⟩
theorem aaz:TI.ok prog 28 ⟨.strct [(0,1,false),(1,1,false),(2,1,true)],3,.agg #[str [],str [],.slice none 0 0]⟩:=⟨⟨_,underlying28,by kernel_rfl,by
  intro f hf;simp only[mem_cons,not_mem_nil,or_false]at hf
  (first|(rcases hf with rfl|rfl|rfl)|(obtain rfl:=hf))<;>exact⟨by kernel_rfl,by kernel_rfl⟩⟩,aJ Wn⟩
theorem aaF:TI.ok prog 36 ⟨.strct [(0,1,false)],1,.agg #[.slice none 0 0]⟩:=⟨⟨_,underlying36,by kernel_rfl,by
  intro f hf;simp only[mem_cons,not_mem_nil,or_false]at hf
  (first|(rcases hf with rfl)|(obtain rfl:=hf))<;>exact⟨by kernel_rfl,by kernel_rfl⟩⟩,aJ Wf⟩
theorem aaD:TI.ok prog 37 ⟨.strct [(0,1,false),(1,1,false),(2,1,true)],3,.agg #[str [],str [],.slice none 0 0]⟩:=⟨⟨_,underlying37,by kernel_rfl,by
  intro f hf;simp only[mem_cons,not_mem_nil,or_false]at hf
  (first|(rcases hf with rfl|rfl|rfl)|(obtain rfl:=hf))<;>exact⟨by kernel_rfl,by kernel_rfl⟩⟩,aJ XL⟩
theorem aax:TI.ok prog 38 ⟨.strct [(0,1,false),(1,1,false),(2,1,true)],3,.agg #[str [],str [],.slice none 0 0]⟩:=⟨⟨_,underlying38,by kernel_rfl,by
  intro f hf;simp only[mem_cons,not_mem_nil,or_false]at hf
  (first|(rcases hf with rfl|rfl|rfl)|(obtain rfl:=hf))<;>exact⟨by kernel_rfl,by kernel_rfl⟩⟩,aJ Xd⟩
theorem Zo:TI.ok prog 43 ⟨.slc 5 1 1 (.int .u8 0),1,.slice none 0 0⟩:=⟨⟨underlying43,kg XC⟩,aJ XT⟩
theorem ZA:TI.ok prog 59 ⟨.flat,1,.pointer none⟩:=⟨⟨_,underlying59,rfl⟩,aJ WR⟩
theorem aaB:TI.ok prog 69 ⟨.flat,1,.pointer none⟩:=⟨⟨_,underlying69,rfl⟩,aJ XJ⟩
theorem aap:TI.ok prog 70 ⟨.strct [(0,1,false),(1,1,false)],2,.agg #[.pointer none,.slice none 0 0]⟩:=⟨⟨_,underlying70,by kernel_rfl,by
  intro f hf;simp only[mem_cons,not_mem_nil,or_false]at hf
  (first|(rcases hf with rfl|rfl)|(obtain rfl:=hf))<;>exact⟨by kernel_rfl,by kernel_rfl⟩⟩,aJ Wu⟩
theorem Zl:TI.ok prog 71 ⟨.strct [(0,1,false),(1,1,false)],2,.agg #[.pointer none,.slice none 0 0]⟩:=⟨⟨_,underlying71,by kernel_rfl,by
  intro f hf;simp only[mem_cons,not_mem_nil,or_false]at hf
  (first|(rcases hf with rfl|rfl)|(obtain rfl:=hf))<;>exact⟨by kernel_rfl,by kernel_rfl⟩⟩,aJ XU⟩
theorem ZQ:TI.ok prog 72 ⟨.func,1,.nilFunc⟩:=⟨⟨_,_,_,underlying72⟩,aJ Wv⟩
theorem aat:TI.ok prog 73 ⟨.func,1,.nilFunc⟩:=⟨⟨_,_,_,underlying73⟩,aJ WV⟩
theorem ZL:TI.ok prog 76 ⟨.iface,1,.nilIface⟩:=⟨⟨_,underlying76⟩,aJ Xg⟩
theorem ZJ:TI.ok prog 77 ⟨.iface,1,.nilIface⟩:=⟨⟨_,underlying77⟩,aJ Xi⟩
theorem Z9:TI.ok prog 81 ⟨.strct [(0,3,true),(3,1,false),(4,1,false)],5,.agg #[str [],str [],.slice none 0 0,str [],.int .i64 0]⟩:=⟨⟨_,underlying81,by kernel_rfl,by
  intro f hf;simp only[mem_cons,not_mem_nil,or_false]at hf
  (first|(rcases hf with rfl|rfl|rfl)|(obtain rfl:=hf))<;>exact⟨by kernel_rfl,by kernel_rfl⟩⟩,aJ VW⟩
theorem Z1:TI.ok prog 82 ⟨.strct [(0,3,true),(3,1,false),(4,1,false)],5,.agg #[str [],str [],.slice none 0 0,str [],.int .i64 0]⟩:=⟨⟨_,underlying82,by kernel_rfl,by
  intro f hf;simp only[mem_cons,not_mem_nil,or_false]at hf
  (first|(rcases hf with rfl|rfl|rfl)|(obtain rfl:=hf))<;>exact⟨by kernel_rfl,by kernel_rfl⟩⟩,aJ WY⟩
theorem ZD:TI.ok prog 92 ⟨.slc 2 1 8 (.int .i64 0),1,.slice none 0 0⟩:=⟨⟨underlying92,kg VU⟩,aJ Tt⟩
theorem ZH:TI.ok prog 96 ⟨.int .u64,1,.int .u64 0⟩:=⟨underlying96,aJ Xa⟩
theorem ZW:TI.ok prog 97 ⟨.strct [(0,1,false),(1,1,false),(2,1,false)],3,.agg #[.slice none 0 0,.int .i64 0,.int .u64 0]⟩:=⟨⟨_,underlying97,by kernel_rfl,by
  intro f hf;simp only[mem_cons,not_mem_nil,or_false]at hf
  (first|(rcases hf with rfl|rfl|rfl)|(obtain rfl:=hf))<;>exact⟨by kernel_rfl,by kernel_rfl⟩⟩,aJ WI⟩
theorem ZS:TI.ok prog 98 ⟨.strct [(0,1,false),(1,1,false),(2,1,false)],3,.agg #[.slice none 0 0,.int .i64 0,.int .u64 0]⟩:=⟨⟨_,underlying98,by kernel_rfl,by
  intro f hf;simp only[mem_cons,not_mem_nil,or_false]at hf
  (first|(rcases hf with rfl|rfl|rfl)|(obtain rfl:=hf))<;>exact⟨by kernel_rfl,by kernel_rfl⟩⟩,aJ Xn⟩
theorem aaa:TI.ok prog 99 ⟨.func,1,.nilFunc⟩:=⟨⟨_,_,_,underlying99⟩,aJ XM⟩
theorem WQ:TI.ok prog 103 ⟨.int .u64,1,.int .u64 0⟩:=⟨underlying103,aJ T9⟩
theorem V8:TI.ok prog 105 ⟨.func,1,.nilFunc⟩:=⟨⟨_,_,_,underlying105⟩,aJ T8⟩
theorem X6:TI.ok prog 111 ⟨.flat,1,.pointer none⟩:=⟨⟨_,underlying111,rfl⟩,aJ Ud⟩
theorem Wk:TI.ok prog 152 ⟨.func,1,.nilFunc⟩:=⟨⟨_,_,_,underlying152⟩,aJ T2⟩
theorem VX:TI.ok prog 156 ⟨.slc 3 1 8 (.int .i64 0),1,.slice none 0 0⟩:=⟨⟨underlying156,kg Xv⟩,aJ Vg⟩
theorem Wb:TI.ok prog 177 ⟨.slc 92 1 24 (.slice none 0 0),1,.slice none 0 0⟩:=⟨⟨underlying177,kg Tt⟩,aJ UT⟩
theorem We:TI.ok prog 201 ⟨.flat,1,.map none⟩:=⟨⟨_,underlying201,rfl⟩,aJ UF⟩
theorem X3:TI.ok prog 219 ⟨.slc 4 1 1 (.bool false),1,.slice none 0 0⟩:=⟨⟨underlying219,kg WE⟩,aJ UW⟩
theorem V4:TI.ok prog 230 ⟨.int .u32,1,.int .u32 0⟩:=⟨underlying230,aJ UJ⟩
theorem XP:TI.ok prog 237 ⟨.arr 3 1 false,3,.agg #[str [],str [],str []]⟩:=⟨⟨_,underlying237,(let ⟨I,a,b,_⟩:=kg U1;⟨I,a,b⟩),by kernel_rfl,by kernel_rfl⟩,aJ Ur⟩
theorem V9:TI.ok prog 243 ⟨.func,1,.nilFunc⟩:=⟨⟨_,_,_,underlying243⟩,aJ UE⟩
theorem W9:TI.ok prog 245 ⟨.func,1,.nilFunc⟩:=⟨⟨_,_,_,underlying245⟩,aJ T5⟩
theorem Wh:TI.ok prog 257 ⟨.func,1,.nilFunc⟩:=⟨⟨_,_,_,underlying257⟩,aJ UD⟩
theorem V5:TI.ok prog 268 ⟨.func,1,.nilFunc⟩:=⟨⟨_,_,_,underlying268⟩,aJ Vb⟩
theorem WB:TI.ok prog 276 ⟨.func,1,.nilFunc⟩:=⟨⟨_,_,_,underlying276⟩,aJ Uc⟩
theorem WK:TI.ok prog 277 ⟨.func,1,.nilFunc⟩:=⟨⟨_,_,_,underlying277⟩,aJ Ve⟩
theorem Wg:TI.ok prog 311 ⟨.int .i64,1,.int .i64 0⟩:=⟨underlying311,aJ UB⟩
set_option maxRecDepth 100000 in
theorem O2:bY prog Pr:=by
 intro t i h;unfold Pr at h;split at h
 .injection h with h;subst h;exact ok1
 .injection h with h;subst h;exact ok2
 .injection h with h;subst h;exact ok3
 .injection h with h;subst h;exact ok4
 .injection h with h;subst h;exact ok5
 .injection h with h;subst h;exact ok6
 .injection h with h;subst h;exact ok7
 .injection h with h;subst h;exact ok8
 .injection h with h;subst h;exact ok9
 .injection h with h;subst h;exact Z6
 .injection h with h;subst h;exact aaC
 .injection h with h;subst h;exact Zp
 .injection h with h;subst h;exact aaI
 .injection h with h;subst h;exact ZE
 .injection h with h;subst h;exact aar
 .injection h with h;subst h;exact Z5
 .injection h with h;subst h;exact Zj
 .injection h with h;subst h;exact aak
 .injection h with h;subst h;exact aag
 .injection h with h;subst h;exact aaz
 .injection h with h;subst h;exact aaF
 .injection h with h;subst h;exact aaD
 .injection h with h;subst h;exact aax
 .injection h with h;subst h;exact Zo
 .injection h with h;subst h;exact ZA
 .injection h with h;subst h;exact aaB
 .injection h with h;subst h;exact aap
 .injection h with h;subst h;exact Zl
 .injection h with h;subst h;exact ZQ
 .injection h with h;subst h;exact aat
 .injection h with h;subst h;exact ZL
 .injection h with h;subst h;exact ZJ
 .injection h with h;subst h;exact Z9
 .injection h with h;subst h;exact Z1
 .injection h with h;subst h;exact ZD
 .injection h with h;subst h;exact ZH
 .injection h with h;subst h;exact ZW
 .injection h with h;subst h;exact ZS
 .injection h with h;subst h;exact aaa
 .injection h with h;subst h;exact WQ
 .injection h with h;subst h;exact V8
 .injection h with h;subst h;exact X6
 .injection h with h;subst h;exact Wk
 .injection h with h;subst h;exact VX
 .injection h with h;subst h;exact Wb
 .injection h with h;subst h;exact We
 .injection h with h;subst h;exact X3
 .injection h with h;subst h;exact V4
 .injection h with h;subst h;exact XP
 .injection h with h;subst h;exact V9
 .injection h with h;subst h;exact W9
 .injection h with h;subst h;exact Wh
 .injection h with h;subst h;exact V5
 .injection h with h;subst h;exact WB
 .injection h with h;subst h;exact WK
 .injection h with h;subst h;exact Wg
 .cases h
theorem aU:bY prog tab:=by
 intro t i h;unfold tab at h;exact O2 t i h
def PU(M0:Mem)(rest:Env->Mem->Prop):Env->Mem->Prop:=fun env M=>Sub M0 M/\rest env M
def pl(pm:List Nat)(j:Nat):Nat:=pm.getD j 0
def cV(l:List Oper)(j:Nat):Option Tmp:=(l[j]?).bind (·.dst)
def Xy(t:Tmp):Operand->Bool
 | .tmp u=>u==t
 | _=>false
def T1(l:List Oper)(i:Nat)(t:Tmp):Bool:=match l[i]? with
 | some o=>o.op.operands.toList.any (Xy t)
 | none=>false
def P6(l:List Oper)(i j:Nat):Bool:=i==j||(match cV l i,cV l j with
 | some a,some b=>a != b
 | _,_=>true)
def ZK(r l:List Oper)(pm:List Nat)(i j:Nat):Bool:=i==j||(match cV l j with
 | some t=>!T1 l i t||(decide (j<i)&&Region.waitsFor .any r.toArray (pl pm i) (pl pm j))||(decide (i<j)&&Region.waitsFor .any r.toArray (pl pm j) (pl pm i))
 | none=>true)
def TE(l:List Oper)(i:Nat):Bool:=match l[i]? with
 | some o=>o.after.all fun e=>!Region.binds .any e||decide (e.on<i)
 | none=>true
section
variable {P:Program} {T:Tab} {env:Env} {M:Mem} {Q:Exit->Env->Mem->Prop}
theorem Ct{o:Op}{K K':VP}(h:jV P o env M K)(hk:∀ v M',K v M'->K' v M'):jV P o env M K':=
 fun o' a w next Q e1 e2 hw hn=>h o' a w next Q e1 e2 hw fun v M' w' q1 q2 q3=>hn v M' w' q1 q2 (hk v M' q3)
theorem R5{o:Oper}{nt:Nat}{c e:Env}{a:Act}{w:World}{K:VP}(hs:∀ cs b,o.op≠.select cs b)(hd:kP nt o=true)(h:jV P o.op c M K)(hf:Fits nt e a)
  (hx:∀ x∈o.op.operands,ev c x=ev e x) (hc:∀ t,nt<=t->c t=undef) (hw:Rep M w) (next:Act->World->Prop) (Q:Exit->Act->World->Prop)
  (hn:∀ v M' w',Rep M' w'->Ext M w M' w'->K v M'->next (a.put o.dst v) w'):o.upon P a next Q ((execOp a.eval o).run P w):=by
 obtain⟨a2,ha2,hsz⟩:∃ a2:Act,a2.eval=ev c/\a2.tmps.size=nt:=by
  refine⟨{ tmps:=Array.ofFn (n:=nt) fun i=>c i,defers:=[] },?_,by simp⟩
  funext x
  cases x with
  | tmp t=>
   simp only[Act.eval,ev,Array.getD_eq_getD_getElem?];by_cases ht:t<nt
   .rw[Array.getElem?_eq_getElem (by simpa using ht)];simp
   .rw[Array.getElem?_eq_none (by simpa using ht),hc t (Nat.le_of_not_lt ht)];rfl
  | const v=>rfl
  | global g=>rfl
  | func f=>rfl
 have hr:execOp a.eval o=execOp a2.eval o:=by
  rw[hf.ev,ha2];exact(execOp_congr o hs hx).symm
 rw[hr];have key:∀ v w',(∃ v2,a2.put o.dst v=a2.put o.dst v2/\next (a.put o.dst v2) w')->next (a.put o.dst v) w':=by
  rintro v w' ⟨v2,e1,e2⟩
  cases hdst:o.dst with
  | none=>rw[hdst]at e2;exact e2
  | some d=>
   rw[hdst]at e1 e2;have hlt:=cF hd d hdst;have:v=v2:=by
    have:=congrArg (fun b:Act=>b.tmps[d]?) e1;simpa[Act.put,hsz,hlt] using this
   rw[this];exact e2
 have h2:=h o a2 w (fun b w'=>∃ v2,b=a2.put o.dst v2/\next (a.put o.dst v2) w') (fun _ _ _=>False) rfl ha2 hw (fun v M' w' k1 k2 k3=>⟨v,rfl,hn v M' w' k1 k2 k3⟩);generalize (execOp a2.eval o).run P w=r at h2 ⊢;cases r with
 | ok n w'=>
  cases n<;>simp only[Oper.upon]at h2 ⊢
  case value v=>exact key v w' h2
  case skip=>exact key _ w' h2
  case enter f args=>
   refine h2.mono fun e w'' he=>?_;cases e with
   | returned v=>exact key v w'' he
   | panicked c=>exact he.elim
   | outgrown=>obtain⟨_,_,hh⟩:=he;exact hh.elim
  case row r args=>exact Rows.mono h2 fun v w'' he=>key v w'' he
  case defer d=>
   obtain⟨v2,e1,_⟩:=h2;have:=congrArg (fun b:Act=>b.defers.length) e1;cases hdst:o.dst<;>simp[hdst,Act.put]at this
 | halt x w'=>cases x<;>simp only[Oper.upon]at h2 ⊢
theorem Nd{M M':Mem}{w w':World}(h:Rep M' w)(hs:Sub M M')(h1:Rep M w')(h2:Ext M w M w'):Rep M' w':=by
 intro b B hB;cases hM:M b with
 | some B0=>
  have:=hs _ _ hM;rw[hB]at this;injection this with this
  rw[this];exact h1 b _ hM
 | none=>
  have hold:=h b B hB;have hlt:b<w.heap.size:=by
   rcases Nat.lt_or_ge b w.heap.size with hlt|hge
   .exact hlt
   .cases B with
    | cells own xs tot=>obtain⟨c,e,fr,q,_⟩:=hold;rw[Array.getElem?_eq_none hge]at q;cases q
    | obj o=>obtain⟨q,_⟩:=hold;rw[Array.getElem?_eq_none hge]at q;cases q
  have heq:=h2.block b hlt (fun ⟨B1,q,_⟩=>by rw[hM]at q;cases q);exact Blk.holds_of heq hold
def left(listed:Array Bool):Nat:=listed.toList.count false
theorem HP:∀(l:List Bool) (i:Nat),l[i]?=some false->(l.set i true).count false+1=l.count false
 | [],i,h=>by simp at h
 | b::l,0,h=>by
  injection h with h
  subst h;simp
 | b::l,i+1,h=>by
  have ih:=HP l i (by simpa using h);rw[set_cons_succ,count_cons,count_cons];omega
theorem K9{listed:Array Bool}{i:Nat}(h:listed.getD i true=false):listed.getD i false=false/\listed.toList[i]?=some false:=by
 rw[Array.getD_eq_getD_getElem?]at *;rw[Array.getElem?_toList];cases hq:listed[i]? with
 | none=>rw[hq]at h;simp at h
 | some b=>rw[hq]at h;simp at h;subst h;exact⟨rfl,rfl⟩
theorem OH{listed:Array Bool}{i j:Nat}(hi:i<listed.size):(listed.setIfInBounds i true).getD j false=if j=i then true else listed.getD j false:=by
 rw[Array.getD_eq_getD_getElem?,Array.getD_eq_getD_getElem?];by_cases h:j=i
 .subst h;rw[if_pos rfl];simp[hi]
 .rw[if_neg h,Array.getElem?_setIfInBounds_ne (Ne.symm h)]
theorem xK(e:Env){d:Option Tmp}{t:Tmp}(v:Value)(h:d=some t):put e d v t=v:=by subst h;simp[put]
theorem fy(e:Env){d:Option Tmp}{t:Tmp}(v:Value)(h:d≠some t):put e d v t=e t:=by
 cases d with
 | none=>rfl
 | some d=>simp only[put];rw[if_neg (fun hh=>h (by rw[hh]))]
theorem QH(n:Nat):left (Array.replicate n false)=n:=by unfold left;simp
theorem uW(n j:Nat):(Array.replicate n false).getD j false=false:=by
 rw[Array.getD_eq_getD_getElem?];rcases Nat.lt_or_ge j n with h|h
 .simp[h]
 .simp[h]
end
section
variable {P:Program} {T:Tab} {env:Env} {M:Mem} {Q:Exit->Env->Mem->Prop}
@[simp] theorem Xt{M0:Mem}{r:Env->Mem->Prop}:PU M0 r env M=(Sub M0 M/\r env M):=nr rfl
@[simp] theorem Vy{M:Mem}:Sub M M=True:=eq_true (Sub.refl M)
end
def Want(r:List Oper)(o:Oper)(c:Env):Prop:=∀ j b,o.guard=some (j,b)->yE r c j=some b
def D9(P:Program)(r:List Oper)(o:Oper)(c:Env)(M:Mem)(v:Value):Prop:=(¬ Want r o c/\v=undef)\/(Want r o c/\∃ M1,Sub M1 M/\xP P o.op c M1 v)
def sc(r:List Oper)(o:Oper):Option Tmp:=match o.guard with
 | none=>none
 | some (j,_)=>(r[j]?).bind (·.dst)
section
variable {P:Program} {T:Tab} {env:Env} {M:Mem} {Q:Exit->Env->Mem->Prop}
def vK(P:Program)(T:Tab)(k:Nat)(o:Op)(d:Option Tmp)(rest:Env->Mem->Prop):Env->Mem->Prop:=fun env M=>match k with
 | 0=>vQ P T o env (Kt rest env d) M
 | 1=>vOp P T o env (Kt (PU M rest) env d) M
 | _=>vOp P T o env (Kt rest env d) M
theorem EZ{r:List Oper}{o:Oper}{nt:Nat}{e:Env}{a:Act}(hf:Fits nt e a):Region.wanted o (yielded r.toArray a.tmps)=true↔Want r o e:=by
 unfold Region.wanted Want;cases hg:o.guard with
 | none=>simp
 | some jb=>
  obtain⟨j,b⟩:=jb;have hy:=fc hf r.toArray j;rw[show r.toArray.toList=r from rfl]at hy;simp[hy]
theorem Kh{r:List Oper}{o:Oper}{e c:Env}(h:∀ t,sc r o=some t->e t=c t):Want r o e↔Want r o c:=by
 unfold Want;have key:∀ j b,o.guard=some (j,b)->yE r e j=yE r c j:=by
  intro j b hg;unfold sc at h;rw[hg]at h;dsimp only at h;unfold yE;cases hd:(r[j]?).bind (·.dst) with
  | none=>rfl
  | some t=>dsimp only;rw[h t hd]
 constructor
 .intro hh j b hg;rw[<-key j b hg];exact hh j b hg
 .intro hh j b hg;rw[key j b hg];exact hh j b hg
end
section
variable {P:Program} {T:Tab} {env:Env} {M:Mem} {Q:Exit->Env->Mem->Prop} {r l:List Oper} {ks:List Nat}
@[simp] theorem abu{o:Op}{d:Option Tmp}{rest:Env->Mem->Prop}:vK P T 0 o d rest env M=vQ P T o env (Kt rest env d) M:=nr rfl
@[simp] theorem abr{o:Op}{d:Option Tmp}{rest:Env->Mem->Prop}:vK P T 1 o d rest env M=vOp P T o env (Kt (PU M rest) env d) M:=nr rfl
@[simp] theorem abt{o:Op}{d:Option Tmp}{rest:Env->Mem->Prop}:vK P T 2 o d rest env M=vOp P T o env (Kt rest env d) M:=nr rfl
end
inductive gY where
 | fin
 | light (i:Nat) (p:gY)
 | one (x k:Nat) (p:gY)
 | alt (x k:Nat) (p q:gY)
def ai:List Nat->gY->gY
 | [],p=>p
 | i::l,p=>.light i (ai l p)
def gY.heads:gY->List Nat
 | .one x _ _=>[x]
 | .alt x _ _ q=>x::q.heads
 | _=>[]
def tmpsOf(r:List Oper)(o:Oper):List Tmp:=(match sc r o with|some t=>[t]|none=>[])++o.op.operands.toList.filterMap fun x=>match x with|.tmp t=>some t|_=>none
def ud(r:List Oper)(i j:Nat):Bool:=Region.waitsFor .any r.toArray i j
def vt(r:List Oper)(pre:List Nat)(i:Nat)(t:Tmp):Bool:=
 (pre.any fun j=>cV r j==some t&&ud r i j)||(pre.all (fun j=>cV r j != some t)&&(range r.length).all fun j=>cV r j != some t||(j==i||ud r j i))
def Pt(r:List Oper)(pre:List Nat)(i:Nat):Bool:=match r[i]? with
 | some o=>!pre.contains i&&(tmpsOf r o).all fun t=>vt r pre i t
 | none=>false
def Sr(r:List Oper)(pre hs:List Nat):Bool:=(range r.length).all fun i=>pre.contains i||(hs.contains i||(range r.length).any fun j=>!pre.contains j&&ud r i j)
def si:Op->Bool
 | .move _=>true
 | .assign _=>true
 | .pick _ _ _=>true
 | .extract _ _=>true
 | .binOp _ _ _ _ _=>true
 | .unOp _ _ _=>true
 | .slice _ _ _ _ _=>true
 | .field _ _ _=>true
 | .indexAddr _ _ _=>true
 | .fieldAddr _ _ _=>true
 | .nilCheck _=>true
 | .index _ _ _=>true
 | .call ⟨.builtin .min,_,_⟩=>true
 | .call ⟨.builtin .max,_,_⟩=>true
 | .call ⟨.builtin .len,⟨[_]⟩,⟨[_]⟩⟩=>true
 | _=>false
def uY(r:List Oper)(j:Nat):Bool:=match r[j]? with
 | some o=>si o.op
 | none=>false
def ef:Mem:=fun _=>none
def wL(o:Oper)(M:Mem):Mem:=if si o.op then ef else M
theorem py(M:Mem):Sub ef M:=fun b B h=>by cases h
theorem OB(o:Oper)(M:Mem):Sub (wL o M) M:=by
 unfold wL;split
 .exact py M
 .exact Sub.refl M
def Ch(r:List Oper)(x:Nat):Bool:=match r[x]? with
 | some o=>o.guard.isNone
 | none=>false
def L5(r:List Oper)(pre hs:List Nat)(x:Nat):Bool:=pre.all fun j=>(uY r j||(hs.contains j&&Ch r j))||(x::pre).any fun i=>(i==x || !uY r i)&&ud r i j
def fq(r:List Oper):Option (List Nat)->List Nat->List Nat->gY->Bool
 | none,pre,hs,.fin=>(range r.length).all fun i=>pre.contains i
 | none,pre,hs,.light i p=>Pt r pre i&&fq r none (i::pre) hs p
 | some _,_,_,.fin=>false
 | some _,_,_,.light _ _=>false
 | h,pre,hs,.one x k p=>Pt r pre x&&(Sr r pre (h.getD [x])&&((h.isNone||Ch r x)&&((k != 2||L5 r pre hs x)&&(decide (1<=k/\k<=2)&&fq r none (x::pre) (x::hs) p))))
 | h,pre,hs,.alt x k p q=>Pt r pre x&&(Sr r pre (h.getD (x::q.heads))&&(Ch r x&&((k != 2||L5 r pre hs x)&&(decide (1<=k/\k<=2)&&(fq r none (x::pre) (x::hs) p&&fq r (some (h.getD (x::q.heads))) pre hs q)))))
def QS(r:List Oper)(p:gY):Bool:=Region.noSelect r.toArray&&(((range r.length).all fun i=>(range r.length).all fun j=>P6 r i j)&&(((range r.length).all fun i=>TE r i)&&fq r none [] [] p))
section
variable {P:Program} {T:Tab} {env:Env} {M:Mem} {Q:Exit->Env->Mem->Prop}
def mM(P:Program)(T:Tab)(r:List Oper)(k:Nat)(o:Option Oper)(rest:Env->Mem->Prop)(env:Env)(M:Mem):Prop:=match o with
 | some o=>(match o.guard with
  | none=>vK P T k o.op o.dst rest env M
  | some (j,b)=>vGd (yE r env j) b (vK P T k o.op o.dst rest) (gB o.dst rest) env M)
 | none=>False
def vT(P:Program)(T:Tab)(r:List Oper)(Q:Exit->Env->Mem->Prop):gY->Env->Mem->Prop
 | .fin,env,M=>Q .normal env M
 | .light i p,env,M=>mM P T r 0 r[i]? (vT P T r Q p) env M
 | .one x k p,env,M=>mM P T r k r[x]? (vT P T r Q p) env M
 | .alt x k p q,env,M=>mM P T r k r[x]? (vT P T r Q p) env M/\vT P T r Q q env M
theorem gT{r:Out}{K:VP}{M M':Mem}(h:vR r K M):vR r (fun v _=>K v M) M':=by
 cases r with
 | ok v=>exact h
 | need p v=>exact h
 | no=>exact h
theorem Sq{P:Program}{T:Tab}{o:Op}{env:Env}{K:VP}{M:Mem}(hp:si o=true)(h:vQ P T o env K M):vQ P T o env (fun v _=>K v M) ef:=by
 cases o
 case move x=>exact h
 case assign x=>exact h
 case pick c a b=>exact gT (M':=ef) (r:=Cu (ev env c) (ev env a) (ev env b)) h
 case extract x i=>exact gT (M':=ef) (r:=Ku (ev env x) i) h
 case binOp op t x y t'=>exact gT (M':=ef) (r:=oa T op t (isLit y) (ev env x) (ev env y)) h
 case unOp op t x=>exact gT (M':=ef) (r:=unR op (ev env x)) h
 case slice t x lo hi mx=>exact gT (M':=ef) (r:=uB T t (ev env x) (lo.map (ev env)) (hi.map (ev env)) (mx.map (ev env))) h
 case field t x f=>exact gT (M':=ef) (r:=Fa T t (ev env x) f) h
 case indexAddr t x i=>exact gT (M':=ef) (r:=lP T t (ev env x) (ev env i)) h
 case fieldAddr t x f=>exact gT (M':=ef) (r:=gV T t (ev env x) f) h
 case nilCheck x=>exact gT (M':=ef) (r:=Kd (ev env x)) h
 case index t x i=>exact gT (M':=ef) (r:=MP T t (ev env x) (ev env i)) h
 case call c=>
  obtain⟨callee,args,ts⟩:=c;cases callee
  case builtin b=>
   cases b
   case min=>exact gT (M':=ef) (r:=FD (args.toList.map (ev env))) h
   case max=>exact gT (M':=ef) (r:=Gq (args.toList.map (ev env))) h
   case len=>
    obtain⟨l⟩:=args;obtain⟨l'⟩:=ts;rcases l with _|⟨x,_|⟨y,l⟩⟩<;>rcases l' with _|⟨t,_|⟨t',l'⟩⟩<;>first|exact gT (M':=ef) (r:=ES T t (ev env x)) h|exact absurd hp (by simp[si])
   all_goals exact absurd hp (by simp[si])
  all_goals exact absurd hp (by simp[si])
 all_goals exact absurd hp (by simp[si])
theorem UU(hT:bY P T)(o:Oper){K:VP}(h:vQ P T o.op env K M):∃ v,xP P o.op env (wL o M) v/\K v M:=by
 unfold wL;by_cases hp:si o.op=true
 .rw[if_pos hp];exact RM hT o.op (Sq hp h)
 .rw[if_neg hp];exact RM hT o.op h
def wM(r:List Oper)(env:Env)(pre:List Nat)(vals:Nat->Value)(i:Nat)(o:Oper)(c:Env):Prop:=∀ t,t∈tmpsOf r o->(∃ j,j∈pre/\cV r j=some t/\ud r i j=true/\c t=vals j)\/((∀ j,cV r j=some t->j=i\/ud r j i=true)/\c t=env t)
structure Sp(P:Program)(T:Tab)(r:List Oper)(nt:Nat)(Q:Exit->Env->Mem->Prop)(env:Env)(M0:Mem)(w0:World)(listed:Array Bool)(a:Act)(w:World)(pre hs:List Nat)(plan:gY)(vals:Nat->Value)(c:Nat->Env)(cur e:Env)(M':Mem):Prop where
 size:listed.size=r.length
 closed:∀(j:Nat) (o:Oper),r[j]?=some o->listed.getD j false=true->∀ x∈o.after,Region.binds .any x=true->listed.getD x.on false=true
 known:∀ j,j<r.length->listed.getD j false=true->j∈pre
 fits:Fits nt e a
 rep:Rep M' w
 ext:Ext M0 w0 M' w
 curA:∀ j t,j∈pre->cV r j=some t->cur t=vals j
 curB:∀ t,(∀ j,j∈pre->cV r j≠some t)->cur t=env t
 light:∀ i o,i∈pre->r[i]?=some o->listed.getD i false=false->D9 P r o (c i) (wL o M') (vals i)/\wM r env pre vals i o (c i)
 ea:∀ j t,cV r j=some t->listed.getD j false=true->e t=vals j
 eb:∀ j t,cV r j=some t->listed.getD j false=false->e t=env t
 ec:∀ t,(∀ j,cV r j≠some t)->e t=env t
 hv:∀ j∈hs,j∈pre/\∀ o,r[j]?=some o->listed.getD j false=true\/¬ Want r o (c j)
 ok:fq r none pre hs plan=true
 vc:vT P T r Q plan cur M'
theorem jl{r:List Oper}{pre:List Nat}{i:Nat}(h:Pt r pre i=true):∃ o,r[i]?=some o/\i ∉ pre/\∀ t∈tmpsOf r o,vt r pre i t=true:=by
 unfold Pt at h;cases ho:r[i]? with
 | none=>rw[ho]at h;cases h
 | some o=>
  rw[ho]at h;simp only[bAn,all_eq_true,Bool.not_eq_true',contains_eq_mem,decide_eq_false_iff_not]at h;exact⟨o,rfl,h.1,h.2⟩
theorem C6{r:List Oper}{env cur:Env}{pre:List Nat}{vals:Nat->Value}{i:Nat}{o:Oper}(h:∀ t∈tmpsOf r o,vt r pre i t=true)(hA:∀ j t,j∈pre->cV r j=some t->cur t=vals j)(hB:∀ t,(∀ j,j∈pre->cV r j≠some t)->cur t=env t):wM r env pre vals i o cur:=by
 intro t ht;have:=h t ht;unfold vt at this;rw[Bool.or_eq_true]at this;rcases this with h1|h1
 .obtain⟨j,hj,h2⟩:=any_eq_true.1 h1;rw[bAn,beq_iff_eq]at h2;exact .inl ⟨j,hj,h2.1,h2.2,hA j t hj h2.1⟩
 .rw[bAn,all_eq_true,all_eq_true]at h1;refine .inr ⟨fun j hj=>?_,hB t fun j hj=>by simpa using h1.1 j hj⟩;have hjl:j<r.length:=by
   rcases Nat.lt_or_ge j r.length with h3|h3
   .exact h3
   .unfold cV at hj;rw[getElem?_eq_none h3]at hj;cases hj
  have:=h1.2 j (mem_range.2 hjl);simpa[hj] using this
theorem qR{r:List Oper}{env:Env}{pre:List Nat}{vals:Nat->Value}{i x:Nat}{o:Oper}{c:Env}{v:Value}(h:wM r env pre vals i o c)(hx:x ∉ pre):wM r env (x::pre) (fun j=>if j=x then v else vals j) i o c:=by
 intro t ht;rcases h t ht with ⟨j,q0,q1,q2,q3⟩|q
 .refine .inl ⟨j,mem_cons_of_mem _ q0,q1,q2,?_⟩;show c t=if j=x then v else vals j
  rw[if_neg (by rintro rfl;exact hx q0)];exact q3
 .exact .inr q
theorem S0{r:List Oper}{o:Oper}{t:Tmp}(h:Operand.tmp t∈o.op.operands):t∈tmpsOf r o:=by
 unfold tmpsOf;refine mem_append_right _ (mem_filterMap.2 ⟨.tmp t,by simpa using h,rfl⟩)
theorem KA{r:List Oper}{o:Oper}{t:Tmp}(h:sc r o=some t):t∈tmpsOf r o:=by
 unfold tmpsOf;rw[h];simp
theorem Lo{r:List Oper}{nt:Nat}(huniq:∀ i j t,cV r i=some t->cV r j=some t->i=j){M0:Mem}{w0:World}{listed:Array Bool}{a:Act}{w:World}{e:Env}{M':Mem}{x:Nat}{o:Oper}{p plan:gY}{pre hs hs':List Nat}{vals:Nat->Value}{c:Nat->Env}{cur:Env}{v:Value}
  (h:Sp P T r nt Q env M0 w0 listed a w pre hs plan vals c cur e M') (ho:r[x]?=some o) (hx:x ∉ pre) (hrd:∀ t∈tmpsOf r o,vt r pre x t=true) (hhs:∀ j∈hs',j∈hs\/(j=x/\¬ Want r o cur)) (hok:fq r none (x::pre) hs' p=true) (hL:D9 P r o cur (wL o M') v) (hv:vT P T r Q p (put cur o.dst v) M') :
  Sp P T r nt Q env M0 w0 listed a w (x::pre) hs' p (fun j=>if j=x then v else vals j) (fun j=>if j=x then cur else c j) (put cur o.dst v) e M':=by
 have hdo:cV r x=o.dst:=by unfold cV;rw[ho];rfl
 have hxl:x<r.length:=(List.getElem?_eq_some_iff.1 ho).1;have hnl:listed.getD x false=false:=by
  cases hh:listed.getD x false with
  | false=>rfl
  | true=>exact absurd (h.known x hxl hh) hx
 have hag:=C6 hrd h.curA h.curB;refine⟨h.size,h.closed,fun j hjl hj=>mem_cons_of_mem _ (h.known j hjl hj),h.fits,h.rep,h.ext,?_,?_,?_,?_,h.eb,h.ec,?_,hok,hv⟩
 .intro j t hj hjt;by_cases hjx:j=x
  .subst hjx;rw[if_pos rfl];exact xK _ _ (by rw[<-hdo];exact hjt)
  .rw[if_neg hjx,fy _ _ (by rw[<-hdo];exact fun hh=>hjx (huniq j x t hjt hh))];exact h.curA j t ((mem_cons.1 hj).resolve_left hjx) hjt
 .intro t ht;rw[fy _ _ (by rw[<-hdo];exact ht x (mem_cons_self ..))];exact h.curB t fun j hj=>ht j (mem_cons_of_mem _ hj)
 .intro i oi hi hoi hli;by_cases hix:i=x
  .subst hix;rw[ho]at hoi;injection hoi with hoi
   subst hoi;rw[if_pos rfl,if_pos rfl];exact⟨hL,qR hag hx⟩
  .rw[if_neg hix,if_neg hix];have hip:=(mem_cons.1 hi).resolve_left hix;obtain⟨h1,h2⟩:=h.light i oi hip hoi hli;exact⟨h1,qR h2 hx⟩
 .intro j t hj hlj;by_cases hjx:j=x
  .subst hjx;rw[hnl]at hlj;cases hlj
  .rw[if_neg hjx];exact h.ea j t hj hlj
 .intro j hj;rcases hhs j hj with hj|⟨rfl,hw⟩
  .obtain⟨h1,h2⟩:=h.hv j hj;have hjx:j≠x:=by rintro rfl;exact hx h1
   simp only[if_neg hjx];exact⟨mem_cons_of_mem _ h1,h2⟩
  .simp only[];refine⟨mem_cons_self ..,fun o' ho'=>.inr ?_⟩;rw[ho]at ho';injection ho' with ho'
   subst ho';exact hw
def FM(r:List Oper)(cur:Env):gY->Prop
 | .fin=>True
 | .light _ _=>False
 | .one x _ _=>∀ o,r[x]?=some o->Want r o cur
 | .alt _ _ _ _=>True
theorem xE(hT:bY P T){r:List Oper}{nt:Nat}(huniq:∀ i j t,cV r i=some t->cV r j=some t->i=j){M0:Mem}{w0:World}{listed:Array Bool}{a:Act}{w:World}{e:Env}{M':Mem}:∀(plan:gY) (pre hs:List Nat) (vals:Nat->Value) (c:Nat->Env) (cur:Env),
  Sp P T r nt Q env M0 w0 listed a w pre hs plan vals c cur e M'->∃ pre' hs' plan' vals' c' cur',Sp P T r nt Q env M0 w0 listed a w pre' hs' plan' vals' c' cur' e M'/\FM r cur' plan'
 | .fin,pre,hs,vals,c,cur,h=>⟨pre,hs,.fin,vals,c,cur,h,trivial⟩
 | .alt x k p q,pre,hs,vals,c,cur,h=>⟨pre,hs,.alt x k p q,vals,c,cur,h,trivial⟩
 | .light x p,pre,hs,vals,c,cur,h=>by
  have hok:=h.ok;unfold fq at hok;rw[bAn]at hok;obtain⟨o,ho,hx,hrd⟩:=jl hok.1;have hv:=h.vc;unfold vT mM at hv;rw[ho]at hv;dsimp only at hv;have fin:∀ v,D9 P r o cur (wL o M') v->vT P T r Q p (put cur o.dst v) M'->∃ pre' hs' plan' vals' c' cur',Sp P T r nt Q env M0 w0 listed a w pre' hs' plan' vals' c' cur' e M'/\FM r cur' plan':=
   fun v h1 h2=>xE hT huniq p _ _ _ _ _ (Lo huniq h ho hx hrd (fun j hj=>.inl hj) hok.2 h1 h2)
  have run:Want r o cur->vQ P T o.op cur (Kt (vT P T r Q p) cur o.dst) M'->∃ pre' hs' plan' vals' c' cur',Sp P T r nt Q env M0 w0 listed a w pre' hs' plan' vals' c' cur' e M'/\FM r cur' plan':=by
   intro hw hq;obtain⟨v,hv,hr⟩:=UU hT o hq;exact fin v (.inr ⟨hw,_,Sub.refl _,hv⟩) hr
  cases hg:o.guard with
  | none=>
   rw[hg]at hv;exact run (fun j b hh=>by rw[hg]at hh;cases hh) hv
  | some jb=>
   obtain⟨j,b⟩:=jb;rw[hg]at hv;dsimp only at hv;by_cases hy:yE r cur j=some b
   .refine run (fun j' b' hh=>?_) (hv.1 hy);rw[hg]at hh;injection hh with hh
    injection hh with h3 h4
    subst h3;subst h4;exact hy
   .exact fin undef (.inl ⟨fun hh=>hy (hh j b hg),rfl⟩) (hv.2 hy)
 | .one x k p,pre,hs,vals,c,cur,h=>by
  have hok:=h.ok;unfold fq at hok;simp only[bAn]at hok;obtain⟨o,ho,hx,hrd⟩:=jl hok.1;by_cases hw:Want r o cur
  .exact⟨pre,hs,.one x k p,vals,c,cur,h,fun o' ho'=>by rw[ho]at ho';injection ho' with ho';subst ho';exact hw⟩
  .have hv:=h.vc;unfold vT mM at hv;rw[ho]at hv;dsimp only at hv;cases hg:o.guard with
   | none=>exact absurd (fun j b hh=>by rw[hg]at hh;cases hh) hw
   | some jb=>
    obtain⟨j,b⟩:=jb;rw[hg]at hv;dsimp only at hv;have hy:yE r cur j≠some b:=fun hy=>hw fun j' b' hh=>by
     rw[hg]at hh;injection hh with hh
     injection hh with h3 h4
     subst h3;subst h4;exact hy
    exact xE hT huniq p _ _ _ _ _ (Lo huniq h ho hx hrd (fun j hj=>(mem_cons.1 hj).symm.imp id fun e=>⟨e,hw⟩) hok.2.2.2.2.2 (.inl ⟨hw,rfl⟩) (hv.2 hy))
theorem S4(hT:bY P T){r:List Oper}{pre hs:List Nat}{cur:Env}{M':Mem}{i:Nat}:∀(plan:gY) (h:Option (List Nat)),fq r h pre hs plan=true->vT P T r Q plan cur M'->FM r cur plan->i∈plan.heads ->
  ∃ o k p,r[i]?=some o/\i ∉ pre/\(∀ t∈tmpsOf r o,vt r pre i t=true)/\Want r o cur/\(k=2->L5 r pre hs i=true)/\fq r none (i::pre) (i::hs) p=true/\jV P o.op cur M' (fun v M''=>(k≠2->Sub M' M'')/\vT P T r Q p (put cur o.dst v) M''):=by
 have step:∀ {x k:Nat} {p:gY} {o:Oper},r[x]?=some o->Want r o cur->(1<=k/\k<=2)->mM P T r k r[x]? (vT P T r Q p) cur M'->jV P o.op cur M' (fun v M''=>(k≠2->Sub M' M'')/\vT P T r Q p (put cur o.dst v) M''):=by
  intro x k p o ho hw hk hv;unfold mM at hv;rw[ho]at hv;dsimp only at hv;have hv':vK P T k o.op o.dst (vT P T r Q p) cur M':=by
   cases hg:o.guard with
   | none=>rw[hg]at hv;exact hv
   | some jb=>
    obtain⟨j,b⟩:=jb;rw[hg]at hv;exact hv.1 (hw j b hg)
  have:k=1\/k=2:=by omega
  rcases this with rfl|rfl
  .exact Ct (qD T hT o.op hv') fun v M'' hq=>⟨fun _=>hq.1,hq.2⟩
  .exact Ct (qD T hT o.op hv') fun v M'' hq=>⟨fun hh=>absurd rfl hh,hq⟩
 intro plan
 induction plan with
 | fin=>intro h _ _ _ hi;cases hi
 | light x p ih=>intro h _ _ hr;exact hr.elim
 | one x k p ih=>
  intro h hok hv hr hi;unfold fq at hok;simp only[bAn,Bool.or_eq_true,dTe,bne_iff_ne]at hok;obtain⟨o,ho,hx,hrd⟩:=jl hok.1;have hix:i=x:=by unfold gY.heads at hi;simpa using hi
  subst hix;refine⟨o,k,p,ho,hx,hrd,hr o ho,fun hk=>(hok.2.2.2.1).resolve_left (fun hh=>hh hk),hok.2.2.2.2.2,?_⟩;unfold vT at hv;exact step ho (hr o ho) hok.2.2.2.2.1 hv
 | alt x k p q ih1 ih2=>
  intro h hok hv hr hi;unfold fq at hok;simp only[bAn,Bool.or_eq_true,dTe,bne_iff_ne]at hok;obtain⟨o,ho,hx,hrd⟩:=jl hok.1;unfold vT at hv;unfold gY.heads at hi;rcases mem_cons.1 hi with rfl|hi
  .have hbare:o.guard=none:=by
    have:=hok.2.2.1;unfold Ch at this;rw[ho]at this;simpa using this
   have hw:Want r o cur:=fun j b hh=>by rw[hbare]at hh;cases hh
   exact⟨o,k,p,ho,hx,hrd,hw,fun hk=>(hok.2.2.2.1).resolve_left (fun hh=>hh hk),hok.2.2.2.2.2.1,step ho hw hok.2.2.2.2.1 hv.1⟩
  .refine ih2 _ hok.2.2.2.2.2.2 hv.2 ?_ hi;have hq:=hok.2.2.2.2.2.2;cases q with
   | fin=>trivial
   | light y s=>unfold fq at hq;cases hq
   | one y k' s=>
    intro o' ho' j b hh;unfold fq at hq;simp only[bAn,Bool.or_eq_true]at hq;have hb:=hq.2.2.1;rcases hb with hb|hb
    .cases hb
    .unfold Ch at hb;rw[ho']at hb;simp only[Option.isNone_iff_eq_none]at hb;rw[hb]at hh;cases hh
   | alt y k' s t=>trivial
theorem RZ{r:List Oper}{pre hs:List Nat}{plan:gY}{cur:Env}(hok:fq r none pre hs plan=true)(hr:FM r cur plan):(plan=.fin/\∀ i,i<r.length->i∈pre)\/(plan.heads≠[]/\Sr r pre plan.heads=true):=by
 cases plan with
 | fin=>
  left;unfold fq at hok;rw[all_eq_true]at hok;exact⟨rfl,fun i hi=>by have:=hok i (mem_range.2 hi);simpa using this⟩
 | light x p=>exact hr.elim
 | one x k p=>
  right;unfold fq at hok;simp only[bAn]at hok;exact⟨by unfold gY.heads;simp,hok.2.1⟩
 | alt x k p q=>
  right;unfold fq at hok;simp only[bAn]at hok;exact⟨by unfold gY.heads;simp,hok.2.1⟩
theorem S7{r:List Oper}{pre hs:List Nat}{plan:gY}:∀ {h:Option (List Nat)},fq r h pre hs plan=true->plan.heads≠[]->∃ x,x ∉ pre/\x<r.length:=by
 intro h hok hh;cases plan with
 | fin=>exact absurd rfl hh
 | light x p=>exact absurd rfl hh
 | one x k p=>
  unfold fq at hok;simp only[bAn]at hok;obtain⟨o,ho,hx,_⟩:=jl hok.1;exact⟨x,hx,(List.getElem?_eq_some_iff.1 ho).1⟩
 | alt x k p q=>
  unfold fq at hok;simp only[bAn]at hok;obtain⟨o,ho,hx,_⟩:=jl hok.1;exact⟨x,hx,(List.getElem?_eq_some_iff.1 ho).1⟩
theorem SC(hT:bY P T){r:List Oper}{nt:Nat}(hsel0:Region.noSelect r.toArray=true)(huniq:∀ i j t,cV r i=some t->cV r j=some t->i=j)(back:∀(i:Nat) (o:Oper),r[i]?=some o->∀ e∈o.after,Region.binds .any e=true->e.on<i)(hd:r.all (kP nt)=true)(M0:Mem)(w0:World) :
  ∀(fuel:Nat) (listed:Array Bool) (a:Act) (w:World) (pre hs:List Nat) (plan:gY) (vals:Nat->Value) (c:Nat->Env) (cur e:Env) (M':Mem),left listed=fuel->Sp P T r nt Q env M0 w0 listed a w pre hs plan vals c cur e M'->wpAny P .any r.toArray (Way nt M0 w0 Q) fuel listed a w:=by
 have dof:∀(i:Nat) (o:Oper),r[i]?=some o->cV r i=o.dst:=by intro i o h;unfold cV;rw[h];rfl
 have dlt:∀ j t,cV r j=some t->j<r.length:=by
  intro j t h;rcases Nat.lt_or_ge j r.length with h1|h1
  .exact h1
  .unfold cV at h;rw[getElem?_eq_none h1]at h;cases h
 have waits:∀(i j:Nat) (o:Oper),r[i]?=some o->ud r i j=true->∃ x∈o.after,Region.binds .any x=true/\x.on=j:=by
  intro i j o ho h;obtain⟨oj,h1,x,h2,h3,h4⟩:=Region.waitsFor_spec h;rw[getElem?_toArray,ho]at h1;injection h1 with h1
  subst h1;exact⟨x,h2,h3,h4⟩
 have fin:∀ {listed:Array Bool} {a:Act} {w:World} {pre hs:List Nat} {plan:gY} {vals:Nat->Value} {c:Nat->Env} {cur e:Env} {M':Mem},Sp P T r nt Q env M0 w0 listed a w pre hs plan vals c cur e M'->(∀ j,j<r.length->listed.getD j false=true)->Way nt M0 w0 Q .normal a w:=by
  intro listed a w pre hs plan vals c cur e M' h all;obtain⟨pre,hs,plan,vals,c,cur,h,hr⟩:=xE hT huniq plan pre hs vals c cur h;rcases RZ h.ok hr with ⟨rfl,hpre⟩|⟨hne,_⟩
  .have hQ:Q .normal cur M':=h.vc;have he:e=cur:=by
    funext t
    by_cases hw:∃ j,cV r j=some t
    .obtain⟨j,hj⟩:=hw;rw[h.ea j t hj (all j (dlt j t hj)),h.curA j t (hpre j (dlt j t hj)) hj]
    .have hno:∀ j,cV r j≠some t:=fun j hh=>hw ⟨j,hh⟩;rw[h.ec t hno,h.curB t fun j _=>hno j]
   exact⟨cur,M',he▸h.fits,h.rep,h.ext,hQ⟩
  .exfalso;obtain⟨x,hx,hxl⟩:=S7 h.ok hne;exact hx (h.known x hxl (all x hxl))
 intro fuel
 induction fuel with
 | zero=>
  intro listed a w pre hs plan vals c cur e M' hf h;have allO:∀ j,j<r.length->listed.getD j false=true:=by
   intro j hj;have h0:listed.toList.count false=0:=hf;rw[count_eq_zero]at h0;have hsz:=h.size;rw[Array.getD_eq_getD_getElem?,Array.getElem?_eq_getElem (by omega)];simp only[Option.getD_some];cases hb:listed[j] with
   | true=>rfl
   | false=>exact absurd (by rw[<-hb];exact Array.mem_toList_iff.2 (Array.getElem_mem _)) h0
  have hready:Region.ready .any r.toArray listed=[]:=by
   rw[eq_nil_iff_forall_not_mem];intro i hi;obtain⟨h1,o,h2,_⟩:=mem_ready.1 hi;have:=allO i (by rw[getElem?_toArray]at h2;exact(List.getElem?_eq_some_iff.1 h2).1);rw[(K9 h1).1]at this;cases this
  exact⟨hready,fin h allO⟩
 | succ fuel ih=>
  intro listed a w pre hs plan vals c cur e M' hf h;refine⟨fun hr=>?_,fun i hi=>?_⟩
  .have allO:∀ j,j<r.length->listed.getD j false=true:=by
    intro j
    induction j using Nat.strongRecOn with
    | _ j ihj=>
     intro hj;cases hb:listed.getD j false with
     | true=>rfl
     | false=>
      exfalso;have hsz:=h.size;have:j∈Region.ready .any r.toArray listed:=by
       refine mem_ready.2 ⟨?_,r[j],by simp[hj],?_⟩
       .rw[Array.getD_eq_getD_getElem?,Array.getElem?_eq_getElem (by omega)]at hb ⊢;exact hb
       .intro x hx hbx;have hlt:=back j r[j] (gEl hj) x hx hbx;exact ihj x.on hlt (by omega)
      rw[hr]at this;cases this
   exact fin h allO
  .obtain⟨pre,hs,plan,vals,c,cur,h,hrdy⟩:=xE hT huniq plan pre hs vals c cur h;obtain⟨h1,o,h2,h3⟩:=mem_ready.1 hi;rw[getElem?_toArray]at h2;obtain⟨hu,hul⟩:=K9 h1;have hil:i<r.length:=(List.getElem?_eq_some_iff.1 h2).1;have hsz:=h.size;have hdo:=all_eq_true.1 hd o (mem_of_getElem? h2);have hsel:∀ cs b,o.op≠.select cs b:=fun cs b=>Region.noSelect_spec hsel0 _ o cs b (by rw[getElem?_toArray];exact h2);have hleft:left (listed.setIfInBounds i true)=fuel:=by
    unfold left at *;rw[Array.toList_setIfInBounds];have:=HP listed.toList _ hul;omega
   have hset:∀ j,(listed.setIfInBounds i true).getD j false=if j=i then true else listed.getD j false:=fun j=>OH (by omega)
   have hclosed:∀(j:Nat) (o':Oper),r[j]?=some o'->(listed.setIfInBounds i true).getD j false=true->∀ x∈o'.after,Region.binds .any x=true->(listed.setIfInBounds i true).getD x.on false=true:=by
    intro j o' ho' hj x hx hb;rw[hset]at hj ⊢;split
    .rfl
    .by_cases hji:j=i
     .subst hji;rw[h2]at ho';injection ho' with ho'
      subst ho';exact h3 x hx hb
     .rw[if_neg hji]at hj;exact h.closed j o' ho' hj x hx hb
   have hdi:=dof i o h2;have done:∀ j,ud r i j=true->listed.getD j false=true:=by
    intro j hj;obtain⟨x,k1,k2,k3⟩:=waits i j o h2 hj;have:=h3 x k1 k2;rw[k3]at this;exact this
   have undone:∀ j o',r[j]?=some o'->ud r j i=true->listed.getD j false=false:=by
    intro j o' ho' hj;cases hb:listed.getD j false with
    | false=>rfl
    | true=>
     obtain⟨x,k1,k2,k3⟩:=waits j i o' ho' hj;have:=h.closed j o' ho' hb x k1 k2;rw[k3,hu]at this;cases this
   have same:∀ {ci:Env},wM r env pre vals i o ci->∀ t∈tmpsOf r o,e t=ci t:=by
    intro ci hA t ht;rcases hA t ht with ⟨j,q0,q1,q2,q3⟩|⟨q1,q2⟩
    .rw[h.ea j t q1 (done j q2),q3]
    .rw[q2];by_cases hw:∃ j,cV r j=some t
     .obtain⟨j,hj⟩:=hw;refine h.eb j t hj ?_;rcases q1 j hj with rfl|hji
      .exact hu
      .exact undone j _ (gEl (dlt j t hj)) hji
     .exact h.ec t fun j hh=>hw ⟨j,hh⟩
   have ops:∀ {ci:Env},wM r env pre vals i o ci->∀ x∈o.op.operands,ev e x=ev ci x:=by
    intro ci hA x hx;cases x with
    | const v=>rfl
    | global g=>rfl
    | func f=>rfl
    | tmp t=>exact same hA t (S0 hx)
   have wnt:∀ {ci:Env},wM r env pre vals i o ci->(Want r o e↔Want r o ci):=fun hA=>Kh fun t ht=>same hA t (KA ht);unfold wpOp;rw[getElem?_toArray,h2];dsimp only;by_cases hin:i∈pre
   .
    obtain⟨hL,hA⟩:=h.light i o hin h2 hu;have hnext:∀ w',Rep M' w'->Ext M' w M' w'->wpAny P .any r.toArray (Way nt M0 w0 Q) fuel (listed.setIfInBounds i true) (a.put o.dst (vals i)) w':=by
     intro w' hr' he';refine ih _ _ _ pre hs plan vals c cur (put e o.dst (vals i)) M' hleft ⟨by simp[hsz],hclosed,?_,h.fits.put (cF hdo) _,hr',h.ext.trans he',h.curA,h.curB,?_,?_,?_,?_,?_,h.ok,h.vc⟩
     .intro j hj hlj;rw[hset]at hlj;by_cases hji:j=i
      .rw[hji];exact hin
      .rw[if_neg hji]at hlj;exact h.known j hj hlj
     .intro j o' hj ho' hlj;rw[hset]at hlj;by_cases hji:j=i
      .rw[if_pos hji]at hlj;cases hlj
      .rw[if_neg hji]at hlj;exact h.light j o' hj ho' hlj
     .intro j t hj hlj;rw[hset]at hlj;by_cases hji:j=i
      .subst hji;exact xK _ _ (by rw[<-hdi];exact hj)
      .rw[if_neg hji]at hlj;rw[fy _ _ (by rw[<-hdi];exact fun hh=>hji (huniq j i t hj hh))];exact h.ea j t hj hlj
     .intro j t hj hlj;rw[hset]at hlj;by_cases hji:j=i
      .rw[if_pos hji]at hlj;cases hlj
      .rw[if_neg hji]at hlj;rw[fy _ _ (by rw[<-hdi];exact fun hh=>hji (huniq j i t hj hh))];exact h.eb j t hj hlj
     .intro t ht;rw[fy _ _ (by rw[<-hdi];exact ht i)];exact h.ec t ht
     .intro j hj;obtain⟨q1,q2⟩:=h.hv j hj;refine⟨q1,fun o' ho'=>?_⟩;rw[hset];split
      .exact .inl rfl
      .exact q2 o' ho'
    rcases hL with ⟨hw,hv⟩|⟨hw,M1,hsub0,q2⟩
    .rw[if_neg (by rw[EZ h.fits,wnt hA];exact hw),<-hv];exact hnext w h.rep (Ext.refl _ _)
    .have hsub:=hsub0.trans (OB o M');rw[if_pos (by rw[EZ h.fits,wnt hA];exact hw)];refine Or.inl ?_;unfold Oper.wp;have hex:execOp a.eval o=execOp (ev (c i)) o:=by rw[h.fits.ev];exact execOp_congr o hsel (ops hA)
     rw[hex];rcases q2 w o (h.rep.sub hsub) rfl with hr|⟨f,args,hr,hcall⟩
     .rw[hr];exact hnext w h.rep (Ext.refl _ _)
     .rw[hr];refine hcall.mono ?_
      rintro e' w' ⟨rfl,k1,k2⟩
      exact hnext w' (Nd h.rep hsub k1 k2) ⟨k2.os,k2.tape,k2.output,k2.size,fun b hb ho=>k2.block b hb (fun hh=>ho (F1 hsub hh)),fun b hb=>.inl hb⟩
   .
    have hhead:i∈plan.heads:=by
     rcases RZ h.ok hrdy with ⟨_,hpre⟩|⟨_,hfut⟩
     .exact absurd (hpre i hil) hin
     .unfold Sr at hfut;have:=all_eq_true.1 hfut i (mem_range.2 hil);simp only[Bool.or_eq_true,contains_eq_mem,dTe,any_eq_true,bAn,Bool.not_eq_true',decide_eq_false_iff_not]at this;rcases this with hh|hh|⟨j,hj,hjp,hjw⟩
      .exact absurd hh hin
      .exact hh
      .exact absurd (h.known j (mem_range.1 hj) (done j hjw)) hjp
    obtain⟨o',k,p,ho',hx,hrd,hw,hsk,hok,hO⟩:=S4 hT plan none h.ok h.vc hrdy hhead;rw[h2]at ho';injection ho' with ho'
    subst ho';have hA:wM r env pre vals i o cur:=C6 hrd h.curA h.curB;rw[if_pos (by rw[EZ h.fits,wnt hA];exact hw)];refine Or.inl ?_;unfold Oper.wp;refine R5 (nt:=nt) (c:=cur) (e:=e) hsel hdo hO h.fits (fun x hxx=>(ops hA x hxx).symm) ?_ h.rep _ _ ?_
    .intro t ht;have hno:∀ j,cV r j≠some t:=fun j hh=>by
      have hjl:=dlt j t hh;have:=cF (all_eq_true.1 hd r[j] (gMe hjl)) t (by rw[<-dof j r[j] (gEl hjl)];exact hh);exact absurd this (Nat.not_lt.2 ht)
     rw[h.curB t fun j _=>hno j,<-h.ec t hno];have:=congrFun h.fits.ev (.tmp t);simp only[Act.eval,ev]at this;rw[<-this,Array.getD_eq_getD_getElem?,Array.getElem?_eq_none (by rw[h.fits.size];exact ht)];rfl
    .intro v M'' w' k1 k2 k3;obtain⟨k3,k4⟩:=k3;have hsinks:k=2->∀ j,j∈pre->j<r.length->uY r j=false->listed.getD j false=true:=by
      intro h22;have hs:=hsk h22;unfold L5 at hs;have key:∀ d j,r.length-j=d->j∈pre->j<r.length->uY r j=false->listed.getD j false=true:=by
       intro d
       induction d using Nat.strongRecOn with
       | _ d ihd=>
        intro j hd' hj hjl hjp;have hsj:=all_eq_true.1 hs j hj;rw[hjp,Bool.false_or,Bool.or_eq_true,bAn]at hsj;rcases hsj with ⟨hsj,hbare⟩|hsj
        .have hjr:=gEl hjl;rcases(h.hv j (by simpa using hsj)).2 _ hjr with q|q
         .exact q
         .exfalso;apply q;intro j2 b2 hg;unfold Ch at hbare;rw[hjr]at hbare;simp only[Option.isNone_iff_eq_none]at hbare;rw[hbare]at hg;cases hg
        obtain⟨j',r1,r2⟩:=any_eq_true.1 hsj;rw[bAn,Bool.or_eq_true,beq_iff_eq]at r2;obtain⟨r3,r2⟩:=r2;by_cases hji':j'=i
        .rw[hji']at r2;exact done j r2
        .have r1:=(mem_cons.1 r1).resolve_left hji';have r3:uY r j'=false:=by simpa using r3.resolve_left hji'
         have hj'l:j'<r.length:=by
          obtain⟨oj,q1,_⟩:=Region.waitsFor_spec r2;rw[getElem?_toArray]at q1;exact(List.getElem?_eq_some_iff.1 q1).1
         have hj':=gEl hj'l;obtain⟨x,k1,k2,k3⟩:=waits j' j _ hj' r2;have hlt:=back j' _ hj' x k1 k2;rw[k3]at hlt;have hlj:=ihd (r.length-j') (by omega) j' rfl r1 hj'l r3;have:=h.closed j' _ hj' hlj x k1 k2;rw[k3]at this;exact this
      exact fun j hj hjl hjp=>key _ j rfl hj hjl hjp
     refine ih _ _ _ (i::pre) (i::hs) p (fun j=>if j=i then v else vals j) c (put cur o.dst v) (put e o.dst v) M'' hleft ⟨by simp[hsz],hclosed,?_,h.fits.put (cF hdo) _,k1,h.ext.trans k2,?_,?_,?_,?_,?_,?_,?_,hok,k4⟩
     .intro j hj hlj;rw[hset]at hlj;by_cases hji:j=i
      .rw[hji];exact mem_cons_self ..
      .rw[if_neg hji]at hlj;exact mem_cons_of_mem _ (h.known j hj hlj)
     .intro j t hj hjt;by_cases hji:j=i
      .subst hji;rw[if_pos rfl];exact xK _ _ (by rw[<-hdi];exact hjt)
      .rw[if_neg hji,fy _ _ (by rw[<-hdi];exact fun hh=>hji (huniq j i t hjt hh))];exact h.curA j t ((mem_cons.1 hj).resolve_left hji) hjt
     .intro t ht;rw[fy _ _ (by rw[<-hdi];exact ht i (mem_cons_self ..))];exact h.curB t fun j hj=>ht j (mem_cons_of_mem _ hj)
     .intro j o' hj ho' hlj;rw[hset]at hlj;by_cases hji:j=i
      .rw[if_pos hji]at hlj;cases hlj
      .rw[if_neg hji]at hlj;have hjp:=(mem_cons.1 hj).resolve_left hji;obtain⟨hL,hAg⟩:=h.light j o' hjp ho' hlj;rw[if_neg hji];refine⟨?_,qR hAg hx⟩;rcases hL with hq|⟨hq,M1,hB,hC⟩
       .exact .inl hq
       .refine .inr ⟨hq,M1,?_,hC⟩;unfold wL at hB ⊢;by_cases hpo:si o'.op=true
        .rw[if_pos hpo]at hB ⊢;exact hB
        .rw[if_neg hpo]at hB ⊢;refine hB.trans (k3 fun h22=>?_);rw[hsinks h22 j hjp (List.getElem?_eq_some_iff.1 ho').1 (by unfold uY;rw[ho'];simpa using hpo)]at hlj;cases hlj
     .intro j t hj hlj;rw[hset]at hlj;by_cases hji:j=i
      .subst hji;rw[if_pos rfl];exact xK _ _ (by rw[<-hdi];exact hj)
      .rw[if_neg hji]at hlj;rw[if_neg hji,fy _ _ (by rw[<-hdi];exact fun hh=>hji (huniq j i t hj hh))];exact h.ea j t hj hlj
     .intro j t hj hlj;rw[hset]at hlj;by_cases hji:j=i
      .rw[if_pos hji]at hlj;cases hlj
      .rw[if_neg hji]at hlj;rw[fy _ _ (by rw[<-hdi];exact fun hh=>hji (huniq j i t hj hh))];exact h.eb j t hj hlj
     .intro t ht;rw[fy _ _ (by rw[<-hdi];exact ht i)];exact h.ec t ht
     .intro j hj;by_cases hji:j=i
      .refine⟨by rw[hji];exact mem_cons_self ..,fun o' _=>.inl ?_⟩;rw[hset,if_pos hji]
      .obtain⟨q1,q2⟩:=h.hv j ((mem_cons.1 hj).resolve_left hji);refine⟨mem_cons_of_mem _ q1,fun o' ho'=>?_⟩;rw[hset,if_neg hji];exact q2 o' ho'
theorem Wc(p:gY)(hT:bY P T){nt id:Nat}{r:List Oper}(hm:P.follows .mixedOrders=true)(hB:QS r p=true)(hd:r.all (kP nt)=true)(h:vT P T r Q p env M):cK P nt (.region id r.toArray true) Q env M:=by
 intro M0 w0 a w h1 h2 h3;unfold QS at hB;simp only[bAn,all_eq_true,mem_range]at hB;obtain⟨hsel,hap,hbk,hok⟩:=hB;have dlt:∀ j t,cV r j=some t->j<r.length:=by
  intro j t h;rcases Nat.lt_or_ge j r.length with h1|h1
  .exact h1
  .unfold cV at h;rw[getElem?_eq_none h1]at h;cases h
 refine wp_region_any hm ?_;refine SC (env:=env) hT hsel ?_ ?_ hd M0 w0 _ _ _ _ [] [] p (fun _=>undef) (fun _=>env) env env M (by simp[QH]) ⟨by simp,?_,?_,h1,fun b B hB'=>Blk.holds_of (w:=w) rfl (h2 b B hB'),⟨h3.os,h3.tape,h3.output,h3.size,h3.block,h3.own⟩,?_,?_,?_,?_,?_,?_,(fun j hj=>by cases hj),hok,h⟩
 .intro i j t hi hj;have:=hap i (dlt i t hi) j (dlt j t hj);unfold P6 at this;rw[hi,hj]at this;by_cases hh:i=j
  .exact hh
  .simp[hh]at this
 .intro i o ho e he hb;have:=hbk i (List.getElem?_eq_some_iff.1 ho).1;unfold TE at this;rw[ho]at this;have:=Array.all_eq_true'.1 this e he;simpa[hb] using this
 .intro j o ho hj;rw[uW]at hj;cases hj
 .intro j _ hlj;rw[uW]at hlj;cases hlj
 .intro j t hj;cases hj
 .intro t _;rfl
 .intro i o hi;cases hi
 .intro j t _ hlj;rw[uW]at hlj;cases hlj
 .intro j t _ _;rfl
 .intro t _;rfl
end
section
variable {P:Program} {T:Tab} {env:Env} {M:Mem} {Q:Exit->Env->Mem->Prop} {r l:List Oper} {p q:gY}
@[simp] theorem Ue:ai [] p=p:=nr rfl
@[simp] theorem TK{i:Nat}{l:List Nat}:ai (i::l) p=.light i (ai l p):=nr rfl
@[simp] theorem Zr:vT P T r Q .fin env M=Q .normal env M:=nr rfl
@[simp] theorem X9{i:Nat}:vT P T r Q (.light i p) env M=mM P T r 0 r[i]? (vT P T r Q p) env M:=nr rfl
@[simp] theorem Zu{x k:Nat}:vT P T r Q (.one x k p) env M=mM P T r k r[x]? (vT P T r Q p) env M:=nr rfl
theorem cd{x k:Nat}:vT P T r Q (.alt x k p q) env M=(mM P T r k r[x]? (vT P T r Q p) env M/\vT P T r Q q env M):=nr rfl
@[simp] theorem To{d:Option Tmp}{o:Op}{ty:TypeId}{pos:String}{af:Array Edge}{k:Nat}{rest:Env->Mem->Prop}:mM P T r k (some ⟨d,o,ty,pos,af,none⟩) rest env M=vK P T k o d rest env M:=nr rfl
@[simp] theorem TF{d:Option Tmp}{o:Op}{ty:TypeId}{pos:String}{af:Array Edge}{j k:Nat}{b:Bool}{rest:Env->Mem->Prop}:mM P T r k (some ⟨d,o,ty,pos,af,some (j,b)⟩) rest env M=vGd (yE r env j) b (vK P T k o d rest) (gB d rest) env M:=nr rfl
end
def rlA(l:List Nat)(a n:Nat):List Nat:=l++range' a n
@[simp] theorem rlA_m(l:List Nat)(a n t:Nat):t∈rlA l a n↔t∈l\/(a<=t/\t<a+n):=by
 unfold rlA;rw[mem_append,mem_range'_1]
theorem sS{P Q:Prop}(h:Q)(e:P=Q:=by conv=>lhs;simp(disch:=omega)):P:=e▸h
theorem pOne{b1 b2:Nat}(h:b2≠b1)(M:Mem)(X Y:Blk):((M.put b1 X).put b2 Y) b1=some X:=by rw[al _ _ (Ne.symm h)];exact ae _ _ _
theorem mixS:prog.follows .mixedOrders=true:=by kernel_rfl
theorem fnT{f:FuncId}{fn:Func}{c:Code}(hf:prog.funcs[f]?=some fn)(hb:fn.body=some c){n:Nat}{rs:List ResultVar}(hnt:fn.ntmps=n)(hrs:fn.results=rs.toArray){args:List Value}{R:VP}{M:Mem}{Q:Prop}(h:Q)(e:vc prog tab n c (Cg tab rs R) (lR args 0) M=Q:=by conv=>lhs;simp(disch:=omega))(hn:(fn.name == "runtime.NumGoroutine")=false:=by kernel_rfl)(hi:eu fn.ntmps c=true:=by kernel_rfl)(ha:Nat.ble args.length n=true:=by rfl):ar prog f args M R:=Ls aU hf hb hn hi hnt hrs ha (e▸h)
theorem fnS{f:FuncId}{fn:Func}{c:Code}(hf:prog.funcs[f]?=some fn)(hb:fn.body=some c){n:Nat}{rs:List ResultVar}(hnt:fn.ntmps=n)(hrs:fn.results=rs.toArray){args:List Value}{R:VP}{M:Mem}(h:vc prog tab n c (Cg tab rs R) (lR args 0) M)(hn:(fn.name == "runtime.NumGoroutine")=false:=by kernel_rfl)(hi:eu fn.ntmps c=true:=by kernel_rfl)(ha:Nat.ble args.length n=true:=by rfl):ar prog f args M R:=Ls aU hf hb hn hi hnt hrs ha h
section
variable {env:Env} {M:Mem} {Q:Exit->Env->Mem->Prop}
theorem drwS{n id:Nat}{l:List Oper}(h:vQs prog tab l Q l env M)(hB:Region.lexB .any l.toArray=true:=by kernel_rfl)(hd:l.all (kP n)=true:=by rfl):cK prog n (.region id l.toArray true) Q env M:=Sy aU mixS hB hd h
theorem plyS(p:gY){nt id:Nat}{r:List Oper}(h:vT prog tab r Q p env M)(hB:QS r p=true:=by kernel_rfl)(hd:r.all (kP nt)=true:=by rfl):cK prog nt (.region id r.toArray true) Q env M:=Wc p aU mixS hB hd h
theorem lupS{n:Nat}{body:Code}{X:Type}(A:List Nat)(live:X->List (Nat×Value))(J:X->Mem->Prop)(μ:X->Nat)(x0:X)(hJ:J x0 M)
  (round:∀ x M g,J x M->vc prog tab n body (mR (Rnd A env live J μ (μ x)) Q) (Gl (mrg A g env) (live x)) M) (hi:eu n body=true:=by kernel_rfl) (h0:fI env (live x0):=by simp(disch:=omega)):cK prog n (.loop body) Q env M:=aR aU A live J μ x0 hi h0 hJ round
end
theorem rndS{X:Type}{A:List Nat}{e:Env}{live:X->List (Nat×Value)}{J:X->Mem->Prop}{μ:X->Nat}{k:Nat}{e':Env}{M':Mem}(x':X)(h4:J x' M')(h1:μ x'<k:=by first|omega|(simp only;omega))(h2:gh A e e':=by (repeat (first|exact km|refine kp rfl ?_|refine km' rfl ?_)))(h3:fI e' (live x'):=by simp(disch:=omega)) :
  Rnd A e live J μ k e' M':=⟨x',M',Sub.refl _,h1,h2,h3,h4⟩
theorem rndA{X:Type}{A:List Nat}{e:Env}{live:X->List (Nat×Value)}{J:X->Mem->Prop}{μ:X->Nat}{k:Nat}{e':Env}{M':Mem}(x':X)(h3:fI e' (live x'))(h4:J x' M')(h1:μ x'<k:=by first|omega|(simp only;omega))(h2:gh A e e':=by (repeat (first|exact km|refine kp rfl ?_|refine km' rfl ?_))) :
  Rnd A e live J μ k e' M':=⟨x',M',Sub.refl _,h1,h2,h3,h4⟩
theorem rndM{X:Type}{A:List Nat}{e:Env}{live:X->List (Nat×Value)}{J:X->Mem->Prop}{μ:X->Nat}{k:Nat}{e':Env}{M':Mem}(M1:Mem)(x':X)(hs:Sub M1 M')(h4:J x' M1)(h1:μ x'<k:=by first|omega|(simp only;omega))(h2:gh A e e':=by (repeat (first|exact km|refine kp rfl ?_|refine km' rfl ?_)))(h3:fI e' (live x'):=by simp(disch:=omega)) :
  Rnd A e live J μ k e' M':=⟨x',M1,hs,h1,h2,h3,h4⟩
theorem rndB{X:Type}{A:List Nat}{e:Env}{live:X->List (Nat×Value)}{J:X->Mem->Prop}{μ:X->Nat}{k:Nat}{e':Env}{M':Mem}(M1:Mem)(x':X)(hs:Sub M1 M')(h3:fI e' (live x'))(h4:J x' M1)(h1:μ x'<k:=by first|omega|(simp only;omega))(h2:gh A e e':=by (repeat (first|exact km|refine kp rfl ?_|refine km' rfl ?_))) :
  Rnd A e live J μ k e' M':=⟨x',M1,hs,h1,h2,h3,h4⟩
def Rd(M:Mem)(v:Value)(xs:List Value):Prop:=
 (∃ a c,v=.slice a 0 c/\xs=[])\/∃ b o c,v=.slice (some ⟨b,o,none⟩) xs.length c/\M.sub? b o xs.length=some xs/\xs.length<=c
theorem ye{M:Mem}{b o:Nat}{xs:List Value}(h:M.sub? b o xs.length=some xs){i:Nat}{x:Value}(hx:xs[i]?=some x):M.get? b (o+i)=some x:=by
 unfold Mem.sub? at h;unfold Mem.get?;split at h
 .rename_i own ys tot hb;split at h
  .rename_i hle;injection h with h
   have hi:i<xs.length:=by
    rcases Nat.lt_or_ge i xs.length with h|h
    .exact h
    .rw[getElem?_eq_none h]at hx;cases hx
   rw[<-h,getElem?_take_of_lt (by rw[<-h]at hi ⊢;rw[lTa]at hi ⊢;omega),getElem?_drop]at hx
   first|exact hx|(simp only[hb];exact hx)
  .cases h
 .cases h
theorem Rd.sub{M N:Mem}{v:Value}{xs:List Value}(h:Rd M v xs)(hs:Sub M N):Rd N v xs:=by
 rcases h with h|⟨b,o,c,h1,h2,h3⟩
 .exact .inl h
 .refine .inr ⟨b,o,c,h1,?_,h3⟩;unfold Mem.sub? at *;split at h2
  .rename_i hb;rw[hs _ _ hb];exact h2
  .cases h2
theorem Rd.put{M:Mem}{v:Value}{xs:List Value}(h:Rd M v xs){b:Nat}(hb:M b=none)(B:Blk):Rd (M.put b B) v xs:=h.sub ((Sub.refl M).put hb B)
theorem Rd.new{M:Mem}{b c n:Nat}{w:Bool}{xs:List Value}(hn:xs.length=n)(hc:n<=c):Rd (M.put b (.cells w xs c)) (.slice (some ⟨b,0,none⟩) n c) xs:=by
 subst hn;exact .inr ⟨b,0,c,rfl,by simp[Mem.sub?,ae],hc⟩
def Own(M:Mem)(v:Value)(xs:List Value)(M':Mem):Prop:=
 (v=.slice none 0 0/\xs=[]/\M'=M)\/∃ b c,v=.slice (some ⟨b,0,none⟩) xs.length c/\M b=none/\xs.length<=c/\M'=M.put b (.cells true xs c)
theorem Own.nil(M:Mem):Own M (.slice none 0 0) [] M:=.inl ⟨rfl,rfl,rfl⟩
theorem Own.new{M:Mem}{b c n:Nat}{xs:List Value}(hb:M b=none)(hn:xs.length=n)(hc:n<=c):Own M (.slice (some ⟨b,0,none⟩) n c) xs (M.put b (.cells true xs c)):=by
 subst hn;exact .inr ⟨b,c,rfl,hb,hc,rfl⟩
theorem Own.sub{M M':Mem}{v:Value}{xs:List Value}(h:Own M v xs M'):Sub M M':=by
 rcases h with ⟨_,_,rfl⟩|⟨b,c,_,hb,_,rfl⟩
 .exact Sub.refl _
 .exact(Sub.refl M).put hb _
theorem Own.rd{M M':Mem}{v:Value}{xs:List Value}(h:Own M v xs M'):Rd M' v xs:=by
 rcases h with ⟨h1,h2,rfl⟩|⟨b,c,rfl,hb,hc,rfl⟩
 .exact .inl ⟨none,0,h1,h2⟩
 .exact Rd.new rfl hc
def ints(zs:List Int):List Value:=zs.map (Value.int .i64)
def strs(ws:List B8):List Value:=ws.map str
@[simp] theorem az(zs:List Int):(ints zs).length=zs.length:=by simp[ints]
@[simp] theorem ah(ws:List B8):(strs ws).length=ws.length:=by simp[strs]
@[simp] theorem XO:strs []=[]:=nr rfl
theorem NB(z:B8)(zs:List B8):strs (z::zs)=str z::strs zs:=rfl
@[simp] theorem cR{zs:List Int}{i:Nat}:(ints zs)[i]?=(zs[i]?).map (Value.int .i64):=by simp[ints]
@[simp] theorem a7{zs:List B8}{i:Nat}:(strs zs)[i]?=(zs[i]?).map str:=by simp[strs]
@[simp] theorem mz{l:B8}{i:Nat}:(av l)[i]?=(l[i]?).map fun u=>Value.int .u8 u.toNat:=by simp[av]
theorem ints_set(zs:List Int)(i:Nat)(z:Int):(ints zs).set i (.int .i64 z)=ints (zs.set i z):=by simp[ints,map_set]
theorem iH(zs:List B8)(i:Nat)(z:B8):(strs zs).set i (str z)=strs (zs.set i z):=by simp[strs,map_set]
theorem GQ(a b:List Int):ints a++ints b=ints (a++b):=by simp[ints]
theorem kR(a b:List B8):strs a++strs b=strs (a++b):=by simp[strs]
theorem cM(a:List Int)(z:Int):ints a++[.int .i64 z]=ints (a++[z]):=by simp[ints]
theorem cA(a:List B8)(z:B8):strs a++[str z]=strs (a++[z]):=by simp[strs]
theorem HZ(n:Nat)(z:Int):replicate n (Value.int .i64 z)=ints (replicate n z):=by simp[ints]
theorem CY(zs:List Int):∀ v∈ints zs,bE v=true:=by intro v hv;obtain⟨_,_,rfl⟩:=mem_map.1 hv;rfl
theorem cJ(zs:List B8):∀ v∈strs zs,bE v=true:=by intro v hv;obtain⟨_,_,rfl⟩:=mem_map.1 hv;rfl
def oK(G:Mem->Prop):Prop:=∀ M b B,G M->M b=none->G (M.put b B)
theorem bW:oK fun _=>True:=fun _ _ _ _ _=>trivial
def mT(P:Program)(fv:Value)(xs:List Value)(p:Value->Bool)(G:Mem->Prop):Prop:=
 ∀ x∈xs,∀ M R,G M->R (.bool (p x)) M->fO P fv [x] R M
def E5(P:Program)(fv:Value)(b:Bool)(G:Mem->Prop):Prop:=∀ M R,G M->R (.bool b) M->fO P fv [] R M
theorem bJ(n lo hi:Int)(M:Mem)(R:VP)(h:R (.bool (decide (lo<=n/\n<=hi))) M):ar prog 84 [.int .i64 n,.int .i64 lo,.int .i64 hi] M R:=by
 refine fnS func84 rfl ntmps84 results84 ?_;by_cases h1:lo<=n
 .simp(disch:=omega)[h1];exact ad (by simpa[h1] using h)
 .simp(disch:=omega)[h1];exact ad (by simpa[h1] using h)
theorem qk(n:Int)(M:Mem)(R:VP)(h:R (.bool (decide (0<=n/\n<=60))) M):ar prog 216 [.int .i64 n] M R:=by
 refine fnT func216 rfl ntmps216 results216 ?_;refine bJ _ _ _ _ _ ?_;refine sS ?_;exact ad (by simpa using h)
theorem bZ(l:B8)(M:Mem)(R:VP)(hl:l.length<=1099511627776)(h:R (.int .i64 l.length) M):ar prog 85 [str l] M R:=by
 refine fnT func85 rfl ntmps85 results85 ?_;exact ad h
theorem iN(u:UInt8)(M:Mem)(R:VP)(h:R (.int .i64 (u.toNat-97)) M):ar prog 142 [.int .u8 u.toNat] M R:=by
 have hu:=u.toNat_lt;refine fnT func142 rfl ntmps142 results142 ?_;exact ad h
theorem GD(M:Mem)(R:VP)(h:R (.bool true) M):ar prog 213 [] M R:=by
 refine fnT func213 rfl ntmps213 results213 ?_;exact ad h
theorem xj(v fv:Value)(xs:List Value)(p:Value->Bool)(G:Mem->Prop)(M:Mem)(R:VP)(hv:Rd M v xs)(hG:G M)(hf:mT prog fv xs p G)(hl:xs.length<=1099511627776)
  (h:∀ r:Int,decide (0<=r)=xs.any p->-1<=r->r<=xs.length->R (.int .i64 r) M):ar prog 206 [v,fv] M R:=by
 refine fnS func206 rfl ntmps206 results206 ?_;rcases hv with ⟨a0,c0,rfl,rfl⟩|⟨b,o,c,rfl,hs,hc⟩
 .refine sS ?_;refine lupS (rlA [4,5] 8 11) (fun i:Nat=>[(8,.int .i64 i)]) (fun i M'=>M'=M/\i=0) (fun i=>0) 0 ⟨rfl,rfl⟩ ?_
  rintro i M' g ⟨rfl,rfl⟩
  refine sS ?_;exact ad (h (-1) (by simp) (by omega) (by omega))
 .refine sS ?_;refine lupS (rlA [4,5] 8 11) (fun i:Nat=>[(8,.int .i64 i)]) (fun i M'=>M'=M/\i<=xs.length/\∀ x∈xs.take i,p x=false) (fun i=>xs.length-i) 0 ⟨rfl,by omega,by simp⟩ ?_
  rintro i M' g ⟨rfl,hi,hp⟩
  by_cases hlt:i<xs.length
  .have hx:xs[i]?=some xs[i]:=gEl hlt;have hget:=ye hs hx;simp(disch:=omega)[hget];refine hf _ (gMe hlt) _ _ hG ?_;cases hpx:p xs[i]
   .refine sS ?_;refine rndS (i+1) ⟨rfl,by omega,?_⟩;rw[take_succ_eq_append_getElem hlt];intro x hx';rcases mem_append.1 hx' with h1|h1
    .exact hp x h1
    .rw[mem_singleton.1 h1];exact hpx
   .refine sS ?_;refine ad (h i ?_ (by omega) (by omega));have:xs.any p=true:=any_eq_true.2 ⟨_,gMe hlt,hpx⟩;rw[this];simp
  .have hi':i=xs.length:=by omega
   subst hi';refine sS ?_;refine ad (h (-1) ?_ (by omega) (by omega));have:xs.any p=false:=by
    rw[any_eq_false];intro x hx';rw[hp x (by rwa[take_length])];simp
   rw[this];rfl
theorem xx(v fv:Value)(xs:List Value)(p:Value->Bool)(G:Mem->Prop)(M:Mem)(R:VP)(hv:Rd M v xs)(hG:G M)(hf:mT prog fv xs p G)(hl:xs.length<=1099511627776)
  (h:∀ r:Int,decide (0<=r)=xs.any p->-1<=r->r<=xs.length->R (.int .i64 r) M):ar prog 207 [v,fv] M R:=by
 refine fnS func207 rfl ntmps207 results207 ?_;rcases hv with ⟨a0,c0,rfl,rfl⟩|⟨b,o,c,rfl,hs,hc⟩
 .refine sS ?_;refine lupS (rlA [4,5] 8 11) (fun i:Nat=>[(8,.int .i64 i)]) (fun i M'=>M'=M/\i=0) (fun i=>0) 0 ⟨rfl,rfl⟩ ?_
  rintro i M' g ⟨rfl,rfl⟩
  refine sS ?_;exact ad (h (-1) (by simp) (by omega) (by omega))
 .refine sS ?_;refine lupS (rlA [4,5] 8 11) (fun i:Nat=>[(8,.int .i64 i)]) (fun i M'=>M'=M/\i<=xs.length/\∀ x∈xs.take i,p x=false) (fun i=>xs.length-i) 0 ⟨rfl,by omega,by simp⟩ ?_
  rintro i M' g ⟨rfl,hi,hp⟩
  by_cases hlt:i<xs.length
  .have hx:xs[i]?=some xs[i]:=gEl hlt;have hget:=ye hs hx;simp(disch:=omega)[hget];refine hf _ (gMe hlt) _ _ hG ?_;cases hpx:p xs[i]
   .refine sS ?_;refine rndS (i+1) ⟨rfl,by omega,?_⟩;rw[take_succ_eq_append_getElem hlt];intro x hx';rcases mem_append.1 hx' with h1|h1
    .exact hp x h1
    .rw[mem_singleton.1 h1];exact hpx
   .refine sS ?_;refine ad (h i ?_ (by omega) (by omega));have:xs.any p=true:=any_eq_true.2 ⟨_,gMe hlt,hpx⟩;rw[this];simp
  .have hi':i=xs.length:=by omega
   subst hi';refine sS ?_;refine ad (h (-1) ?_ (by omega) (by omega));have:xs.any p=false:=by
    rw[any_eq_false];intro x hx';rw[hp x (by rwa[take_length])];simp
   rw[this];rfl
theorem wY(v fv:Value)(xs:List Value)(p:Value->Bool)(G:Mem->Prop)(M:Mem)(R:VP)(hv:Rd M v xs)(hG:G M)(hf:mT prog fv xs p G)(hl:xs.length<=1099511627776)
  (h:∀ r:Int,decide (0<=r)=xs.any p->-1<=r->r<=xs.length->R (.int .i64 r) M):ar prog 448 [v,fv] M R:=by
 refine fnS func448 rfl ntmps448 results448 ?_;rcases hv with ⟨a0,c0,rfl,rfl⟩|⟨b,o,c,rfl,hs,hc⟩
 .refine sS ?_;refine lupS (rlA [4,5] 8 11) (fun i:Nat=>[(8,.int .i64 i)]) (fun i M'=>M'=M/\i=0) (fun i=>0) 0 ⟨rfl,rfl⟩ ?_
  rintro i M' g ⟨rfl,rfl⟩
  refine sS ?_;exact ad (h (-1) (by simp) (by omega) (by omega))
 .refine sS ?_;refine lupS (rlA [4,5] 8 11) (fun i:Nat=>[(8,.int .i64 i)]) (fun i M'=>M'=M/\i<=xs.length/\∀ x∈xs.take i,p x=false) (fun i=>xs.length-i) 0 ⟨rfl,by omega,by simp⟩ ?_
  rintro i M' g ⟨rfl,hi,hp⟩
  by_cases hlt:i<xs.length
  .have hx:xs[i]?=some xs[i]:=gEl hlt;have hget:=ye hs hx;simp(disch:=omega)[hget];refine hf _ (gMe hlt) _ _ hG ?_;cases hpx:p xs[i]
   .refine sS ?_;refine rndS (i+1) ⟨rfl,by omega,?_⟩;rw[take_succ_eq_append_getElem hlt];intro x hx';rcases mem_append.1 hx' with h1|h1
    .exact hp x h1
    .rw[mem_singleton.1 h1];exact hpx
   .refine sS ?_;refine ad (h i ?_ (by omega) (by omega));have:xs.any p=true:=any_eq_true.2 ⟨_,gMe hlt,hpx⟩;rw[this];simp
  .have hi':i=xs.length:=by omega
   subst hi';refine sS ?_;refine ad (h (-1) ?_ (by omega) (by omega));have:xs.any p=false:=by
    rw[any_eq_false];intro x hx';rw[hp x (by rwa[take_length])];simp
   rw[this];rfl
theorem qE(v fv:Value)(xs:List Value)(p:Value->Bool)(G:Mem->Prop)(M:Mem)(R:VP)(hv:Rd M v xs)(hG:G M)(hf:mT prog fv xs p G)(hl:xs.length<=1099511627776)
  (h:R (.bool (xs.any p)) M):ar prog 137 [v,fv] M R:=by
 refine fnT func137 rfl ntmps137 results137 ?_;refine xj v fv xs p G M _ hv hG hf hl fun r h1 h2 h3=>?_;refine sS ?_;rw[h1];exact ad h
theorem jt(v fv:Value)(xs:List Value)(p:Value->Bool)(G:Mem->Prop)(M:Mem)(R:VP)(hv:Rd M v xs)(hG:G M)(hf:mT prog fv xs p G)(hl:xs.length<=1099511627776)
  (h:R (.bool (xs.any p)) M):ar prog 139 [v,fv] M R:=by
 refine fnT func139 rfl ntmps139 results139 ?_;refine xx v fv xs p G M _ hv hG hf hl fun r h1 h2 h3=>?_;refine sS ?_;rw[h1];exact ad h
theorem rF(v fv:Value)(xs:List Value)(p:Value->Bool)(G:Mem->Prop)(M:Mem)(R:VP)(hv:Rd M v xs)(hG:G M)(hf:mT prog fv xs p G)(hl:xs.length<=1099511627776)
  (h:R (.bool (xs.any p)) M):ar prog 439 [v,fv] M R:=by
 refine fnT func439 rfl ntmps439 results439 ?_;refine wY v fv xs p G M _ hv hG hf hl fun r h1 h2 h3=>?_;refine sS ?_;rw[h1];exact ad h
theorem mj(v fv:Value)(xs:List Value)(p:Value->Bool)(G:Mem->Prop)(M:Mem)(R:VP)(hv:Rd M v xs)(hG:G M)(hst:oK G)(hf:mT prog fv xs p G)(hff:bE fv=true)(hl:xs.length<=1099511627776)
  (h:R (.bool (xs.all p)) M):ar prog 82 [v,fv] M R:=by
 refine fnT func82 rfl ntmps82 results82 ?_;intro b hb;refine sS ?_;refine qE v _ xs (fun x=>!p x) (fun M'=>G M'/\M'.get? b 0=some fv) _ _ (hv.put hb _) ⟨hst _ _ _ hG hb,by simp(disch:=omega)⟩ ?_ hl ?_
 .rintro x hx M' R' ⟨h1,h2⟩ h3
  refine sS ?_;refine fnS func138 rfl ntmps138 results138 ?_;simp(disch:=omega)[h2];refine hf x hx _ _ h1 ?_;refine sS ?_;exact ad h3
 .refine sS ?_;refine ag ((Sub.refl M).put hb _) ?_;have e:(!xs.any fun x=>!p x)=xs.all p:=by rw[all_eq_not_any_not]
  rw[e];exact h
theorem l9(v fv:Value)(xs:List Value)(p:Value->Bool)(G:Mem->Prop)(M:Mem)(R:VP)(hv:Rd M v xs)(hG:G M)(hst:oK G)(hf:mT prog fv xs p G)(hff:bE fv=true)(hl:xs.length<=1099511627776)
  (h:R (.bool (xs.all p)) M):ar prog 89 [v,fv] M R:=by
 refine fnT func89 rfl ntmps89 results89 ?_;intro b hb;refine sS ?_;refine jt v _ xs (fun x=>!p x) (fun M'=>G M'/\M'.get? b 0=some fv) _ _ (hv.put hb _) ⟨hst _ _ _ hG hb,by simp(disch:=omega)⟩ ?_ hl ?_
 .rintro x hx M' R' ⟨h1,h2⟩ h3
  refine sS ?_;refine fnS func140 rfl ntmps140 results140 ?_;simp(disch:=omega)[h2];refine hf x hx _ _ h1 ?_;refine sS ?_;exact ad h3
 .refine sS ?_;refine ag ((Sub.refl M).put hb _) ?_;have e:(!xs.any fun x=>!p x)=xs.all p:=by rw[all_eq_not_any_not]
  rw[e];exact h
theorem EP(v fv:Value)(xs:List Value)(p:Value->Bool)(G:Mem->Prop)(M:Mem)(R:VP)(hv:Rd M v xs)(hG:G M)(hst:oK G)(hf:mT prog fv xs p G)(hff:bE fv=true)(hl:xs.length<=1099511627776)
  (h:R (.bool (xs.all p)) M):ar prog 424 [v,fv] M R:=by
 refine fnT func424 rfl ntmps424 results424 ?_;intro b hb;refine sS ?_;refine rF v _ xs (fun x=>!p x) (fun M'=>G M'/\M'.get? b 0=some fv) _ _ (hv.put hb _) ⟨hst _ _ _ hG hb,by simp(disch:=omega)⟩ ?_ hl ?_
 .rintro x hx M' R' ⟨h1,h2⟩ h3
  refine sS ?_;refine fnS func440 rfl ntmps440 results440 ?_;simp(disch:=omega)[h2];refine hf x hx _ _ h1 ?_;refine sS ?_;exact ad h3
 .refine sS ?_;refine ag ((Sub.refl M).put hb _) ?_;have e:(!xs.any fun x=>!p x)=xs.all p:=by rw[all_eq_not_any_not]
  rw[e];exact h
def isL(u:UInt8):Bool:=decide (97<=u.toNat)&&decide (u.toNat<102)
def isWord(l:B8):Bool:=decide (l.length<=60)&&l.all isL
def onB(q:UInt8->Bool):Value->Bool
 | .int _ n=>q (UInt8.ofNat n.toNat)
 | _=>false
theorem tP(q:UInt8->Bool)(u:UInt8):onB q (.int .u8 u.toNat)=q u:=by simp[onB]
theorem vx(q:UInt8->Bool)(l:B8):(av l).all (onB q)=l.all q:=by
 induction l with
 | nil=>rfl
 | cons u l ih=>simp only[av,map_cons,all_cons,tP]at *;rw[ih]
theorem vX{l:B8}{x:Value}(h:x∈av l):∃ u∈l,x=.int .u8 u.toNat:=by
 obtain⟨u,h1,h2⟩:=mem_map.1 h;exact⟨u,h1,h2.symm⟩
theorem A8(l:B8):mT prog (.func (.func 83) #[] #[]) (av l) (onB isL) (fun _=>True):=by
 intro x hx M R _ h;obtain⟨u,_,rfl⟩:=vX hx;rw[tP]at h;refine sS ?_;refine fnS func83 rfl ntmps83 results83 ?_;by_cases h1:97<=(u.toNat:Int)
 .have e:isL u=decide ((u.toNat:Int)<102):=by unfold isL;rw[dTr (by omega:97<=u.toNat)];simp only[Bool.true_and,decide_eq_decide];omega
  rw[e]at h;simp(disch:=omega)[h1];exact ad h
 .have e:isL u=false:=by unfold isL;rw[dFa (by omega:¬ 97<=u.toNat)];rfl
  rw[e]at h;simp(disch:=omega)[h1];exact ad h
theorem fY(l:B8)(M:Mem)(R:VP)(hl:l.length<=1099511627776)(h:R (.bool (isWord l)) M):ar prog 44 [str l] M R:=by
 refine fnS func44 rfl ntmps44 results44 ?_;by_cases h1:l.length<=60
 .have e:isWord l=l.all isL:=by unfold isWord;rw[dTr h1];rfl
  rw[e]at h;have h1':(l.length:Int)<=60:=by omega
  simp(disch:=omega)[h1'];intro b c hb hc;refine sS ?_;refine mj _ _ (av l) (onB isL) (fun _=>True) _ _ (Rd.new (aO l) (by simp(disch:=omega) at hc;omega)) trivial bW (A8 l) rfl (by rw[aO];omega) ?_;rw[vx];refine sS ?_;exact ag ((Sub.refl M).put hb _) h
 .have e:isWord l=false:=by unfold isWord;rw[dFa h1];rfl
  rw[e]at h;have h1':¬(l.length:Int)<=60:=by omega
  simp(disch:=omega)[h1'];exact ad h
theorem H7(n:Int)(M:Mem)(R:VP)(h0:0<=n)(h1:n<=4)(h:R (str [UInt8.ofNat (97+n.toNat)]) M):ar prog 229 [.int .i64 n] M R:=by
 refine fnT func229 rfl ntmps229 results229 ?_;intro b hb;refine sS ?_;have e:(97+n).toNat=97+n.toNat:=by omega
 rw[<-e]at h;exact ag ((Sub.refl M).put hb _) h
def onS(q:B8->Bool):Value->Bool
 | .string s=>q (sl s)
 | _=>false
theorem xO(q:B8->Bool)(l:B8):onS q (str l)=q l:=rfl
theorem yv(q:B8->Bool)(ws:List B8):(strs ws).all (onS q)=ws.all q:=by
 induction ws with
 | nil=>rfl
 | cons w ws ih=>rw[NB,all_cons,all_cons,xO,ih]
theorem Ag{ws:List B8}{x:Value}(h:x∈strs ws):∃ w∈ws,x=str w:=by
 obtain⟨u,h1,h2⟩:=mem_map.1 h;exact⟨u,h1,h2.symm⟩
def cS(ws:List B8):Prop:=∀ w∈ws,w.length<=1099511627776
def ia(ws:List B8)(b:Bool):Int:=if ws.all isWord then (if b then 0 else 2) else 1
theorem DQ(ws:List B8)(hw:cS ws)(G:Mem->Prop):mT prog (.func (.func 44) #[] #[]) (strs ws) (onS isWord) G:=by
 intro x hx M R _ h;obtain⟨w,hm,rfl⟩:=Ag hx;refine sS ?_;exact fY w M R (hw w hm) h
theorem bK(G:Mem->Prop):E5 prog (.func (.func 213) #[] #[]) true G:=fun M R _ h=>by
 refine sS ?_;exact GD M R h
theorem oL(fv v:Value)(ws:List B8)(b:Bool)(G:Mem->Prop)(M:Mem)(R:VP)(hv:Rd M v (strs ws))(hw:cS ws)(hn:ws.length<=1099511627776)(hG:G M)(hst:oK G)
  (hf:ws.all isWord=true->E5 prog fv b G) (h:R (.int .i64 (ia ws b)) M):ar prog 174 [fv,v] M R:=by
 refine fnT func174 rfl ntmps174 results174 ?_;refine l9 _ _ (strs ws) (onS isWord) G _ _ hv hG hst (DQ ws hw G) rfl (by rw[ah];exact hn) ?_;rw[yv];unfold ia at h;cases hb:ws.all isWord
 .rw[hb]at h;refine sS ?_;exact ad h
 .rw[hb]at h;refine sS ?_;refine hf hb _ _ hG ?_;cases b
  .refine sS ?_;exact ad h
  .refine sS ?_;exact ad h
theorem bA(fv v:Value)(ws:List B8)(b:Bool)(G:Mem->Prop)(M:Mem)(R:VP)(hv:Rd M v (strs ws))(hw:cS ws)(hn:ws.length<=1099511627776)(hG:G M)(hst:oK G)
  (hf:E5 prog fv b G) (h:R (.int .i64 (ia ws b)) M):ar prog 174 [fv,v] M R:=oL fv v ws b G M R hv hw hn hG hst (fun _=>hf) h
def cnt(l:B8)(k:Nat):Int:=(l.countP fun u=>u.toNat==97+k)
def counts(l:B8):List Int:=[cnt l 0,cnt l 1,cnt l 2,cnt l 3,cnt l 4]
theorem JW:counts []=[0,0,0,0,0]:=rfl
theorem eH(l:B8):(counts l).length=5:=rfl
theorem eE{u:UInt8}(h:isL u=true):97<=u.toNat/\u.toNat<=101:=by
 unfold isL at h;simp only[bAn,dTe]at h;omega
theorem QL(l:B8)(u:UInt8)(k:Nat):cnt (l++[u]) k=cnt l k+if u.toNat=97+k then 1 else 0:=by
 unfold cnt;rw[countP_append];simp only[countP_cons,countP_nil,beq_iff_eq];split<;>simp
theorem Ex(l:B8)(k:Nat):0<=cnt l k/\cnt l k<=l.length:=by
 unfold cnt;have:=countP_le_length (p:=fun u:UInt8=>u.toNat==97+k) (l:=l);omega
theorem n6(l:B8)(u:UInt8)(h:isL u=true):counts (l++[u])=(counts l).set (u.toNat-97) (cnt l (u.toNat-97)+1):=by
 have hr:=eE h;unfold counts;simp only[QL];have:u.toNat=97\/u.toNat=98\/u.toNat=99\/u.toNat=100\/u.toNat=101:=by omega
 rcases this with e|e|e|e|e<;>simp[e]
theorem re(l:B8){k:Nat}(h:k<5):(counts l)[k]?=some (cnt l k):=by
 match k,h with
 | 0,_=>rfl
 | 1,_=>rfl
 | 2,_=>rfl
 | 3,_=>rfl
 | 4,_=>rfl
theorem aw{α:Type}(l:List α){i:Nat}(h:i<l.length):l.take (i+1)=l.take i++[l[i]]:=take_succ_eq_append_getElem h
theorem jP(l:B8)(M:Mem)(R:VP)(hl:l.length<=1099511627776)(hw:l.all isL=true)
  (h:∀ v M',Own M v (ints (counts l)) M'->R v M'):ar prog 327 [str l] M R:=by
 refine fnT func327 rfl ntmps327 results327 ?_;intro b1 hb1;refine sS ?_;intro b2 c hb2 hc;rw[aG]at hb2;obtain⟨h12,hb2⟩:=hb2;refine sS ?_;have hb2':(M.put b1 (.cells true (ints (counts l)) 5)) b2=none:=by rw[aG];exact⟨h12,hb2⟩
 refine aR aU (rlA [5] 10 12) (fun i:Nat=>[(10,.int .i64 i)])
  (fun i M'=>i<=l.length/\M'=(M.put b1 (.cells true (ints (counts (l.take i))) 5)).put b2 (.cells true (av l) c)) (fun i=>l.length-i) 0 (by kernel_rfl) (by simp(disch:=omega)) ⟨by omega,?_⟩ ?_
 .rfl
 rintro i M' g ⟨hi,rfl⟩
 by_cases hlt:i<l.length
 .have hx:l[i]?=some l[i]:=gEl hlt;have hu:=l[i].toNat_lt;have hL:isL l[i]=true:=all_eq_true.1 hw _ (gMe hlt);have hr:=eE hL;have hk:((l[i].toNat:Int)-97).toNat=l[i].toNat-97:=by omega
  have hg:=re (l.take i) (k:=l[i].toNat-97) (by omega);have hcl:=Ex (l.take i) (l[i].toNat-97);have htl:(l.take i).length<=l.length:=by rw[lTa];omega
  refine sS ?_;refine iN _ _ _ ?_;simp(disch:=omega)[hk,hg,eH];refine rndS (i+1) ⟨by omega,?_⟩;rw[ints_set,aw l hlt,n6 _ _ hL]
 .have hi':i=l.length:=by omega
  subst hi';refine sS ?_;refine ag ?_ (h _ _ (Own.new (c:=5) hb1 rfl (lRf 5)));exact(Sub.refl _).put hb2' _
theorem Ad{M:Mem}{b o:Nat}{xs:List Value}(h:M.sub? b o xs.length=some xs){i:Nat}:i<xs.length->M.get? b (o+i)=xs[i]?:=by
 intro hi;rw[ye h (gEl hi),gEl hi]
theorem PM{α:Type}[BEq α][LawfulBEq α]{xs ys:List α}(hl:xs.length=ys.length)(h:xs.take xs.length=ys.take xs.length):xs=ys:=by
 rw[take_length,hl,take_length]at h;exact h
theorem ca{M M' N:Mem}{v x:Value}{xs news:List Value}{e bytes s:Nat}{z zz:Value}{d:Option TI}{K:VP}(h:Own M v xs M')(hs:Sub M' N)(hsrc:du N x=some news)(hok:ti d=true)(hz:bE z=true)(hb:1<=bytes/\bytes<=32)
  (hfl:∀ v∈news,bE v=true) (hbd:(xs.length+news.length)*bytes<=70368744177664) (hk:∀ v' M'' N'',Own M v' (xs++news) M''->Sub M'' N''->K v' N'') :
  zW (some ⟨.slc e 1 bytes z,s,zz⟩) d v x K N:=by
 rcases h with ⟨rfl,rfl,rfl⟩|⟨b,c,rfl,hM,hc,rfl⟩
 .rw[OV];refine⟨⟨hok,hz,hb⟩,?_⟩;rw[hsrc];cases news with
  | nil=>rw[OS];exact hk _ _ _ (Own.nil _) hs
  | cons y ys=>
   rw[KR];refine⟨by simpa using hbd,?_⟩;intro b c hN hc;have hM:M' b=none:=by
    cases hMb:M' b with
    | none=>rfl
    | some B=>rw[hs _ _ hMb]at hN;cases hN
   exact hk _ _ _ (Own.new hM rfl hc) (hs.both b _)
 .have hN:=hs b _ (ae _ _ _);rw[PJ];refine⟨⟨hok,hz,hb⟩,?_⟩;rw[hN,hsrc,My];refine⟨⟨rfl,rfl,hbd,hfl⟩,?_⟩;intro b' c' hN' hc';have hs':Sub M (N.del b):=by
   intro i B hi;have hne:i≠b:=by rintro rfl;rw[hM]at hi;cases hi
   simp only[Mem.del,if_neg hne];exact hs _ _ ((Sub.refl M).put hM _ _ _ hi)
  have hM':M b'=none:=by
   cases hMb:M b' with
   | none=>rfl
   | some B=>rw[hs' _ _ hMb]at hN';cases hN'
  exact hk _ _ _ (Own.new hM' (by rw[lAp]) hc') (hs'.both b' _)
theorem bg(l:B8)(M:Mem)(R:VP)(hl:l.length<=1099511627776)(h:R (.bool (isWord l)) M):ar prog 47 [str l] M R:=by
 refine fnT func47 rfl ntmps47 results47 ?_;refine lupS (rlA [] 2 18) (fun i:Nat=>[(3,.int .i64 i)]) (fun i M'=>M'=M/\i<=l.length/\∀ u∈l.take i,isL u=true) (fun i=>l.length-i) 0 ⟨rfl,by omega,by simp⟩ ?_
 rintro i M' g ⟨rfl,hi,hp⟩
 by_cases hlt:i<l.length
 .have hx:l[i]?=some l[i]:=gEl hlt;have hu:=l[i].toNat_lt;have bad:isL l[i]=false->isWord l=false:=by
   intro hb;have:l.all isL=false:=all_eq_false.2 ⟨_,gMe hlt,by rw[hb];simp⟩;unfold isWord;rw[this,Bool.and_false]
  by_cases h1:(l[i].toNat:Int)<97
  .have hb:isL l[i]=false:=by unfold isL;rw[dFa (by omega:¬ 97<=l[i].toNat)];rfl
   rw[bad hb]at h;simp(disch:=omega)[h1];exact ad h
  .by_cases h2:101<(l[i].toNat:Int)
   .have hb:isL l[i]=false:=by unfold isL;rw[dFa (by omega:¬ l[i].toNat<102),Bool.and_false]
    rw[bad hb]at h;simp(disch:=omega)[h1,h2];exact ad h
   .have hb:isL l[i]=true:=by unfold isL;rw[dTr (by omega:97<=l[i].toNat),dTr (by omega:l[i].toNat<102)];rfl
    simp(disch:=omega)[h1,h2];refine rndS (i+1) ⟨rfl,by omega,?_⟩;rw[aw l hlt];intro u hu;rcases mem_append.1 hu with hu|hu
    .exact hp u hu
    .rw[mem_singleton.1 hu];exact hb
 .have hi':i=l.length:=by omega
  subst hi';rw[take_length]at hp;have e:isWord l=decide (l.length<=60):=by unfold isWord;rw[all_eq_true.2 hp,Bool.and_true]
  rw[e]at h;by_cases h6:l.length<=60
  .have h6':(l.length:Int)<=60:=by omega
   rw[dTr h6]at h;simp(disch:=omega)[h6'];exact ad h
  .have h6':¬(l.length:Int)<=60:=by omega
   rw[dFa h6]at h;simp(disch:=omega)[h6'];exact ad h
theorem jX(l:B8)(i:Nat)(u:UInt8)(M:Mem)(R:VP)(hl:l.length<=1099511627776)(hx:l[i]?=some u)(h:R (.int .i64 (u.toNat-97)) M):ar prog 178 [str l,.int .i64 i] M R:=by
 obtain⟨hi,rfl⟩:=List.getElem?_eq_some_iff.1 hx;have hu:=l[i].toNat_lt;refine fnT func178 rfl ntmps178 results178 ?_;exact ad h
theorem au{l:B8}(h:isWord l=true):l.length<=60:=by
 unfold isWord at h;simp only[bAn,dTe]at h;exact h.1
theorem aZ{l:B8}(h:isWord l=true):l.all isL=true:=by
 unfold isWord at h;simp only[bAn,dTe]at h;exact h.2
def Lst(c:Int)(xs:List Value)(M:Mem)(R:VP):Prop:=∀ v M',Own M v xs M'->R (.tuple #[v,.int .i64 c]) M'
def aK(l:B8):Int:=if isWord l then 0 else 1
theorem ak{M:Mem}{b tot:Nat}{w:Bool}{xs:List Value}(h:M b=some (.cells w xs tot))(i:Nat):M.get? b i=xs[i]?:=by simp[Mem.get?,h]
theorem aq{M:Mem}{b tot:Nat}{w:Bool}{xs:List Value}(h:M b=some (.cells w xs tot))(o n:Nat):M.sub? b o n=lN (o+n<=xs.length) ((xs.drop o).take n):=by
 simp only[Mem.sub?,lN,h];by_cases hq:o+n<=xs.length
 .rw[if_pos hq,if_pos hq]
 .rw[if_neg hq,if_neg hq]
theorem ba{M N:Mem}{b:Nat}(hs:Sub M N)(h:N b=none):M b=none:=by
 cases hM:M b with
 | none=>rfl
 | some B=>rw[hs _ _ hM]at h;cases h
theorem Sub.putN{M N:Mem}{b:Nat}(h:Sub M N)(hb:N b=none)(B:Blk):Sub M (N.put b B):=h.trans ((Sub.refl N).put hb B)
theorem Own.base{M N M':Mem}{v:Value}{xs:List Value}(h:Own N v xs M')(hs:Sub M N):∃ M'',Own M v xs M''/\Sub M'' M':=by
 rcases h with ⟨rfl,rfl,rfl⟩|⟨b,c,rfl,hN,hc,rfl⟩
 .exact⟨M,Own.nil _,hs⟩
 .have hM:M b=none:=by
   cases hMb:M b with
   | none=>rfl
   | some B=>rw[hs _ _ hMb]at hN;cases hN
  exact⟨_,Own.new hM rfl hc,hs.both b _⟩
theorem dq(l:B8)(b:Bool):ia [l] b=if isWord l then (if b then 0 else 2) else 1:=by simp[ia]
theorem gM{l:B8}(h:l.length<=1099511627776):cS [l]:=by intro w hw;rw[mem_singleton.1 hw];exact h
theorem Rd.opened{M:Mem}{v:Value}{xs:List Value}(h:Rd M v xs):∃ a c,v=.slice a xs.length c/\(xs.length=0\/∃ b o,a=some ⟨b,o,none⟩/\∀ i,i<xs.length->M.get? b (o+i)=xs[i]?):=by
 rcases h with ⟨a0,c0,rfl,h2⟩|⟨b,o,c,rfl,h2,h3⟩
 .exact⟨a0,c0,by rw[h2];rfl,.inl (by rw[h2];rfl)⟩
 .exact⟨_,c,rfl,.inr ⟨b,o,rfl,fun i hi=>Ad h2 hi⟩⟩
theorem ck(n lo hi:Int)(M:Mem)(R:VP)(h:R (.bool (decide (lo<=n/\n<=hi))) M):ar prog 112 [.int .i64 n,.int .i64 lo,.int .i64 hi] M R:=by
 refine fnS func112 rfl ntmps112 results112 ?_;by_cases h1:lo<=n
 .simp(disch:=omega)[h1];exact ad (by simpa[h1] using h)
 .simp(disch:=omega)[h1];exact ad (by simpa[h1] using h)
theorem iy(l:B8)(M:Mem)(R:VP)(hl:l.length<=1099511627776)(hw:l.all isL=true)
  (h:∀ v M',Own M v (ints (counts l)) M'->R v M'):ar prog 362 [str l] M R:=by
 refine fnT func362 rfl ntmps362 results362 ?_;intro b1 hb1;refine sS ?_;refine aR aU (rlA [4] 6 14) (fun i:Nat=>[(4,.int .i64 i)])
  (fun i M'=>i<=l.length/\M'=M.put b1 (.cells true (ints (counts (l.take i))) 5)) (fun i=>l.length-i) 0 (by kernel_rfl) (by simp(disch:=omega)) ⟨by omega,?_⟩ ?_
 .rfl
 rintro i M' g ⟨hi,rfl⟩
 by_cases hlt:i<l.length
 .have hx:l[i]?=some l[i]:=gEl hlt;have hu:=l[i].toNat_lt;have hL:isL l[i]=true:=all_eq_true.1 hw _ (gMe hlt);have hr:=eE hL;have hk:((l[i].toNat:Int)-97).toNat=l[i].toNat-97:=by omega
  have hg:=re (l.take i) (k:=l[i].toNat-97) (by omega);have hcl:=Ex (l.take i) (l[i].toNat-97);have htl:(l.take i).length<=l.length:=by rw[lTa];omega
  refine sS ?_;refine jX l i _ _ _ hl hx ?_;simp(disch:=omega)[hk,hg,eH];refine rndS (i+1) ⟨by omega,?_⟩;rw[ints_set,aw l hlt,n6 _ _ hL]
 .have hi':i=l.length:=by omega
  subst hi';refine sS ?_;exact ad (h _ _ (Own.new (c:=5) hb1 rfl (lRf 5)))
def aB(vs:List Nat):List Value:=vs.map fun (n:Nat)=>Value.int .i64 n
theorem aA(vs:List Nat):(aB vs).length=vs.length:=by simp[aB]
theorem bV{vs:List Nat}{i:Nat}:(aB vs)[i]?=(vs[i]?).map fun (n:Nat)=>Value.int .i64 n:=by simp[aB]
theorem Hw(vs:List Nat)(i:Nat)(h:i<vs.length):(vs.take i).sum+vs[i]<=vs.sum:=by
 have h1:=sum_append (l₁:=vs.take i) (l₂:=vs.drop i);rw[take_append_drop,drop_eq_getElem_cons h,sum_cons]at h1;omega
theorem wD(vs:List Nat)(i:Nat):(vs.take i).sum<=vs.sum:=by
 have h1:=sum_append (l₁:=vs.take i) (l₂:=vs.drop i);rw[take_append_drop]at h1;omega
def uk(l:B8):List Nat:=(range 5).map fun k=>l.countP fun u=>u.toNat==97+k
theorem Hy(l:B8):ints (counts l)=aB (uk l):=rfl
def aF(v:Value)(c:Int):Value:=.tuple #[v,.int .i64 c]
theorem su(l:B8)(M:Mem)(R:VP)(hl:l.length<=1099511627776)(h:Lst (aK l) (ints (if isWord l then counts l else [])) M R):ar prog 233 [str l] M R:=by
 refine fnT func233 rfl ntmps233 results233 ?_;intro b1 hb1;refine sS ?_;have hs1:=(Sub.refl M).put hb1 (.cells true [str l] 1);refine bA _ _ [l] true (fun _=>True) _ _ (Rd.new rfl (lRf 1)) (gM hl) (by simp) trivial bW (bK _) ?_;rw[dq];cases hw:isWord l
 .refine sS ?_;unfold aK at h;rw[hw]at h;have:=h _ _ (Own.nil M);exact ag hs1 this
 .unfold aK at h;rw[hw]at h;refine sS ?_;refine jP l _ _ hl (aZ hw) ?_;intro v1 M1 o1;refine sS ?_;obtain⟨M'',ho',hs'⟩:=o1.base hs1;exact ag hs' (h v1 M'' ho')
theorem so(l:B8)(M:Mem)(R:VP)(hl:l.length<=1099511627776)(h:Lst (aK l) (ints (if isWord l then counts l else [])) M R):ar prog 283 [str l] M R:=by
 refine fnT func283 rfl ntmps283 results283 ?_;refine bg l _ _ hl ?_;unfold aK at h;cases hw:isWord l
 .rw[hw]at h;refine sS ?_;exact ad (h _ _ (Own.nil M))
 .rw[hw]at h;refine sS ?_;refine iy l _ _ hl (aZ hw) ?_;intro v1 M1 o1;refine sS ?_;exact ad (h v1 M1 o1)
theorem apT{M M' N:Mem}{v x:Value}{xs news:List Value}{e bytes s:Nat}{z zz:Value}{d:Option TI}{K:VP}(h:Own M v xs M')(hs:Sub M' N)(hk:∀ v' M'' N'',Own M v' (xs++news) M''->Sub M'' N''->K v' N'')(hsrc:du N x=some news:=by first|(simp(disch:=omega);rfl)|rfl)(hok:ti d=true:=by rfl)(hz:bE z=true:=by rfl)(hb:1<=bytes/\bytes<=32:=by omega)(hfl:∀ v∈news,bE v=true:=by simp(disch:=omega))(hbd:(xs.length+news.length)*bytes<=70368744177664:=by (simp(disch:=omega);omega)) :
  zW (some ⟨.slc e 1 bytes z,s,zz⟩) d v x K N:=ca h hs hsrc hok hz hb hfl hbd hk
end Go.Proofs.YtapimhjbilkfpaaGreatDoor
namespace Go.Proofs.YtapimhjbilkfpaaGreatDoor
open Go Go.ChangeShapes Go.Proofs.Tryz Go.RowKit List
theorem Qm{P:Program}{f:FuncId}{args:List Value}{W:World}(M:Mem)(hM:Rep M W)(ho:∀ b,¬ owns M b)(h:ar P f args M (fun v _=>v=.bool true)):Calls P f args.toArray W (fun e W'=>e=.returned (.bool true)/\Below W.heap.size W W'):=by
 refine(h.2 W hM).mono ?_
 rintro e W' ⟨v,M',rfl,_,hx,rfl⟩
 exact⟨rfl,hx.os,hx.tape,hx.output,hx.size,fun k hk=>hx.block k hk (ho k)⟩
def reads(W:World):Mem:=fun b=>match W.heap[b]? with
 | some (.cells c _ _)=>some (.cells false c.toList c.size)
 | _=>none
theorem Np(W:World):Rep (reads W) W:=by
 intro b B hB;unfold reads at hB;split at hB
 .rename_i c e fr hh;injection hB with hB
  subst hB;exact⟨c,e,fr,hh,rfl,⟨[],by simp⟩,fun h=>by cases h⟩
 .cases hB
theorem NK(W:World)(b:Nat):¬ owns (reads W) b:=by
 rintro⟨B,hB,ho⟩
 unfold reads at hB;split at hB
 .injection hB with hB
  subst hB;cases ho
 .cases hB
theorem Oq{P:Program}{f:FuncId}{args:List Value}{W:World}(h:ar P f args (reads W) (fun v _=>v=.bool true)):Calls P f args.toArray W (fun e W'=>e=.returned (.bool true)/\Below W.heap.size W W'):=
 Qm (reads W) (Np W) (NK W) h
theorem Pu{W:World}{x:Addr}{len cap:Nat}{xs:List Value}(hl:xs.length=len)(hle:len<=cap)(h:∀ i,i<len->W.cell? (x.add i)=xs[i]?):Rd (reads W) (.slice (some x) len cap) xs:=by
 subst hl;by_cases h0:xs.length=0
 .rw[h0];exact .inl ⟨_,_,rfl,eq_nil_of_length_eq_zero h0⟩
 .have hx:x.spot=none:=by
   have h1:=h 0 (by omega);rw[gEl (by omega),Addr.add,if_pos rfl]at h1;unfold World.cell? at h1;split at h1
   .cases hs:x.spot with
    | none=>rfl
    | some s=>rw[hs]at h1;simp at h1
   .cases h1
  obtain⟨b,o,sp⟩:=x;simp only at hx;subst hx;have ha:∀ i,(⟨b,o,none⟩:Addr).add i=⟨b,o+i,none⟩:=by
   intro i;unfold Addr.add;split
   .rename_i e;rw[e];rfl
   .rfl
  simp only[ha]at h;refine .inr ⟨b,o,cap,rfl,?_,hle⟩;have key:∃ c e fr,W.heap[b]?=some (.cells c e fr):=by
   have h1:=h 0 (by omega);rw[gEl (by omega)]at h1;unfold World.cell? at h1;simp only[Option.isSome_none,Bool.false_eq_true,if_false]at h1;split at h1
   .rename_i c e fr hh;exact⟨c,e,fr,hh⟩
   .cases h1
  obtain⟨c,e,fr,hh⟩:=key;have hc:∀ i,i<xs.length->c.toList[o+i]?=xs[i]?:=by
   intro i hi;have h1:=h i hi;unfold World.cell? at h1;simp only[Option.isSome_none,Bool.false_eq_true,if_false,hh]at h1;rw[Array.getElem?_toList];exact h1
  have hm:reads W b=some (.cells false c.toList c.size):=by unfold reads;rw[hh]
  have hlen:o+xs.length<=c.toList.length:=by
   have h1:=hc (xs.length-1) (by omega);have h3:xs.length-1<xs.length:=by omega
   rw[gEl h3]at h1;obtain⟨h2,_⟩:=List.getElem?_eq_some_iff.1 h1;omega
  unfold Mem.sub?;rw[hm];simp only[if_pos hlen]
  congr 1
  apply ext_getElem?;intro i;by_cases hi:i<xs.length
  .rw[getElem?_take_of_lt hi,getElem?_drop,hc i hi]
  .rw[getElem?_eq_none (by rw[lTa];omega),getElem?_eq_none (by omega)]
theorem Tj(W:World):Rd (reads W) (.slice none 0 0) []:=.inl ⟨none,0,rfl,rfl⟩
theorem Q0{W:World}{x:Addr}{len cap:Nat}{zs:List Int}(hle:len<=cap)(hz:zs.length=cap)(h:∀ i,i<zs.length->W.cell? (x.add i)=some (.int .u8 (zs.getD i 0)))(hwz:∀ n∈zs,(Lit.int .u8 n).wf=true):Rd (reads W) (.slice (some x) len cap) (av ((zs.take len).map fun n=>UInt8.ofNat n.toNat)):=by
 refine Pu (by rw[aO,length_map,lTa];omega) hle fun i hi=>?_;have hi':i<zs.length:=by omega
 have hw:=hwz _ (gMe hi');simp only[Lit.wf,bAn,dTe]at hw;have h1:IntKind.u8.min=0:=by decide
 have h2:IntKind.u8.max=255:=by decide
 rw[h1,h2]at hw;rw[h i hi',gDe,gEl hi'];unfold av;rw[getElem?_map,getElem?_map,getElem?_take_of_lt hi,gEl hi'];simp only[Option.getD_some,Option.map_some,Option.some.injEq,Value.int.injEq,true_and];rw[UInt8.toNat_ofNat_of_lt' (by show zs[i].toNat<256;omega)];omega
theorem JA{P:Program}{H:Type}{enc:TypeId×Value->H}{W:World}{b0:Nat}{t e:TypeId}{v:Value}{d:DataW H}{p:List MemPlace}(ht:P.underlying t=some (.slice e))(he:P.underlying e=some (.int .u8))(hc:P.cellsOf e=1)(hv:Value.okWide P W .any b0 t v)
  (h:DataW.Trod enc P W 0 (fun _=>true) true t v d p):∃ xs:B8,Rd (reads W) v (av xs)/\xs.length<=9223372036854775807:=by
 obtain⟨a,len,cap,rfl⟩:=Go.WideShapes.okWide_slice ht hv;obtain⟨fuel,h⟩:=h;rcases open_ints ht he hc h with ⟨h1,_⟩|⟨x,l,c,zs,h1,_,hl,hm,hz,_,hcell,hwz⟩
 .simp[Value.cells]at h1;obtain⟨rfl,rfl,rfl⟩:=h1;exact⟨[],Tj W,by simp⟩
 .simp[Value.cells]at h1;obtain⟨rfl,rfl,rfl⟩:=h1;simp only[if_true]at hz;have hml:maxLen<=9223372036854775807:=by decide
  refine⟨(zs.take len).map fun n=>UInt8.ofNat n.toNat,Q0 hl hz hcell hwz,by rw[length_map,lTa];omega⟩
end Go.Proofs.YtapimhjbilkfpaaGreatDoor
namespace Go.Proofs.YtapimhjbilkfpaaGreatDoor
open Go Go.Proofs.Tryz List
structure fX(ds:List Deferred)(n:Nat)(env:Env)(a:Act):Prop where
 defers:a.defers=ds
 size:a.tmps.size=n
 ev:a.eval=ev env
theorem fX.bare{ds:List Deferred}{n:Nat}{env:Env}{a:Act}(h:fX ds n env a):Fits n env { tmps:=a.tmps,defers:=[] }:=⟨rfl,h.size,h.ev⟩
theorem fX.put{ds:List Deferred}{n:Nat}{env:Env}{a:Act}(h:fX ds n env a){d:Option Tmp}(hd:∀ t,d=some t->t<n)(v:Value):fX ds n (Proofs.YtapimhjbilkfpaaGreatDoor.put env d v) (a.put d v):=by
 have h1:=h.bare.put hd v;cases d with
 | none=>exact h
 | some d=>exact⟨h.defers,h1.size,h1.ev⟩
def UR(ds:List Deferred)(n:Nat)(M0:Mem)(w0:World)(Q:Exit->Env->Mem->Prop):Exit->Act->World->Prop:=
 fun e a w=>∃ env M,fX ds n env a/\Rep M w/\Ext M0 w0 M w/\Q e env M
abbrev iT(ro:Option Nat):Fence:={ Fence.wide with round:=ro }
def lh(ro:Option Nat)(k:Nat)(ds:List Deferred)(P:Program)(n:Nat)(c:Code)(Q:Exit->Env->Mem->Prop)(env:Env)(M:Mem):Prop:=
 ∀ M0 w0 a w,fX ds n env a->Rep M w->Ext M0 w0 M w->c.wpIn (iT ro) k P (UR ds n M0 w0 Q) a w
def ja(o:Oper):Bool:=match o.op with|.defer _=>false|_=>true
theorem y8{o:Oper}(h:ja o=true):∀ c,o.op≠.defer c:=by
 intro c e;unfold ja at h;rw[e]at h;cases h
theorem yq{ro:Option Nat}{k:Nat}{P:Program}{f:FuncId}{args:Array Value}{w:World}{R:Ending->World->Prop}(h:Calls P f args w R):CallsIn (iT ro) k P f args w R:=
 show CallsIn Fence.wide k P f args w R from callsIn_wide.2 h
theorem MT{ro:Option Nat}{k:Nat}{P:Program}{o:Oper}{a:Act}{next:Act->World->Prop}{Q:Exit->Act->World->Prop}{r:Result Next}(h:o.upon P a next Q r):o.uponIn (iT ro) k P a next Q r:=by
 unfold Oper.upon at h;split at h
 .exact h
 .exact h
 .exact h
 .exact⟨fun e=>(by cases e),yq h⟩
 .exact⟨fun e=>(by cases e),fun c cs hroom=>let ⟨v,w',r,s⟩:=h c cs;⟨v,w',r,stepsIn_wide.2 s⟩⟩
 .exact h
 .exact h.elim
theorem pd{ro:Option Nat}{k:Nat}{P:Program}{o:Oper}{a:Act}{w:World}{next:Act->World->Prop}{Q:Exit->Act->World->Prop}(hd:ja o=true)(h:o.upon P a next Q ((execOp a.eval o).run P w)):o.wpIn (iT ro) k P a w next Q:=
 ⟨fun _ _=>trivial,by rw[Oper.semAt_eq _ _ _ (y8 hd)];exact MT h⟩
section
variable {ro:Option Nat} {k:Nat} {ds:List Deferred} {P:Program} {n:Nat} {Q:Exit->Env->Mem->Prop} {env:Env} {M:Mem}
theorem lh.mono{c:Code}{Q':Exit->Env->Mem->Prop}(h:lh ro k ds P n c Q env M)(hq:∀ e env M,Q e env M->Q' e env M):lh ro k ds P n c Q' env M:=
 fun M0 w0 a w h1 h2 h3=>wpIn_mono (h M0 w0 a w h1 h2 h3) fun _ _ _ ⟨e',m',a1,a2,a3,a4⟩=>⟨e',m',a1,a2,a3,hq _ _ _ a4⟩
theorem Ko{x y:Code}(h:lh ro k ds P n x (mR (lh ro k ds P n y Q) Q) env M):lh ro k ds P n (.seq x y) Q env M:=by
 intro M0 w0 a w h1 h2 h3;refine wpIn_seq (wpIn_mono (h M0 w0 a w h1 h2 h3) ?_)
 rintro e a' w' ⟨env',M',a1,a2,a3,a4⟩
 cases e with
 | normal=>exact a4 M0 w0 a' w' a1 a2 a3
 | exit id=>exact⟨_,_,a1,a2,a3,a4⟩
 | goto id=>exact⟨_,_,a1,a2,a3,a4⟩
 | ret=>exact⟨_,_,a1,a2,a3,a4⟩
 | panic c=>exact⟨_,_,a1,a2,a3,a4⟩
 | outgrown=>exact⟨_,_,a1,a2,a3,a4⟩
theorem Fb{id:Nat}{c:Code}(h:lh ro k ds P n c (tD id Q) env M):lh ro k ds P n (.block id c) Q env M:=by
 intro M0 w0 a w h1 h2 h3;refine wpIn_block (wpIn_mono (h M0 w0 a w h1 h2 h3) ?_)
 rintro e a' w' ⟨env',M',a1,a2,a3,a4⟩
 cases e with
 | normal=>exact⟨_,_,a1,a2,a3,a4⟩
 | exit id'=>
  simp only[tD]at a4;simp only[Exit.inBlock];split
  .rename_i e;rw[if_pos e]at a4;exact⟨_,_,a1,a2,a3,a4⟩
  .rename_i e;rw[if_neg e]at a4;exact⟨_,_,a1,a2,a3,a4⟩
 | goto id=>exact⟨_,_,a1,a2,a3,a4⟩
 | ret=>exact⟨_,_,a1,a2,a3,a4⟩
 | panic c=>exact⟨_,_,a1,a2,a3,a4⟩
 | outgrown=>exact⟨_,_,a1,a2,a3,a4⟩
theorem pq(T:Tab)(hT:bY P T)(ops:List Oper):∀(l:List Oper) (env:Env) (M:Mem),l.all (kP n)=true->l.all ja=true->ly P T ops Q l env M ->
  ∀ M0 w0 a w,fX ds n env a->Rep M w->Ext M0 w0 M w->wpListIn (iT ro) k P ops.toArray (UR ds n M0 w0 Q) l a w
 | [],env,M,_,_,h=>fun M0 w0 a w h1 h2 h3=>⟨_,_,h1,h2,h3,h⟩
 | o::rest,env,M,hd,he,h=>by
  intro M0 w0 a w h1 h2 h3;simp only[all_cons,bAn]at hd he;unfold ly at h;unfold wpListIn;split at h
  .rename_i hg;rw[if_pos (by simp[Region.wanted,hg])];refine pd he.1 (qD T hT o.op h o a w _ _ rfl h1.ev h2 fun v M' w' a1 a2 a3=>?_);exact pq T hT ops rest _ _ hd.2 he.2 a3 M0 w0 _ _ (h1.put (cF hd.1) v) a1 (h3.trans a2)
  .rename_i j b hg;by_cases hy:yE ops env j=some b
   .rw[if_pos (by have:=fc h1.bare ops.toArray j;unfold Region.wanted;rw[hg];show (yielded ops.toArray a.tmps j==some b)=true;rw[this];show (yE ops env j==some b)=true;rw[hy];exact beq_self_eq_true _)];refine pd he.1 (qD T hT o.op (h.1 hy) o a w _ _ rfl h1.ev h2 fun v M' w' a1 a2 a3=>?_);exact pq T hT ops rest _ _ hd.2 he.2 a3 M0 w0 _ _ (h1.put (cF hd.1) v) a1 (h3.trans a2)
   .rw[if_neg (by have:=fc h1.bare ops.toArray j;unfold Region.wanted;rw[hg];show ¬(yielded ops.toArray a.tmps j==some b)=true;rw[this];show ¬(yE ops env j==some b)=true;exact fun e=>hy (eq_of_beq e))];exact⟨fun _ _=>trivial,pq T hT ops rest _ _ hd.2 he.2 (h.2 hy) M0 w0 _ _ (h1.put (cF hd.1) undef) h2 h3⟩
def qe:Code->Bool
 | .region _ ops d=>!d&&ops.toList.all ja
 | .seq a b=>qe a&&qe b
 | .cond _ a b=>qe a&&qe b
 | .block _ c=>qe c
 | .skip=>true
 | .ret=>true
 | .exit _=>true
 | _=>false
theorem LL(T:Tab)(hT:bY P T):∀(c:Code) (Q:Exit->Env->Mem->Prop) (env:Env) (M:Mem),eu n c=true->qe c=true->vc P T n c Q env M->lh ro k ds P n c Q env M:=by
 intro c
 induction c with
 | skip=>exact fun Q env M _ _ h=>fun M0 w0 a w h1 h2 h3=>wpIn_skip ⟨_,_,h1,h2,h3,h⟩
 | region id ops d=>
  intro Q env M hd hf h;cases d with
  | true=>cases hf
  | false=>
   intro M0 w0 a w h1 h2 h3;refine wpIn_region_list ?_;have hf':ops.toList.all ja=true:=by simpa[qe] using hf
   have:=pq (ro:=ro) (k:=k) (ds:=ds) T hT ops.toList ops.toList env M hd hf' h M0 w0 a w h1 h2 h3;simpa using this
 | seq a b iha ihb=>
  intro Q env M hd hf h;simp only[eu,qe,bAn]at hd hf;refine Ko ((iha _ _ _ hd.1 hf.1 h).mono fun e env' M' h'=>?_);cases e<;>first|exact ihb _ _ _ hd.2 hf.2 h'|exact h'
 | cond c a b iha ihb=>
  intro Q env M hd hf h;simp only[eu,qe,bAn]at hd hf;unfold vc vIf at h;split at h
  .rename_i t ht;exact fun M0 w0 a w h1 h2 h3=>wpIn_cond_split (by rw[h1.ev];exact ht) (fun e=>iha _ _ _ hd.1 hf.1 (h.1 e) M0 w0 a w h1 h2 h3) (fun e=>ihb _ _ _ hd.2 hf.2 (h.2 e) M0 w0 a w h1 h2 h3)
  .exact h.elim
 | block id c ih=>exact fun Q env M hd hf h=>Fb (ih _ _ _ hd hf h)
 | ret=>exact fun Q env M _ _ h=>fun M0 w0 a w h1 h2 h3=>wpIn_ret ⟨_,_,h1,h2,h3,h⟩
 | exit id=>exact fun Q env M _ _ h=>fun M0 w0 a w h1 h2 h3=>wpIn_exit ⟨_,_,h1,h2,h3,h⟩
 | _=>exact fun Q env M _ hf h=>by cases hf
end
end Go.Proofs.YtapimhjbilkfpaaGreatDoor
namespace Go.Proofs.YtapimhjbilkfpaaGreatDoor
open Go Go.Proofs.Tryz Go.RowKit Go.Shelf List
structure eO(b:Nat)(row:Option Nat)(w w':World):Prop where
 os:w'.os=w.os
 tape:w'.tape=w.tape
 output:w'.output=w.output
 size:w.heap.size<=w'.heap.size
 block:∀ k,k<w.heap.size->k≠b->row≠some k->w'.heap[k]?=w.heap[k]?
theorem eO.cell(b:Nat)(row:Option Nat)(w:World)(i:Nat)(v:Value):eO b row w (w.setCell ⟨b,i,none⟩ v):=
 ⟨rfl,rfl,rfl,(KeepsWalks.setCell w _ v).size,fun k _ hk _=>Below.heap_setCell _ _ _ k hk⟩
theorem eO.trans{b:Nat}{row:Option Nat}{w w' w'':World}(h:eO b row w w')(k:eO b row w' w''):eO b row w w'':=
 ⟨k.os.trans h.os,k.tape.trans h.tape,k.output.trans h.output,Nat.le_trans h.size k.size,fun j hj h1 h2=>(k.block j (Nat.lt_of_lt_of_le hj h.size) h1 h2).trans (h.block j hj h1 h2)⟩
theorem eO.of_grown{b:Nat}{row:Option Nat}{w w':World}(h:w.grownBy w' row):eO b row w w':=
 ⟨h.os,h.tape,h.output,h.size,fun k hk _ hr=>h.block k hk (fun e=>hr e.symm)⟩
variable {P:Program} {ρ:Ren}
theorem FZ(L:Lays.n240 P ρ)(X:Builder.X72 P ρ)(B b:Nat)(bs:List Value)(v p:Value)(w:World)(hp:p=.pointer none\/p=.pointer (some ⟨b,0,none⟩))(hb:w.heap[b]?=some (.cells #[p,v] (ρ.t 72) (0,0)))(row:Option Nat) :
  Calls P (ρ.f 240) #[.pointer (some ⟨b,0,none⟩)] w fun e w'=>e=.returned (.tuple #[])/\w'.heap[b]?=some (.cells #[.pointer (some ⟨b,0,none⟩),v] (ρ.t 72) (0,0))/\w.grownBy w' (some b):=by
 have h0:w.cell? ⟨b,0,none⟩=some p:=by rw[Lib.cell_of_heap hb];rfl
 rcases hp with rfl|rfl
 .refine(Any.Builder_copyCheck_fresh L X b w h0 (by simp[World.shape?,hb]) (Lib.frozen_of_heap hb 0)).mono ?_
  rintro e w' ⟨rfl,rfl⟩
  exact⟨rfl,by simp[World.setCell,Array.getElem?_modify,hb],⟨rfl,rfl,rfl,(KeepsWalks.setCell w _ _).size,fun k _ hk=>Below.heap_setCell _ _ _ k (fun e=>hk (by rw[e]))⟩⟩
 .refine(Any.Builder_copyCheck_used L X b w h0).mono ?_
  rintro e w' ⟨rfl,rfl⟩
  exact⟨rfl,hb,⟨rfl,rfl,rfl,lRf _,fun _ _ _=>rfl⟩⟩
theorem EO(w:World)(base:Nat)(t u ty e:TypeId)(i:TypeInfo)(ht:P.underlying t=some (.slice e))(hu:P.underlying u=some .string)(hi:P.info? e=some i)(hz:i.zero=some (.int .u8 0))(hsize:i.size=1)(hby:i.bytes=1)
  (v:Value) (n:Nat) (xs:List Value) (hown:w.ownsRowF base e 1 v n xs) (s:ByteArray) (h63:n+s.size<=maxLen) (hbytes:n+s.size<=140737488355328) {v':Value} {w':World} (hr:(Builtin.append_ #[t,u] ty #[v,.string s]).run P w=.ok v' w') :
  ∀ g',v'.ownBlock=some g'->v.ownBlock=some g'\/w.heap.size<=g':=by
 intro g' hg';rcases hown.2 with ⟨rfl,rfl⟩|⟨g,cap,cur,fz,rfl,hbg,hg,hfz,hnc,hcm,hcs,htake⟩
 .obtain⟨v2,w2,h1,h2,_,_⟩:=Lib.run_append_own_stringF (P:=P) w w.heap.size t u ty e i ht hu hi hz hsize hby (.slice none 0 0) 0 xs ⟨hown.1,.inl ⟨rfl,rfl⟩⟩ s h63 hbytes (lRf _);rw[hr]at h1;cases h1;exact .inr (h2.lt g' hg').1
 .have hxl:xs.length=n:=by simpa using hown.1
  by_cases hroom:n+s.size<=cap
  .have h1:=Lib.run_append_room_stringF (P:=P) w t u ty e i ht hu hi hsize g n cap cur fz hg (by simpa using hfz) s hroom (by rw[hcs];omega);rw[hr]at h1;cases h1;exact .inl hg'
  .have holds:∀ j u,xs[j]?=some u->w.cell? ((⟨g,0,none⟩:Addr).add j)=some u:=hown.cells (g:=g) rfl;have hsmall:n+s.size<=9223372036854775807:=by simp only[maxLen]at h63;omega
   have h1:=Lib.run_append_grow_string (P:=P) w t u ty e i (.int .u8 0) ht hu hi hz ⟨g,0,none⟩ n cap xs (by rw[hsize];simpa using hxl) holds s (by omega) (by omega) (by rw[hby];exact growslice_fits (by omega) (by omega));rw[hr]at h1;cases h1;cases hg';exact .inr (lRf _)
theorem w8{ops:Array Oper}{rest:List Oper}{o:Oper}{a:Act}{w:World}{Q:Exit->Act->World->Prop}(hgd:o.guard=none)(sl x:Operand)(t u:TypeId)(ho:o.op=.call { callee:=.builtin .append,args:=#[sl,x],argTypes:=#[t,u] })
  (base:Nat) (e:TypeId) (i:TypeInfo) (ht:P.underlying t=some (.slice e)) (hu:P.underlying u=some .string) (hi:P.info? e=some i) (hz:i.zero=some (.int .u8 0)) (hsize:i.size=1) (hby:i.bytes=1)
  (v:Value) (n:Nat) (xs:List Value) (hs:a.eval sl=v) (hown:w.ownsRowF base e 1 v n xs) (s:ByteArray) (hx:a.eval x=.string s) (h63:n+s.size<=maxLen) (hbytes:n+s.size<=140737488355328) (hbase:base<=w.heap.size)
  (h:∀ v' w',w'.ownsRowF base e 1 v' (n+s.size) (xs++Lib.strCells s)->w.grownBy w' v.ownBlock->(∀ g',v'.ownBlock=some g'->v.ownBlock=some g'\/w.heap.size<=g')->wpList P ops Q rest (a.put o.dst v') w'):wpList P ops Q (o::rest) a w:=by
 refine wpList_plain hgd fun K hK=>?_;obtain⟨v',w',hr,h2,h3,_⟩:=Lib.run_append_own_stringF (P:=P) w base t u o.type e i ht hu hi hz hsize hby v n xs hown s h63 hbytes hbase;have h4:=EO w base t u o.type e i ht hu hi hz hsize hby v n xs hown s h63 hbytes hr;unfold Oper.wp execOp;simp only[ho,resolve,invoke,builtin,Sem.run_bind,Sem.run_pure,Result.andThen_ok,map_toArray,map_cons,map_nil,hs,hx,hr];exact hK _ _ (h v' w' h2 h3 h4)
set_option maxRecDepth 100000 in
theorem BA(L:Lays.n166 P ρ)(X:Builder.Extra P ρ)(B b:Nat)(bs:List Value)(s:ByteArray)(v p:Value)(w:World)(hp:p=.pointer none\/p=.pointer (some ⟨b,0,none⟩))(hb:w.heap[b]?=some (.cells #[p,v] (ρ.t 72) (0,0)))
  (hown:w.ownsRowF B (ρ.t 5) 1 v bs.length bs) (hne:v.ownBlock≠some b) (hB:B<=b) (hlen:bs.length+s.size<=140737488355328) (hBw:B<=w.heap.size) :
  Calls P (ρ.f 166) #[.pointer (some ⟨b,0,none⟩),.string s] w fun e w'=>e=.returned (.tuple #[.int .i64 s.size,.nilIface])/\(∃ v',w'.heap[b]?=some (.cells #[.pointer (some ⟨b,0,none⟩),v'] (ρ.t 72) (0,0))/\w'.ownsRowF B (ρ.t 5) 1 v' (bs++Lib.strCells s).length (bs++Lib.strCells s)/\v'.ownBlock≠some b/\∀ g',v'.ownBlock=some g'->v.ownBlock=some g'\/w.heap.size<=g')/\eO b v.ownBlock w w':=by
 obtain⟨i0,hi,hz0,hz1,hz2⟩:=info_parts X.infoByte;have mixed:=L.mixed;have t72:=L.t72;have a72:=L.a72;have z72:=L.z72;have v72:=L.v72;have u72:=run_underlying L.t72;have t70:=L.t70;have a70:=L.a70;have z70:=L.z70;have v70:=L.v70;have u70:=run_underlying L.t70;have t37:=L.t37;have a37:=L.a37;have z37:=L.z37;have v37:=L.v37;have u37:=run_underlying L.t37;have t3:=L.t3;have a3:=L.a3;have z3:=L.z3;have v3:=L.v3;have u3:=run_underlying L.t3;have t9:=L.t9;have a9:=L.a9;have z9:=L.z9;have v9:=L.v9;have u9:=run_underlying L.t9;have t5:=X.t5;have a5:=X.a5;have z5:=X.z5;have v5:=X.v5;have u5:=run_underlying X.t5;have e240:∀ args w,(callFunc (ρ.f 240) args).run P w=.ok (.enter (ρ.f 240) args) w:=enters_of L.f240 (by kernel_rfl) rfl
 go_enter L.f166,Body.n166_ntmps ρ
 go_wp2_with (go_at_fn (ρ.f 240);refine(FZ { L with } X.toX72 B b bs v p _ hp hb v.ownBlock).mono ?_)
 rintro e w1 ⟨rfl,hb1,hg1⟩
 have hs1:=hg1.size;have hown1:w1.ownsRowF B (ρ.t 5) 1 v bs.length bs:=hown.kept hg1 (Or.inr hne);have c0:w1.cell? ⟨b,0,none⟩=some (.pointer (some ⟨b,0,none⟩)):=by rw[Lib.cell_of_heap hb1];rfl
 have c1:w1.cell? ⟨b,1,none⟩=some v:=by rw[Lib.cell_of_heap hb1];rfl
 go_wp2_with (at_builtin;refine w8 rfl _ _ (ρ.t 37) (ρ.t 9) rfl B (ρ.t 5) i0 L.t37 L.t9 hi hz0 hz1 hz2 _ _ _ rfl hown1 s rfl ?c3 ?c4 ?c5 ?_)
 case c3=>unfold maxLen;omega
 case c4=>omega
 case c5=>omega
 intro v' w2 hown' hgrow hplace;have hlt:b<w1.heap.size:=(Array.getElem?_eq_some_iff.1 hb1).1;have hb2:w2.heap[b]?=some (.cells #[.pointer (some ⟨b,0,none⟩),v] (ρ.t 72) (0,0)):=by
  rw[hgrow.block b hlt (fun e=>hne e.symm)];exact hb1
 have d0:w2.cell? ⟨b,0,none⟩=some (.pointer (some ⟨b,0,none⟩)):=by rw[Lib.cell_of_heap hb2];rfl
 have d1:w2.cell? ⟨b,1,none⟩=some v:=by rw[Lib.cell_of_heap hb2];rfl
 have f1:w2.frozen? ⟨b,1,none⟩=false:=Lib.frozen_of_heap hb2 1;obtain⟨ao,n',cap,rfl⟩:∃ ao n' cap,v'=.slice ao n' cap:=by
  rcases hown'.2 with ⟨hv,_⟩|⟨g,cap,cur,fz,hv,_⟩
  .exact⟨_,_,_,hv⟩
  .exact⟨_,_,_,hv⟩
 go_wp2
 go_ret2
 refine⟨rfl,?_,?_⟩
 .have hput:=Lib.BuilderAtF.put (T:=(ρ.t 72)) (e:=(ρ.t 5)) hB hb2 (bs':=bs++Lib.strCells s) (by simpa[Lib.strCells_length] using hown') X.neB5;obtain⟨_,v'',hh,ho,hn⟩:=hput;have h2:(w2.setCell ⟨b,1,none⟩ (.slice ao n' cap)).heap[b]?=some (.cells #[.pointer (some ⟨b,0,none⟩),.slice ao n' cap] (ρ.t 72) (0,0)):=by simp[World.setCell,Array.getElem?_modify,hb2]
  have he:v''=.slice ao n' cap:=by
   rw[h2]at hh;injection hh with hh
   injection hh with hh
   have:=congrArg (fun x:Array Value=>x[1]?) hh;simpa using this.symm
  subst he;exact⟨_,h2,ho,hn,fun g' hg'=>(hplace g' hg').imp id (fun h=>Nat.le_trans hs1 h)⟩
 .have t1:eO b v.ownBlock w w1:=⟨hg1.os,hg1.tape,hg1.output,hg1.size,fun k hk h1 _=>hg1.block k hk (fun e=>h1 (by cases e;rfl))⟩;exact(t1.trans (eO.of_grown hgrow)).trans (eO.cell _ _ _ _ _)
set_option maxRecDepth 100000 in
theorem xe(L:Lays.n169 P ρ)(X:Builder.Extra P ρ)(B b:Nat)(l:B8)(p v:Value)(w:World)(hbk:w.heap[b]?=some (.cells #[p,v] (ρ.t 72) (0,0)))(hown:w.ownsRowF B (ρ.t 5) 1 v l.length (Lib.byteCells l))(h0:l≠[]) :
  Calls P (ρ.f 169) #[.pointer (some ⟨b,0,none⟩)] w fun e w'=>e=.returned (.string ⟨l.toArray⟩)/\eO b v.ownBlock w w':=by
 have hl0:l.length≠0:=by simpa using h0
 obtain⟨g,cap,cur,fz,rfl,hbg,hg,hfz,hnc,hcm,hcs,htake⟩:∃ g cap cur fz,v=.slice (some ⟨g,0,none⟩) l.length cap/\B<=g/\w.heap[g]?=some (.cells cur (ρ.t 5) fz)/\fz.2<=l.length*1/\l.length<=cap/\cap<=maxLen/\cur.size=cap*1/\cur.toList.take (l.length*1)=Lib.byteCells l:=by
  rcases hown.2 with ⟨_,hz⟩|⟨g,cap,cur,fz,hv,r⟩
  .exact absurd hz hl0
  .exact⟨g,cap,cur,fz,hv,r⟩
 have c1:w.drew.cell? ⟨b,1,none⟩=some (.slice (some ⟨g,0,none⟩) l.length cap):=by
  have:w.drew.heap[b]?=some (.cells #[p,.slice (some ⟨g,0,none⟩) l.length cap] (ρ.t 72) (0,0)):=hbk;rw[Lib.cell_of_heap this];rfl
 have hSD:(Builtin.unsafeSliceData_ #[(ρ.t 37)] (ρ.t 127) #[.slice (some ⟨g,0,none⟩) l.length cap]).run P w.drew=.ok (.pointer (some ⟨g,0,none⟩)) w.drew:=
  Lib.run_unsafeSliceData_row _ _ _ _ _ _ (by omega)
 have hUS:(Builtin.unsafeString_ #[(ρ.t 127),(ρ.t 3)] (ρ.t 9) #[.pointer (some ⟨g,0,none⟩),.int .i64 l.length]).run P w.drew=.ok (.string ⟨l.toArray⟩) (w.drew.freeze ⟨g,0,none⟩ l.length):=by
  refine Lib.run_unsafeString_row w.drew (ρ.t 127) (ρ.t 3) (ρ.t 9) (ρ.t 5) L.t127 X.cellsByte g cur.size (by have hg':w.drew.heap[g]?=some (.cells cur (ρ.t 5) fz):=hg;simp[World.shape?,hg']) l h0 (by omega) (by unfold maxLen at hcm;omega) ?_;intro j x hx;exact hown.cells (g:=g) rfl j (.int .u8 x.toNat) (by simp[Lib.byteCells,hx])
 have hT:eO b (Value.slice (some ⟨g,0,none⟩) l.length cap).ownBlock w (w.drew.freeze ⟨g,0,none⟩ l.length):=by
  unfold World.freeze;split
  .exact⟨rfl,rfl,rfl,lRf _,fun _ _ _ _=>rfl⟩
  .refine⟨rfl,rfl,rfl,Nat.le_of_eq (Array.size_modify (xs:=w.heap)).symm,fun k hk h1 h2=>?_⟩;have hkg:g≠k:=fun e=>h2 (by rw[<-e];rfl);show (w.heap.modify g _)[k]?=_;rw[Array.getElem?_modify,if_neg hkg]
 have mixed:=L.mixed;have t72:=L.t72;have a72:=L.a72;have z72:=L.z72;have v72:=L.v72;have u72:=run_underlying L.t72;have t70:=L.t70;have a70:=L.a70;have z70:=L.z70;have v70:=L.v70;have u70:=run_underlying L.t70;have t37:=L.t37;have a37:=L.a37;have z37:=L.z37;have v37:=L.v37;have u37:=run_underlying L.t37;have t127:=L.t127;have a127:=L.a127;have z127:=L.z127;have v127:=L.v127;have u127:=run_underlying L.t127;have t3:=L.t3;have a3:=L.a3;have z3:=L.z3;have v3:=L.v3;have u3:=run_underlying L.t3;have t9:=L.t9;have a9:=L.a9;have z9:=L.z9;have v9:=L.v9;have u9:=run_underlying L.t9;have t5:=X.t5;have a5:=X.a5;have z5:=X.z5;have v5:=X.v5;have u5:=run_underlying X.t5
 go_enter L.f169,Body.n169_ntmps ρ
 go_wp2
 go_region_o
 all_goals (go_wp2;go_ret;exact⟨rfl,hT⟩)
set_option maxRecDepth 100000 in
theorem tO(L:Lays.n169 P ρ)(X:Builder.Extra P ρ)(b:Nat)(p:Value)(w:World)(hbk:w.heap[b]?=some (.cells #[p,.slice none 0 0] (ρ.t 72) (0,0))) :
  Calls P (ρ.f 169) #[.pointer (some ⟨b,0,none⟩)] w fun e w'=>e=.returned (.string ⟨#[]⟩)/\eO b none w w':=by
 have hUS:=Any.unsafeString_none L X;have c1:w.drew.cell? ⟨b,1,none⟩=some (.slice none 0 0):=by
  have:w.drew.heap[b]?=some (.cells #[p,.slice none 0 0] (ρ.t 72) (0,0)):=hbk;rw[Lib.cell_of_heap this];rfl
 have hSD:(Builtin.unsafeSliceData_ #[(ρ.t 37)] (ρ.t 127) #[.slice none 0 0]).run P w.drew=.ok (.pointer none) w.drew:=rfl;have hT:eO b none w w.drew:=⟨rfl,rfl,rfl,lRf _,fun _ _ _ _=>rfl⟩;have mixed:=L.mixed;have t72:=L.t72;have a72:=L.a72;have z72:=L.z72;have v72:=L.v72;have u72:=run_underlying L.t72;have t70:=L.t70;have a70:=L.a70;have z70:=L.z70;have v70:=L.v70;have u70:=run_underlying L.t70;have t37:=L.t37;have a37:=L.a37;have z37:=L.z37;have v37:=L.v37;have u37:=run_underlying L.t37;have t127:=L.t127;have a127:=L.a127;have z127:=L.z127;have v127:=L.v127;have u127:=run_underlying L.t127;have t3:=L.t3;have a3:=L.a3;have z3:=L.z3;have v3:=L.v3;have u3:=run_underlying L.t3;have t9:=L.t9;have a9:=L.a9;have z9:=L.z9;have v9:=L.v9;have u9:=run_underlying L.t9;have t5:=X.t5;have a5:=X.a5;have z5:=X.z5;have v5:=X.v5;have u5:=run_underlying X.t5
 go_enter L.f169,Body.n169_ntmps ρ
 go_wp2
 go_region_o
 all_goals (go_wp2;go_ret;exact⟨rfl,hT⟩)
end Go.Proofs.YtapimhjbilkfpaaGreatDoor
namespace Go.Proofs.YtapimhjbilkfpaaGreatDoor
open Go Go.Proofs.Tryz Go.RowKit List
theorem Dr{M:Mem}{w w':World}(h:Rep M w)(hb:Below w.heap.size w w'):Rep M w':=by
 intro b B hB;have hold:=h b B hB;have hlt:b<w.heap.size:=by
  rcases Nat.lt_or_ge b w.heap.size with hlt|hge
  .exact hlt
  .cases B with
   | cells own xs tot=>obtain⟨c,e,fr,q,_⟩:=hold;rw[Array.getElem?_eq_none hge]at q;cases q
   | obj o=>obtain⟨q,_⟩:=hold;rw[Array.getElem?_eq_none hge]at q;cases q
 exact Blk.holds_of (hb.block b hlt) hold
theorem kO{M:Mem}{w:World}(h:Rep M w){b:Nat}{B:Blk}(hB:M b=some B):b<w.heap.size:=by
 have hold:=h b B hB;rcases Nat.lt_or_ge b w.heap.size with hlt|hge
 .exact hlt
 .cases B with
  | cells own xs tot=>obtain⟨c,e,fr,q,_⟩:=hold;rw[Array.getElem?_eq_none hge]at q;cases q
  | obj o=>obtain⟨q,_⟩:=hold;rw[Array.getElem?_eq_none hge]at q;cases q
theorem dK{P:Program}{f:FuncId}{args:List Value}{M:Mem}{R:VP}(v:Value)(hb:sf P f)(h:∀ w,Rep M w->Calls P f args.toArray w fun e w'=>e=.returned v/\Below w.heap.size w w')(hR:R v M):ar P f args M R:=
 ⟨hb,fun w hw=>(h w hw).mono fun e w' ⟨he,hbl⟩=>⟨v,M,he,Dr hw hbl,⟨hbl.os,hbl.tape,hbl.output,hbl.size,fun b hb _=>hbl.block b hb,fun b hb=>.inl hb⟩,hR⟩⟩
theorem Q2{M:Mem}{b i:Nat}{v:Value}(h:M.get? b i=some v):∃ B,M b=some B:=by
 unfold Mem.get? at h;cases hM:M b with
 | none=>rw[hM]at h;cases h
 | some B=>exact⟨B,rfl⟩
end Go.Proofs.YtapimhjbilkfpaaGreatDoor
namespace Go.Proofs.YtapimhjbilkfpaaGreatDoor
open Go Go.Proofs.Tryz Go.RowKit Go.Shelf List
attribute [local go_sem] Oper.semAt_some
attribute [-simp] me pz
def iK(r:B8):B8:=if 0<=Lib.indexByte r 10 then r.take ((Lib.indexByte r 10).toNat+1) else r
def fp(r:B8):B8:=if 0<=Lib.indexByte r 10 then r.drop ((Lib.indexByte r 10).toNat+1) else []
theorem PI(c:UInt8):∀ r:B8,0<=Lib.indexByte r c->(Lib.indexByte r c).toNat<r.length
 | [],h=>by simp[Lib.indexByte]at h
 | b::l,h=>by
  unfold Lib.indexByte at h ⊢;split
  .simp
  .rename_i h1;rw[if_neg h1]at h;split
   .rename_i h2;rw[if_pos h2]at h;omega
   .rename_i h2;rw[if_neg h2]at h;have h3:=Lib.indexByte_ge l c;have h4:Lib.indexByte l c≠-1:=by simpa using h2
    have:=PI c l (by omega);simp only[lCo];omega
theorem po{r:B8}(h:r≠[]):(fp r).length<r.length:=by
 have:0<r.length:=length_pos_iff.2 h;unfold fp;split
 .rw[lDr];omega
 .simpa using this
def IP(Bs:Nat)(w:World):Nat:=match w.cell? ⟨Bs,0,none⟩ with|some (.string s)=>s.size|_=>0
theorem pP{Bs:Nat}{w:World}{r:B8}(h:w.cell? ⟨Bs,0,none⟩=some (str r)):IP Bs w=r.length:=by
 unfold IP;rw[h];rfl
set_option maxRecDepth 100000 in
theorem OE(n l Bs N:Nat)(hN:N<=1000000)(J:B8->World->Prop)(Jx:World->Prop)
  (hset:∀ r W v,J r W->J r (W.setCell ⟨Bs,0,none⟩ v)) (hdrew:∀ r W,J r W->J r W.drew)
  (hY:∀ r W,J r W->r≠[]->r.length<=N->YieldAt Fence.wide n prog l #[str (iK r)] W fun e W'=>
   (e=.returned (.bool true)/\J (fp r) W'/\W'.heap[Bs]?=W.heap[Bs]?)\/(e=.returned (.bool false)/\Jx W'))
  (W:World) (r0:B8) (hr0:r0.length<=N) (hBs:W.heap[Bs]?=some (.cells #[str r0] 9 (0,0))) (h0:J r0 W) :
  CallsIn Fence.wide (n+1) prog 93 #[.func (.yield l) #[] #[],.pointer (some ⟨Bs,0,none⟩)] W fun e W'=>(∃ v,e=.returned v)/\(J [] W'\/Jx W'):=by
 have mixed:prog.follows .mixedOrders=true:=by kernel_rfl
 refine callsIn_of_wp func93 rfl trivial ?_ rfl;simp only[ntmps93,size_toArray,lCo,length_nil,Nat.reduceAdd,Nat.reduceSub,Array.replicate_succ,Array.replicate_zero,push_toArray,append_toArray,nil_append,cons_append]
 gi_wp2
 gi_loopw [] (fun wr=>∃ r,r.length<=N/\J r wr/\wr.heap[Bs]?=some (.cells #[str r] 9 (0,0))) (fun wr=>IP Bs wr)
 case atStart=>exact⟨r0,hr0,h0,hBs⟩
 case round=>
  obtain⟨r,hr,hJ,hb'⟩:=hrel;have hb:wr.heap[Bs]?=some (.cells #[.string ⟨r.toArray⟩] 9 (0,0)):=hb';clear hb';have t9:=underlying9;have u9:=run_underlying underlying9;have hc:wr.cell? ⟨Bs,0,none⟩=some (.string ⟨r.toArray⟩):=by rw[Lib.cell_of_heap hb];rfl
  have hf:wr.frozen? ⟨Bs,0,none⟩=false:=Lib.frozen_of_heap hb 0;by_cases hnil:r=[]
  .subst hnil
   gi_wp2
   go_end0
   exact⟨⟨_,rfl⟩,.inl hJ⟩
  .have hpos:0<r.length:=length_pos_iff.2 hnil;have hge:=Lib.indexByte_ge r 10;have hIB:Calls prog 94 #[.string ⟨r.toArray⟩,.int .u8 10] wr fun e w'=>e=.returned (.int .i64 (Lib.indexByte r 10))/\w'=wr:=Tryz.strings_IndexByte ⟨r.toArray⟩ 10 wr;by_cases hi:0<=Lib.indexByte r 10
   .have hlt:=PI 10 r hi;have hhd:iK r=r.take ((Lib.indexByte r 10).toNat+1):=by unfold iK;rw[if_pos hi]
    have htl:fp r=r.drop ((Lib.indexByte r 10).toNat+1):=by unfold fp;rw[if_pos hi]
    obtain⟨k,hk⟩:∃ k:Nat,Lib.indexByte r 10=k:=⟨(Lib.indexByte r 10).toNat,by omega⟩;rw[hk]at hIB hlt hhd htl;rw[iNa]at hlt hhd htl;clear hk hi hge;have hs0:(0:Int)<=(k:Int)+1:=by omega
    have hs1:(k:Int)+1<=(r.length:Int):=by omega
    have e1:Value.string ((⟨r.toArray⟩:ByteArray).extract 0 (k+1))=str (iK r):=by
     rw[hhd];show Value.string _=Value.string _;congr 1;apply ByteArray.ext;simp[ByteArray.data_extract]
    have e2:Value.string ((⟨r.toArray⟩:ByteArray).extract (k+1) r.length)=str (fp r):=by
     rw[htl];show Value.string _=Value.string _;congr 1;apply ByteArray.ext;simp[ByteArray.data_extract];rw[take_of_length_le (by simp)]
    obtain⟨fn,tmps,assign,body,hy,hR⟩:=hY r (wr.setCell ⟨Bs,0,none⟩ (.string ((⟨r.toArray⟩:ByteArray).extract (k+1) r.length))).drew (hdrew _ _ (hset _ _ _ hJ)) hnil hr;rw[<-e1]at hy;have hb2:(wr.setCell ⟨Bs,0,none⟩ (.string ((⟨r.toArray⟩:ByteArray).extract (k+1) r.length))).drew.heap[Bs]?=some (.cells #[str (fp r)] 9 (0,0)):=by
     rw[e2];simp[World.setCell,World.drew,Array.getElem?_modify,hb]
    clear e1 e2 hhd htl
    gi_wp2_with (refine⟨trivial,?_⟩;gi_at_call 94;refine(callsIn_wide.2 hIB).mono ?_;rintro e w' ⟨rfl,rfl⟩)
    have hk1:(k:Int)<=1000000:=by omega
    have hwr:IntKind.i64.wrap ((k:Int)+1)=(k:Int)+1:=by go_bits;try trivial
    gi_region_o
    gi_wp2
    refine hR.mono ?_
    rintro e W3 (⟨rfl,hJ3,hk3⟩|⟨rfl,hJx3⟩)
    .gi_wp2
     go_roundw
     case rel=>exact⟨fp r,Nat.le_trans (Nat.le_of_lt (po hnil)) hr,hJ3,by rw[hk3,hb2]⟩
     case measure=>rw[pP (r:=fp r) (by rw[Lib.cell_of_heap (hk3.trans hb2)];rfl),pP (r:=r) hc];exact po hnil
    .gi_wp2
     refine bodyPost_ret (results_none rfl _ _ _) rfl ?_;exact⟨⟨_,rfl⟩,.inr hJx3⟩
   .have hhd:iK r=r:=by unfold iK;rw[if_neg hi]
    have htl:fp r=[]:=by unfold fp;rw[if_neg hi]
    obtain⟨fn,tmps,assign,body,hy,hR⟩:=hY r (wr.setCell ⟨Bs,0,none⟩ (.string ⟨#[]⟩)) (hset _ _ _ hJ) hnil hr;rw[hhd]at hy;have hy':Sem.run prog (Instr.yield l #[.string ⟨r.toArray⟩]) (wr.setCell ⟨Bs,0,none⟩ (.string ⟨#[]⟩))=_:=hy;have hb2:(wr.setCell ⟨Bs,0,none⟩ (.string ⟨#[]⟩)).heap[Bs]?=some (.cells #[.string ⟨#[]⟩] 9 (0,0)):=by simp[World.setCell,Array.getElem?_modify,hb]
    clear hy
    gi_wp2_with (refine⟨trivial,?_⟩;gi_at_call 94;refine(callsIn_wide.2 hIB).mono ?_;rintro e w' ⟨rfl,rfl⟩)
    refine hR.mono ?_
    rintro e W3 (⟨rfl,hJ3,hk3⟩|⟨rfl,hJx3⟩)
    .gi_wp2
     go_roundw
     case rel=>exact⟨fp r,by rw[htl];exact lZe _,hJ3,by rw[hk3,hb2,htl];rfl⟩
     case measure=>rw[pP (r:=[]) (by rw[Lib.cell_of_heap (hk3.trans hb2)];rfl),pP (r:=r) hc];exact hpos
    .gi_wp2
     refine bodyPost_ret (results_none rfl _ _ _) rfl ?_;exact⟨⟨_,rfl⟩,.inr hJx3⟩
end Go.Proofs.YtapimhjbilkfpaaGreatDoor
namespace Go.Proofs.YtapimhjbilkfpaaGreatDoor
open Go Go.Proofs.Tryz List
def kV(b:UInt8):Bool:=decide (48<=b.toNat)&&decide (b.toNat<=57)
def bT(l:B8):Bool:=(decide (1<=l.length)&&decide (l.length<=9))&&(!(decide (1<l.length)&&(l.headD 0==48))&&l.all kV)
def cq(l:B8):Nat:=l.foldl (fun n b=>n*10+(b.toNat-48)) 0
def Nf(l:B8):Int:=if bT l then (cq l:Nat) else -1
theorem lq(l:B8)(b:UInt8):cq (l++[b])=cq l*10+(b.toNat-48):=by simp[cq,foldl_append]
theorem lX{b:UInt8}(h:kV b=true):48<=b.toNat/\b.toNat<=57:=by
 unfold kV at h;rw[bAn,dTe,dTe]at h;exact h
theorem Lg(d:Nat)(h:d<10):kV (UInt8.ofNat (48+d))=true/\(UInt8.ofNat (48+d)).toNat=48+d:=by
 have e:(UInt8.ofNat (48+d)).toNat=48+d:=by simp[UInt8.toNat_ofNat'];omega
 refine⟨?_,e⟩;unfold kV;rw[bAn,dTe,dTe,e];omega
structure Canon(l:B8):Prop where
 ne:l≠[]
 dig:∀ b∈l,kV b=true
 head:l.length=1\/l.headD 0≠48
theorem eo{l:B8}:bT l=true↔Canon l/\l.length<=9:=by
 unfold bT;simp only[bAn,dTe,Bool.not_eq_true',Bool.and_eq_false_iff,decide_eq_false_iff_not,bNe,all_eq_true];constructor
 .rintro⟨⟨h1,h2⟩,h3,h4⟩
  refine⟨⟨fun e=>by rw[e]at h1;exact absurd h1 (by decide),h4,?_⟩,h2⟩;rcases h3 with h3|h3
  .exact .inl (by omega)
  .exact .inr h3
 .rintro⟨⟨h1,h2,h3⟩,h4⟩
  have hp:1<=l.length:=by
   cases l with
   | nil=>exact absurd rfl h1
   | cons a r=>simp
  refine⟨⟨hp,h4⟩,?_,h2⟩;rcases h3 with h3|h3
  .exact .inl (by omega)
  .exact .inr h3
theorem Dt{l:B8}(h:l≠[]):∃ r b,l=r++[b]:=⟨l.dropLast,l.getLast h,(dropLast_concat_getLast h).symm⟩
theorem CX{r:B8}(h:r≠[])(b:UInt8):(r++[b]).headD 0=r.headD 0:=by
 cases r with
 | nil=>exact absurd rfl h
 | cons a r=>rfl
theorem Canon.init{r:B8}{b:UInt8}(h:Canon (r++[b]))(hr:r≠[]):Canon r/\r.headD 0≠48:=by
 have hh:r.headD 0≠48:=by
  rcases h.head with h1|h1
  .rw[lAp]at h1;have:r.length=0:=by simpa using h1
   exact absurd (length_eq_zero_iff.1 this) hr
  .rwa[CX hr]at h1
 exact⟨⟨hr,fun x hx=>h.dig x (mem_append_left _ hx),.inr hh⟩,hh⟩
theorem Gf:∀(n:Nat) (l:B8),l.length=n->Canon l->l.headD 0≠48->1<=cq l
 | 0,l,hn,h,_=>absurd (length_eq_zero_iff.1 hn) h.ne
 | n+1,l,hn,h,hh=>by
  obtain⟨r,b,rfl⟩:=Dt h.ne;rw[lq];by_cases hr:r=[]
  .subst hr;have hb:=lX (h.dig b (by simp));have hb2:b.toNat≠48:=fun e=>hh (by
    show b=48;exact UInt8.toNat_inj.1 (by rw[e];rfl))
   show 1<=cq []*10+(b.toNat-48);omega
  .obtain⟨h1,h2⟩:=h.init hr;have:=Gf n r (by rw[lAp]at hn;simpa using hn) h1 h2;omega
theorem Fu:∀(n:Nat) (l:B8),l.length=n->Canon l->Lib.decDigits (cq l)=l
 | 0,l,hn,h=>absurd (length_eq_zero_iff.1 hn) h.ne
 | n+1,l,hn,h=>by
  obtain⟨r,b,rfl⟩:=Dt h.ne;rw[lq];have hb:=lX (h.dig b (by simp));by_cases hr:r=[]
  .subst hr;show Lib.decDigits (cq []*10+(b.toNat-48))=[b];have e0:cq []=0:=rfl;rw[e0,Nat.zero_mul,Nat.zero_add,Lib.decDigits_one (by omega),show 48+(b.toNat-48)=b.toNat by omega,UInt8.ofNat_toNat]
  .obtain⟨h1,h2⟩:=h.init hr;have hp:=Gf r.length r rfl h1 h2;have ih:=Fu n r (by rw[lAp]at hn;simpa using hn) h1;rw[Lib.decDigits,dif_neg (by omega),show (cq r*10+(b.toNat-48))/10=cq r by omega,ih,
    show 48+(cq r*10+(b.toNat-48))%10=b.toNat by omega,UInt8.ofNat_toNat]
theorem OA(n:Nat):Canon (Lib.decDigits n)/\cq (Lib.decDigits n)=n/\(1<=n->(Lib.decDigits n).headD 0≠48):=by
 induction n using Nat.strongRecOn with
 | _ n ih=>
  by_cases h:n<10
  .rw[Lib.decDigits_one h];obtain⟨q1,q2⟩:=Lg n h;refine⟨⟨by simp,fun b hb=>?_,.inl rfl⟩,?_,fun h1 e=>?_⟩
   .rw[mem_singleton]at hb;rw[hb];exact q1
   .show cq []*10+((UInt8.ofNat (48+n)).toNat-48)=n;have e0:cq []=0:=rfl;rw[q2,e0];omega
   .have e:UInt8.ofNat (48+n)=48:=e;rw[e]at q2;have:(48:UInt8).toNat=48:=rfl;omega
  .obtain⟨c,v,hd⟩:=ih (n/10) (by omega);have hd:=hd (by omega);rw[Lib.decDigits,dif_neg h];obtain⟨q1,q2⟩:=Lg (n%10) (by omega);have hh:(Lib.decDigits (n/10)++[UInt8.ofNat (48+n%10)]).headD 0≠48:=by rw[CX c.ne];exact hd
   refine⟨⟨by simp,fun b hb=>?_,.inr hh⟩,?_,fun _=>hh⟩
   .rcases mem_append.1 hb with h1|h1
    .exact c.dig b h1
    .rw[mem_singleton]at h1;rw[h1];exact q1
   .rw[lq,v,q2];omega
theorem Ef:∀(n:Nat) (l:B8),l.length=n->(∀ b∈l,kV b=true)->cq l<10 ^ n
 | 0,l,hn,_=>by rw[length_eq_zero_iff.1 hn];decide
 | n+1,l,hn,h=>by
  obtain⟨r,b,rfl⟩:=Dt (l:=l) (fun e=>by rw[e]at hn;cases hn);have hb:=lX (h b (by simp));have:=Ef n r (by rw[lAp]at hn;simpa using hn) (fun x hx=>h x (mem_append_left _ hx));rw[lq,Nat.pow_succ];omega
theorem fM{l:B8}(h:bT l=true):cq l<1000000000:=by
 obtain⟨c,h9⟩:=eo.1 h;have h1:=Ef l.length l rfl c.dig;have h2:10 ^ l.length<=10 ^ 9:=Nat.pow_le_pow_right (by decide) h9;have h3:(10:Nat) ^ 9=1000000000:=by decide
 omega
def aal(acc:Nat)(l:B8):Nat:=l.foldl (fun n b=>n*10+(b.toNat-48)) acc
theorem Cz(T:Nat)(hT:1000000000<=T):∀(l:B8) (acc:Nat),(∀ b∈l,kV b=true)->(acc+1)*10 ^ l.length<=1000000000->Lib.parseUintM T acc l=.ok (aal acc l)
 | [],acc,_,_=>rfl
 | c::r,acc,h,ha=>by
  have hc:=lX (h c (mem_cons_self ..));rw[lCo,Nat.pow_succ]at ha;have hp:1<=10 ^ r.length:=Nat.one_le_pow _ _ (by decide);have h1:(acc+1)*10<=1000000000:=by
   refine Nat.le_trans ?_ ha;rw[Nat.mul_comm (10 ^ r.length) 10,<-Nat.mul_assoc];exact Nat.le_mul_of_pos_right _ hp
  unfold Lib.parseUintM;rw[if_pos hc,if_neg (by omega),if_neg (by omega)];rw[Cz T hT r _ (fun b hb=>h b (mem_cons_of_mem _ hb)) ?_]
  .rfl
  .refine Nat.le_trans (Nat.mul_le_mul_right _ (show acc*10+(c.toNat-48)+1<=(acc+1)*10 by omega)) ?_;rw[Nat.mul_comm (10 ^ r.length) 10,<-Nat.mul_assoc]at ha;exact ha
theorem uS{l:B8}(h:bT l=true):Lib.parseIntB 64 l=.ok (cq l:Nat):=by
 obtain⟨c,h9⟩:=eo.1 h;have hs:=fM h;have hp:Lib.parseUintB 64 l=.ok (cq l):=by
  unfold Lib.parseUintB;rw[if_neg c.ne];refine Cz _ (by decide) l 0 c.dig ?_;have h2:10 ^ l.length<=10 ^ 9:=Nat.pow_le_pow_right (by decide) h9;have h3:(10:Nat) ^ 9=1000000000:=by decide
  omega
 cases l with
 | nil=>exact absurd rfl c.ne
 | cons b r=>
  have hb:=lX (c.dig b (mem_cons_self ..));unfold Lib.parseIntB;have e1:¬(b.toNat=43\/b.toNat=45):=by omega
  have e2:¬(b.toNat=45):=by omega
  have e63:¬(2:Nat) ^ (64-1)<=cq (b::r):=by
   have:(2:Nat) ^ (64-1)=9223372036854775808:=by decide
   omega
  have e3:¬(b.toNat=43):=by omega
  simp only[e3,e2,e63,or_self,if_false,hp,not_false_eq_true,true_and,false_and]
theorem Sg{l:B8}{n:Int}(h1:Lib.parseIntB 64 l=.ok n)(h0:0<=n)(h9:l.length<=9)(he:Lib.itoa n=l):bT l=true/\(cq l:Int)=n:=by
 obtain⟨k,rfl⟩:∃ k:Nat,n=k:=⟨n.toNat,by omega⟩;rw[Lib.itoa_nonneg]at he;obtain⟨c,v,_⟩:=OA k;rw[he]at c v;exact⟨eo.2 ⟨c,h9⟩,by rw[v]⟩
theorem RD{l:B8}(h:bT l=true):Lib.itoa (cq l:Nat)=l:=by
 rw[Lib.itoa_nonneg];exact Fu l.length l rfl (eo.1 h).1
theorem Rh{l:B8}{n:Int}(h:Lib.parseIntB 64 l=.ok n):n<=9223372036854775807:=by
 have e63:(2:Nat) ^ (64-1)=9223372036854775808:=by decide
 cases l with
 | nil=>cases h
 | cons c r=>
  unfold Lib.parseIntB at h;simp only[e63]at h;split at h
  .cases h
  .cases h
  .rename_i u _;split at h
   .cases h
   .split at h
    .cases h
    .injection h with h
     split at h
     .omega
     .rename_i q1 q2 q3;rw[not_and]at q1;have:=q1 q3;omega
theorem mi{l:B8}(h:bT l=true):Nf l=(cq l:Nat):=by unfold Nf;rw[if_pos h]
theorem oq{l:B8}(h:¬ bT l=true):Nf l = -1:=by unfold Nf;rw[if_neg h]
theorem zt{l:B8}(h:bT l=true):1<=l.length/\l.length<=9:=by
 unfold bT at h;simp only[bAn,dTe]at h;exact h.1
theorem bX(n:Int)(h0 : -9223372036854775807<=n)(h1:n<=9223372036854775807):(Lib.itoa n).length<=21:=by
 have hd:∀ u:Nat,u<10 ^ 20->(Lib.decDigits u).length<=20:=by
  intro u hu;rw[Lib.decDigits_length];rcases Nat.lt_or_ge 20 (Lib.nDigits u) with h|h
  .exfalso;have h2:∀(k u:Nat),k+1<Lib.nDigits u->10 ^ (k+1)<=u:=by
    intro k
    induction k with
    | zero=>
     intro u hu;by_cases h:u<10
     .rw[Lib.nDigits_small h]at hu;omega
     .simpa using h
    | succ k ih=>
     intro u hu;by_cases h:u<10
     .rw[Lib.nDigits_small h]at hu;omega
     .rw[Lib.nDigits_big h]at hu;have:=ih (u/10) (by omega);rw[Nat.pow_succ];omega
   have:=h2 19 u h;omega
  .exact h
 have h20:(10:Nat) ^ 20=100000000000000000000:=by decide
 unfold Lib.itoa;split
 .rw[lCo];have:=hd n.natAbs (by omega);omega
 .have:=hd n.toNat (by omega);omega
end Go.Proofs.YtapimhjbilkfpaaGreatDoor
