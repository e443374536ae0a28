/- Lemmas for FnExactDeskAfter, part 3 of 33. -/
import Derived.Test.YtapimhjbilkfpaaGreatDoorZ01
import Derived.Test.YtapimhjbilkfpaaGreatDoorProg
import Derived.KernelRfl
set_option linter.unusedVariables false
set_option linter.unusedSimpArgs false
namespace Go.Proofs.YtapimhjbilkfpaaGreatDoor
open Go Go.Proofs.Tryz List
def QD:Tab:=fun t=>match t with
 | 1=>some ⟨.func,1,.nilFunc⟩
 | 2=>some ⟨.int .i64,1,.int .i64 0⟩
 | 3=>some ⟨.int .i64,1,.int .i64 0⟩
 | 4=>some ⟨.bool,1,.bool false⟩
 | 5=>some ⟨.int .u8,1,.int .u8 0⟩
 | 6=>some ⟨.int .u8,1,.int .u8 0⟩
 | 7=>some ⟨.strct [(0,1,false),(1,1,false),(2,1,false),(3,1,false)],4,.agg #[.int .i64 0,.int .i64 0,.bool false,.int .u8 0]⟩
 | 8=>some ⟨.strct [(0,1,false),(1,1,false),(2,1,false),(3,1,false)],4,.agg #[.int .i64 0,.int .i64 0,.bool false,.int .u8 0]⟩
 | 9=>some ⟨.str,1,str []⟩
 | 10=>some ⟨.str,1,str []⟩
 | 12=>some ⟨.int .u64,1,.int .u64 0⟩
 | 20=>some ⟨.iface,1,.nilIface⟩
 | 21=>some ⟨.int .i32,1,.int .i32 0⟩
 | 22=>some ⟨.func,1,.nilFunc⟩
 | 23=>some ⟨.func,1,.nilFunc⟩
 | 24=>some ⟨.slc 9 1 16 (str []),1,.slice none 0 0⟩
 | 25=>some ⟨.strct [(0,1,false)],1,.agg #[.slice none 0 0]⟩
 | 26=>some ⟨.strct [(0,1,false)],1,.agg #[.slice none 0 0]⟩
 | 27=>some ⟨.strct [(0,1,false),(1,1,false),(2,1,true)],3,.agg #[str [],str [],.slice none 0 0]⟩
 | 28=>some ⟨.strct [(0,1,false),(1,1,false),(2,1,true)],3,.agg #[str [],str [],.slice none 0 0]⟩
 | 36=>some ⟨.strct [(0,1,false)],1,.agg #[.slice none 0 0]⟩
 | 37=>some ⟨.strct [(0,1,false),(1,1,false),(2,1,true)],3,.agg #[str [],str [],.slice none 0 0]⟩
 | 38=>some ⟨.strct [(0,1,false),(1,1,false),(2,1,true)],3,.agg #[str [],str [],.slice none 0 0]⟩
 | 43=>some ⟨.slc 5 1 1 (.int .u8 0),1,.slice none 0 0⟩
 | 59=>some ⟨.flat,1,.pointer none⟩
 | 69=>some ⟨.flat,1,.pointer none⟩
 | 70=>some ⟨.strct [(0,1,false),(1,1,false)],2,.agg #[.pointer none,.slice none 0 0]⟩
 | 71=>some ⟨.strct [(0,1,false),(1,1,false)],2,.agg #[.pointer none,.slice none 0 0]⟩
 | 72=>some ⟨.func,1,.nilFunc⟩
 | 73=>some ⟨.func,1,.nilFunc⟩
 | 76=>some ⟨.iface,1,.nilIface⟩
 | 77=>some ⟨.iface,1,.nilIface⟩
 | 81=>some ⟨.strct [(0,3,true),(3,1,false),(4,1,false)],5,.agg #[str [],str [],.slice none 0 0,str [],.int .i64 0]⟩
 | 82=>some ⟨.strct [(0,3,true),(3,1,false),(4,1,false)],5,.agg #[str [],str [],.slice none 0 0,str [],.int .i64 0]⟩
 | 92=>some ⟨.slc 2 1 8 (.int .i64 0),1,.slice none 0 0⟩
 | 96=>some ⟨.int .u64,1,.int .u64 0⟩
 | 97=>some ⟨.strct [(0,1,false),(1,1,false),(2,1,false)],3,.agg #[.slice none 0 0,.int .i64 0,.int .u64 0]⟩
 | 98=>some ⟨.strct [(0,1,false),(1,1,false),(2,1,false)],3,.agg #[.slice none 0 0,.int .i64 0,.int .u64 0]⟩
 | 99=>some ⟨.func,1,.nilFunc⟩
 | 103=>some ⟨.int .u64,1,.int .u64 0⟩
 | 105=>some ⟨.func,1,.nilFunc⟩
 | 111=>some ⟨.flat,1,.pointer none⟩
 | 152=>some ⟨.func,1,.nilFunc⟩
 | 156=>some ⟨.slc 3 1 8 (.int .i64 0),1,.slice none 0 0⟩
 | 177=>some ⟨.slc 92 1 24 (.slice none 0 0),1,.slice none 0 0⟩
 | 201=>some ⟨.flat,1,.map none⟩
 | 219=>some ⟨.slc 4 1 1 (.bool false),1,.slice none 0 0⟩
 | 230=>some ⟨.int .u32,1,.int .u32 0⟩
 | 237=>some ⟨.arr 3 1 false,3,.agg #[str [],str [],str []]⟩
 | 243=>some ⟨.func,1,.nilFunc⟩
 | 245=>some ⟨.func,1,.nilFunc⟩
 | 257=>some ⟨.func,1,.nilFunc⟩
 | 268=>some ⟨.func,1,.nilFunc⟩
 | 276=>some ⟨.func,1,.nilFunc⟩
 | 277=>some ⟨.func,1,.nilFunc⟩
 | 311=>some ⟨.int .i64,1,.int .i64 0⟩
 | _=>none
def tab:Tab:=fun t=>QD t
@[simp] theorem aaI:tab 1=some ⟨.func,1,.nilFunc⟩:=rfl
@[simp] theorem aaH:tab 2=some ⟨.int .i64,1,.int .i64 0⟩:=rfl
@[simp] theorem aaK:tab 3=some ⟨.int .i64,1,.int .i64 0⟩:=rfl
@[simp] theorem aaL:tab 4=some ⟨.bool,1,.bool false⟩:=rfl
@[simp] theorem aaE:tab 5=some ⟨.int .u8,1,.int .u8 0⟩:=rfl
@[simp] theorem aaC:tab 6=some ⟨.int .u8,1,.int .u8 0⟩:=rfl
@[simp] theorem aaF:tab 7=some ⟨.strct [(0,1,false),(1,1,false),(2,1,false),(3,1,false)],4,.agg #[.int .i64 0,.int .i64 0,.bool false,.int .u8 0]⟩:=rfl
@[simp] theorem aaN:tab 8=some ⟨.strct [(0,1,false),(1,1,false),(2,1,false),(3,1,false)],4,.agg #[.int .i64 0,.int .i64 0,.bool false,.int .u8 0]⟩:=rfl
@[simp] theorem aaO:tab 9=some ⟨.str,1,str []⟩:=rfl
@[simp] theorem aac:tab 10=some ⟨.str,1,str []⟩:=rfl
@[simp] theorem aaj:tab 12=some ⟨.int .u64,1,.int .u64 0⟩:=rfl
@[simp] theorem aaA:tab 20=some ⟨.iface,1,.nilIface⟩:=rfl
@[simp] theorem aab:tab 21=some ⟨.int .i32,1,.int .i32 0⟩:=rfl
@[simp] theorem Z3:tab 22=some ⟨.func,1,.nilFunc⟩:=rfl
@[simp] theorem Z9:tab 23=some ⟨.func,1,.nilFunc⟩:=rfl
@[simp] theorem aai:tab 24=some ⟨.slc 9 1 16 (str []),1,.slice none 0 0⟩:=rfl
@[simp] theorem aax:tab 25=some ⟨.strct [(0,1,false)],1,.agg #[.slice none 0 0]⟩:=rfl
@[simp] theorem aam:tab 26=some ⟨.strct [(0,1,false)],1,.agg #[.slice none 0 0]⟩:=rfl
@[simp] theorem aae:tab 27=some ⟨.strct [(0,1,false),(1,1,false),(2,1,true)],3,.agg #[str [],str [],.slice none 0 0]⟩:=rfl
@[simp] theorem aak:tab 28=some ⟨.strct [(0,1,false),(1,1,false),(2,1,true)],3,.agg #[str [],str [],.slice none 0 0]⟩:=rfl
@[simp] theorem aaq:tab 36=some ⟨.strct [(0,1,false)],1,.agg #[.slice none 0 0]⟩:=rfl
@[simp] theorem ZZ:tab 37=some ⟨.strct [(0,1,false),(1,1,false),(2,1,true)],3,.agg #[str [],str [],.slice none 0 0]⟩:=rfl
@[simp] theorem aaf:tab 38=some ⟨.strct [(0,1,false),(1,1,false),(2,1,true)],3,.agg #[str [],str [],.slice none 0 0]⟩:=rfl
@[simp] theorem ZX:tab 43=some ⟨.slc 5 1 1 (.int .u8 0),1,.slice none 0 0⟩:=rfl
@[simp] theorem Z4:tab 59=some ⟨.flat,1,.pointer none⟩:=rfl
@[simp] theorem Z5:tab 69=some ⟨.flat,1,.pointer none⟩:=rfl
@[simp] theorem aar:tab 70=some ⟨.strct [(0,1,false),(1,1,false)],2,.agg #[.pointer none,.slice none 0 0]⟩:=rfl
@[simp] theorem aau:tab 71=some ⟨.strct [(0,1,false),(1,1,false)],2,.agg #[.pointer none,.slice none 0 0]⟩:=rfl
@[simp] theorem aay:tab 72=some ⟨.func,1,.nilFunc⟩:=rfl
@[simp] theorem ZY:tab 73=some ⟨.func,1,.nilFunc⟩:=rfl
@[simp] theorem aag:tab 76=some ⟨.iface,1,.nilIface⟩:=rfl
@[simp] theorem aaw:tab 77=some ⟨.iface,1,.nilIface⟩:=rfl
@[simp] theorem aaz:tab 81=some ⟨.strct [(0,3,true),(3,1,false),(4,1,false)],5,.agg #[str [],str [],.slice none 0 0,str [],.int .i64 0]⟩:=rfl
@[simp] theorem aal:tab 82=some ⟨.strct [(0,3,true),(3,1,false),(4,1,false)],5,.agg #[str [],str [],.slice none 0 0,str [],.int .i64 0]⟩:=rfl
@[simp] theorem aan:tab 92=some ⟨.slc 2 1 8 (.int .i64 0),1,.slice none 0 0⟩:=rfl
@[simp] theorem aad:tab 96=some ⟨.int .u64,1,.int .u64 0⟩:=rfl
@[simp] theorem aat:tab 97=some ⟨.strct [(0,1,false),(1,1,false),(2,1,false)],3,.agg #[.slice none 0 0,.int .i64 0,.int .u64 0]⟩:=rfl
@[simp] theorem aas:tab 98=some ⟨.strct [(0,1,false),(1,1,false),(2,1,false)],3,.agg #[.slice none 0 0,.int .i64 0,.int .u64 0]⟩:=rfl
@[simp] theorem Z0:tab 99=some ⟨.func,1,.nilFunc⟩:=rfl
@[simp] theorem YP:tab 103=some ⟨.int .u64,1,.int .u64 0⟩:=rfl
@[simp] theorem Zq:tab 105=some ⟨.func,1,.nilFunc⟩:=rfl
@[simp] theorem YJ:tab 111=some ⟨.flat,1,.pointer none⟩:=rfl
@[simp] theorem YV:tab 152=some ⟨.func,1,.nilFunc⟩:=rfl
@[simp] theorem ZS:tab 156=some ⟨.slc 3 1 8 (.int .i64 0),1,.slice none 0 0⟩:=rfl
@[simp] theorem YO:tab 177=some ⟨.slc 92 1 24 (.slice none 0 0),1,.slice none 0 0⟩:=rfl
@[simp] theorem Y2:tab 201=some ⟨.flat,1,.map none⟩:=rfl
@[simp] theorem YX:tab 219=some ⟨.slc 4 1 1 (.bool false),1,.slice none 0 0⟩:=rfl
@[simp] theorem ZE:tab 230=some ⟨.int .u32,1,.int .u32 0⟩:=rfl
@[simp] theorem ZC:tab 237=some ⟨.arr 3 1 false,3,.agg #[str [],str [],str []]⟩:=rfl
@[simp] theorem Yx:tab 243=some ⟨.func,1,.nilFunc⟩:=rfl
@[simp] theorem Zf:tab 245=some ⟨.func,1,.nilFunc⟩:=rfl
@[simp] theorem ZK:tab 257=some ⟨.func,1,.nilFunc⟩:=rfl
@[simp] theorem YY:tab 268=some ⟨.func,1,.nilFunc⟩:=rfl
@[simp] theorem YK:tab 276=some ⟨.func,1,.nilFunc⟩:=rfl
@[simp] theorem Zz:tab 277=some ⟨.func,1,.nilFunc⟩:=rfl
@[simp] theorem YF:tab 311=some ⟨.int .i64,1,.int .i64 0⟩:=rfl
theorem ka{t:TypeId}{z:Value}{s b:Nat}(h:(prog.info? t).map (fun i=>(i.zero,i.size,i.bytes))=some (some z,s,b)):∃ I,prog.info? t=some I/\I.size=s/\I.bytes=b/\I.zero=some z:=by
 obtain⟨I,h1,h2⟩:=Option.map_eq_some_iff.1 h;injection h2 with h2 h3
 injection h3 with h3 h4
 exact⟨I,h1,h3,h4,h2⟩
theorem aG{t:TypeId}{z:Value}{s b:Nat}(h:(prog.info? t).map (fun i=>(i.zero,i.size,i.bytes))=some (some z,s,b)):∃ I,prog.info? t=some I/\I.zero=some z/\I.size=s:=by
 obtain⟨I,h1,h2,_,h4⟩:=ka h;exact⟨I,h1,h4,h2⟩
theorem Zp:(prog.info? 1).map (fun i=>(i.zero,i.size,i.bytes))=some (some (.nilFunc),1,8):=by kernel_rfl
theorem WW:(prog.info? 2).map (fun i=>(i.zero,i.size,i.bytes))=some (some (.int .i64 0),1,8):=by kernel_rfl
theorem Vy:(prog.info? 3).map (fun i=>(i.zero,i.size,i.bytes))=some (some (.int .i64 0),1,8):=by kernel_rfl
theorem Xl:(prog.info? 4).map (fun i=>(i.zero,i.size,i.bytes))=some (some (.bool false),1,1):=by kernel_rfl
theorem Vl:(prog.info? 5).map (fun i=>(i.zero,i.size,i.bytes))=some (some (.int .u8 0),1,1):=by kernel_rfl
theorem YE:(prog.info? 6).map (fun i=>(i.zero,i.size,i.bytes))=some (some (.int .u8 0),1,1):=by kernel_rfl
theorem YW:(prog.info? 7).map (fun i=>(i.zero,i.size,i.bytes))=some (some (.agg #[.int .i64 0,.int .i64 0,.bool false,.int .u8 0]),4,24):=by kernel_rfl
theorem Y5:(prog.info? 8).map (fun i=>(i.zero,i.size,i.bytes))=some (some (.agg #[.int .i64 0,.int .i64 0,.bool false,.int .u8 0]),4,24):=by kernel_rfl
theorem TA:(prog.info? 9).map (fun i=>(i.zero,i.size,i.bytes))=some (some (str []),1,16):=by kernel_rfl
theorem Wa:(prog.info? 10).map (fun i=>(i.zero,i.size,i.bytes))=some (some (str []),1,16):=by kernel_rfl
theorem WZ:(prog.info? 12).map (fun i=>(i.zero,i.size,i.bytes))=some (some (.int .u64 0),1,8):=by kernel_rfl
theorem Vc:(prog.info? 20).map (fun i=>(i.zero,i.size,i.bytes))=some (some (.nilIface),1,16):=by kernel_rfl
theorem WY:(prog.info? 21).map (fun i=>(i.zero,i.size,i.bytes))=some (some (.int .i32 0),1,4):=by kernel_rfl
theorem Ws:(prog.info? 22).map (fun i=>(i.zero,i.size,i.bytes))=some (some (.nilFunc),1,8):=by kernel_rfl
theorem VM:(prog.info? 23).map (fun i=>(i.zero,i.size,i.bytes))=some (some (.nilFunc),1,8):=by kernel_rfl
theorem WX:(prog.info? 24).map (fun i=>(i.zero,i.size,i.bytes))=some (some (.slice none 0 0),1,24):=by kernel_rfl
theorem Vq:(prog.info? 25).map (fun i=>(i.zero,i.size,i.bytes))=some (some (.agg #[.slice none 0 0]),1,24):=by kernel_rfl
theorem Wm:(prog.info? 26).map (fun i=>(i.zero,i.size,i.bytes))=some (some (.agg #[.slice none 0 0]),1,24):=by kernel_rfl
theorem VA:(prog.info? 27).map (fun i=>(i.zero,i.size,i.bytes))=some (some (.agg #[str [],str [],.slice none 0 0]),3,56):=by kernel_rfl
theorem VK:(prog.info? 28).map (fun i=>(i.zero,i.size,i.bytes))=some (some (.agg #[str [],str [],.slice none 0 0]),3,56):=by kernel_rfl
theorem W6:(prog.info? 36).map (fun i=>(i.zero,i.size,i.bytes))=some (some (.agg #[.slice none 0 0]),1,24):=by kernel_rfl
theorem Vd:(prog.info? 37).map (fun i=>(i.zero,i.size,i.bytes))=some (some (.agg #[str [],str [],.slice none 0 0]),3,56):=by kernel_rfl
theorem Xp:(prog.info? 38).map (fun i=>(i.zero,i.size,i.bytes))=some (some (.agg #[str [],str [],.slice none 0 0]),3,56):=by kernel_rfl
theorem V5:(prog.info? 43).map (fun i=>(i.zero,i.size,i.bytes))=some (some (.slice none 0 0),1,24):=by kernel_rfl
theorem WO:(prog.info? 59).map (fun i=>(i.zero,i.size,i.bytes))=some (some (.pointer none),1,8):=by kernel_rfl
theorem VL:(prog.info? 69).map (fun i=>(i.zero,i.size,i.bytes))=some (some (.pointer none),1,8):=by kernel_rfl
theorem VW:(prog.info? 70).map (fun i=>(i.zero,i.size,i.bytes))=some (some (.agg #[.pointer none,.slice none 0 0]),2,32):=by kernel_rfl
theorem Vb:(prog.info? 71).map (fun i=>(i.zero,i.size,i.bytes))=some (some (.agg #[.pointer none,.slice none 0 0]),2,32):=by kernel_rfl
theorem VB:(prog.info? 72).map (fun i=>(i.zero,i.size,i.bytes))=some (some (.nilFunc),1,8):=by kernel_rfl
theorem Xm:(prog.info? 73).map (fun i=>(i.zero,i.size,i.bytes))=some (some (.nilFunc),1,8):=by kernel_rfl
theorem Vh:(prog.info? 76).map (fun i=>(i.zero,i.size,i.bytes))=some (some (.nilIface),1,16):=by kernel_rfl
theorem WC:(prog.info? 77).map (fun i=>(i.zero,i.size,i.bytes))=some (some (.nilIface),1,16):=by kernel_rfl
theorem VI:(prog.info? 81).map (fun i=>(i.zero,i.size,i.bytes))=some (some (.agg #[str [],str [],.slice none 0 0,str [],.int .i64 0]),5,80):=by kernel_rfl
theorem WL:(prog.info? 82).map (fun i=>(i.zero,i.size,i.bytes))=some (some (.agg #[str [],str [],.slice none 0 0,str [],.int .i64 0]),5,80):=by kernel_rfl
theorem Td:(prog.info? 92).map (fun i=>(i.zero,i.size,i.bytes))=some (some (.slice none 0 0),1,24):=by kernel_rfl
theorem Wu:(prog.info? 96).map (fun i=>(i.zero,i.size,i.bytes))=some (some (.int .u64 0),1,8):=by kernel_rfl
theorem Vk:(prog.info? 97).map (fun i=>(i.zero,i.size,i.bytes))=some (some (.agg #[.slice none 0 0,.int .i64 0,.int .u64 0]),3,40):=by kernel_rfl
theorem W9:(prog.info? 98).map (fun i=>(i.zero,i.size,i.bytes))=some (some (.agg #[.slice none 0 0,.int .i64 0,.int .u64 0]),3,40):=by kernel_rfl
theorem VG:(prog.info? 99).map (fun i=>(i.zero,i.size,i.bytes))=some (some (.nilFunc),1,8):=by kernel_rfl
theorem Tg:(prog.info? 103).map (fun i=>(i.zero,i.size,i.bytes))=some (some (.int .u64 0),1,8):=by kernel_rfl
theorem Um:(prog.info? 105).map (fun i=>(i.zero,i.size,i.bytes))=some (some (.nilFunc),1,8):=by kernel_rfl
theorem Ua:(prog.info? 111).map (fun i=>(i.zero,i.size,i.bytes))=some (some (.pointer none),1,8):=by kernel_rfl
theorem Uc:(prog.info? 152).map (fun i=>(i.zero,i.size,i.bytes))=some (some (.nilFunc),1,8):=by kernel_rfl
theorem Th:(prog.info? 156).map (fun i=>(i.zero,i.size,i.bytes))=some (some (.slice none 0 0),1,24):=by kernel_rfl
theorem TL:(prog.info? 177).map (fun i=>(i.zero,i.size,i.bytes))=some (some (.slice none 0 0),1,24):=by kernel_rfl
theorem Us:(prog.info? 201).map (fun i=>(i.zero,i.size,i.bytes))=some (some (.map none),1,8):=by kernel_rfl
theorem TN:(prog.info? 219).map (fun i=>(i.zero,i.size,i.bytes))=some (some (.slice none 0 0),1,24):=by kernel_rfl
theorem TH:(prog.info? 230).map (fun i=>(i.zero,i.size,i.bytes))=some (some (.int .u32 0),1,4):=by kernel_rfl
theorem T3:(prog.info? 237).map (fun i=>(i.zero,i.size,i.bytes))=some (some (.agg #[str [],str [],str []]),3,48):=by kernel_rfl
theorem Tl:(prog.info? 243).map (fun i=>(i.zero,i.size,i.bytes))=some (some (.nilFunc),1,8):=by kernel_rfl
theorem Tw:(prog.info? 245).map (fun i=>(i.zero,i.size,i.bytes))=some (some (.nilFunc),1,8):=by kernel_rfl
theorem Uf:(prog.info? 257).map (fun i=>(i.zero,i.size,i.bytes))=some (some (.nilFunc),1,8):=by kernel_rfl
theorem Tn:(prog.info? 268).map (fun i=>(i.zero,i.size,i.bytes))=some (some (.nilFunc),1,8):=by kernel_rfl
theorem Uw:(prog.info? 276).map (fun i=>(i.zero,i.size,i.bytes))=some (some (.nilFunc),1,8):=by kernel_rfl
theorem TV:(prog.info? 277).map (fun i=>(i.zero,i.size,i.bytes))=some (some (.nilFunc),1,8):=by kernel_rfl
theorem Tx:(prog.info? 311).map (fun i=>(i.zero,i.size,i.bytes))=some (some (.int .i64 0),1,8):=by kernel_rfl
theorem ok1:TI.ok prog 1 ⟨.func,1,.nilFunc⟩:=⟨⟨_,_,_,underlying1⟩,aG Zp⟩
theorem ok2:TI.ok prog 2 ⟨.int .i64,1,.int .i64 0⟩:=⟨underlying2,aG WW⟩
theorem ok3:TI.ok prog 3 ⟨.int .i64,1,.int .i64 0⟩:=⟨underlying3,aG Vy⟩
theorem ok4:TI.ok prog 4 ⟨.bool,1,.bool false⟩:=⟨underlying4,aG Xl⟩
theorem ok5:TI.ok prog 5 ⟨.int .u8,1,.int .u8 0⟩:=⟨underlying5,aG Vl⟩
theorem ok6:TI.ok prog 6 ⟨.int .u8,1,.int .u8 0⟩:=⟨underlying6,aG YE⟩
theorem ok7:TI.ok prog 7 ⟨.strct [(0,1,false),(1,1,false),(2,1,false),(3,1,false)],4,.agg #[.int .i64 0,.int .i64 0,.bool false,.int .u8 0]⟩:=⟨⟨_,underlying7,by kernel_rfl,by
  intro f hf;simp only[mem_cons,not_mem_nil,or_false]at hf
  (first|(rcases hf with rfl|rfl|rfl|rfl)|(obtain rfl:=hf))<;>exact⟨by kernel_rfl,by kernel_rfl⟩⟩,aG YW⟩
theorem ok8:TI.ok prog 8 ⟨.strct [(0,1,false),(1,1,false),(2,1,false),(3,1,false)],4,.agg #[.int .i64 0,.int .i64 0,.bool false,.int .u8 0]⟩:=⟨⟨_,underlying8,by kernel_rfl,by
  intro f hf;simp only[mem_cons,not_mem_nil,or_false]at hf
  (first|(rcases hf with rfl|rfl|rfl|rfl)|(obtain rfl:=hf))<;>exact⟨by kernel_rfl,by kernel_rfl⟩⟩,aG Y5⟩
theorem ok9:TI.ok prog 9 ⟨.str,1,str []⟩:=⟨underlying9,aG TA⟩
theorem YN:TI.ok prog 10 ⟨.str,1,str []⟩:=⟨underlying10,aG Wa⟩
theorem ZV:TI.ok prog 12 ⟨.int .u64,1,.int .u64 0⟩:=⟨underlying12,aG WZ⟩
theorem ZT:TI.ok prog 20 ⟨.iface,1,.nilIface⟩:=⟨⟨_,underlying20⟩,aG Vc⟩
theorem YL:TI.ok prog 21 ⟨.int .i32,1,.int .i32 0⟩:=⟨underlying21,aG WY⟩
theorem Zk:TI.ok prog 22 ⟨.func,1,.nilFunc⟩:=⟨⟨_,_,_,underlying22⟩,aG Ws⟩
theorem Za:TI.ok prog 23 ⟨.func,1,.nilFunc⟩:=⟨⟨_,_,_,underlying23⟩,aG VM⟩
theorem Zc:TI.ok prog 24 ⟨.slc 9 1 16 (str []),1,.slice none 0 0⟩:=⟨⟨underlying24,ka TA⟩,aG WX⟩
theorem Zr:TI.ok prog 25 ⟨.strct [(0,1,false)],1,.agg #[.slice none 0 0]⟩:=⟨⟨_,underlying25,by kernel_rfl,by
  intro f hf;simp only[mem_cons,not_mem_nil,or_false]at hf
  (first|(rcases hf with rfl)|(obtain rfl:=hf))<;>exact⟨by kernel_rfl,by kernel_rfl⟩⟩,aG Vq⟩
theorem Zh:TI.ok prog 26 ⟨.strct [(0,1,false)],1,.agg #[.slice none 0 0]⟩:=⟨⟨_,underlying26,by kernel_rfl,by
  intro f hf;simp only[mem_cons,not_mem_nil,or_false]at hf
  (first|(rcases hf with rfl)|(obtain rfl:=hf))<;>exact⟨by kernel_rfl,by kernel_rfl⟩⟩,aG Wm⟩
theorem ZN:TI.ok prog 27 ⟨.strct [(0,1,false),(1,1,false),(2,1,true)],3,.agg #[str [],str [],.slice none 0 0]⟩:=⟨⟨_,underlying27,by kernel_rfl,by
  intro f hf;simp only[mem_cons,not_mem_nil,or_false]at hf
  (first|(rcases hf with rfl|rfl|rfl)|(obtain rfl:=hf))<;>exact⟨by kernel_rfl,by kernel_rfl⟩⟩,aG VA⟩
theorem ZH:TI.ok prog 28 ⟨.strct [(0,1,false),(1,1,false),(2,1,true)],3,.agg #[str [],str [],.slice none 0 0]⟩:=⟨⟨_,underlying28,by kernel_rfl,by
  intro f hf;simp only[mem_cons,not_mem_nil,or_false]at hf
  (first|(rcases hf with rfl|rfl|rfl)|(obtain rfl:=hf))<;>exact⟨by kernel_rfl,by kernel_rfl⟩⟩,aG VK⟩
theorem ZA:TI.ok prog 36 ⟨.strct [(0,1,false)],1,.agg #[.slice none 0 0]⟩:=⟨⟨_,underlying36,by kernel_rfl,by
  intro f hf;simp only[mem_cons,not_mem_nil,or_false]at hf
  (first|(rcases hf with rfl)|(obtain rfl:=hf))<;>exact⟨by kernel_rfl,by kernel_rfl⟩⟩,aG W6⟩
theorem ZJ:TI.ok prog 37 ⟨.strct [(0,1,false),(1,1,false),(2,1,true)],3,.agg #[str [],str [],.slice none 0 0]⟩:=⟨⟨_,underlying37,by kernel_rfl,by
  intro f hf;simp only[mem_cons,not_mem_nil,or_false]at hf
  (first|(rcases hf with rfl|rfl|rfl)|(obtain rfl:=hf))<;>exact⟨by kernel_rfl,by kernel_rfl⟩⟩,aG Vd⟩
theorem Yy:TI.ok prog 38 ⟨.strct [(0,1,false),(1,1,false),(2,1,true)],3,.agg #[str [],str [],.slice none 0 0]⟩:=⟨⟨_,underlying38,by kernel_rfl,by
  intro f hf;simp only[mem_cons,not_mem_nil,or_false]at hf
  (first|(rcases hf with rfl|rfl|rfl)|(obtain rfl:=hf))<;>exact⟨by kernel_rfl,by kernel_rfl⟩⟩,aG Xp⟩
theorem Zs:TI.ok prog 43 ⟨.slc 5 1 1 (.int .u8 0),1,.slice none 0 0⟩:=⟨⟨underlying43,ka Vl⟩,aG V5⟩
theorem ZI:TI.ok prog 59 ⟨.flat,1,.pointer none⟩:=⟨⟨_,underlying59,rfl⟩,aG WO⟩
theorem ZB:TI.ok prog 69 ⟨.flat,1,.pointer none⟩:=⟨⟨_,underlying69,rfl⟩,aG VL⟩
theorem YI:TI.ok prog 70 ⟨.strct [(0,1,false),(1,1,false)],2,.agg #[.pointer none,.slice none 0 0]⟩:=⟨⟨_,underlying70,by kernel_rfl,by
  intro f hf;simp only[mem_cons,not_mem_nil,or_false]at hf
  (first|(rcases hf with rfl|rfl)|(obtain rfl:=hf))<;>exact⟨by kernel_rfl,by kernel_rfl⟩⟩,aG VW⟩
theorem Zl:TI.ok prog 71 ⟨.strct [(0,1,false),(1,1,false)],2,.agg #[.pointer none,.slice none 0 0]⟩:=⟨⟨_,underlying71,by kernel_rfl,by
  intro f hf;simp only[mem_cons,not_mem_nil,or_false]at hf
  (first|(rcases hf with rfl|rfl)|(obtain rfl:=hf))<;>exact⟨by kernel_rfl,by kernel_rfl⟩⟩,aG Vb⟩
theorem YM:TI.ok prog 72 ⟨.func,1,.nilFunc⟩:=⟨⟨_,_,_,underlying72⟩,aG VB⟩
theorem Zo:TI.ok prog 73 ⟨.func,1,.nilFunc⟩:=⟨⟨_,_,_,underlying73⟩,aG Xm⟩
theorem Y1:TI.ok prog 76 ⟨.iface,1,.nilIface⟩:=⟨⟨_,underlying76⟩,aG Vh⟩
theorem Zg:TI.ok prog 77 ⟨.iface,1,.nilIface⟩:=⟨⟨_,underlying77⟩,aG WC⟩
theorem YZ:TI.ok prog 81 ⟨.strct [(0,3,true),(3,1,false),(4,1,false)],5,.agg #[str [],str [],.slice none 0 0,str [],.int .i64 0]⟩:=⟨⟨_,underlying81,by kernel_rfl,by
  intro f hf;simp only[mem_cons,not_mem_nil,or_false]at hf
  (first|(rcases hf with rfl|rfl|rfl)|(obtain rfl:=hf))<;>exact⟨by kernel_rfl,by kernel_rfl⟩⟩,aG VI⟩
theorem ZQ:TI.ok prog 82 ⟨.strct [(0,3,true),(3,1,false),(4,1,false)],5,.agg #[str [],str [],.slice none 0 0,str [],.int .i64 0]⟩:=⟨⟨_,underlying82,by kernel_rfl,by
  intro f hf;simp only[mem_cons,not_mem_nil,or_false]at hf
  (first|(rcases hf with rfl|rfl|rfl)|(obtain rfl:=hf))<;>exact⟨by kernel_rfl,by kernel_rfl⟩⟩,aG WL⟩
theorem Zj:TI.ok prog 92 ⟨.slc 2 1 8 (.int .i64 0),1,.slice none 0 0⟩:=⟨⟨underlying92,ka WW⟩,aG Td⟩
theorem Y8:TI.ok prog 96 ⟨.int .u64,1,.int .u64 0⟩:=⟨underlying96,aG Wu⟩
theorem Y4:TI.ok prog 97 ⟨.strct [(0,1,false),(1,1,false),(2,1,false)],3,.agg #[.slice none 0 0,.int .i64 0,.int .u64 0]⟩:=⟨⟨_,underlying97,by kernel_rfl,by
  intro f hf;simp only[mem_cons,not_mem_nil,or_false]at hf
  (first|(rcases hf with rfl|rfl|rfl)|(obtain rfl:=hf))<;>exact⟨by kernel_rfl,by kernel_rfl⟩⟩,aG Vk⟩
theorem YS:TI.ok prog 98 ⟨.strct [(0,1,false),(1,1,false),(2,1,false)],3,.agg #[.slice none 0 0,.int .i64 0,.int .u64 0]⟩:=⟨⟨_,underlying98,by kernel_rfl,by
  intro f hf;simp only[mem_cons,not_mem_nil,or_false]at hf
  (first|(rcases hf with rfl|rfl|rfl)|(obtain rfl:=hf))<;>exact⟨by kernel_rfl,by kernel_rfl⟩⟩,aG W9⟩
theorem ZR:TI.ok prog 99 ⟨.func,1,.nilFunc⟩:=⟨⟨_,_,_,underlying99⟩,aG VG⟩
theorem WA:TI.ok prog 103 ⟨.int .u64,1,.int .u64 0⟩:=⟨underlying103,aG Tg⟩
theorem WM:TI.ok prog 105 ⟨.func,1,.nilFunc⟩:=⟨⟨_,_,_,underlying105⟩,aG Um⟩
theorem Wo:TI.ok prog 111 ⟨.flat,1,.pointer none⟩:=⟨⟨_,underlying111,rfl⟩,aG Ua⟩
theorem V7:TI.ok prog 152 ⟨.func,1,.nilFunc⟩:=⟨⟨_,_,_,underlying152⟩,aG Uc⟩
theorem Wk:TI.ok prog 156 ⟨.slc 3 1 8 (.int .i64 0),1,.slice none 0 0⟩:=⟨⟨underlying156,ka Vy⟩,aG Th⟩
theorem Ww:TI.ok prog 177 ⟨.slc 92 1 24 (.slice none 0 0),1,.slice none 0 0⟩:=⟨⟨underlying177,ka Td⟩,aG TL⟩
theorem WG:TI.ok prog 201 ⟨.flat,1,.map none⟩:=⟨⟨_,underlying201,rfl⟩,aG Us⟩
theorem Vg:TI.ok prog 219 ⟨.slc 4 1 1 (.bool false),1,.slice none 0 0⟩:=⟨⟨underlying219,ka Xl⟩,aG TN⟩
theorem V6:TI.ok prog 230 ⟨.int .u32,1,.int .u32 0⟩:=⟨underlying230,aG TH⟩
theorem VD:TI.ok prog 237 ⟨.arr 3 1 false,3,.agg #[str [],str [],str []]⟩:=⟨⟨_,underlying237,(let ⟨I,a,b,_⟩:=ka TA;⟨I,a,b⟩),by kernel_rfl,by kernel_rfl⟩,aG T3⟩
theorem VZ:TI.ok prog 243 ⟨.func,1,.nilFunc⟩:=⟨⟨_,_,_,underlying243⟩,aG Tl⟩
theorem Wp:TI.ok prog 245 ⟨.func,1,.nilFunc⟩:=⟨⟨_,_,_,underlying245⟩,aG Tw⟩
theorem VR:TI.ok prog 257 ⟨.func,1,.nilFunc⟩:=⟨⟨_,_,_,underlying257⟩,aG Uf⟩
theorem Wy:TI.ok prog 268 ⟨.func,1,.nilFunc⟩:=⟨⟨_,_,_,underlying268⟩,aG Tn⟩
theorem VU:TI.ok prog 276 ⟨.func,1,.nilFunc⟩:=⟨⟨_,_,_,underlying276⟩,aG Uw⟩
theorem Wj:TI.ok prog 277 ⟨.func,1,.nilFunc⟩:=⟨⟨_,_,_,underlying277⟩,aG TV⟩
theorem VN:TI.ok prog 311 ⟨.int .i64,1,.int .i64 0⟩:=⟨underlying311,aG Tx⟩
set_option maxRecDepth 100000 in
theorem Qz:bX prog QD:=by
 intro t i h;unfold QD at h;split at h
 ·injection h with h;subst h;exact ok1
 ·injection h with h;subst h;exact ok2
 ·injection h with h;subst h;exact ok3
 ·injection h with h;subst h;exact ok4
 ·injection h with h;subst h;exact ok5
 ·injection h with h;subst h;exact ok6
 ·injection h with h;subst h;exact ok7
 ·injection h with h;subst h;exact ok8
 ·injection h with h;subst h;exact ok9
 ·injection h with h;subst h;exact YN
 ·injection h with h;subst h;exact ZV
 ·injection h with h;subst h;exact ZT
 ·injection h with h;subst h;exact YL
 ·injection h with h;subst h;exact Zk
 ·injection h with h;subst h;exact Za
 ·injection h with h;subst h;exact Zc
 ·injection h with h;subst h;exact Zr
 ·injection h with h;subst h;exact Zh
 ·injection h with h;subst h;exact ZN
 ·injection h with h;subst h;exact ZH
 ·injection h with h;subst h;exact ZA
 ·injection h with h;subst h;exact ZJ
 ·injection h with h;subst h;exact Yy
 ·injection h with h;subst h;exact Zs
 ·injection h with h;subst h;exact ZI
 ·injection h with h;subst h;exact ZB
 ·injection h with h;subst h;exact YI
 ·injection h with h;subst h;exact Zl
 ·injection h with h;subst h;exact YM
 ·injection h with h;subst h;exact Zo
 ·injection h with h;subst h;exact Y1
 ·injection h with h;subst h;exact Zg
 ·injection h with h;subst h;exact YZ
 ·injection h with h;subst h;exact ZQ
 ·injection h with h;subst h;exact Zj
 ·injection h with h;subst h;exact Y8
 ·injection h with h;subst h;exact Y4
 ·injection h with h;subst h;exact YS
 ·injection h with h;subst h;exact ZR
 ·injection h with h;subst h;exact WA
 ·injection h with h;subst h;exact WM
 ·injection h with h;subst h;exact Wo
 ·injection h with h;subst h;exact V7
 ·injection h with h;subst h;exact Wk
 ·injection h with h;subst h;exact Ww
 ·injection h with h;subst h;exact WG
 ·injection h with h;subst h;exact Vg
 ·injection h with h;subst h;exact V6
 ·injection h with h;subst h;exact VD
 ·injection h with h;subst h;exact VZ
 ·injection h with h;subst h;exact Wp
 ·injection h with h;subst h;exact VR
 ·injection h with h;subst h;exact Wy
 ·injection h with h;subst h;exact VU
 ·injection h with h;subst h;exact Wj
 ·injection h with h;subst h;exact VN
 ·cases h
theorem aR:bX prog tab:=by
 intro t i h;unfold tab at h;exact Qz t i h
end Go.Proofs.YtapimhjbilkfpaaGreatDoor
