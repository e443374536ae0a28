/- Lemmas for FnExactConsole, part 3 of 46. -/
import Derived.Test.YtapimhjbilkfpaaGreatDoorZ01
import Derived.Test.YtapimhjbilkfpaaGreatDoorProg
import Derived.KernelRfl
set_option linter.unusedVariables false
set_option linter.unusedSimpArgs false
namespace Go.Proofs.YtapimhjbilkfpaaGreatDoor
open Go Go.Proofs.Tryz List
def Pf:Tab:=fun t=>match t with
 | 1=>some ⟨.func,1,.nilFunc⟩
 | 2=>some ⟨.int .i64,1,.int .i64 0⟩
 | 3=>some ⟨.int .i64,1,.int .i64 0⟩
 | 4=>some ⟨.bool,1,.bool false⟩
 | 5=>some ⟨.int .u8,1,.int .u8 0⟩
 | 6=>some ⟨.int .u8,1,.int .u8 0⟩
 | 7=>some ⟨.strct [(0,1,false),(1,1,false),(2,1,false),(3,1,false)],4,.agg #[.int .i64 0,.int .i64 0,.bool false,.int .u8 0]⟩
 | 8=>some ⟨.strct [(0,1,false),(1,1,false),(2,1,false),(3,1,false)],4,.agg #[.int .i64 0,.int .i64 0,.bool false,.int .u8 0]⟩
 | 9=>some ⟨.str,1,str []⟩
 | 10=>some ⟨.str,1,str []⟩
 | 12=>some ⟨.int .u64,1,.int .u64 0⟩
 | 20=>some ⟨.iface,1,.nilIface⟩
 | 21=>some ⟨.int .i32,1,.int .i32 0⟩
 | 22=>some ⟨.func,1,.nilFunc⟩
 | 23=>some ⟨.func,1,.nilFunc⟩
 | 24=>some ⟨.slc 9 1 16 (str []),1,.slice none 0 0⟩
 | 25=>some ⟨.strct [(0,1,false)],1,.agg #[.slice none 0 0]⟩
 | 26=>some ⟨.strct [(0,1,false)],1,.agg #[.slice none 0 0]⟩
 | 27=>some ⟨.strct [(0,1,false),(1,1,false),(2,1,true)],3,.agg #[str [],str [],.slice none 0 0]⟩
 | 28=>some ⟨.strct [(0,1,false),(1,1,false),(2,1,true)],3,.agg #[str [],str [],.slice none 0 0]⟩
 | 36=>some ⟨.strct [(0,1,false)],1,.agg #[.slice none 0 0]⟩
 | 37=>some ⟨.strct [(0,1,false),(1,1,false),(2,1,true)],3,.agg #[str [],str [],.slice none 0 0]⟩
 | 38=>some ⟨.strct [(0,1,false),(1,1,false),(2,1,true)],3,.agg #[str [],str [],.slice none 0 0]⟩
 | 43=>some ⟨.slc 5 1 1 (.int .u8 0),1,.slice none 0 0⟩
 | 59=>some ⟨.flat,1,.pointer none⟩
 | 69=>some ⟨.flat,1,.pointer none⟩
 | 70=>some ⟨.strct [(0,1,false),(1,1,false)],2,.agg #[.pointer none,.slice none 0 0]⟩
 | 71=>some ⟨.strct [(0,1,false),(1,1,false)],2,.agg #[.pointer none,.slice none 0 0]⟩
 | 72=>some ⟨.func,1,.nilFunc⟩
 | 73=>some ⟨.func,1,.nilFunc⟩
 | 76=>some ⟨.iface,1,.nilIface⟩
 | 77=>some ⟨.iface,1,.nilIface⟩
 | 81=>some ⟨.strct [(0,3,true),(3,1,false),(4,1,false)],5,.agg #[str [],str [],.slice none 0 0,str [],.int .i64 0]⟩
 | 82=>some ⟨.strct [(0,3,true),(3,1,false),(4,1,false)],5,.agg #[str [],str [],.slice none 0 0,str [],.int .i64 0]⟩
 | 92=>some ⟨.slc 2 1 8 (.int .i64 0),1,.slice none 0 0⟩
 | 96=>some ⟨.int .u64,1,.int .u64 0⟩
 | 97=>some ⟨.strct [(0,1,false),(1,1,false),(2,1,false)],3,.agg #[.slice none 0 0,.int .i64 0,.int .u64 0]⟩
 | 98=>some ⟨.strct [(0,1,false),(1,1,false),(2,1,false)],3,.agg #[.slice none 0 0,.int .i64 0,.int .u64 0]⟩
 | 99=>some ⟨.func,1,.nilFunc⟩
 | 103=>some ⟨.int .u64,1,.int .u64 0⟩
 | 105=>some ⟨.func,1,.nilFunc⟩
 | 111=>some ⟨.flat,1,.pointer none⟩
 | 152=>some ⟨.func,1,.nilFunc⟩
 | 156=>some ⟨.slc 3 1 8 (.int .i64 0),1,.slice none 0 0⟩
 | 177=>some ⟨.slc 92 1 24 (.slice none 0 0),1,.slice none 0 0⟩
 | 201=>some ⟨.flat,1,.map none⟩
 | 219=>some ⟨.slc 4 1 1 (.bool false),1,.slice none 0 0⟩
 | 230=>some ⟨.int .u32,1,.int .u32 0⟩
 | 237=>some ⟨.arr 3 1 false,3,.agg #[str [],str [],str []]⟩
 | 243=>some ⟨.func,1,.nilFunc⟩
 | 245=>some ⟨.func,1,.nilFunc⟩
 | 257=>some ⟨.func,1,.nilFunc⟩
 | 268=>some ⟨.func,1,.nilFunc⟩
 | 276=>some ⟨.func,1,.nilFunc⟩
 | 277=>some ⟨.func,1,.nilFunc⟩
 | 311=>some ⟨.int .i64,1,.int .i64 0⟩
 | _=>none
def tab:Tab:=fun t=>Pf t
@[simp] theorem YY:tab 1=some ⟨.func,1,.nilFunc⟩:=rfl
@[simp] theorem Y1:tab 2=some ⟨.int .i64,1,.int .i64 0⟩:=rfl
@[simp] theorem Y4:tab 3=some ⟨.int .i64,1,.int .i64 0⟩:=rfl
@[simp] theorem YX:tab 4=some ⟨.bool,1,.bool false⟩:=rfl
@[simp] theorem Y0:tab 5=some ⟨.int .u8,1,.int .u8 0⟩:=rfl
@[simp] theorem Y3:tab 6=some ⟨.int .u8,1,.int .u8 0⟩:=rfl
@[simp] theorem YU:tab 7=some ⟨.strct [(0,1,false),(1,1,false),(2,1,false),(3,1,false)],4,.agg #[.int .i64 0,.int .i64 0,.bool false,.int .u8 0]⟩:=rfl
@[simp] theorem YZ:tab 8=some ⟨.strct [(0,1,false),(1,1,false),(2,1,false),(3,1,false)],4,.agg #[.int .i64 0,.int .i64 0,.bool false,.int .u8 0]⟩:=rfl
@[simp] theorem Y7:tab 9=some ⟨.str,1,str []⟩:=rfl
@[simp] theorem Yl:tab 10=some ⟨.str,1,str []⟩:=rfl
@[simp] theorem Ym:tab 12=some ⟨.int .u64,1,.int .u64 0⟩:=rfl
@[simp] theorem Yg:tab 20=some ⟨.iface,1,.nilIface⟩:=rfl
@[simp] theorem YA:tab 21=some ⟨.int .i32,1,.int .i32 0⟩:=rfl
@[simp] theorem YB:tab 22=some ⟨.func,1,.nilFunc⟩:=rfl
@[simp] theorem YF:tab 23=some ⟨.func,1,.nilFunc⟩:=rfl
@[simp] theorem YN:tab 24=some ⟨.slc 9 1 16 (str []),1,.slice none 0 0⟩:=rfl
@[simp] theorem YJ:tab 25=some ⟨.strct [(0,1,false)],1,.agg #[.slice none 0 0]⟩:=rfl
@[simp] theorem Ys:tab 26=some ⟨.strct [(0,1,false)],1,.agg #[.slice none 0 0]⟩:=rfl
@[simp] theorem YE:tab 27=some ⟨.strct [(0,1,false),(1,1,false),(2,1,true)],3,.agg #[str [],str [],.slice none 0 0]⟩:=rfl
@[simp] theorem Yu:tab 28=some ⟨.strct [(0,1,false),(1,1,false),(2,1,true)],3,.agg #[str [],str [],.slice none 0 0]⟩:=rfl
@[simp] theorem YO:tab 36=some ⟨.strct [(0,1,false)],1,.agg #[.slice none 0 0]⟩:=rfl
@[simp] theorem Yw:tab 37=some ⟨.strct [(0,1,false),(1,1,false),(2,1,true)],3,.agg #[str [],str [],.slice none 0 0]⟩:=rfl
@[simp] theorem Yz:tab 38=some ⟨.strct [(0,1,false),(1,1,false),(2,1,true)],3,.agg #[str [],str [],.slice none 0 0]⟩:=rfl
@[simp] theorem Yy:tab 43=some ⟨.slc 5 1 1 (.int .u8 0),1,.slice none 0 0⟩:=rfl
@[simp] theorem YC:tab 59=some ⟨.flat,1,.pointer none⟩:=rfl
@[simp] theorem Yh:tab 69=some ⟨.flat,1,.pointer none⟩:=rfl
@[simp] theorem Yq:tab 70=some ⟨.strct [(0,1,false),(1,1,false)],2,.agg #[.pointer none,.slice none 0 0]⟩:=rfl
@[simp] theorem Yx:tab 71=some ⟨.strct [(0,1,false),(1,1,false)],2,.agg #[.pointer none,.slice none 0 0]⟩:=rfl
@[simp] theorem YG:tab 72=some ⟨.func,1,.nilFunc⟩:=rfl
@[simp] theorem YQ:tab 73=some ⟨.func,1,.nilFunc⟩:=rfl
@[simp] theorem Yp:tab 76=some ⟨.iface,1,.nilIface⟩:=rfl
@[simp] theorem YD:tab 77=some ⟨.iface,1,.nilIface⟩:=rfl
@[simp] theorem YK:tab 81=some ⟨.strct [(0,3,true),(3,1,false),(4,1,false)],5,.agg #[str [],str [],.slice none 0 0,str [],.int .i64 0]⟩:=rfl
@[simp] theorem Yj:tab 82=some ⟨.strct [(0,3,true),(3,1,false),(4,1,false)],5,.agg #[str [],str [],.slice none 0 0,str [],.int .i64 0]⟩:=rfl
@[simp] theorem YR:tab 92=some ⟨.slc 2 1 8 (.int .i64 0),1,.slice none 0 0⟩:=rfl
@[simp] theorem YS:tab 96=some ⟨.int .u64,1,.int .u64 0⟩:=rfl
@[simp] theorem Yv:tab 97=some ⟨.strct [(0,1,false),(1,1,false),(2,1,false)],3,.agg #[.slice none 0 0,.int .i64 0,.int .u64 0]⟩:=rfl
@[simp] theorem YI:tab 98=some ⟨.strct [(0,1,false),(1,1,false),(2,1,false)],3,.agg #[.slice none 0 0,.int .i64 0,.int .u64 0]⟩:=rfl
@[simp] theorem Yn:tab 99=some ⟨.func,1,.nilFunc⟩:=rfl
@[simp] theorem WM:tab 103=some ⟨.int .u64,1,.int .u64 0⟩:=rfl
@[simp] theorem X0:tab 105=some ⟨.func,1,.nilFunc⟩:=rfl
@[simp] theorem Xk:tab 111=some ⟨.flat,1,.pointer none⟩:=rfl
@[simp] theorem XA:tab 152=some ⟨.func,1,.nilFunc⟩:=rfl
@[simp] theorem Xy:tab 156=some ⟨.slc 3 1 8 (.int .i64 0),1,.slice none 0 0⟩:=rfl
@[simp] theorem Xs:tab 177=some ⟨.slc 92 1 24 (.slice none 0 0),1,.slice none 0 0⟩:=rfl
@[simp] theorem Xl:tab 201=some ⟨.flat,1,.map none⟩:=rfl
@[simp] theorem Xc:tab 219=some ⟨.slc 4 1 1 (.bool false),1,.slice none 0 0⟩:=rfl
@[simp] theorem X8:tab 230=some ⟨.int .u32,1,.int .u32 0⟩:=rfl
@[simp] theorem XU:tab 237=some ⟨.arr 3 1 false,3,.agg #[str [],str [],str []]⟩:=rfl
@[simp] theorem WV:tab 243=some ⟨.func,1,.nilFunc⟩:=rfl
@[simp] theorem W8:tab 245=some ⟨.func,1,.nilFunc⟩:=rfl
@[simp] theorem XB:tab 257=some ⟨.func,1,.nilFunc⟩:=rfl
@[simp] theorem XI:tab 268=some ⟨.func,1,.nilFunc⟩:=rfl
@[simp] theorem Xw:tab 276=some ⟨.func,1,.nilFunc⟩:=rfl
@[simp] theorem Yf:tab 277=some ⟨.func,1,.nilFunc⟩:=rfl
@[simp] theorem WX:tab 311=some ⟨.int .i64,1,.int .i64 0⟩:=rfl
theorem jz{t:TypeId}{z:Value}{s b:Nat}(h:(prog.info? t).map (fun i=>(i.zero,i.size,i.bytes))=some (some z,s,b)):∃ I,prog.info? t=some I/\I.size=s/\I.bytes=b/\I.zero=some z:=by
 obtain⟨I,h1,h2⟩:=Option.map_eq_some_iff.1 h;injection h2 with h2 h3
 injection h3 with h3 h4
 exact⟨I,h1,h3,h4,h2⟩
theorem aG{t:TypeId}{z:Value}{s b:Nat}(h:(prog.info? t).map (fun i=>(i.zero,i.size,i.bytes))=some (some z,s,b)):∃ I,prog.info? t=some I/\I.zero=some z/\I.size=s:=by
 obtain⟨I,h1,h2,_,h4⟩:=jz h;exact⟨I,h1,h4,h2⟩
theorem Xh:(prog.info? 1).map (fun i=>(i.zero,i.size,i.bytes))=some (some (.nilFunc),1,8):=by kernel_rfl
theorem T4:(prog.info? 2).map (fun i=>(i.zero,i.size,i.bytes))=some (some (.int .i64 0),1,8):=by kernel_rfl
theorem TS:(prog.info? 3).map (fun i=>(i.zero,i.size,i.bytes))=some (some (.int .i64 0),1,8):=by kernel_rfl
theorem Vj:(prog.info? 4).map (fun i=>(i.zero,i.size,i.bytes))=some (some (.bool false),1,1):=by kernel_rfl
theorem UT:(prog.info? 5).map (fun i=>(i.zero,i.size,i.bytes))=some (some (.int .u8 0),1,1):=by kernel_rfl
theorem Xj:(prog.info? 6).map (fun i=>(i.zero,i.size,i.bytes))=some (some (.int .u8 0),1,1):=by kernel_rfl
theorem X9:(prog.info? 7).map (fun i=>(i.zero,i.size,i.bytes))=some (some (.agg #[.int .i64 0,.int .i64 0,.bool false,.int .u8 0]),4,24):=by kernel_rfl
theorem Yd:(prog.info? 8).map (fun i=>(i.zero,i.size,i.bytes))=some (some (.agg #[.int .i64 0,.int .i64 0,.bool false,.int .u8 0]),4,24):=by kernel_rfl
theorem Sk:(prog.info? 9).map (fun i=>(i.zero,i.size,i.bytes))=some (some (str []),1,16):=by kernel_rfl
theorem Uw:(prog.info? 10).map (fun i=>(i.zero,i.size,i.bytes))=some (some (str []),1,16):=by kernel_rfl
theorem UE:(prog.info? 12).map (fun i=>(i.zero,i.size,i.bytes))=some (some (.int .u64 0),1,8):=by kernel_rfl
theorem Uk:(prog.info? 20).map (fun i=>(i.zero,i.size,i.bytes))=some (some (.nilIface),1,16):=by kernel_rfl
theorem Ut:(prog.info? 21).map (fun i=>(i.zero,i.size,i.bytes))=some (some (.int .i32 0),1,4):=by kernel_rfl
theorem Um:(prog.info? 22).map (fun i=>(i.zero,i.size,i.bytes))=some (some (.nilFunc),1,8):=by kernel_rfl
theorem Va:(prog.info? 23).map (fun i=>(i.zero,i.size,i.bytes))=some (some (.nilFunc),1,8):=by kernel_rfl
theorem TT:(prog.info? 24).map (fun i=>(i.zero,i.size,i.bytes))=some (some (.slice none 0 0),1,24):=by kernel_rfl
theorem Ty:(prog.info? 25).map (fun i=>(i.zero,i.size,i.bytes))=some (some (.agg #[.slice none 0 0]),1,24):=by kernel_rfl
theorem Uv:(prog.info? 26).map (fun i=>(i.zero,i.size,i.bytes))=some (some (.agg #[.slice none 0 0]),1,24):=by kernel_rfl
theorem Vr:(prog.info? 27).map (fun i=>(i.zero,i.size,i.bytes))=some (some (.agg #[str [],str [],.slice none 0 0]),3,56):=by kernel_rfl
theorem TQ:(prog.info? 28).map (fun i=>(i.zero,i.size,i.bytes))=some (some (.agg #[str [],str [],.slice none 0 0]),3,56):=by kernel_rfl
theorem T7:(prog.info? 36).map (fun i=>(i.zero,i.size,i.bytes))=some (some (.agg #[.slice none 0 0]),1,24):=by kernel_rfl
theorem Vu:(prog.info? 37).map (fun i=>(i.zero,i.size,i.bytes))=some (some (.agg #[str [],str [],.slice none 0 0]),3,56):=by kernel_rfl
theorem TC:(prog.info? 38).map (fun i=>(i.zero,i.size,i.bytes))=some (some (.agg #[str [],str [],.slice none 0 0]),3,56):=by kernel_rfl
theorem Up:(prog.info? 43).map (fun i=>(i.zero,i.size,i.bytes))=some (some (.slice none 0 0),1,24):=by kernel_rfl
theorem Uz:(prog.info? 59).map (fun i=>(i.zero,i.size,i.bytes))=some (some (.pointer none),1,8):=by kernel_rfl
theorem Vk:(prog.info? 69).map (fun i=>(i.zero,i.size,i.bytes))=some (some (.pointer none),1,8):=by kernel_rfl
theorem TM:(prog.info? 70).map (fun i=>(i.zero,i.size,i.bytes))=some (some (.agg #[.pointer none,.slice none 0 0]),2,32):=by kernel_rfl
theorem UB:(prog.info? 71).map (fun i=>(i.zero,i.size,i.bytes))=some (some (.agg #[.pointer none,.slice none 0 0]),2,32):=by kernel_rfl
theorem UG:(prog.info? 72).map (fun i=>(i.zero,i.size,i.bytes))=some (some (.nilFunc),1,8):=by kernel_rfl
theorem Vc:(prog.info? 73).map (fun i=>(i.zero,i.size,i.bytes))=some (some (.nilFunc),1,8):=by kernel_rfl
theorem Us:(prog.info? 76).map (fun i=>(i.zero,i.size,i.bytes))=some (some (.nilIface),1,16):=by kernel_rfl
theorem Ue:(prog.info? 77).map (fun i=>(i.zero,i.size,i.bytes))=some (some (.nilIface),1,16):=by kernel_rfl
theorem Ub:(prog.info? 81).map (fun i=>(i.zero,i.size,i.bytes))=some (some (.agg #[str [],str [],.slice none 0 0,str [],.int .i64 0]),5,80):=by kernel_rfl
theorem Uc:(prog.info? 82).map (fun i=>(i.zero,i.size,i.bytes))=some (some (.agg #[str [],str [],.slice none 0 0,str [],.int .i64 0]),5,80):=by kernel_rfl
theorem Q7:(prog.info? 92).map (fun i=>(i.zero,i.size,i.bytes))=some (some (.slice none 0 0),1,24):=by kernel_rfl
theorem Vm:(prog.info? 96).map (fun i=>(i.zero,i.size,i.bytes))=some (some (.int .u64 0),1,8):=by kernel_rfl
theorem UX:(prog.info? 97).map (fun i=>(i.zero,i.size,i.bytes))=some (some (.agg #[.slice none 0 0,.int .i64 0,.int .u64 0]),3,40):=by kernel_rfl
theorem UF:(prog.info? 98).map (fun i=>(i.zero,i.size,i.bytes))=some (some (.agg #[.slice none 0 0,.int .i64 0,.int .u64 0]),3,40):=by kernel_rfl
theorem Uo:(prog.info? 99).map (fun i=>(i.zero,i.size,i.bytes))=some (some (.nilFunc),1,8):=by kernel_rfl
theorem SE:(prog.info? 103).map (fun i=>(i.zero,i.size,i.bytes))=some (some (.int .u64 0),1,8):=by kernel_rfl
theorem Sv:(prog.info? 105).map (fun i=>(i.zero,i.size,i.bytes))=some (some (.nilFunc),1,8):=by kernel_rfl
theorem SZ:(prog.info? 111).map (fun i=>(i.zero,i.size,i.bytes))=some (some (.pointer none),1,8):=by kernel_rfl
theorem SO:(prog.info? 152).map (fun i=>(i.zero,i.size,i.bytes))=some (some (.nilFunc),1,8):=by kernel_rfl
theorem SC:(prog.info? 156).map (fun i=>(i.zero,i.size,i.bytes))=some (some (.slice none 0 0),1,24):=by kernel_rfl
theorem SJ:(prog.info? 177).map (fun i=>(i.zero,i.size,i.bytes))=some (some (.slice none 0 0),1,24):=by kernel_rfl
theorem SL:(prog.info? 201).map (fun i=>(i.zero,i.size,i.bytes))=some (some (.map none),1,8):=by kernel_rfl
theorem Sd:(prog.info? 219).map (fun i=>(i.zero,i.size,i.bytes))=some (some (.slice none 0 0),1,24):=by kernel_rfl
theorem Sj:(prog.info? 230).map (fun i=>(i.zero,i.size,i.bytes))=some (some (.int .u32 0),1,4):=by kernel_rfl
theorem RQ:(prog.info? 237).map (fun i=>(i.zero,i.size,i.bytes))=some (some (.agg #[str [],str [],str []]),3,48):=by kernel_rfl
theorem SK:(prog.info? 243).map (fun i=>(i.zero,i.size,i.bytes))=some (some (.nilFunc),1,8):=by kernel_rfl
theorem Sh:(prog.info? 245).map (fun i=>(i.zero,i.size,i.bytes))=some (some (.nilFunc),1,8):=by kernel_rfl
theorem SY:(prog.info? 257).map (fun i=>(i.zero,i.size,i.bytes))=some (some (.nilFunc),1,8):=by kernel_rfl
theorem Sc:(prog.info? 268).map (fun i=>(i.zero,i.size,i.bytes))=some (some (.nilFunc),1,8):=by kernel_rfl
theorem RI:(prog.info? 276).map (fun i=>(i.zero,i.size,i.bytes))=some (some (.nilFunc),1,8):=by kernel_rfl
theorem Su:(prog.info? 277).map (fun i=>(i.zero,i.size,i.bytes))=some (some (.nilFunc),1,8):=by kernel_rfl
theorem R1:(prog.info? 311).map (fun i=>(i.zero,i.size,i.bytes))=some (some (.int .i64 0),1,8):=by kernel_rfl
theorem ok1:TI.ok prog 1 ⟨.func,1,.nilFunc⟩:=⟨⟨_,_,_,underlying1⟩,aG Xh⟩
theorem ok2:TI.ok prog 2 ⟨.int .i64,1,.int .i64 0⟩:=⟨underlying2,aG T4⟩
theorem ok3:TI.ok prog 3 ⟨.int .i64,1,.int .i64 0⟩:=⟨underlying3,aG TS⟩
theorem ok4:TI.ok prog 4 ⟨.bool,1,.bool false⟩:=⟨underlying4,aG Vj⟩
theorem ok5:TI.ok prog 5 ⟨.int .u8,1,.int .u8 0⟩:=⟨underlying5,aG UT⟩
theorem ok6:TI.ok prog 6 ⟨.int .u8,1,.int .u8 0⟩:=⟨underlying6,aG Xj⟩
theorem ok7:TI.ok prog 7 ⟨.strct [(0,1,false),(1,1,false),(2,1,false),(3,1,false)],4,.agg #[.int .i64 0,.int .i64 0,.bool false,.int .u8 0]⟩:=⟨⟨_,underlying7,by kernel_rfl,by
  intro f hf;simp only[mem_cons,not_mem_nil,or_false]at hf
  (first|(rcases hf with rfl|rfl|rfl|rfl)|(obtain rfl:=hf))<;>exact⟨by kernel_rfl,by kernel_rfl⟩⟩,aG X9⟩
theorem ok8:TI.ok prog 8 ⟨.strct [(0,1,false),(1,1,false),(2,1,false),(3,1,false)],4,.agg #[.int .i64 0,.int .i64 0,.bool false,.int .u8 0]⟩:=⟨⟨_,underlying8,by kernel_rfl,by
  intro f hf;simp only[mem_cons,not_mem_nil,or_false]at hf
  (first|(rcases hf with rfl|rfl|rfl|rfl)|(obtain rfl:=hf))<;>exact⟨by kernel_rfl,by kernel_rfl⟩⟩,aG Yd⟩
theorem ok9:TI.ok prog 9 ⟨.str,1,str []⟩:=⟨underlying9,aG Sk⟩
theorem Xn:TI.ok prog 10 ⟨.str,1,str []⟩:=⟨underlying10,aG Uw⟩
theorem XD:TI.ok prog 12 ⟨.int .u64,1,.int .u64 0⟩:=⟨underlying12,aG UE⟩
theorem WZ:TI.ok prog 20 ⟨.iface,1,.nilIface⟩:=⟨⟨_,underlying20⟩,aG Uk⟩
theorem WR:TI.ok prog 21 ⟨.int .i32,1,.int .i32 0⟩:=⟨underlying21,aG Ut⟩
theorem X3:TI.ok prog 22 ⟨.func,1,.nilFunc⟩:=⟨⟨_,_,_,underlying22⟩,aG Um⟩
theorem XE:TI.ok prog 23 ⟨.func,1,.nilFunc⟩:=⟨⟨_,_,_,underlying23⟩,aG Va⟩
theorem Xo:TI.ok prog 24 ⟨.slc 9 1 16 (str []),1,.slice none 0 0⟩:=⟨⟨underlying24,jz Sk⟩,aG TT⟩
theorem X4:TI.ok prog 25 ⟨.strct [(0,1,false)],1,.agg #[.slice none 0 0]⟩:=⟨⟨_,underlying25,by kernel_rfl,by
  intro f hf;simp only[mem_cons,not_mem_nil,or_false]at hf
  (first|(rcases hf with rfl)|(obtain rfl:=hf))<;>exact⟨by kernel_rfl,by kernel_rfl⟩⟩,aG Ty⟩
theorem XX:TI.ok prog 26 ⟨.strct [(0,1,false)],1,.agg #[.slice none 0 0]⟩:=⟨⟨_,underlying26,by kernel_rfl,by
  intro f hf;simp only[mem_cons,not_mem_nil,or_false]at hf
  (first|(rcases hf with rfl)|(obtain rfl:=hf))<;>exact⟨by kernel_rfl,by kernel_rfl⟩⟩,aG Uv⟩
theorem XO:TI.ok prog 27 ⟨.strct [(0,1,false),(1,1,false),(2,1,true)],3,.agg #[str [],str [],.slice none 0 0]⟩:=⟨⟨_,underlying27,by kernel_rfl,by
  intro f hf;simp only[mem_cons,not_mem_nil,or_false]at hf
  (first|(rcases hf with rfl|rfl|rfl)|(obtain rfl:=hf))<;>exact⟨by kernel_rfl,by kernel_rfl⟩⟩,aG Vr⟩
theorem Ye:TI.ok prog 28 ⟨.strct [(0,1,false),(1,1,false),(2,1,true)],3,.agg #[str [],str [],.slice none 0 0]⟩:=⟨⟨_,underlying28,by kernel_rfl,by
  intro f hf;simp only[mem_cons,not_mem_nil,or_false]at hf
  (first|(rcases hf with rfl|rfl|rfl)|(obtain rfl:=hf))<;>exact⟨by kernel_rfl,by kernel_rfl⟩⟩,aG TQ⟩
theorem XR:TI.ok prog 36 ⟨.strct [(0,1,false)],1,.agg #[.slice none 0 0]⟩:=⟨⟨_,underlying36,by kernel_rfl,by
  intro f hf;simp only[mem_cons,not_mem_nil,or_false]at hf
  (first|(rcases hf with rfl)|(obtain rfl:=hf))<;>exact⟨by kernel_rfl,by kernel_rfl⟩⟩,aG T7⟩
theorem W6:TI.ok prog 37 ⟨.strct [(0,1,false),(1,1,false),(2,1,true)],3,.agg #[str [],str [],.slice none 0 0]⟩:=⟨⟨_,underlying37,by kernel_rfl,by
  intro f hf;simp only[mem_cons,not_mem_nil,or_false]at hf
  (first|(rcases hf with rfl|rfl|rfl)|(obtain rfl:=hf))<;>exact⟨by kernel_rfl,by kernel_rfl⟩⟩,aG Vu⟩
theorem XV:TI.ok prog 38 ⟨.strct [(0,1,false),(1,1,false),(2,1,true)],3,.agg #[str [],str [],.slice none 0 0]⟩:=⟨⟨_,underlying38,by kernel_rfl,by
  intro f hf;simp only[mem_cons,not_mem_nil,or_false]at hf
  (first|(rcases hf with rfl|rfl|rfl)|(obtain rfl:=hf))<;>exact⟨by kernel_rfl,by kernel_rfl⟩⟩,aG TC⟩
theorem WS:TI.ok prog 43 ⟨.slc 5 1 1 (.int .u8 0),1,.slice none 0 0⟩:=⟨⟨underlying43,jz UT⟩,aG Up⟩
theorem XT:TI.ok prog 59 ⟨.flat,1,.pointer none⟩:=⟨⟨_,underlying59,rfl⟩,aG Uz⟩
theorem X1:TI.ok prog 69 ⟨.flat,1,.pointer none⟩:=⟨⟨_,underlying69,rfl⟩,aG Vk⟩
theorem XM:TI.ok prog 70 ⟨.strct [(0,1,false),(1,1,false)],2,.agg #[.pointer none,.slice none 0 0]⟩:=⟨⟨_,underlying70,by kernel_rfl,by
  intro f hf;simp only[mem_cons,not_mem_nil,or_false]at hf
  (first|(rcases hf with rfl|rfl)|(obtain rfl:=hf))<;>exact⟨by kernel_rfl,by kernel_rfl⟩⟩,aG TM⟩
theorem Xd:TI.ok prog 71 ⟨.strct [(0,1,false),(1,1,false)],2,.agg #[.pointer none,.slice none 0 0]⟩:=⟨⟨_,underlying71,by kernel_rfl,by
  intro f hf;simp only[mem_cons,not_mem_nil,or_false]at hf
  (first|(rcases hf with rfl|rfl)|(obtain rfl:=hf))<;>exact⟨by kernel_rfl,by kernel_rfl⟩⟩,aG UB⟩
theorem Xp:TI.ok prog 72 ⟨.func,1,.nilFunc⟩:=⟨⟨_,_,_,underlying72⟩,aG UG⟩
theorem XK:TI.ok prog 73 ⟨.func,1,.nilFunc⟩:=⟨⟨_,_,_,underlying73⟩,aG Vc⟩
theorem Xi:TI.ok prog 76 ⟨.iface,1,.nilIface⟩:=⟨⟨_,underlying76⟩,aG Us⟩
theorem WU:TI.ok prog 77 ⟨.iface,1,.nilIface⟩:=⟨⟨_,underlying77⟩,aG Ue⟩
theorem W7:TI.ok prog 81 ⟨.strct [(0,3,true),(3,1,false),(4,1,false)],5,.agg #[str [],str [],.slice none 0 0,str [],.int .i64 0]⟩:=⟨⟨_,underlying81,by kernel_rfl,by
  intro f hf;simp only[mem_cons,not_mem_nil,or_false]at hf
  (first|(rcases hf with rfl|rfl|rfl)|(obtain rfl:=hf))<;>exact⟨by kernel_rfl,by kernel_rfl⟩⟩,aG Ub⟩
theorem Xa:TI.ok prog 82 ⟨.strct [(0,3,true),(3,1,false),(4,1,false)],5,.agg #[str [],str [],.slice none 0 0,str [],.int .i64 0]⟩:=⟨⟨_,underlying82,by kernel_rfl,by
  intro f hf;simp only[mem_cons,not_mem_nil,or_false]at hf
  (first|(rcases hf with rfl|rfl|rfl)|(obtain rfl:=hf))<;>exact⟨by kernel_rfl,by kernel_rfl⟩⟩,aG Uc⟩
theorem Xv:TI.ok prog 92 ⟨.slc 2 1 8 (.int .i64 0),1,.slice none 0 0⟩:=⟨⟨underlying92,jz T4⟩,aG Q7⟩
theorem XW:TI.ok prog 96 ⟨.int .u64,1,.int .u64 0⟩:=⟨underlying96,aG Vm⟩
theorem XY:TI.ok prog 97 ⟨.strct [(0,1,false),(1,1,false),(2,1,false)],3,.agg #[.slice none 0 0,.int .i64 0,.int .u64 0]⟩:=⟨⟨_,underlying97,by kernel_rfl,by
  intro f hf;simp only[mem_cons,not_mem_nil,or_false]at hf
  (first|(rcases hf with rfl|rfl|rfl)|(obtain rfl:=hf))<;>exact⟨by kernel_rfl,by kernel_rfl⟩⟩,aG UX⟩
theorem X7:TI.ok prog 98 ⟨.strct [(0,1,false),(1,1,false),(2,1,false)],3,.agg #[.slice none 0 0,.int .i64 0,.int .u64 0]⟩:=⟨⟨_,underlying98,by kernel_rfl,by
  intro f hf;simp only[mem_cons,not_mem_nil,or_false]at hf
  (first|(rcases hf with rfl|rfl|rfl)|(obtain rfl:=hf))<;>exact⟨by kernel_rfl,by kernel_rfl⟩⟩,aG UF⟩
theorem Xz:TI.ok prog 99 ⟨.func,1,.nilFunc⟩:=⟨⟨_,_,_,underlying99⟩,aG Uo⟩
theorem T3:TI.ok prog 103 ⟨.int .u64,1,.int .u64 0⟩:=⟨underlying103,aG SE⟩
theorem TL:TI.ok prog 105 ⟨.func,1,.nilFunc⟩:=⟨⟨_,_,_,underlying105⟩,aG Sv⟩
theorem TK:TI.ok prog 111 ⟨.flat,1,.pointer none⟩:=⟨⟨_,underlying111,rfl⟩,aG SZ⟩
theorem Vg:TI.ok prog 152 ⟨.func,1,.nilFunc⟩:=⟨⟨_,_,_,underlying152⟩,aG SO⟩
theorem Vh:TI.ok prog 156 ⟨.slc 3 1 8 (.int .i64 0),1,.slice none 0 0⟩:=⟨⟨underlying156,jz TS⟩,aG SC⟩
theorem Uj:TI.ok prog 177 ⟨.slc 92 1 24 (.slice none 0 0),1,.slice none 0 0⟩:=⟨⟨underlying177,jz Q7⟩,aG SJ⟩
theorem T1:TI.ok prog 201 ⟨.flat,1,.map none⟩:=⟨⟨_,underlying201,rfl⟩,aG SL⟩
theorem UM:TI.ok prog 219 ⟨.slc 4 1 1 (.bool false),1,.slice none 0 0⟩:=⟨⟨underlying219,jz Vj⟩,aG Sd⟩
theorem Vw:TI.ok prog 230 ⟨.int .u32,1,.int .u32 0⟩:=⟨underlying230,aG Sj⟩
theorem Ux:TI.ok prog 237 ⟨.arr 3 1 false,3,.agg #[str [],str [],str []]⟩:=⟨⟨_,underlying237,(let ⟨I,a,b,_⟩:=jz Sk;⟨I,a,b⟩),by kernel_rfl,by kernel_rfl⟩,aG RQ⟩
theorem T5:TI.ok prog 243 ⟨.func,1,.nilFunc⟩:=⟨⟨_,_,_,underlying243⟩,aG SK⟩
theorem TZ:TI.ok prog 245 ⟨.func,1,.nilFunc⟩:=⟨⟨_,_,_,underlying245⟩,aG Sh⟩
theorem Ug:TI.ok prog 257 ⟨.func,1,.nilFunc⟩:=⟨⟨_,_,_,underlying257⟩,aG SY⟩
theorem T8:TI.ok prog 268 ⟨.func,1,.nilFunc⟩:=⟨⟨_,_,_,underlying268⟩,aG Sc⟩
theorem Un:TI.ok prog 276 ⟨.func,1,.nilFunc⟩:=⟨⟨_,_,_,underlying276⟩,aG RI⟩
theorem T0:TI.ok prog 277 ⟨.func,1,.nilFunc⟩:=⟨⟨_,_,_,underlying277⟩,aG Su⟩
theorem Ul:TI.ok prog 311 ⟨.int .i64,1,.int .i64 0⟩:=⟨underlying311,aG R1⟩
set_option maxRecDepth 100000 in
theorem Nw:bU prog Pf:=by
 intro t i h;unfold Pf at h;split at h
 ·injection h with h;subst h;exact ok1
 ·injection h with h;subst h;exact ok2
 ·injection h with h;subst h;exact ok3
 ·injection h with h;subst h;exact ok4
 ·injection h with h;subst h;exact ok5
 ·injection h with h;subst h;exact ok6
 ·injection h with h;subst h;exact ok7
 ·injection h with h;subst h;exact ok8
 ·injection h with h;subst h;exact ok9
 ·injection h with h;subst h;exact Xn
 ·injection h with h;subst h;exact XD
 ·injection h with h;subst h;exact WZ
 ·injection h with h;subst h;exact WR
 ·injection h with h;subst h;exact X3
 ·injection h with h;subst h;exact XE
 ·injection h with h;subst h;exact Xo
 ·injection h with h;subst h;exact X4
 ·injection h with h;subst h;exact XX
 ·injection h with h;subst h;exact XO
 ·injection h with h;subst h;exact Ye
 ·injection h with h;subst h;exact XR
 ·injection h with h;subst h;exact W6
 ·injection h with h;subst h;exact XV
 ·injection h with h;subst h;exact WS
 ·injection h with h;subst h;exact XT
 ·injection h with h;subst h;exact X1
 ·injection h with h;subst h;exact XM
 ·injection h with h;subst h;exact Xd
 ·injection h with h;subst h;exact Xp
 ·injection h with h;subst h;exact XK
 ·injection h with h;subst h;exact Xi
 ·injection h with h;subst h;exact WU
 ·injection h with h;subst h;exact W7
 ·injection h with h;subst h;exact Xa
 ·injection h with h;subst h;exact Xv
 ·injection h with h;subst h;exact XW
 ·injection h with h;subst h;exact XY
 ·injection h with h;subst h;exact X7
 ·injection h with h;subst h;exact Xz
 ·injection h with h;subst h;exact T3
 ·injection h with h;subst h;exact TL
 ·injection h with h;subst h;exact TK
 ·injection h with h;subst h;exact Vg
 ·injection h with h;subst h;exact Vh
 ·injection h with h;subst h;exact Uj
 ·injection h with h;subst h;exact T1
 ·injection h with h;subst h;exact UM
 ·injection h with h;subst h;exact Vw
 ·injection h with h;subst h;exact Ux
 ·injection h with h;subst h;exact T5
 ·injection h with h;subst h;exact TZ
 ·injection h with h;subst h;exact Ug
 ·injection h with h;subst h;exact T8
 ·injection h with h;subst h;exact Un
 ·injection h with h;subst h;exact T0
 ·injection h with h;subst h;exact Ul
 ·cases h
theorem aR:bU prog tab:=by
 intro t i h;unfold tab at h;exact Nw t i h
end Go.Proofs.YtapimhjbilkfpaaGreatDoor
