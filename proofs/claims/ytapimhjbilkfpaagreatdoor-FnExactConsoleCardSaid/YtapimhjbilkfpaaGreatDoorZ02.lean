/- Lemmas for FnExactConsole, part 3 of 46. -/
import Derived.Test.YtapimhjbilkfpaaGreatDoorZ01
import Derived.Test.YtapimhjbilkfpaaGreatDoorProg
import Derived.KernelRfl
set_option linter.unusedVariables false
set_option linter.unusedSimpArgs false
namespace Go.Proofs.YtapimhjbilkfpaaGreatDoor
open Go Go.Proofs.Tryz List
def MM:Tab:=fun t=>match t with
 | 1=>some ⟨.func,1,.nilFunc⟩
 | 2=>some ⟨.int .i64,1,.int .i64 0⟩
 | 3=>some ⟨.int .i64,1,.int .i64 0⟩
 | 4=>some ⟨.bool,1,.bool false⟩
 | 5=>some ⟨.int .u8,1,.int .u8 0⟩
 | 6=>some ⟨.int .u8,1,.int .u8 0⟩
 | 7=>some ⟨.strct [(0,1,false),(1,1,false),(2,1,false),(3,1,false)],4,.agg #[.int .i64 0,.int .i64 0,.bool false,.int .u8 0]⟩
 | 8=>some ⟨.strct [(0,1,false),(1,1,false),(2,1,false),(3,1,false)],4,.agg #[.int .i64 0,.int .i64 0,.bool false,.int .u8 0]⟩
 | 9=>some ⟨.str,1,str []⟩
 | 10=>some ⟨.str,1,str []⟩
 | 12=>some ⟨.int .u64,1,.int .u64 0⟩
 | 20=>some ⟨.iface,1,.nilIface⟩
 | 21=>some ⟨.int .i32,1,.int .i32 0⟩
 | 22=>some ⟨.func,1,.nilFunc⟩
 | 23=>some ⟨.func,1,.nilFunc⟩
 | 24=>some ⟨.slc 9 1 16 (str []),1,.slice none 0 0⟩
 | 25=>some ⟨.strct [(0,1,false)],1,.agg #[.slice none 0 0]⟩
 | 26=>some ⟨.strct [(0,1,false)],1,.agg #[.slice none 0 0]⟩
 | 27=>some ⟨.strct [(0,1,false),(1,1,false),(2,1,true)],3,.agg #[str [],str [],.slice none 0 0]⟩
 | 28=>some ⟨.strct [(0,1,false),(1,1,false),(2,1,true)],3,.agg #[str [],str [],.slice none 0 0]⟩
 | 36=>some ⟨.strct [(0,1,false)],1,.agg #[.slice none 0 0]⟩
 | 37=>some ⟨.strct [(0,1,false),(1,1,false),(2,1,true)],3,.agg #[str [],str [],.slice none 0 0]⟩
 | 38=>some ⟨.strct [(0,1,false),(1,1,false),(2,1,true)],3,.agg #[str [],str [],.slice none 0 0]⟩
 | 43=>some ⟨.slc 5 1 1 (.int .u8 0),1,.slice none 0 0⟩
 | 59=>some ⟨.flat,1,.pointer none⟩
 | 69=>some ⟨.flat,1,.pointer none⟩
 | 70=>some ⟨.strct [(0,1,false),(1,1,false)],2,.agg #[.pointer none,.slice none 0 0]⟩
 | 71=>some ⟨.strct [(0,1,false),(1,1,false)],2,.agg #[.pointer none,.slice none 0 0]⟩
 | 72=>some ⟨.func,1,.nilFunc⟩
 | 73=>some ⟨.func,1,.nilFunc⟩
 | 76=>some ⟨.iface,1,.nilIface⟩
 | 77=>some ⟨.iface,1,.nilIface⟩
 | 81=>some ⟨.strct [(0,3,true),(3,1,false),(4,1,false)],5,.agg #[str [],str [],.slice none 0 0,str [],.int .i64 0]⟩
 | 82=>some ⟨.strct [(0,3,true),(3,1,false),(4,1,false)],5,.agg #[str [],str [],.slice none 0 0,str [],.int .i64 0]⟩
 | 92=>some ⟨.slc 2 1 8 (.int .i64 0),1,.slice none 0 0⟩
 | 96=>some ⟨.int .u64,1,.int .u64 0⟩
 | 97=>some ⟨.strct [(0,1,false),(1,1,false),(2,1,false)],3,.agg #[.slice none 0 0,.int .i64 0,.int .u64 0]⟩
 | 98=>some ⟨.strct [(0,1,false),(1,1,false),(2,1,false)],3,.agg #[.slice none 0 0,.int .i64 0,.int .u64 0]⟩
 | 99=>some ⟨.func,1,.nilFunc⟩
 | 103=>some ⟨.int .u64,1,.int .u64 0⟩
 | 105=>some ⟨.func,1,.nilFunc⟩
 | 111=>some ⟨.flat,1,.pointer none⟩
 | 152=>some ⟨.func,1,.nilFunc⟩
 | 156=>some ⟨.slc 3 1 8 (.int .i64 0),1,.slice none 0 0⟩
 | 177=>some ⟨.slc 92 1 24 (.slice none 0 0),1,.slice none 0 0⟩
 | 201=>some ⟨.flat,1,.map none⟩
 | 219=>some ⟨.slc 4 1 1 (.bool false),1,.slice none 0 0⟩
 | 230=>some ⟨.int .u32,1,.int .u32 0⟩
 | 237=>some ⟨.arr 3 1 false,3,.agg #[str [],str [],str []]⟩
 | 243=>some ⟨.func,1,.nilFunc⟩
 | 245=>some ⟨.func,1,.nilFunc⟩
 | 257=>some ⟨.func,1,.nilFunc⟩
 | 268=>some ⟨.func,1,.nilFunc⟩
 | 276=>some ⟨.func,1,.nilFunc⟩
 | 277=>some ⟨.func,1,.nilFunc⟩
 | 311=>some ⟨.int .i64,1,.int .i64 0⟩
 | _=>none
def tab:Tab:=fun t=>MM t
@[simp] theorem Y6:tab 1=some ⟨.func,1,.nilFunc⟩:=rfl
@[simp] theorem Y0:tab 2=some ⟨.int .i64,1,.int .i64 0⟩:=rfl
@[simp] theorem Y3:tab 3=some ⟨.int .i64,1,.int .i64 0⟩:=rfl
@[simp] theorem YW:tab 4=some ⟨.bool,1,.bool false⟩:=rfl
@[simp] theorem Y1:tab 5=some ⟨.int .u8,1,.int .u8 0⟩:=rfl
@[simp] theorem YZ:tab 6=some ⟨.int .u8,1,.int .u8 0⟩:=rfl
@[simp] theorem YV:tab 7=some ⟨.strct [(0,1,false),(1,1,false),(2,1,false),(3,1,false)],4,.agg #[.int .i64 0,.int .i64 0,.bool false,.int .u8 0]⟩:=rfl
@[simp] theorem YX:tab 8=some ⟨.strct [(0,1,false),(1,1,false),(2,1,false),(3,1,false)],4,.agg #[.int .i64 0,.int .i64 0,.bool false,.int .u8 0]⟩:=rfl
@[simp] theorem Y4:tab 9=some ⟨.str,1,str []⟩:=rfl
@[simp] theorem Yv:tab 10=some ⟨.str,1,str []⟩:=rfl
@[simp] theorem YN:tab 12=some ⟨.int .u64,1,.int .u64 0⟩:=rfl
@[simp] theorem Yw:tab 20=some ⟨.iface,1,.nilIface⟩:=rfl
@[simp] theorem Yf:tab 21=some ⟨.int .i32,1,.int .i32 0⟩:=rfl
@[simp] theorem Yy:tab 22=some ⟨.func,1,.nilFunc⟩:=rfl
@[simp] theorem YA:tab 23=some ⟨.func,1,.nilFunc⟩:=rfl
@[simp] theorem Yl:tab 24=some ⟨.slc 9 1 16 (str []),1,.slice none 0 0⟩:=rfl
@[simp] theorem Ym:tab 25=some ⟨.strct [(0,1,false)],1,.agg #[.slice none 0 0]⟩:=rfl
@[simp] theorem YC:tab 26=some ⟨.strct [(0,1,false)],1,.agg #[.slice none 0 0]⟩:=rfl
@[simp] theorem Yp:tab 27=some ⟨.strct [(0,1,false),(1,1,false),(2,1,true)],3,.agg #[str [],str [],.slice none 0 0]⟩:=rfl
@[simp] theorem Yt:tab 28=some ⟨.strct [(0,1,false),(1,1,false),(2,1,true)],3,.agg #[str [],str [],.slice none 0 0]⟩:=rfl
@[simp] theorem YJ:tab 36=some ⟨.strct [(0,1,false)],1,.agg #[.slice none 0 0]⟩:=rfl
@[simp] theorem Yu:tab 37=some ⟨.strct [(0,1,false),(1,1,false),(2,1,true)],3,.agg #[str [],str [],.slice none 0 0]⟩:=rfl
@[simp] theorem YP:tab 38=some ⟨.strct [(0,1,false),(1,1,false),(2,1,true)],3,.agg #[str [],str [],.slice none 0 0]⟩:=rfl
@[simp] theorem YK:tab 43=some ⟨.slc 5 1 1 (.int .u8 0),1,.slice none 0 0⟩:=rfl
@[simp] theorem YF:tab 59=some ⟨.flat,1,.pointer none⟩:=rfl
@[simp] theorem Yx:tab 69=some ⟨.flat,1,.pointer none⟩:=rfl
@[simp] theorem YB:tab 70=some ⟨.strct [(0,1,false),(1,1,false)],2,.agg #[.pointer none,.slice none 0 0]⟩:=rfl
@[simp] theorem YG:tab 71=some ⟨.strct [(0,1,false),(1,1,false)],2,.agg #[.pointer none,.slice none 0 0]⟩:=rfl
@[simp] theorem Yj:tab 72=some ⟨.func,1,.nilFunc⟩:=rfl
@[simp] theorem Yi:tab 73=some ⟨.func,1,.nilFunc⟩:=rfl
@[simp] theorem YS:tab 76=some ⟨.iface,1,.nilIface⟩:=rfl
@[simp] theorem Yq:tab 77=some ⟨.iface,1,.nilIface⟩:=rfl
@[simp] theorem Yn:tab 81=some ⟨.strct [(0,3,true),(3,1,false),(4,1,false)],5,.agg #[str [],str [],.slice none 0 0,str [],.int .i64 0]⟩:=rfl
@[simp] theorem Ys:tab 82=some ⟨.strct [(0,3,true),(3,1,false),(4,1,false)],5,.agg #[str [],str [],.slice none 0 0,str [],.int .i64 0]⟩:=rfl
@[simp] theorem YM:tab 92=some ⟨.slc 2 1 8 (.int .i64 0),1,.slice none 0 0⟩:=rfl
@[simp] theorem Yr:tab 96=some ⟨.int .u64,1,.int .u64 0⟩:=rfl
@[simp] theorem YE:tab 97=some ⟨.strct [(0,1,false),(1,1,false),(2,1,false)],3,.agg #[.slice none 0 0,.int .i64 0,.int .u64 0]⟩:=rfl
@[simp] theorem YL:tab 98=some ⟨.strct [(0,1,false),(1,1,false),(2,1,false)],3,.agg #[.slice none 0 0,.int .i64 0,.int .u64 0]⟩:=rfl
@[simp] theorem YO:tab 99=some ⟨.func,1,.nilFunc⟩:=rfl
@[simp] theorem XZ:tab 103=some ⟨.int .u64,1,.int .u64 0⟩:=rfl
@[simp] theorem XK:tab 105=some ⟨.func,1,.nilFunc⟩:=rfl
@[simp] theorem WM:tab 111=some ⟨.flat,1,.pointer none⟩:=rfl
@[simp] theorem Xz:tab 152=some ⟨.func,1,.nilFunc⟩:=rfl
@[simp] theorem Xm:tab 156=some ⟨.slc 3 1 8 (.int .i64 0),1,.slice none 0 0⟩:=rfl
@[simp] theorem XQ:tab 177=some ⟨.slc 92 1 24 (.slice none 0 0),1,.slice none 0 0⟩:=rfl
@[simp] theorem WQ:tab 201=some ⟨.flat,1,.map none⟩:=rfl
@[simp] theorem X3:tab 219=some ⟨.slc 4 1 1 (.bool false),1,.slice none 0 0⟩:=rfl
@[simp] theorem Xi:tab 230=some ⟨.int .u32,1,.int .u32 0⟩:=rfl
@[simp] theorem Xw:tab 237=some ⟨.arr 3 1 false,3,.agg #[str [],str [],str []]⟩:=rfl
@[simp] theorem XD:tab 243=some ⟨.func,1,.nilFunc⟩:=rfl
@[simp] theorem XM:tab 245=some ⟨.func,1,.nilFunc⟩:=rfl
@[simp] theorem Xq:tab 257=some ⟨.func,1,.nilFunc⟩:=rfl
@[simp] theorem XU:tab 268=some ⟨.func,1,.nilFunc⟩:=rfl
@[simp] theorem XE:tab 276=some ⟨.func,1,.nilFunc⟩:=rfl
@[simp] theorem Yc:tab 277=some ⟨.func,1,.nilFunc⟩:=rfl
@[simp] theorem Xx:tab 311=some ⟨.int .i64,1,.int .i64 0⟩:=rfl
theorem jz{t:TypeId}{z:Value}{s b:Nat}(h:(prog.info? t).map (fun i=>(i.zero,i.size,i.bytes))=some (some z,s,b)):∃ I,prog.info? t=some I/\I.size=s/\I.bytes=b/\I.zero=some z:=by
 obtain⟨I,h1,h2⟩:=Option.map_eq_some_iff.1 h;injection h2 with h2 h3
 injection h3 with h3 h4
 exact⟨I,h1,h3,h4,h2⟩
theorem aG{t:TypeId}{z:Value}{s b:Nat}(h:(prog.info? t).map (fun i=>(i.zero,i.size,i.bytes))=some (some z,s,b)):∃ I,prog.info? t=some I/\I.zero=some z/\I.size=s:=by
 obtain⟨I,h1,h2,_,h4⟩:=jz h;exact⟨I,h1,h4,h2⟩
theorem XY:(prog.info? 1).map (fun i=>(i.zero,i.size,i.bytes))=some (some (.nilFunc),1,8):=by kernel_rfl
theorem Ua:(prog.info? 2).map (fun i=>(i.zero,i.size,i.bytes))=some (some (.int .i64 0),1,8):=by kernel_rfl
theorem T2:(prog.info? 3).map (fun i=>(i.zero,i.size,i.bytes))=some (some (.int .i64 0),1,8):=by kernel_rfl
theorem Va:(prog.info? 4).map (fun i=>(i.zero,i.size,i.bytes))=some (some (.bool false),1,1):=by kernel_rfl
theorem Us:(prog.info? 5).map (fun i=>(i.zero,i.size,i.bytes))=some (some (.int .u8 0),1,1):=by kernel_rfl
theorem Xj:(prog.info? 6).map (fun i=>(i.zero,i.size,i.bytes))=some (some (.int .u8 0),1,1):=by kernel_rfl
theorem XF:(prog.info? 7).map (fun i=>(i.zero,i.size,i.bytes))=some (some (.agg #[.int .i64 0,.int .i64 0,.bool false,.int .u8 0]),4,24):=by kernel_rfl
theorem Xv:(prog.info? 8).map (fun i=>(i.zero,i.size,i.bytes))=some (some (.agg #[.int .i64 0,.int .i64 0,.bool false,.int .u8 0]),4,24):=by kernel_rfl
theorem Sx:(prog.info? 9).map (fun i=>(i.zero,i.size,i.bytes))=some (some (str []),1,16):=by kernel_rfl
theorem TF:(prog.info? 10).map (fun i=>(i.zero,i.size,i.bytes))=some (some (str []),1,16):=by kernel_rfl
theorem TA:(prog.info? 12).map (fun i=>(i.zero,i.size,i.bytes))=some (some (.int .u64 0),1,8):=by kernel_rfl
theorem Vo:(prog.info? 20).map (fun i=>(i.zero,i.size,i.bytes))=some (some (.nilIface),1,16):=by kernel_rfl
theorem U3:(prog.info? 21).map (fun i=>(i.zero,i.size,i.bytes))=some (some (.int .i32 0),1,4):=by kernel_rfl
theorem TU:(prog.info? 22).map (fun i=>(i.zero,i.size,i.bytes))=some (some (.nilFunc),1,8):=by kernel_rfl
theorem Vt:(prog.info? 23).map (fun i=>(i.zero,i.size,i.bytes))=some (some (.nilFunc),1,8):=by kernel_rfl
theorem Vc:(prog.info? 24).map (fun i=>(i.zero,i.size,i.bytes))=some (some (.slice none 0 0),1,24):=by kernel_rfl
theorem Vj:(prog.info? 25).map (fun i=>(i.zero,i.size,i.bytes))=some (some (.agg #[.slice none 0 0]),1,24):=by kernel_rfl
theorem Ul:(prog.info? 26).map (fun i=>(i.zero,i.size,i.bytes))=some (some (.agg #[.slice none 0 0]),1,24):=by kernel_rfl
theorem Vm:(prog.info? 27).map (fun i=>(i.zero,i.size,i.bytes))=some (some (.agg #[str [],str [],.slice none 0 0]),3,56):=by kernel_rfl
theorem Uy:(prog.info? 28).map (fun i=>(i.zero,i.size,i.bytes))=some (some (.agg #[str [],str [],.slice none 0 0]),3,56):=by kernel_rfl
theorem TL:(prog.info? 36).map (fun i=>(i.zero,i.size,i.bytes))=some (some (.agg #[.slice none 0 0]),1,24):=by kernel_rfl
theorem Vu:(prog.info? 37).map (fun i=>(i.zero,i.size,i.bytes))=some (some (.agg #[str [],str [],.slice none 0 0]),3,56):=by kernel_rfl
theorem Ux:(prog.info? 38).map (fun i=>(i.zero,i.size,i.bytes))=some (some (.agg #[str [],str [],.slice none 0 0]),3,56):=by kernel_rfl
theorem Ub:(prog.info? 43).map (fun i=>(i.zero,i.size,i.bytes))=some (some (.slice none 0 0),1,24):=by kernel_rfl
theorem Vb:(prog.info? 59).map (fun i=>(i.zero,i.size,i.bytes))=some (some (.pointer none),1,8):=by kernel_rfl
theorem U0:(prog.info? 69).map (fun i=>(i.zero,i.size,i.bytes))=some (some (.pointer none),1,8):=by kernel_rfl
theorem T5:(prog.info? 70).map (fun i=>(i.zero,i.size,i.bytes))=some (some (.agg #[.pointer none,.slice none 0 0]),2,32):=by kernel_rfl
theorem TC:(prog.info? 71).map (fun i=>(i.zero,i.size,i.bytes))=some (some (.agg #[.pointer none,.slice none 0 0]),2,32):=by kernel_rfl
theorem U8:(prog.info? 72).map (fun i=>(i.zero,i.size,i.bytes))=some (some (.nilFunc),1,8):=by kernel_rfl
theorem Uf:(prog.info? 73).map (fun i=>(i.zero,i.size,i.bytes))=some (some (.nilFunc),1,8):=by kernel_rfl
theorem T4:(prog.info? 76).map (fun i=>(i.zero,i.size,i.bytes))=some (some (.nilIface),1,16):=by kernel_rfl
theorem Vd:(prog.info? 77).map (fun i=>(i.zero,i.size,i.bytes))=some (some (.nilIface),1,16):=by kernel_rfl
theorem TX:(prog.info? 81).map (fun i=>(i.zero,i.size,i.bytes))=some (some (.agg #[str [],str [],.slice none 0 0,str [],.int .i64 0]),5,80):=by kernel_rfl
theorem T6:(prog.info? 82).map (fun i=>(i.zero,i.size,i.bytes))=some (some (.agg #[str [],str [],.slice none 0 0,str [],.int .i64 0]),5,80):=by kernel_rfl
theorem Rh:(prog.info? 92).map (fun i=>(i.zero,i.size,i.bytes))=some (some (.slice none 0 0),1,24):=by kernel_rfl
theorem UL:(prog.info? 96).map (fun i=>(i.zero,i.size,i.bytes))=some (some (.int .u64 0),1,8):=by kernel_rfl
theorem TZ:(prog.info? 97).map (fun i=>(i.zero,i.size,i.bytes))=some (some (.agg #[.slice none 0 0,.int .i64 0,.int .u64 0]),3,40):=by kernel_rfl
theorem UK:(prog.info? 98).map (fun i=>(i.zero,i.size,i.bytes))=some (some (.agg #[.slice none 0 0,.int .i64 0,.int .u64 0]),3,40):=by kernel_rfl
theorem Uq:(prog.info? 99).map (fun i=>(i.zero,i.size,i.bytes))=some (some (.nilFunc),1,8):=by kernel_rfl
theorem Sm:(prog.info? 103).map (fun i=>(i.zero,i.size,i.bytes))=some (some (.int .u64 0),1,8):=by kernel_rfl
theorem R3:(prog.info? 105).map (fun i=>(i.zero,i.size,i.bytes))=some (some (.nilFunc),1,8):=by kernel_rfl
theorem R4:(prog.info? 111).map (fun i=>(i.zero,i.size,i.bytes))=some (some (.pointer none),1,8):=by kernel_rfl
theorem SM:(prog.info? 152).map (fun i=>(i.zero,i.size,i.bytes))=some (some (.nilFunc),1,8):=by kernel_rfl
theorem RT:(prog.info? 156).map (fun i=>(i.zero,i.size,i.bytes))=some (some (.slice none 0 0),1,24):=by kernel_rfl
theorem R8:(prog.info? 177).map (fun i=>(i.zero,i.size,i.bytes))=some (some (.slice none 0 0),1,24):=by kernel_rfl
theorem RN:(prog.info? 201).map (fun i=>(i.zero,i.size,i.bytes))=some (some (.map none),1,8):=by kernel_rfl
theorem R9:(prog.info? 219).map (fun i=>(i.zero,i.size,i.bytes))=some (some (.slice none 0 0),1,24):=by kernel_rfl
theorem RF:(prog.info? 230).map (fun i=>(i.zero,i.size,i.bytes))=some (some (.int .u32 0),1,4):=by kernel_rfl
theorem RL:(prog.info? 237).map (fun i=>(i.zero,i.size,i.bytes))=some (some (.agg #[str [],str [],str []]),3,48):=by kernel_rfl
theorem Sr:(prog.info? 243).map (fun i=>(i.zero,i.size,i.bytes))=some (some (.nilFunc),1,8):=by kernel_rfl
theorem SY:(prog.info? 245).map (fun i=>(i.zero,i.size,i.bytes))=some (some (.nilFunc),1,8):=by kernel_rfl
theorem RM:(prog.info? 257).map (fun i=>(i.zero,i.size,i.bytes))=some (some (.nilFunc),1,8):=by kernel_rfl
theorem RD:(prog.info? 268).map (fun i=>(i.zero,i.size,i.bytes))=some (some (.nilFunc),1,8):=by kernel_rfl
theorem Sj:(prog.info? 276).map (fun i=>(i.zero,i.size,i.bytes))=some (some (.nilFunc),1,8):=by kernel_rfl
theorem Sa:(prog.info? 277).map (fun i=>(i.zero,i.size,i.bytes))=some (some (.nilFunc),1,8):=by kernel_rfl
theorem Se:(prog.info? 311).map (fun i=>(i.zero,i.size,i.bytes))=some (some (.int .i64 0),1,8):=by kernel_rfl
theorem ok1:TI.ok prog 1 ⟨.func,1,.nilFunc⟩:=⟨⟨_,_,_,underlying1⟩,aG XY⟩
theorem ok2:TI.ok prog 2 ⟨.int .i64,1,.int .i64 0⟩:=⟨underlying2,aG Ua⟩
theorem ok3:TI.ok prog 3 ⟨.int .i64,1,.int .i64 0⟩:=⟨underlying3,aG T2⟩
theorem ok4:TI.ok prog 4 ⟨.bool,1,.bool false⟩:=⟨underlying4,aG Va⟩
theorem ok5:TI.ok prog 5 ⟨.int .u8,1,.int .u8 0⟩:=⟨underlying5,aG Us⟩
theorem ok6:TI.ok prog 6 ⟨.int .u8,1,.int .u8 0⟩:=⟨underlying6,aG Xj⟩
theorem ok7:TI.ok prog 7 ⟨.strct [(0,1,false),(1,1,false),(2,1,false),(3,1,false)],4,.agg #[.int .i64 0,.int .i64 0,.bool false,.int .u8 0]⟩:=⟨⟨_,underlying7,by kernel_rfl,by
  intro f hf;simp only[mem_cons,not_mem_nil,or_false]at hf
  (first|(rcases hf with rfl|rfl|rfl|rfl)|(obtain rfl:=hf))<;>exact⟨by kernel_rfl,by kernel_rfl⟩⟩,aG XF⟩
theorem ok8:TI.ok prog 8 ⟨.strct [(0,1,false),(1,1,false),(2,1,false),(3,1,false)],4,.agg #[.int .i64 0,.int .i64 0,.bool false,.int .u8 0]⟩:=⟨⟨_,underlying8,by kernel_rfl,by
  intro f hf;simp only[mem_cons,not_mem_nil,or_false]at hf
  (first|(rcases hf with rfl|rfl|rfl|rfl)|(obtain rfl:=hf))<;>exact⟨by kernel_rfl,by kernel_rfl⟩⟩,aG Xv⟩
theorem ok9:TI.ok prog 9 ⟨.str,1,str []⟩:=⟨underlying9,aG Sx⟩
theorem XX:TI.ok prog 10 ⟨.str,1,str []⟩:=⟨underlying10,aG TF⟩
theorem WW:TI.ok prog 12 ⟨.int .u64,1,.int .u64 0⟩:=⟨underlying12,aG TA⟩
theorem Xr:TI.ok prog 20 ⟨.iface,1,.nilIface⟩:=⟨⟨_,underlying20⟩,aG Vo⟩
theorem WV:TI.ok prog 21 ⟨.int .i32,1,.int .i32 0⟩:=⟨underlying21,aG U3⟩
theorem WL:TI.ok prog 22 ⟨.func,1,.nilFunc⟩:=⟨⟨_,_,_,underlying22⟩,aG TU⟩
theorem WX:TI.ok prog 23 ⟨.func,1,.nilFunc⟩:=⟨⟨_,_,_,underlying23⟩,aG Vt⟩
theorem Xe:TI.ok prog 24 ⟨.slc 9 1 16 (str []),1,.slice none 0 0⟩:=⟨⟨underlying24,jz Sx⟩,aG Vc⟩
theorem XC:TI.ok prog 25 ⟨.strct [(0,1,false)],1,.agg #[.slice none 0 0]⟩:=⟨⟨_,underlying25,by kernel_rfl,by
  intro f hf;simp only[mem_cons,not_mem_nil,or_false]at hf
  (first|(rcases hf with rfl)|(obtain rfl:=hf))<;>exact⟨by kernel_rfl,by kernel_rfl⟩⟩,aG Vj⟩
theorem Xg:TI.ok prog 26 ⟨.strct [(0,1,false)],1,.agg #[.slice none 0 0]⟩:=⟨⟨_,underlying26,by kernel_rfl,by
  intro f hf;simp only[mem_cons,not_mem_nil,or_false]at hf
  (first|(rcases hf with rfl)|(obtain rfl:=hf))<;>exact⟨by kernel_rfl,by kernel_rfl⟩⟩,aG Ul⟩
theorem Xa:TI.ok prog 27 ⟨.strct [(0,1,false),(1,1,false),(2,1,true)],3,.agg #[str [],str [],.slice none 0 0]⟩:=⟨⟨_,underlying27,by kernel_rfl,by
  intro f hf;simp only[mem_cons,not_mem_nil,or_false]at hf
  (first|(rcases hf with rfl|rfl|rfl)|(obtain rfl:=hf))<;>exact⟨by kernel_rfl,by kernel_rfl⟩⟩,aG Vm⟩
theorem X9:TI.ok prog 28 ⟨.strct [(0,1,false),(1,1,false),(2,1,true)],3,.agg #[str [],str [],.slice none 0 0]⟩:=⟨⟨_,underlying28,by kernel_rfl,by
  intro f hf;simp only[mem_cons,not_mem_nil,or_false]at hf
  (first|(rcases hf with rfl|rfl|rfl)|(obtain rfl:=hf))<;>exact⟨by kernel_rfl,by kernel_rfl⟩⟩,aG Uy⟩
theorem Ya:TI.ok prog 36 ⟨.strct [(0,1,false)],1,.agg #[.slice none 0 0]⟩:=⟨⟨_,underlying36,by kernel_rfl,by
  intro f hf;simp only[mem_cons,not_mem_nil,or_false]at hf
  (first|(rcases hf with rfl)|(obtain rfl:=hf))<;>exact⟨by kernel_rfl,by kernel_rfl⟩⟩,aG TL⟩
theorem Xp:TI.ok prog 37 ⟨.strct [(0,1,false),(1,1,false),(2,1,true)],3,.agg #[str [],str [],.slice none 0 0]⟩:=⟨⟨_,underlying37,by kernel_rfl,by
  intro f hf;simp only[mem_cons,not_mem_nil,or_false]at hf
  (first|(rcases hf with rfl|rfl|rfl)|(obtain rfl:=hf))<;>exact⟨by kernel_rfl,by kernel_rfl⟩⟩,aG Vu⟩
theorem X0:TI.ok prog 38 ⟨.strct [(0,1,false),(1,1,false),(2,1,true)],3,.agg #[str [],str [],.slice none 0 0]⟩:=⟨⟨_,underlying38,by kernel_rfl,by
  intro f hf;simp only[mem_cons,not_mem_nil,or_false]at hf
  (first|(rcases hf with rfl|rfl|rfl)|(obtain rfl:=hf))<;>exact⟨by kernel_rfl,by kernel_rfl⟩⟩,aG Ux⟩
theorem XN:TI.ok prog 43 ⟨.slc 5 1 1 (.int .u8 0),1,.slice none 0 0⟩:=⟨⟨underlying43,jz Us⟩,aG Ub⟩
theorem WY:TI.ok prog 59 ⟨.flat,1,.pointer none⟩:=⟨⟨_,underlying59,rfl⟩,aG Vb⟩
theorem W6:TI.ok prog 69 ⟨.flat,1,.pointer none⟩:=⟨⟨_,underlying69,rfl⟩,aG U0⟩
theorem X6:TI.ok prog 70 ⟨.strct [(0,1,false),(1,1,false)],2,.agg #[.pointer none,.slice none 0 0]⟩:=⟨⟨_,underlying70,by kernel_rfl,by
  intro f hf;simp only[mem_cons,not_mem_nil,or_false]at hf
  (first|(rcases hf with rfl|rfl)|(obtain rfl:=hf))<;>exact⟨by kernel_rfl,by kernel_rfl⟩⟩,aG T5⟩
theorem Xb:TI.ok prog 71 ⟨.strct [(0,1,false),(1,1,false)],2,.agg #[.pointer none,.slice none 0 0]⟩:=⟨⟨_,underlying71,by kernel_rfl,by
  intro f hf;simp only[mem_cons,not_mem_nil,or_false]at hf
  (first|(rcases hf with rfl|rfl)|(obtain rfl:=hf))<;>exact⟨by kernel_rfl,by kernel_rfl⟩⟩,aG TC⟩
theorem X1:TI.ok prog 72 ⟨.func,1,.nilFunc⟩:=⟨⟨_,_,_,underlying72⟩,aG U8⟩
theorem WU:TI.ok prog 73 ⟨.func,1,.nilFunc⟩:=⟨⟨_,_,_,underlying73⟩,aG Uf⟩
theorem X8:TI.ok prog 76 ⟨.iface,1,.nilIface⟩:=⟨⟨_,underlying76⟩,aG T4⟩
theorem XH:TI.ok prog 77 ⟨.iface,1,.nilIface⟩:=⟨⟨_,underlying77⟩,aG Vd⟩
theorem Xu:TI.ok prog 81 ⟨.strct [(0,3,true),(3,1,false),(4,1,false)],5,.agg #[str [],str [],.slice none 0 0,str [],.int .i64 0]⟩:=⟨⟨_,underlying81,by kernel_rfl,by
  intro f hf;simp only[mem_cons,not_mem_nil,or_false]at hf
  (first|(rcases hf with rfl|rfl|rfl)|(obtain rfl:=hf))<;>exact⟨by kernel_rfl,by kernel_rfl⟩⟩,aG TX⟩
theorem XW:TI.ok prog 82 ⟨.strct [(0,3,true),(3,1,false),(4,1,false)],5,.agg #[str [],str [],.slice none 0 0,str [],.int .i64 0]⟩:=⟨⟨_,underlying82,by kernel_rfl,by
  intro f hf;simp only[mem_cons,not_mem_nil,or_false]at hf
  (first|(rcases hf with rfl|rfl|rfl)|(obtain rfl:=hf))<;>exact⟨by kernel_rfl,by kernel_rfl⟩⟩,aG T6⟩
theorem XT:TI.ok prog 92 ⟨.slc 2 1 8 (.int .i64 0),1,.slice none 0 0⟩:=⟨⟨underlying92,jz Ua⟩,aG Rh⟩
theorem X2:TI.ok prog 96 ⟨.int .u64,1,.int .u64 0⟩:=⟨underlying96,aG UL⟩
theorem XO:TI.ok prog 97 ⟨.strct [(0,1,false),(1,1,false),(2,1,false)],3,.agg #[.slice none 0 0,.int .i64 0,.int .u64 0]⟩:=⟨⟨_,underlying97,by kernel_rfl,by
  intro f hf;simp only[mem_cons,not_mem_nil,or_false]at hf
  (first|(rcases hf with rfl|rfl|rfl)|(obtain rfl:=hf))<;>exact⟨by kernel_rfl,by kernel_rfl⟩⟩,aG TZ⟩
theorem XR:TI.ok prog 98 ⟨.strct [(0,1,false),(1,1,false),(2,1,false)],3,.agg #[.slice none 0 0,.int .i64 0,.int .u64 0]⟩:=⟨⟨_,underlying98,by kernel_rfl,by
  intro f hf;simp only[mem_cons,not_mem_nil,or_false]at hf
  (first|(rcases hf with rfl|rfl|rfl)|(obtain rfl:=hf))<;>exact⟨by kernel_rfl,by kernel_rfl⟩⟩,aG UK⟩
theorem X5:TI.ok prog 99 ⟨.func,1,.nilFunc⟩:=⟨⟨_,_,_,underlying99⟩,aG Uq⟩
theorem UC:TI.ok prog 103 ⟨.int .u64,1,.int .u64 0⟩:=⟨underlying103,aG Sm⟩
theorem TH:TI.ok prog 105 ⟨.func,1,.nilFunc⟩:=⟨⟨_,_,_,underlying105⟩,aG R3⟩
theorem Uh:TI.ok prog 111 ⟨.flat,1,.pointer none⟩:=⟨⟨_,underlying111,rfl⟩,aG R4⟩
theorem Vv:TI.ok prog 152 ⟨.func,1,.nilFunc⟩:=⟨⟨_,_,_,underlying152⟩,aG SM⟩
theorem Ui:TI.ok prog 156 ⟨.slc 3 1 8 (.int .i64 0),1,.slice none 0 0⟩:=⟨⟨underlying156,jz T2⟩,aG RT⟩
theorem Uk:TI.ok prog 177 ⟨.slc 92 1 24 (.slice none 0 0),1,.slice none 0 0⟩:=⟨⟨underlying177,jz Rh⟩,aG R8⟩
theorem Ur:TI.ok prog 201 ⟨.flat,1,.map none⟩:=⟨⟨_,underlying201,rfl⟩,aG RN⟩
theorem Uz:TI.ok prog 219 ⟨.slc 4 1 1 (.bool false),1,.slice none 0 0⟩:=⟨⟨underlying219,jz Va⟩,aG R9⟩
theorem Ut:TI.ok prog 230 ⟨.int .u32,1,.int .u32 0⟩:=⟨underlying230,aG RF⟩
theorem Vi:TI.ok prog 237 ⟨.arr 3 1 false,3,.agg #[str [],str [],str []]⟩:=⟨⟨_,underlying237,(let ⟨I,a,b,_⟩:=jz Sx;⟨I,a,b⟩),by kernel_rfl,by kernel_rfl⟩,aG RL⟩
theorem T1:TI.ok prog 243 ⟨.func,1,.nilFunc⟩:=⟨⟨_,_,_,underlying243⟩,aG Sr⟩
theorem UE:TI.ok prog 245 ⟨.func,1,.nilFunc⟩:=⟨⟨_,_,_,underlying245⟩,aG SY⟩
theorem T0:TI.ok prog 257 ⟨.func,1,.nilFunc⟩:=⟨⟨_,_,_,underlying257⟩,aG RM⟩
theorem Ud:TI.ok prog 268 ⟨.func,1,.nilFunc⟩:=⟨⟨_,_,_,underlying268⟩,aG RD⟩
theorem Ue:TI.ok prog 276 ⟨.func,1,.nilFunc⟩:=⟨⟨_,_,_,underlying276⟩,aG Sj⟩
theorem Vw:TI.ok prog 277 ⟨.func,1,.nilFunc⟩:=⟨⟨_,_,_,underlying277⟩,aG Sa⟩
theorem Tx:TI.ok prog 311 ⟨.int .i64,1,.int .i64 0⟩:=⟨underlying311,aG Se⟩
set_option maxRecDepth 100000 in
theorem NP:bU prog MM:=by
 intro t i h;unfold MM at h;split at h
 ·injection h with h;subst h;exact ok1
 ·injection h with h;subst h;exact ok2
 ·injection h with h;subst h;exact ok3
 ·injection h with h;subst h;exact ok4
 ·injection h with h;subst h;exact ok5
 ·injection h with h;subst h;exact ok6
 ·injection h with h;subst h;exact ok7
 ·injection h with h;subst h;exact ok8
 ·injection h with h;subst h;exact ok9
 ·injection h with h;subst h;exact XX
 ·injection h with h;subst h;exact WW
 ·injection h with h;subst h;exact Xr
 ·injection h with h;subst h;exact WV
 ·injection h with h;subst h;exact WL
 ·injection h with h;subst h;exact WX
 ·injection h with h;subst h;exact Xe
 ·injection h with h;subst h;exact XC
 ·injection h with h;subst h;exact Xg
 ·injection h with h;subst h;exact Xa
 ·injection h with h;subst h;exact X9
 ·injection h with h;subst h;exact Ya
 ·injection h with h;subst h;exact Xp
 ·injection h with h;subst h;exact X0
 ·injection h with h;subst h;exact XN
 ·injection h with h;subst h;exact WY
 ·injection h with h;subst h;exact W6
 ·injection h with h;subst h;exact X6
 ·injection h with h;subst h;exact Xb
 ·injection h with h;subst h;exact X1
 ·injection h with h;subst h;exact WU
 ·injection h with h;subst h;exact X8
 ·injection h with h;subst h;exact XH
 ·injection h with h;subst h;exact Xu
 ·injection h with h;subst h;exact XW
 ·injection h with h;subst h;exact XT
 ·injection h with h;subst h;exact X2
 ·injection h with h;subst h;exact XO
 ·injection h with h;subst h;exact XR
 ·injection h with h;subst h;exact X5
 ·injection h with h;subst h;exact UC
 ·injection h with h;subst h;exact TH
 ·injection h with h;subst h;exact Uh
 ·injection h with h;subst h;exact Vv
 ·injection h with h;subst h;exact Ui
 ·injection h with h;subst h;exact Uk
 ·injection h with h;subst h;exact Ur
 ·injection h with h;subst h;exact Uz
 ·injection h with h;subst h;exact Ut
 ·injection h with h;subst h;exact Vi
 ·injection h with h;subst h;exact T1
 ·injection h with h;subst h;exact UE
 ·injection h with h;subst h;exact T0
 ·injection h with h;subst h;exact Ud
 ·injection h with h;subst h;exact Ue
 ·injection h with h;subst h;exact Vw
 ·injection h with h;subst h;exact Tx
 ·cases h
theorem aR:bU prog tab:=by
 intro t i h;unfold tab at h;exact NP t i h
end Go.Proofs.YtapimhjbilkfpaaGreatDoor
