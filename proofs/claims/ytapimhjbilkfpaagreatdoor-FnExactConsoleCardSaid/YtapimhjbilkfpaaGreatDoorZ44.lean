/- Lemmas for FnExactConsole, part 45 of 46. -/
import Derived.Test.YtapimhjbilkfpaaGreatDoorZ43
import Derived.Test.YtapimhjbilkfpaaGreatDoorZ04
set_option linter.unusedVariables false
set_option linter.unusedSimpArgs false
namespace Go.Proofs.YtapimhjbilkfpaaGreatDoor
open Go Go.Proofs.Tryz Go.RowKit Go.Shelf List
set_option maxRecDepth 4000
def Kd:Code:=(Code.region 0 #[{ dst:=(some 2),op:=(Op.alloc 28),type:=0,pos:="l11_console.go:321",after:=#[],guard:=none },{ dst:=(some 3),op:=(Op.alloc 9),type:=0,pos:="l11_console.go:321",after:=#[],guard:=none },{ dst:=(some 4),op:=(Op.alloc 4),type:=0,pos:="l11_console.go:321",after:=#[],guard:=none }] false)
def Jp:Code:=(Code.seq (Code.region 1 #[{ dst:=(some 11),op:=(Op.move (Operand.tmp 0)),type:=9,pos:="l11_console.go:322",after:=#[],guard:=none },{ dst:=(some 12),op:=(Op.call { callee:=(Callee.builtin Builtin.len),args:=#[(Operand.tmp 11)],argTypes:=#[9] }),type:=3,pos:="l11_console.go:322",after:=#[{ on:=0,ground:=Ground.data }],guard:=none },{ dst:=(some 13),op:=(Op.binOp BinOp.gtr 3 (Operand.tmp 12) (Operand.const (Value.int IntKind.i64 4000)) 3),type:=4,pos:="l11_console.go:322",after:=#[{ on:=1,ground:=Ground.data }],guard:=none }] false) (Code.cond (Operand.tmp 13) (Code.seq (Code.region 2 #[{ dst:=(some 14),op:=(Op.build 28 #[]),type:=28,pos:="l11_console.go:323",after:=#[],guard:=none },{ dst:=none,op:=(Op.store 28 (Operand.tmp 2) (Operand.tmp 14)),type:=0,pos:="l11_console.go:323",after:=#[{ on:=0,ground:=Ground.data },{ on:=0,ground:=Ground.phase }],guard:=none },{ dst:=none,op:=(Op.store 9 (Operand.tmp 3) (Operand.const (Value.string { data:=#[] }))),type:=0,pos:="l11_console.go:323",after:=#[{ on:=1,ground:=Ground.chain },{ on:=0,ground:=Ground.phase },{ on:=1,ground:=Ground.phase }],guard:=none },{ dst:=none,op:=(Op.store 4 (Operand.tmp 4) (Operand.const (Value.bool false))),type:=0,pos:="l11_console.go:323",after:=#[{ on:=2,ground:=Ground.chain },{ on:=0,ground:=Ground.phase },{ on:=1,ground:=Ground.phase },{ on:=2,ground:=Ground.phase }],guard:=none }] false) Code.ret) Code.skip))
def Kc:Code:=(Code.region 3 #[{ dst:=(some 15),op:=(Op.call { callee:=(Callee.value (Operand.func 13)),args:=#[],argTypes:=#[] }),type:=28,pos:="l11_console.go:325",after:=#[],guard:=none },{ dst:=(some 5),op:=(Op.alloc 28),type:=0,pos:="l11_console.go:325",after:=#[],guard:=none },{ dst:=(some 6),op:=(Op.alloc 3),type:=0,pos:="l11_console.go:325",after:=#[],guard:=none },{ dst:=none,op:=(Op.store 28 (Operand.tmp 5) (Operand.tmp 15)),type:=0,pos:="l11_console.go:325",after:=#[{ on:=1,ground:=Ground.data },{ on:=0,ground:=Ground.data },{ on:=0,ground:=Ground.chain },{ on:=0,ground:=Ground.phase },{ on:=1,ground:=Ground.phase },{ on:=2,ground:=Ground.phase }],guard:=none },{ dst:=none,op:=(Op.store 3 (Operand.tmp 6) (Operand.const (Value.int IntKind.i64 0))),type:=0,pos:="l11_console.go:325",after:=#[{ on:=2,ground:=Ground.data },{ on:=3,ground:=Ground.chain },{ on:=0,ground:=Ground.phase },{ on:=1,ground:=Ground.phase },{ on:=2,ground:=Ground.phase },{ on:=3,ground:=Ground.phase }],guard:=none }] false)
def GW:Oper:={ dst:=(some 7),op:=(Op.alloc 71),type:=0,pos:="l11_console.go:326",after:=#[],guard:=none }
def Ra:Code:=.region 4 #[GW] false
def C1:Oper:={ dst:=(some 16),op:=(Op.move (Operand.tmp 0)),type:=9,pos:="l11_console.go:327",after:=#[],guard:=none }
def DB:Oper:={ dst:=(some 17),op:=(Op.call { callee:=(Callee.value (Operand.func 53)),args:=#[(Operand.tmp 16)],argTypes:=#[9] }),type:=73,pos:="l11_console.go:327",after:=#[{ on:=0,ground:=Ground.data }],guard:=none }
def Q7:Code:=.region 5 #[C1,DB] false
def y6:Code:=.block 0 (.rangeFunc (Operand.tmp 17) #[18] iF wV)
def vy:Oper:={ dst:=(some 38),op:=(Op.load 28 (Operand.tmp 5)),type:=28,pos:="l11_console.go:339",after:=#[],guard:=none }
def vd:Oper:={ dst:=(some 39),op:=(Op.call { callee:=(Callee.value (Operand.func 30)),args:=#[(Operand.tmp 38)],argTypes:=#[28] }),type:=28,pos:="l11_console.go:339",after:=#[{ on:=0,ground:=Ground.data }],guard:=none }
def AI:Oper:={ dst:=(some 40),op:=(Op.call { callee:=(Callee.value (Operand.func 56)),args:=#[(Operand.tmp 7)],argTypes:=#[71] }),type:=9,pos:="l11_console.go:339",after:=#[{ on:=1,ground:=Ground.chain }],guard:=none }
def rv:Oper:={ dst:=none,op:=(Op.store 28 (Operand.tmp 2) (Operand.tmp 39)),type:=0,pos:="l11_console.go:339",after:=#[{ on:=1,ground:=Ground.data },{ on:=2,ground:=Ground.chain },{ on:=0,ground:=Ground.phase },{ on:=1,ground:=Ground.phase },{ on:=2,ground:=(Ground.textOnly Departure.lateStoresUnsure) }],guard:=none }
def rZ:Oper:={ dst:=none,op:=(Op.store 9 (Operand.tmp 3) (Operand.tmp 40)),type:=0,pos:="l11_console.go:339",after:=#[{ on:=2,ground:=Ground.data },{ on:=3,ground:=Ground.chain },{ on:=0,ground:=Ground.phase },{ on:=1,ground:=Ground.phase },{ on:=2,ground:=Ground.phase },{ on:=3,ground:=Ground.phase }],guard:=none }
def qV:Oper:={ dst:=none,op:=(Op.store 4 (Operand.tmp 4) (Operand.const (Value.bool true))),type:=0,pos:="l11_console.go:339",after:=#[{ on:=4,ground:=Ground.chain },{ on:=0,ground:=Ground.phase },{ on:=1,ground:=Ground.phase },{ on:=2,ground:=Ground.phase },{ on:=3,ground:=Ground.phase },{ on:=4,ground:=Ground.phase }],guard:=none }
def DQ:Code:=.region 15 #[vy,vd,AI,rv,rZ,qV] false
def Jr:Code:=QK [Kd,Jp,Kc] (.seq Ra (.seq (.seq Q7 y6) (.seq DQ .ret)))
theorem Nf:Tryz.f27.body=some Jr:=by kernel_rfl
def Du(l:List UInt8):Option (Dk×List UInt8):=if l.length<=4000 then goX l.length l 0 (eU,[]) else none
theorem Bc{M0 N:Mem}{w0 w:World}(h:Ext M0 w0 N w)(o:Obj):Ext M0 w0 N (w.alloc o):=
 ⟨h.os,h.tape,h.output,Nat.le_trans h.size (by simp),fun b hb ho=>(Below.heap_alloc _ _ b (Nat.lt_of_lt_of_le hb h.size)).trans (h.block b hb ho),h.own⟩
theorem AS{N:Mem}{w:World}(h:Rep N w)(o:Obj):Rep N (w.alloc o):=fun b B hB=>Blk.holds_of (Below.heap_alloc _ _ b (jI h hB)) (h b B hB)
theorem pS{M0:Mem}{w0:World}{b7:Nat}{N:Mem}{W:World}{out:List UInt8}(h:Core M0 w0 b7 N W out)(o:Obj):Core M0 w0 b7 N (W.alloc o) out:=by
 obtain⟨p,v,hp,hb,ho,hne,hg,hz⟩:=h.bd;exact⟨AS h.rep o,Bc h.ext o,h.n7,p,v,hp,(Below.heap_alloc _ _ _ (aO hb)).trans hb,qg ho fun g o' hgo hgh=>(Below.heap_alloc _ _ g (aO hgh)).trans hgh,hne,hg,hz⟩
theorem lh{N:Mem}{w:World}(h:Rep N w){b:Nat}(hb:w.heap.size<=b):N b=none:=by
 cases hn:N b with
 | none=>rfl
 | some B=>have:=jI h hn;omega
attribute [-simp] lu ov in
set_option maxRecDepth 100000 in
theorem zI(a:Act)(w:World):(execOp a.eval GW).run prog w=.ok (.value (.pointer (some ⟨w.heap.size,0,none⟩))) (w.alloc (.cells #[.pointer none,.slice none 0 0] 71)):=by
 unfold GW
 go_simp
attribute [-simp] lu ov in
attribute [local go_sem] Oper.semAt_some in
set_option maxRecDepth 100000 in
theorem E7(l:List UInt8)(w:World):Calls prog 53 #[.string ⟨l.toArray⟩] w fun e w'=>e=.returned (.func (.func 93) #[] #[.pointer (some ⟨w.heap.size,0,none⟩)])/\w'=w.alloc (.cells #[.string ⟨l.toArray⟩] 9):=by
 refine(callsIn_wide (n:=3)).1 ?_;refine callsIn_of_wp func53 rfl trivial ?_ rfl;simp only[ntmps53,size_toArray,length_cons,length_nil,Nat.reduceAdd,Nat.reduceSub,Array.replicate_succ,Array.replicate_zero,push_toArray,append_toArray,nil_append,cons_append]
 gi_wp2
 refine bodyPost_ret (results_tmp rfl _ _ _) rfl ?_;exact⟨rfl,rfl⟩
set_option maxRecDepth 4000
theorem BN{M:Mem}{w:World}{R:VP}{k D:Nat}{env:Env}{N:Mem}{a:Act}{W:World}(hf:fq [{ target:=.collected D,args:=#[] }] 41 env a)(hr:Rep N W)(hx:Ext M w N W)(hD:W.heap[D]?=some (.deferred (some [])))(nD:N D=none)(hb:w.heap.size<=D)
  (h:na (cX tab env N Tryz.f27.results.toList) R N):bodyPostM Fence.wide k prog Tryz.f27 (fun e w'=>∃ v M',e=.returned v/\Rep M' w'/\Ext M w M' w'/\R v M') .ret a W:=by
 unfold bodyPostM;show LeavesInM _ _ _ _ _ _ a.defers .returning W;rw[hf.defers];refine⟨by simp,.inl ⟨D,_,rfl,run_takeDeferred hD,?_⟩⟩;have ht:=eL W D (.deferred none);have hr2:=iz hr ht nD (fun g e=>by cases e);have hx2:=iE hx ht hb (fun g e=>by cases e);obtain⟨v,k1,M1,k2,k3⟩:=wK aR hf.bare hr2 h;exact⟨v,k1,v,M1,rfl,hr2.sub k2,hx2.sub k2,k3⟩
theorem HC{M:Mem}{w:World}{R:VP}{k:Nat}{env:Env}{N:Mem}{a:Act}{W:World}(hf:fq [] 41 env a)(hr:Rep N W)(hx:Ext M w N W)
  (h:na (cX tab env N Tryz.f27.results.toList) R N):bodyPostM Fence.wide k prog Tryz.f27 (fun e w'=>∃ v M',e=.returned v/\Rep M' w'/\Ext M w M' w'/\R v M') .ret a W:=by
 unfold bodyPostM;show LeavesInM _ _ _ _ _ _ a.defers .returning W;rw[hf.defers];obtain⟨v,k1,M1,k2,k3⟩:=wK aR hf.bare hr h;exact⟨v,k1,v,M1,rfl,hr.sub k2,hx.sub k2,k3⟩
def K1(M:Mem)(l:List UInt8)(env:Env)(N:Mem):Prop:=∃ b2 b3 b4 b5 b6,BO b2 b3 b4 b5 b6/\env 2=.pointer (some ⟨b2,0,none⟩)/\env 3=.pointer (some ⟨b3,0,none⟩)/\env 4=.pointer (some ⟨b4,0,none⟩)/\env 5=.pointer (some ⟨b5,0,none⟩)/\env 6=.pointer (some ⟨b6,0,none⟩)/\env 0=str l /\
 CN M b2 b3 b4 b5 b6 0 eU N/\l.length<=4000
def Q1(M:Mem)(l:List UInt8)(R:VP):Exit->Env->Mem->Prop
 | .ret,env,N=>na (cX tab env N Tryz.f27.results.toList) R N
 | _,_,_=>False
set_option maxHeartbeats 2000000 in
theorem NQ(l:List UInt8)(M:Mem)(R:VP)(hl:l.length<=1500000)(h0:4000<l.length->R (.tuple #[.agg #[str [],str [],.slice none 0 0],str [],.bool false]) M) :
  vcL prog tab 41 [Kd,Jp,Kc] (K1 M l) (Q1 M l R) (lW [str l] 0) M:=by
 unfold Kd Jp Kc;simp(disch:=omega);intro b2 hb2;simp(disch:=omega);intro b3 hb3;simp(disch:=omega);intro b4 hb4;rw[aF]at hb3;rw[aF,aF]at hb4;obtain⟨n32,hb3⟩:=hb3;obtain⟨n43,n42,hb4⟩:=hb4;have sN:Sub M (((M.put b2 (.cells true [str [],str [],.slice none 0 0] 3)).put b3 (.cells true [str []] 1)).put b4 (.cells true [.bool false] 1)):=(((Sub.refl M).put hb2 _).put hb3 _).put hb4 _;have k2:(((M.put b2 (.cells true [str [],str [],.slice none 0 0] 3)).put b3 (.cells true [str []] 1)).put b4 (.cells true [.bool false] 1)) b2=some (.cells true [str [],str [],.slice none 0 0] 3):=by rw[ai _ _ (Ne.symm n42),ai _ _ (Ne.symm n32)];exact ag _ _ _
 have k3:(((M.put b2 (.cells true [str [],str [],.slice none 0 0] 3)).put b3 (.cells true [str []] 1)).put b4 (.cells true [.bool false] 1)) b3=some (.cells true [str []] 1):=by rw[ai _ _ (Ne.symm n43)];exact ag _ _ _
 have k4:(((M.put b2 (.cells true [str [],str [],.slice none 0 0] 3)).put b3 (.cells true [str []] 1)).put b4 (.cells true [.bool false] 1)) b4=some (.cells true [.bool false] 1):=ag _ _ _;simp(disch:=omega);generalize ((M.put b2 (.cells true [str [],str [],.slice none 0 0] 3)).put b3 (.cells true [str []] 1)).put b4 (.cells true [.bool false] 1)=N at *;by_cases hbig:4000<l.length
 ·have hbI:(4000:Int)<(l.length:Nat):=by omega
  have h:=h0 hbig;have p2:=fT k2;have p3:=fT k3;have p4:=fT k4;unfold Q1;simp(disch:=omega)[hbI,aq k2,k2,al,p2,aj k3,k3,p3,aj k4,k4,p4];exact ae sN h
 ·have hbI:¬(4000:Int)<(l.length:Nat):=by omega
  simp(disch:=omega)[hbI];refine jO _ _ ?_;intro x6 M6 o6;unfold AV;obtain⟨M1,o1,s1,nn⟩:=ee sN o6;have hfx:=aZ o6.rd;have q2:=o6.sub _ _ k2;have q3:=o6.sub _ _ k3;have q4:=o6.sub _ _ k4;have m2:=nn _ _ hb2 k2;have m3:=nn _ _ hb3 k3;have m4:=nn _ _ hb4 k4;have z5:∀ b,M6 b=none->M1 b=none:=fun b hb=>bM s1 hb;simp(disch:=omega);intro b5 hb5;simp(disch:=omega);intro b6 hb6;rw[aF]at hb6;obtain⟨n65,hb6⟩:=hb6;have n52:b2≠b5:=by rintro rfl;rw[q2]at hb5;cases hb5
  have n53:b3≠b5:=by rintro rfl;rw[q3]at hb5;cases hb5
  have n54:b4≠b5:=by rintro rfl;rw[q4]at hb5;cases hb5
  have n62:b2≠b6:=by rintro rfl;rw[q2]at hb6;cases hb6
  have n63:b3≠b6:=by rintro rfl;rw[q3]at hb6;cases hb6
  have n64:b4≠b6:=by rintro rfl;rw[q4]at hb6;cases hb6
  have hap:BO b2 b3 b4 b5 b6:=⟨Ne.symm n32,Ne.symm n42,n52,n62,Ne.symm n43,n53,n63,n54,n64,Ne.symm n65⟩;have sA:Sub M1 ((M6.put b5 (.cells true [str [],str [],.slice none 0 0] 3)).put b6 (.cells true [.int .i64 0] 1)):=(s1.putN hb5 _).trans ((Sub.refl _).put (by rw[aF];exact⟨n65,hb6⟩) _);have a2:((M6.put b5 (.cells true [str [],str [],.slice none 0 0] 3)).put b6 (.cells true [.int .i64 0] 1)) b2=_:=((ai _ _ n62).trans (ai _ _ n52)).trans q2;have a3:((M6.put b5 (.cells true [str [],str [],.slice none 0 0] 3)).put b6 (.cells true [.int .i64 0] 1)) b3=_:=((ai _ _ n63).trans (ai _ _ n53)).trans q3;have a4:((M6.put b5 (.cells true [str [],str [],.slice none 0 0] 3)).put b6 (.cells true [.int .i64 0] 1)) b4=_:=((ai _ _ n64).trans (ai _ _ n54)).trans q4;have a5:((M6.put b5 (.cells true [str [],str [],.slice none 0 0] 3)).put b6 (.cells true [.int .i64 0] 1)) b5=some (.cells true [str [],str [],.slice none 0 0] 3):=(ai _ _ (Ne.symm n65)).trans (ag _ _ _);have a6:((M6.put b5 (.cells true [str [],str [],.slice none 0 0] 3)).put b6 (.cells true [.int .i64 0] 1)) b6=some (.cells true [.int .i64 0] 1):=ag _ _ _;have m5:=z5 _ hb5;have m6:=z5 _ hb6;have n56:=Ne.symm n65;simp(disch:=omega)[hfx,al];generalize (M6.put b5 (.cells true [str [],str [],.slice none 0 0] 3)).put b6 (.cells true [.int .i64 0] 1)=A at *;have c6:(A.put b5 (.cells true [str [97,98,97,97,98],str [65,65],x6] 3)) b6=some (.cells true [.int .i64 0] 1):=(ai _ _ n65).trans a6;rw[fT c6];exact⟨b2,b3,b4,b5,b6,hap,by simp,by simp,by simp,by simp,by simp,by simp,⟨⟨x6,M1,o1,sA.ovr m5 _,ag _ _ _,m2,m3,m4,m5,m6⟩,(ai _ _ n52).trans a2,(ai _ _ n53).trans a3,(ai _ _ n54).trans a4,c6⟩,by omega⟩
set_option maxRecDepth 4000
abbrev Qn(M:Mem)(w:World)(R:VP):Ending->World->Prop:=fun e w'=>∃ v M',e=.returned v/\Rep M' w'/\Ext M w M' w'/\R v M'
theorem NB(B b:Nat)(out:List UInt8)(p v:Value)(w:World)(hb:w.heap[b]?=some (.cells #[p,v] 71 (0,0)))(ho:w.ownsRowF B 5 1 v (av out).length (av out))(hz:out=[]->v=.slice none 0 0) :
  Calls prog 56 #[.pointer (some ⟨b,0,none⟩)] w fun e w'=>e=.returned (str out)/\el b v.ownBlock w w':=by
 by_cases h0:out=[]
 ·have hv:=hz h0;subst h0;subst hv;exact rz (ρ:=Tryz.lays169_ren) Tryz.lays169 Tryz.Builder_Extra_169 b p w hb
 ·have hl:(av out).length=out.length:=aS _;rw[hl]at ho;exact wo (ρ:=Tryz.lays169_ren) Tryz.lays169 Tryz.Builder_Extra_169 B b out p v w hb ho h0
structure RU(M:Mem)(b2 b3 b4 b7:Nat)(d:Dk)(N:Mem)(env2:Env)(N2:Mem):Prop where
 new:cA N N2
 e2:env2 2=.pointer (some ⟨b2,0,none⟩)
 e3:env2 3=.pointer (some ⟨b3,0,none⟩)
 e4:env2 4=.pointer (some ⟨b4,0,none⟩)
 e7:env2 7=.pointer (some ⟨b7,0,none⟩)
 im:∃ v2 M8,env2 39=dkV d v2/\bF v2=true/\Own M v2 (strs d.ms) M8/\Sub M8 N2/\M8 b2=none/\M8 b3=none/\M8 b4=none
 k2:N2 b2=some (.cells true [str [],str [],.slice none 0 0] 3)
 k3:N2 b3=some (.cells true [str []] 1)
 k4:N2 b4=some (.cells true [.bool false] 1)
set_option maxHeartbeats 1000000 in
theorem Q0(M:Mem)(b2 b3 b4 b5 b6 b7 i:Nat)(d:Dk)(N:Mem)(env:Env)(hok:d.ok)(hN:CN M b2 b3 b4 b5 b6 i d N)
  (e2:env 2=.pointer (some ⟨b2,0,none⟩)) (e3:env 3=.pointer (some ⟨b3,0,none⟩)) (e4:env 4=.pointer (some ⟨b4,0,none⟩)) (e5:env 5=.pointer (some ⟨b5,0,none⟩)) (e7:env 7=.pointer (some ⟨b7,0,none⟩)) :
  kJ prog tab [vy,vd,AI,rv,rZ,qV] (fun _=>RU M b2 b3 b4 b7 d N) [vy,vd] env N:=by
 obtain⟨⟨u,M1,o1,s1,k5,m2,m3,m4,m5,m6⟩,k2,k3,k4,k6⟩:=hN;have hfu:=aZ o1.rd;unfold vy vd;simp(disch:=omega)[e5,aq k5];refine KX d u _ _ hok.2.2 (o1.rd.sub s1) ?_;intro v2 N2 o2;have hf2:=aZ o2.rd;obtain⟨M',g',t1,n1⟩:=ee s1 o2;obtain⟨M8,o8,t8,_⟩:=ee o1.sub g';have w2:=(cA.refl N).own o2;unfold dkV;simp(disch:=omega);exact⟨w2,by simp[e2],by simp[e3],by simp[e4],by simp[e7],⟨v2,M8,by simp[dkV],hf2,o8,t8.trans t1,bM t8 (n1 _ _ m2 k2),bM t8 (n1 _ _ m3 k3),bM t8 (n1 _ _ m4 k4)⟩,o2.sub _ _ k2,o2.sub _ _ k3,o2.sub _ _ k4⟩
def TO(R:VP)(N':Mem)(env3:Env)(N3:Mem):Prop:=cA N' N3/\na (cX tab env3 N3 Tryz.f27.results.toList) R N3
set_option maxHeartbeats 1000000 in
theorem LQ(M:Mem)(R:VP)(b2 b3 b4 b5 b6 b7:Nat)(d:Dk)(out:List UInt8)(N N2:Mem)(env2:Env)(hap:BO b2 b3 b4 b5 b6)(h:RU M b2 b3 b4 b7 d N env2 N2)(hR:∀ v M',Own M v (strs d.ms) M'->R (.tuple #[dkV d v,str out,.bool true]) M') :
  kJ prog tab [vy,vd,AI,rv,rZ,qV] (fun _=>TO R N2) [rv,rZ,qV] (put env2 (some 40) (str out)) N2:=by
 obtain⟨_,e2,e3,e4,_,⟨v2,M8,e39,hf2,o8,t8,m2,m3,m4⟩,k2,k3,k4⟩:=h;have h:=hR v2 M8 o8;unfold dkV at h e39;have n23:=hap.n23;have n24:=hap.n24;have n34:=hap.n34;have q3:(N2.put b2 (.cells true [str d.w,str d.p,v2] 3)) b3=some (.cells true [str []] 1):=(ai _ _ (Ne.symm n23)).trans k3;have q4:((N2.put b2 (.cells true [str d.w,str d.p,v2] 3)).put b3 (.cells true [str out] 1)) b4=some (.cells true [.bool false] 1):=((ai _ _ (Ne.symm n34)).trans (ai _ _ (Ne.symm n24))).trans k4;unfold rv rZ qV;have n32:=Ne.symm n23;have n42:=Ne.symm n24;have n43:=Ne.symm n34;simp(disch:=omega)[e2,e3,e4,e39,hf2,k2,al,k3,k4];have w2:cA N2 (((N2.put b2 (.cells true [str d.w,str d.p,v2] 3)).put b3 (.cells true [str out] 1)).put b4 (.cells true [.bool true] 1)):=(((cA.refl N2).put _ _ rfl).put _ _ rfl).put _ _ rfl;have r2:(((N2.put b2 (.cells true [str d.w,str d.p,v2] 3)).put b3 (.cells true [str out] 1)).put b4 (.cells true [.bool true] 1)) b2=some (.cells true [str d.w,str d.p,v2] 3):=((ai _ _ n24).trans (ai _ _ n23)).trans (ag _ _ _);have r3:(((N2.put b2 (.cells true [str d.w,str d.p,v2] 3)).put b3 (.cells true [str out] 1)).put b4 (.cells true [.bool true] 1)) b3=some (.cells true [str out] 1):=(ai _ _ n34).trans (ag _ _ _);have r4:(((N2.put b2 (.cells true [str d.w,str d.p,v2] 3)).put b3 (.cells true [str out] 1)).put b4 (.cells true [.bool true] 1)) b4=some (.cells true [.bool true] 1):=ag _ _ _;have s3:Sub M8 (((N2.put b2 (.cells true [str d.w,str d.p,v2] 3)).put b3 (.cells true [str out] 1)).put b4 (.cells true [.bool true] 1)):=((t8.ovr m2 _).ovr m3 _).ovr m4 _;generalize ((N2.put b2 (.cells true [str d.w,str d.p,v2] 3)).put b3 (.cells true [str out] 1)).put b4 (.cells true [.bool true] 1)=N3 at *;refine⟨w2,?_⟩;have hres:Tryz.f27.results.toList=[.cell 2 28,.cell 3 9,.cell 4 4]:=by kernel_rfl
 rw[hres];simp(disch:=omega)[e2,e3,e4,aq r2,aj r3,aj r4];exact ae s3 h
set_option maxRecDepth 4000
theorem NH(M:Mem)(w:World)(R:VP)(k b2 b3 b4 b5 b6 b7 D i:Nat)(s:Dk×List UInt8)(N:Mem)(env:Env)(a:Act)(W:World)(hap:BO b2 b3 b4 b5 b6)(hB7:w.heap.size<=b7)(hBD:w.heap.size<=D)(hok:s.1.ok)(hN:CN M b2 b3 b4 b5 b6 i s.1 N)(hC:Core M w b7 N W s.2)(hD:W.heap[D]?=some (.deferred (some [])))(nD:N D=none)
  (e2:env 2=.pointer (some ⟨b2,0,none⟩)) (e3:env 3=.pointer (some ⟨b3,0,none⟩)) (e4:env 4=.pointer (some ⟨b4,0,none⟩)) (e5:env 5=.pointer (some ⟨b5,0,none⟩)) (e7:env 7=.pointer (some ⟨b7,0,none⟩)) (hf:fq [{ target:=.collected D,args:=#[] }] 41 env a)
  (hR:∀ v M',Own M v (strs s.1.ms) M'->R (.tuple #[dkV s.1 v,str s.2,.bool true]) M') :
  (Code.seq DQ .ret).wpIn (ic none) k prog (bodyPostM Fence.wide k prog Tryz.f27 (Qn M w R)) a W:=by
 refine wpIn_seq ?_;unfold DQ;refine wpIn_region_list ?_;refine iK (ro:=none) (k:=k) (n:=41) (M0:=N) (w0:=W) (K:=RU M b2 b3 b4 b7 s.1 N) aR [vy,vd,AI,rv,rZ,qV] [AI,rv,rZ,qV] ?_ [vy,vd] env N a W (by kernel_rfl) (Q0 M b2 b3 b4 b5 b6 b7 i s.1 N env hok hN e2 e3 e4 e5 e7) hf hC.rep (Ext.refl N W);intro env2 N2 a2 W2 f2 r2 x2 hK;have hC2:=hC.step x2 r2 hK.new;have hD2:=bW x2 hD nD;have nD2:=da x2 hK.new (aO hD) nD;obtain⟨p,v,hp,hb,ho,hne,hg,hz⟩:=hC2.bd;have hgB:∀ g,v.ownBlock=some g->w.heap.size<=g:=fun g hgo=>(iC ho hgo).1;refine wpListIn_plain rfl fun K hK2=>?_;refine tz (env:=env2) (x:=.func 56) rfl rfl ⟨_,func56,by kernel_rfl,by kernel_rfl⟩ f2.ev ?_;have hargs:((#[.tmp 7]:Array Operand).toList.map (ev env2)).toArray = #[.pointer (some ⟨b7,0,none⟩)]:=by
  show #[env2 7]=_;rw[hK.e7]
 rw[hargs];refine(NB w.heap.size b7 s.2 p v W2 hb ho hz).mono ?_
 rintro e W3 ⟨rfl,hT⟩
 refine⟨_,rfl,hK2 _ _ ?_⟩;have hr3:=iz hC2.rep hT hC2.n7 hg;have hx3:=iE hC2.ext hT hB7 hgB;have hD3:W3.heap[D]?=some (.deferred (some [])):=(hT.block D (aO hD2) (by rintro rfl;rw[hb]at hD2;cases hD2) (fun e=>by
  obtain⟨_,c,fz,hh⟩:=iC ho e;rw[hD2]at hh;cases hh)).trans hD2
 have f3:=f2.put (d:=some 40) (fun t e=>by cases e;decide) (str s.2);refine Hl (ro:=none) (k:=k) (n:=41) (M0:=N2) (w0:=W3) (K:=TO R N2) aR [vy,vd,AI,rv,rZ,qV] ?_ [rv,rZ,qV] (put env2 (some 40) (str s.2)) N2 _ W3 (by kernel_rfl) (LQ M R b2 b3 b4 b5 b6 b7 s.1 s.2 N N2 env2 hap hK hR) f3 hr3 (Ext.refl N2 W3)
 rintro env4 N4 a4 W4 f4 r4 x4 ⟨w4,hdone⟩
 show Code.ret.wpIn _ _ _ _ a4 W4;refine wpIn_ret ?_;exact BN f4 r4 (hx3.trans x4) (bW x4 hD3 nD2) (da x4 w4 (aO hD3) nD2) hBD hdone
theorem KM(args:List Value)(n:Nat)(h:args.length<=n):fq [] n (lW args 0) ({ tmps:=args.toArray++Array.replicate (n-args.toArray.size) undef,defers:=[] }:Act):=by
 rw[<-Jt];refine⟨rfl,by simp;omega,?_⟩
 funext x
 cases x with
 | tmp t=>
  simp only[Act.eval,ev,nM,Array.getD_eq_getD_getElem?,getD_eq_getElem?_getD];rw[Array.getElem?_append];split
  ·simp
  ·rename_i hlt;rw[getElem?_eq_none (by simpa using hlt)];simp only[Array.getElem?_replicate];split<;>rfl
 | const v=>rfl
 | global g=>rfl
 | func f=>rfl
theorem JV(f i:Nat)(s:Dk×List UInt8):goX f [] i s=some s:=by
 cases f with
 | zero=>rfl
 | succ f=>unfold goX;rw[if_pos rfl]
set_option maxHeartbeats 2000000 in
theorem Mq(l:List UInt8)(M:Mem)(R:VP)(hl:l.length<=1500000)(hvar:ch M)(h1:∀ d t v M',Du l=some (d,t)->Own M v (strs d.ms) M'->R (.tuple #[dkV d v,str t,.bool true]) M')
  (h0:Du l=none->R (.tuple #[.agg #[str [],str [],.slice none 0 0],str [],.bool false]) M):ar prog 27 [str l] M R:=by
 refine⟨⟨_,func27,by kernel_rfl,by kernel_rfl⟩,fun w hw=>(callsIn_wide (n:=4)).1 ?_⟩;refine callsIn_of_wp_marks func27 Nf trivial ?_ rfl;have hfit:=KM [str l] 41 (by show 1<=41;omega);unfold Jr;refine Ja (ro:=none) (k:=4) (ds:=[]) (n:=41) aR _ (M0:=M) (w0:=w) ?hq ?hz [Kd,Jp,Kc] (lW [str l] 0) M _ w (by kernel_rfl) (NQ l M R hl (fun h=>h0 (by unfold Du;rw[if_neg (by omega)]))) hfit hw (Ext.refl M w)
 case hq=>
  rintro e a w1 hne ⟨env,N,f,r,x,h⟩
  cases e with
  | ret=>exact HC f r x h
  | normal=>exact absurd rfl hne
  | exit id=>exact h.elim
  | goto id=>exact h.elim
  | panic c=>exact h.elim
  | outgrown=>exact h.elim
 case hz=>
  rintro env N a W f r x ⟨b2,b3,b4,b5,b6,hap,e2,e3,e4,e5,e6,e0,hN,h4⟩
  refine wpIn_seq ?_;unfold Ra;refine wpIn_region_list ?_;show wpListIn _ _ _ _ _ [GW] a W;refine wpListIn_plain rfl fun K hK=>⟨fun _ _=>trivial,?_⟩;rw[Oper.semAt_eq _ _ _ (yZ (o:=GW) rfl),zI];show K (a.put (some 7) (.pointer (some ⟨W.heap.size,0,none⟩))) _;refine hK _ _ (wpListIn_nil ?_);show Code.wpIn _ _ _ _ _ _ _;have f1:=f.put (d:=some 7) (fun t e=>by cases e;decide) (.pointer (some ⟨W.heap.size,0,none⟩));have hC1:Core M w W.heap.size N (W.alloc (.cells #[.pointer none,.slice none 0 0] 71)) []:=⟨AS r _,Bc x _,lh r (Nat.le_refl _),.pointer none,.slice none 0 0,.inl rfl,World.alloc_heap_new W _,⟨rfl,.inl ⟨rfl,rfl⟩⟩,(by simp[Value.ownBlock]),(by intro g e;cases e),fun _=>rfl⟩;have hB7:w.heap.size<=W.heap.size:=x.size;generalize W.alloc (.cells #[.pointer none,.slice none 0 0] 71)=W1 at *;generalize W.heap.size=b7 at *;generalize a.put (some 7) (.pointer (some ⟨b7,0,none⟩))=a1 at *;refine wpIn_seq ?_;refine wpIn_seq ?_;unfold Q7;refine wpIn_region_list ?_;refine iK (ro:=none) (k:=4) (ds:=[]) (n:=41) (M0:=N) (w0:=W1) (K:=fun env2 N2=>N=N2/\env2=put (put env (some 7) (.pointer (some ⟨b7,0,none⟩))) (some 16) (str l)) aR [C1,DB] [DB] ?_ [C1] (put env (some 7) (.pointer (some ⟨b7,0,none⟩))) N a1 W1 (by kernel_rfl) (by unfold C1;simp(disch:=omega)[e0]) f1 hC1.rep (Ext.refl N W1)
  rintro env2 N2 a2 W2 f2 r2 x2 ⟨hNN,hE⟩
  subst hNN;subst hE;have hC2:=hC1.step x2 r2 (cA.refl N);refine wpListIn_plain rfl fun K hK=>?_;refine tz (x:=.func 53) rfl rfl ⟨_,func53,by kernel_rfl,by kernel_rfl⟩ f2.ev ?_;refine(E7 l W2).mono ?_
  rintro e W3' ⟨rfl,rfl⟩
  refine⟨_,rfl,hK _ _ (wpListIn_nil ?_)⟩;have f3:=f2.put (d:=some 17) (fun t e=>by cases e;decide) (.func (.func 93) #[] #[.pointer (some ⟨W2.heap.size,0,none⟩)]);have hC3:=pS hC2 (.cells #[.string ⟨l.toArray⟩] 9);have hBs3:(W2.alloc (.cells #[.string ⟨l.toArray⟩] 9)).heap[W2.heap.size]?=some (.cells #[.string ⟨l.toArray⟩] 9 (0,0)):=World.alloc_heap_new W2 _;have nBs:N W2.heap.size=none:=lh r2 (Nat.le_refl _);have hwB:w.heap.size<=W2.heap.size:=hC2.ext.size;show Code.wpIn _ _ _ y6 _ _ _;generalize W2.alloc (.cells #[.string ⟨l.toArray⟩] 9)=W3 at *;generalize W2.heap.size=Bs at *;have e17:(a2.put (some 17) (.func (.func 93) #[] #[.pointer (some ⟨Bs,0,none⟩)])).eval (.tmp 17)=.func (.func 93) #[] #[.pointer (some ⟨Bs,0,none⟩)]:=by rw[f3.ev];simp[ev]
  have hdst:DB.dst=some 17:=rfl;rw[hdst];generalize a2.put (some 17) (.func (.func 93) #[] #[.pointer (some ⟨Bs,0,none⟩)])=a3 at *;unfold y6;refine wpIn_block (wpIn_rangeFunc ?_);intro fn _;obtain⟨W4,hW4⟩:∃ W4,(W3.alloc (.deferred (some []))).alloc (.loop (gH a3.tmps W3.heap.size fn .ready none))=W4:=⟨_,rfl⟩;have hC4:Core M w b7 N W4 []:=by rw[<-hW4];exact pS (pS hC3 _) _
  have hL4:W4.heap[W3.heap.size+1]?=some (.loop (gH a3.tmps W3.heap.size fn .ready none)):=by
   rw[<-hW4];have:=World.alloc_heap_new (W3.alloc (.deferred (some []))) (.loop (gH a3.tmps W3.heap.size fn .ready none));rwa[World.size_alloc]at this
  have hD4:W4.heap[W3.heap.size]?=some (.deferred (some [])):=by rw[<-hW4];exact(Below.heap_alloc _ _ _ (by simp)).trans (World.alloc_heap_new W3 _)
  have hlt:=aO hBs3;have hB4:W4.heap[Bs]?=some (.cells #[str l] 9 (0,0)):=by rw[<-hW4];exact((Below.heap_alloc _ _ _ (by simp;omega)).trans (Below.heap_alloc _ _ _ hlt)).trans hBs3
  have nL:N (W3.heap.size+1)=none:=lh hC3.rep (by omega);have nD:N W3.heap.size=none:=lh hC3.rep (Nat.le_refl _);have hwl:w.heap.size<=W3.heap.size:=hC3.ext.size;refine⟨W3.heap.size+1,[{ target:=.collected W3.heap.size,args:=#[] }],W4,{ target:=.fn (.func 93) #[.pointer (some ⟨Bs,0,none⟩)],args:=#[.func (.yield (W3.heap.size+1)) #[] #[]] },W4,93,
   #[.func (.yield (W3.heap.size+1)) #[] #[]] ++ #[.pointer (some ⟨Bs,0,none⟩)],W4,?_,?_,fun _ _=>trivial,?_,fun e=>(by cases e),?_⟩
  ·rw[<-hW4];exact run_enterLoop_outer _ _ _ _ _
  ·have e17':a3.tmps[17]?.getD undef=.func (.func 93) #[] #[.pointer (some ⟨Bs,0,none⟩)]:=by simpa[Act.eval] using e17
   simp[resolve,e17',go_sem,Deferred.ofValue]
  ·simp[invoke,go_sem]
  generalize hlq:W3.heap.size+1=l7 at *;generalize W3.heap.size=D at *;clear hW4 hC3 hBs3;have hlD:l7≠D:=by omega
  have hlB:l7≠Bs:=by omega
  have hDB:D≠Bs:=by omega
  have hfit3:=f3.bare;have hround:=fun (r:List UInt8) (W:World) (hJ:JC M w b2 b3 b4 b5 b6 b7 l7 D Bs a3.tmps fn (goX l.length l 0 (eU,[])) r W) (hr:r≠[]) (hrl:r.length<=4000)=>
   KR M w b2 b3 b4 b5 b6 b7 l7 D Bs a3.tmps fn (goX l.length l 0 (eU,[])) _ 2 hap hvar hB7 (by omega) hlD hlB hfit3.size hfit3.ev (by simp[e2]) (by simp[e3]) (by simp[e4]) (by simp[e5]) (by simp[e6]) (by simp) r W hJ hr (by omega)
  have hkeep:∀(r:List UInt8) (W W':World),JC M w b2 b3 b4 b5 b6 b7 l7 D Bs a3.tmps fn (goX l.length l 0 (eU,[])) r W->el Bs none W W'->(∀ c,W.heap[Bs]?=some (.cells c 9 (0,0))->∃ c',W'.heap[Bs]?=some (.cells c' 9 (0,0)))->JC M w b2 b3 b4 b5 b6 b7 l7 D Bs a3.tmps fn (goX l.length l 0 (eU,[])) r W':=by
   rintro r W W' ⟨f,i,s,N5,hf,hi,hok,hsl,hZ,hN5,hC5,nl5,nD5,nB5,hL5,hD5,c5,hBs5⟩ hT hc
   exact⟨f,i,s,N5,hf,hi,hok,hsl,hZ,hN5,hC5.turns hT nB5 hwB (fun c fz e=>by rw[hBs5]at e;cases e) (fun c fz e=>by rw[hBs5]at e;cases e),nl5,nD5,nB5,(hT.block l7 (aO hL5) hlB (fun e=>by cases e)).trans hL5,(hT.block D (aO hD5) hDB (fun e=>by cases e)).trans hD5,hc c5 hBs5⟩
  refine(LM 2 l7 Bs 4000 (by omega) (JC M w b2 b3 b4 b5 b6 b7 l7 D Bs a3.tmps fn (goX l.length l 0 (eU,[]))) (JX M w b2 b3 b4 l7 D a3.tmps fn (goX l.length l 0 (eU,[]))) ?h1 ?h2 ?h3 W4 l h4 hB4 ?h4).mono ?h5
  case h1=>exact fun r W v hJ=>hkeep r W _ hJ (el.cell Bs none W 0 v) (fun c hc=>⟨c.setIfInBounds 0 v,by simp[World.setCell,Array.getElem?_modify,hc]⟩)
  case h2=>exact fun r W hJ=>hkeep r W _ hJ ⟨rfl,rfl,rfl,Nat.le_refl _,fun _ _ _ _=>rfl⟩ (fun c hc=>⟨c,hc⟩)
  case h3=>exact fun r W hJ hr hrl=>hround r W hJ hr hrl
  case h4=>exact⟨l.length,0,(eU,[]),N,Nat.le_refl _,by omega,xk,Nat.zero_le _,rfl,hN,hC4,nL,nD,nBs,hL4,hD4,_,hB4⟩
  case h5=>
   rintro e W5 ⟨⟨v0,rfl⟩,hJ|hX⟩
   ·obtain⟨f,i,s,N5,hf,hi,hok,hsl,hZ,hN5,hC5,nl5,nD5,nB5,hL5,hD5,c5,hBs5⟩:=hJ;rw[JV]at hZ;refine⟨none,_,run_endLoop hL5 (by simp),?_⟩;have hT:=eL W5 l7 (.loop { gH a3.tmps D fn .ready none with state:=.exhausted });have hC6:=hC5.turns hT nl5 (by omega) (fun c fz e=>by rw[hL5]at e;cases e) (fun c fz e=>by rw[hL5]at e;cases e);have hD6:=(hT.block D (aO hD5) (Ne.symm hlD) (fun e=>by cases e)).trans hD5;have hcx:Du l=some (s.1,s.2):=by unfold Du;rw[if_pos h4,<-hZ]
    show (Code.seq DQ .ret).wpIn _ _ _ _ _ _;exact NH M w R 4 b2 b3 b4 b5 b6 b7 D i s N5 _ _ _ hap hB7 hwl hok hN5 hC6 hD6 nD5 (by simp[e2]) (by simp[e3]) (by simp[e4]) (by simp[e5]) (by simp) ⟨by show [_]++a3.defers=_;rw[f3.defers];rfl,f3.size,f3.ev⟩ (fun v M' o=>h1 s.1 s.2 v M' hcx o)
   ·obtain⟨hZ,N5,r5,x5,s5,k2,k3,k4,nl5,nD5,hL5,hD5⟩:=hX;refine⟨some .ret,_,run_endLoop hL5 (by simp),wpIn_ret ?_⟩;have hT:=eL W5 l7 (.loop { gH a3.tmps D fn .done (some .ret) with state:=.exhausted });have hD6:=(hT.block D (aO hD5) (Ne.symm hlD) (fun e=>by cases e)).trans hD5;have hcx:Du l=none:=by unfold Du;rw[if_pos h4,hZ]
    have h:=h0 hcx;show bodyPostM _ _ _ _ _ .ret _ _;refine BN (env:=put (put (put env (some 7) (.pointer (some ⟨b7,0,none⟩))) (some 16) (str l)) (some 17) (.func (.func 93) #[] #[.pointer (some ⟨Bs,0,none⟩)])) ⟨by show [_]++a3.defers=_;rw[f3.defers];rfl,f3.size,f3.ev⟩ (iz r5 hT nl5 (fun g e=>by cases e)) (iE x5 hT (by omega) (fun g e=>by cases e)) hD6 nD5 hwl ?_;have hres:Tryz.f27.results.toList=[.cell 2 28,.cell 3 9,.cell 4 4]:=by kernel_rfl
    rw[hres];simp(disch:=omega)[e2,e3,e4,aq k2,aj k3,aj k4];exact ae s5 h
end Go.Proofs.YtapimhjbilkfpaaGreatDoor
namespace Go.Proofs.YtapimhjbilkfpaaGreatDoor
open Go Go.Proofs.Tryz Go.RowKit List
theorem F8(c:UInt8):∀(l:List UInt8) (m:Nat),Lib.indexByte l c=m->l.take (m+1)=l.take m++[c]
 | [],m,h=>by unfold Lib.indexByte at h;omega
 | b::l,m,h=>by
  unfold Lib.indexByte at h;split at h
  ·rename_i h1;obtain rfl:m=0:=by omega
   have:b=c:=by simpa using h1
   subst this;rfl
  ·split at h
   ·omega
   ·rename_i h2;have h4:Lib.indexByte l c≠-1:=by simpa using h2
    have h3:=Lib.indexByte_ge l c;obtain⟨k,rfl⟩:∃ k,m=k+1:=⟨m-1,by omega⟩;have ih:=F8 c l k (by omega);rw[take_succ_cons,ih];rfl
theorem O3(l:List UInt8):Lib.trimSuffix (l++[10]) [10]=l:=by
 unfold Lib.trimSuffix Lib.hasSuffix;rw[if_pos (by simp)];simp
theorem Mn{l:List UInt8}(h:l.count 10=0):Lib.trimSuffix l [10]=l:=by
 unfold Lib.trimSuffix Lib.hasSuffix;rw[if_neg];intro hs;have h1:=List.isSuffixOf_iff_suffix.1 hs;have h2:(10:UInt8)∈l:=h1.subset (by simp);have:=List.count_pos_iff.2 h2;omega
theorem uz:dX []=[]:=by unfold dX;rfl
theorem G5{r:List UInt8}(h:r≠[]):dX r=Lib.trimSuffix (gV r) [10]::dX (eP r):=by
 rcases oq 10 r with ⟨h1,h2,h3⟩|⟨m,h1,h2,h3,h4⟩
 ·have e1:gV r=r:=by unfold gV;rw[if_neg (by omega)]
  have e2:eP r=[]:=by unfold eP;rw[if_neg (by omega)]
  rw[e1,e2,uz,Mn h2];unfold dX;have hl:(spR 10 r).getLast (ke 10 r)=r:=by simp[h3]
  rw[hl,if_neg h,h3]
 ·have e1:gV r=r.take (m+1):=by unfold gV;rw[if_pos (by omega),h1];rfl
  have e2:eP r=r.drop (m+1):=by unfold eP;rw[if_pos (by omega),h1];rfl
  rw[e1,e2,F8 10 r m h1,O3];have hl:(spR 10 r).getLast (ke 10 r)=(spR 10 (r.drop (m+1))).getLast (ke 10 _):=by
   have:∀(a:List (List UInt8)) (x:List UInt8) (b:List (List UInt8)) (ha:a≠[]) (hb:b≠[]),a=x::b->a.getLast ha=b.getLast hb:=by
    intro a x b ha hb e;subst e;exact getLast_cons hb
   exact this _ _ _ _ _ h3
  unfold dX;rw[hl];by_cases hz:(spR 10 (r.drop (m+1))).getLast (ke 10 _)=[]
  ·rw[if_pos hz,if_pos hz,h3,dropLast_cons_of_ne_nil (ke 10 _)]
  ·rw[if_neg hz,if_neg hz,h3]
theorem Oy:∀(f:Nat) (r:List UInt8) (i:Nat) (s:Dk×List UInt8),r.length<=f->i<=40->goX f r i s=if i+(dX r).length<=40 then some ((dX r).foldl jR s) else none
 | 0,r,i,s,hr,hi=>by
  obtain rfl:r=[]:=List.length_eq_zero_iff.1 (by omega);rw[uz,if_pos (by simpa using hi)];rfl
 | f+1,r,i,s,hr,hi=>by
  by_cases hn:r=[]
  ·subst hn;rw[JV,uz,if_pos (by simpa using hi)];rfl
  ·have ht:=ow hn;unfold goX;rw[if_neg hn,G5 hn];by_cases h40:40<i+1
   ·rw[if_pos h40,if_neg (by rw[length_cons];omega)]
   ·rw[if_neg h40,Oy f (eP r) (i+1) _ (by omega) (by omega)];by_cases hle:i+1+(dX (eP r)).length<=40
    ·rw[if_pos hle,if_pos (by rw[length_cons];omega)];rfl
    ·rw[if_neg hle,if_neg (by rw[length_cons];omega)]
theorem Kr(l:List UInt8):Du l=kx l:=by
 unfold Du kx;by_cases h4:l.length<=4000
 ·rw[if_pos h4,Oy l.length l 0 _ (Nat.le_refl _) (by omega)];by_cases hm:(dX l).length<=40
  ·rw[if_pos (by omega),if_pos ⟨h4,hm⟩];unfold ju;rw[take_length]
  ·rw[if_neg (by omega),if_neg (fun h=>hm h.2)]
 ·rw[if_neg h4,if_neg (fun h=>h4 h.1)]
def pk(l:List UInt8):List UInt8:=match kx l with|some (_,t)=>t|none=>[]
theorem rO(l:List UInt8)(M:Mem)(R:VP)(hl:l.length<=1500000)(hvar:ch M)(h:R (str (pk l)) M):ar prog 9 [str l] M R:=by
 refine fnS func9 rfl ntmps9 results9 ?_;simp(disch:=omega);refine Mq l M _ hl hvar ?_ ?_
 ·intro d t v M' hc o;rw[Kr]at hc;have e:pk l=t:=by unfold pk;rw[hc]
  rw[e]at h;have hf:=aZ o.rd;have s1:=o.sub;unfold dkV;simp(disch:=omega);intro b3 hb3;simp(disch:=omega)[hf,al,a7];exact ae (s1.putN hb3 _) h
 ·intro hc;rw[Kr]at hc;have e:pk l=[]:=by unfold pk;rw[hc]
  rw[e]at h;simp(disch:=omega);intro b3 hb3;simp(disch:=omega)[al,a7];exact ae ((Sub.refl M).putN hb3 _) h
theorem sx(l:List UInt8)(M:Mem)(R:VP)(hl:l.length<=1500000)(h:R (str (pk l)) M):ar prog 8 [str l] M R:=by
 refine fnS func8 rfl ntmps8 results8 ?_;simp(disch:=omega);refine Ma l M _ hl ?_ ?_
 ·intro d t v M' hc o;have e:pk l=t:=by unfold pk;rw[hc]
  rw[e]at h;have hf:=aZ o.rd;have s1:=o.sub;unfold dkV;simp(disch:=omega);intro b3 hb3;simp(disch:=omega)[hf,al,a7];exact ae (s1.putN hb3 _) h
 ·intro hc;have e:pk l=[]:=by unfold pk;rw[hc]
  rw[e]at h;simp(disch:=omega);intro b3 hb3;simp(disch:=omega)[al,a7];exact ae ((Sub.refl M).putN hb3 _) h
end Go.Proofs.YtapimhjbilkfpaaGreatDoor
