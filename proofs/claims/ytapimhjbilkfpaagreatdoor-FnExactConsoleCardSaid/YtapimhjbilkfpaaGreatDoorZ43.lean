/- Lemmas for FnExactConsole, part 44 of 46. -/
import Derived.Test.YtapimhjbilkfpaaGreatDoorZ05
import Derived.Test.YtapimhjbilkfpaaGreatDoorZ42
import Derived.Test.YtapimhjbilkfpaaGreatDoorZ04
set_option linter.unusedVariables false
set_option linter.unusedSimpArgs false
namespace Go.Proofs.YtapimhjbilkfpaaGreatDoor
open Go Go.Proofs.Tryz List
def QK:List Code->Code->Code
 | [],z=>z
 | c::cs,z=>.seq c (QK cs z)
def vcL(P:Program)(T:Tab)(n:Nat):List Code->(Env->Mem->Prop)->(Exit->Env->Mem->Prop)->Env->Mem->Prop
 | [],K,Q,env,M=>K env M
 | c::cs,K,Q,env,M=>vc P T n c (lX (vcL P T n cs K Q) Q) env M
section
variable {P:Program} {T:Tab} {n:Nat} {ro:Option Nat} {k:Nat} {ds:List Deferred} {K:Env->Mem->Prop} {Q:Exit->Env->Mem->Prop} {env:Env} {M:Mem}
@[simp] theorem Wj:vcL P T n [] K Q env M=K env M:=nr rfl
@[simp] theorem UM(c:Code)(cs:List Code):vcL P T n (c::cs) K Q env M=vc P T n c (lX (vcL P T n cs K Q) Q) env M:=nr rfl
theorem Ja(hT:bU P T)(z:Code){Q':Exit->Act->World->Prop}{M0:Mem}{w0:World}(hq:∀ e a w,e≠.normal->Si ds n M0 w0 Q e a w->Q' e a w)
  (hz:∀ env M a w,fq ds n env a->Rep M w->Ext M0 w0 M w->K env M->z.wpIn (ic ro) k P Q' a w) :
  ∀(cs:List Code) (env:Env) (M:Mem) (a:Act) (w:World),cs.all (fun c=>dW n c&&px c)=true->vcL P T n cs K Q env M->fq ds n env a->Rep M w->Ext M0 w0 M w->(QK cs z).wpIn (ic ro) k P Q' a w
 | [],env,M,a,w,_,h,h1,h2,h3=>hz env M a w h1 h2 h3 h
 | c::cs,env,M,a,w,hc,h,h1,h2,h3=>by
  simp only[all_cons,Bool.and_eq_true]at hc;refine wpIn_seq (wpIn_mono (J6 (ro:=ro) (k:=k) (ds:=ds) T hT c _ env M hc.1.1 hc.1.2 h M0 w0 a w h1 h2 h3) ?_)
  rintro e a' w' ⟨env',M',a1,a2,a3,a4⟩
  cases e with
  | normal=>exact Ja hT z hq hz cs env' M' a' w' (by simpa using hc.2) a4 a1 a2 a3
  | exit id=>exact hq _ _ _ (by simp) ⟨_,_,a1,a2,a3,a4⟩
  | goto id=>exact hq _ _ _ (by simp) ⟨_,_,a1,a2,a3,a4⟩
  | ret=>exact hq _ _ _ (by simp) ⟨_,_,a1,a2,a3,a4⟩
  | panic c=>exact hq _ _ _ (by simp) ⟨_,_,a1,a2,a3,a4⟩
  | outgrown=>exact hq _ _ _ (by simp) ⟨_,_,a1,a2,a3,a4⟩
theorem iK(hT:bU P T)(ops l2:List Oper){Q':Exit->Act->World->Prop}{M0:Mem}{w0:World}(hz:∀ env M a w,fq ds n env a->Rep M w->Ext M0 w0 M w->K env M->wpListIn (ic ro) k P ops.toArray Q' l2 a w) :
  ∀(l:List Oper) (env:Env) (M:Mem) (a:Act) (w:World),l.all (fun o=>jM n o&&ir o&&o.guard.isNone)=true->kJ P T ops (fun _=>K) l env M->fq ds n env a->Rep M w->Ext M0 w0 M w->wpListIn (ic ro) k P ops.toArray Q' (l++l2) a w
 | [],env,M,a,w,_,h,h1,h2,h3=>hz env M a w h1 h2 h3 h
 | o::rest,env,M,a,w,hd,h,h1,h2,h3=>by
  simp only[all_cons,Bool.and_eq_true]at hd;unfold kJ at h;rw[cons_append];unfold wpListIn;split at h
  ·rename_i hg;rw[if_pos (by simp[Region.wanted,hg])];refine oa hd.1.1.2 (pM T hT o.op h o a w _ _ rfl h1.ev h2 fun v M' w' a1 a2 a3=>?_);exact iK hT ops l2 hz rest _ _ _ _ (by simpa using hd.2) a3 (h1.put (cv hd.1.1.1) v) a1 (h3.trans a2)
  ·rename_i j b hg;rw[hg]at hd;cases hd.1.2
theorem Hl(hT:bU P T)(ops:List Oper){Q':Exit->Act->World->Prop}{M0:Mem}{w0:World}(hz:∀ env M a w,fq ds n env a->Rep M w->Ext M0 w0 M w->K env M->Q' .normal a w)
  (l:List Oper) (env:Env) (M:Mem) (a:Act) (w:World) (hd:l.all (fun o=>jM n o&&ir o&&o.guard.isNone)=true) (h:kJ P T ops (fun _=>K) l env M) (h1:fq ds n env a) (h2:Rep M w) (h3:Ext M0 w0 M w):wpListIn (ic ro) k P ops.toArray Q' l a w:=by
 have:=iK (ro:=ro) (k:=k) hT ops [] (fun env M a w a1 a2 a3 a4=>wpListIn_nil (hz env M a w a1 a2 a3 a4)) l env M a w hd h h1 h2 h3;rwa[append_nil]at this
theorem tz{o:Oper}{x:Operand}{args:Array Operand}{ts:Array TypeId}(ho:o.op=.call ⟨.value x,args,ts⟩){g:FuncId}(hx:ev env x=.func (.func g) #[] #[])(hb:rR P g){a:Act}{w:World}(ha:a.eval=ev env){next:Act->World->Prop}{Q':Exit->Act->World->Prop}
  (h:Calls P g (args.toList.map (ev env)).toArray w fun e w'=>∃ v,e=.returned v/\next (a.put o.dst v) w'):o.wpIn (ic ro) k P a w next Q':=by
 refine oa (by unfold ir;rw[ho]) ?_;obtain⟨fn,h1,h2,h3⟩:=hb;have hr:(execOp a.eval o).run P w=.ok (.enter g (args.toList.map (ev env)).toArray) w:=by
  rw[ha];simp only[execOp,ho,resolve,hx,Deferred.ofValue,Sem.run_bind,Sem.run_pure,Result.andThen_ok,invoke,callFunc,run_program,h1,h2,h3,Bool.false_eq_true,if_false]
  congr 2
  apply Array.ext';simp
 rw[hr];refine h.mono ?_
 rintro e w' ⟨v,rfl,hn⟩
 exact hn
end
theorem Aw(v:Value)(zs:List (List UInt8))(M:Mem)(R:VP)(h1:1<=zs.length)(hv:Rd M v (strs zs))(hl:zs.length<=1000)(h:∀ v' M',Own M v' (strs zs) M'->R v' M'):ar prog 58 [v] M R:=by
 refine fnS func58 rfl ntmps58 results58 ?_;have hne:1<=(strs zs).length:=by rw[ah];exact h1
 have hsrc:=qN hv hne;obtain⟨a,c,rfl,ha⟩:=hv.opened;rw[ah]at ha hsrc ⊢;rcases ha with h0|⟨b,o,rfl,ha⟩
 ·rw[ah]at hne;omega
 simp(disch:=omega);intro b6 hb6;have o0:=Own.new (M:=M) (xs:=strs []) (n:=0) (c:=0) hb6 rfl (Nat.le_refl 0);have hs1:=nO hsrc ((Sub.refl M).put hb6 (.cells true [] 0));dsimp only;have e0:strs []=[]:=rfl;rw[e0]at o0;generalize M.put b6 (.cells true [] 0)=N at *;generalize Value.slice (some ⟨b6,0,none⟩) 0 0=e at *;simp(disch:=omega);refine aN o0 (Sub.refl _) hs1 rfl rfl (by omega) (dz zs) (by rw[ah];simp only[length_nil];omega) ?_;intro v' M'' N'' o' hs';simp(disch:=omega);exact ae hs' (h _ _ o')
theorem KX(d:Dk)(v:Value)(M:Mem)(R:VP)(hm:aW d.ms=true)(hv:Rd M v (strs d.ms))(h:∀ v' M',Own M v' (strs d.ms) M'->R (dkV d v') M'):ar prog 30 [dkV d v] M R:=by
 have hf:=aZ hv;have hm5:=aX hm;unfold dkV at h ⊢;refine fnS func30 rfl ntmps30 results30 ?_;simp(disch:=omega);intro b1 hb1;have h1:Sub M (M.put b1 (.cells true [str d.w,str d.p,v] 3)):=(Sub.refl M).put hb1 _;simp(disch:=omega);intro b2 hb2;have h2:=hb2;rw[aF]at h2;have sN:=h1.putN hb2 (.cells true [str [],str [],.slice none 0 0] 3);have k1:((M.put b1 (.cells true [str d.w,str d.p,v] 3)).put b2 (.cells true [str [],str [],.slice none 0 0] 3)) b1=some (.cells true [str d.w,str d.p,v] 3):=by rw[ai _ _ (Ne.symm h2.1)];exact ag _ _ _
 have k2:((M.put b1 (.cells true [str d.w,str d.p,v] 3)).put b2 (.cells true [str [],str [],.slice none 0 0] 3)) b2=some (.cells true [str [],str [],.slice none 0 0] 3):=ag _ _ _;generalize (M.put b1 (.cells true [str d.w,str d.p,v] 3)).put b2 (.cells true [str [],str [],.slice none 0 0] 3)=N at *;have hvN:=hv.sub sN;simp(disch:=omega)[aj k1];refine Aw v d.ms _ _ (by omega) hvN (by omega) ?_;intro v' N'' o';have q1:=o'.sub _ _ k1;have q2:=o'.sub _ _ k2;have hf':=aZ o'.rd;obtain⟨M',o4,s4,n4⟩:=ee sN o';have m1:=n4 _ _ hb1 k1;have m2:=n4 _ _ h2.2 k2;have q2':(N''.put b1 (.cells true [str d.w,str d.p,v'] 3)) b2=some (.cells true [str [],str [],.slice none 0 0] 3):=by rw[ai _ _ h2.1];exact q2
 have h:=h v' M' o4;simp(disch:=omega)[q1,q2,al,hf'];exact ae ((s4.ovr m1 _).ovr m2 _) h
end Go.Proofs.YtapimhjbilkfpaaGreatDoor
namespace Go.Proofs.YtapimhjbilkfpaaGreatDoor
open Go Go.Proofs.Tryz Go.RowKit List
set_option maxRecDepth 4000
def iF:Code:=(Code.region 6 #[{ dst:=(some 8),op:=(Op.assign (Operand.tmp 18)),type:=9,pos:="l11_console.go:327",after:=#[],guard:=none }] false)
def SL:Code:=(Code.seq (Code.region 7 #[{ dst:=(some 19),op:=(Op.load 3 (Operand.tmp 6)),type:=3,pos:="l11_console.go:328",after:=#[],guard:=none },{ dst:=(some 20),op:=(Op.binOp BinOp.add 3 (Operand.tmp 19) (Operand.const (Value.int IntKind.i64 1)) 3),type:=3,pos:="l11_console.go:328",after:=#[{ on:=0,ground:=Ground.data }],guard:=none },{ dst:=none,op:=(Op.store 3 (Operand.tmp 6) (Operand.tmp 20)),type:=0,pos:="l11_console.go:328",after:=#[{ on:=1,ground:=Ground.data },{ on:=0,ground:=Ground.phase },{ on:=1,ground:=Ground.phase }],guard:=none }] false) (Code.seq (Code.region 8 #[{ dst:=(some 21),op:=(Op.load 3 (Operand.tmp 6)),type:=3,pos:="l11_console.go:328",after:=#[],guard:=none },{ dst:=(some 22),op:=(Op.binOp BinOp.gtr 3 (Operand.tmp 21) (Operand.const (Value.int IntKind.i64 40)) 3),type:=4,pos:="l11_console.go:328",after:=#[{ on:=0,ground:=Ground.data }],guard:=none }] false) (Code.cond (Operand.tmp 22) (Code.seq (Code.region 9 #[{ dst:=(some 23),op:=(Op.build 28 #[]),type:=28,pos:="l11_console.go:329",after:=#[],guard:=none },{ dst:=none,op:=(Op.store 28 (Operand.tmp 2) (Operand.tmp 23)),type:=0,pos:="l11_console.go:329",after:=#[{ on:=0,ground:=Ground.data },{ on:=0,ground:=Ground.phase }],guard:=none },{ dst:=none,op:=(Op.store 9 (Operand.tmp 3) (Operand.const (Value.string { data:=#[] }))),type:=0,pos:="l11_console.go:329",after:=#[{ on:=1,ground:=Ground.chain },{ on:=0,ground:=Ground.phase },{ on:=1,ground:=Ground.phase }],guard:=none },{ dst:=none,op:=(Op.store 4 (Operand.tmp 4) (Operand.const (Value.bool false))),type:=0,pos:="l11_console.go:329",after:=#[{ on:=2,ground:=Ground.chain },{ on:=0,ground:=Ground.phase },{ on:=1,ground:=Ground.phase },{ on:=2,ground:=Ground.phase }],guard:=none }] false) Code.ret) Code.skip)))
def HU:Code:=(Code.region 10 #[{ dst:=(some 24),op:=(Op.move (Operand.tmp 8)),type:=9,pos:="l11_console.go:331",after:=#[],guard:=none },{ dst:=(some 25),op:=(Op.call { callee:=(Callee.value (Operand.func 54)),args:=#[(Operand.tmp 24),(Operand.const (Value.string { data:=#[10] }))],argTypes:=#[9,9] }),type:=9,pos:="l11_console.go:331",after:=#[{ on:=0,ground:=Ground.data }],guard:=none },{ dst:=(some 8),op:=(Op.assign (Operand.tmp 25)),type:=9,pos:="l11_console.go:331",after:=#[{ on:=1,ground:=Ground.data },{ on:=1,ground:=Ground.chain },{ on:=0,ground:=Ground.phase },{ on:=1,ground:=Ground.phase }],guard:=none }] false)
def RZ:Code:=(Code.seq (Code.region 11 #[{ dst:=(some 26),op:=(Op.move (Operand.tmp 8)),type:=9,pos:="l11_console.go:332",after:=#[],guard:=none },{ dst:=(some 27),op:=(Op.binOp BinOp.eql 9 (Operand.tmp 26) (Operand.const (Value.string { data:=#[] })) 9),type:=4,pos:="l11_console.go:332",after:=#[{ on:=0,ground:=Ground.data }],guard:=none }] false) (Code.cond (Operand.tmp 27) (Code.exit 1) Code.skip))
def IG:Code:=(Code.region 12 #[{ dst:=(some 29),op:=(Op.load 28 (Operand.tmp 5)),type:=28,pos:="l11_console.go:335",after:=#[],guard:=none },{ dst:=(some 30),op:=(Op.move (Operand.tmp 8)),type:=9,pos:="l11_console.go:335",after:=#[],guard:=none },{ dst:=(some 31),op:=(Op.call { callee:=(Callee.value (Operand.func 29)),args:=#[(Operand.tmp 29),(Operand.tmp 30)],argTypes:=#[28,9] }),type:=33,pos:="l11_console.go:335",after:=#[{ on:=0,ground:=Ground.data },{ on:=1,ground:=Ground.data }],guard:=none },{ dst:=(some 28),op:=(Op.move (Operand.tmp 31)),type:=33,pos:="l11_console.go:335",after:=#[{ on:=2,ground:=Ground.data }],guard:=none },{ dst:=(some 32),op:=(Op.extract (Operand.tmp 28) 0),type:=28,pos:="l11_console.go:335",after:=#[{ on:=3,ground:=Ground.data }],guard:=none },{ dst:=(some 33),op:=(Op.extract (Operand.tmp 28) 1),type:=9,pos:="l11_console.go:335",after:=#[{ on:=3,ground:=Ground.data },{ on:=7,ground:=(Ground.gcOnly Departure.lateStores) }],guard:=none },{ dst:=(some 9),op:=(Op.alloc 28),type:=0,pos:="l11_console.go:335",after:=#[],guard:=none },{ dst:=none,op:=(Op.store 28 (Operand.tmp 9) (Operand.tmp 32)),type:=0,pos:="l11_console.go:335",after:=#[{ on:=6,ground:=Ground.data },{ on:=4,ground:=Ground.data },{ on:=2,ground:=Ground.chain },{ on:=0,ground:=Ground.phase },{ on:=1,ground:=Ground.phase },{ on:=2,ground:=Ground.phase },{ on:=3,ground:=Ground.phase },{ on:=4,ground:=Ground.phase },{ on:=5,ground:=(Ground.textOnly Departure.lateStores) },{ on:=6,ground:=Ground.phase }],guard:=none },{ dst:=(some 10),op:=(Op.assign (Operand.tmp 33)),type:=9,pos:="l11_console.go:335",after:=#[{ on:=5,ground:=Ground.data },{ on:=7,ground:=Ground.chain },{ on:=0,ground:=Ground.phase },{ on:=1,ground:=Ground.phase },{ on:=2,ground:=Ground.phase },{ on:=3,ground:=Ground.phase },{ on:=4,ground:=Ground.phase },{ on:=5,ground:=Ground.phase },{ on:=6,ground:=Ground.phase },{ on:=7,ground:=Ground.phase }],guard:=none }] false)
def H2:Code:=(Code.region 13 #[{ dst:=(some 34),op:=(Op.load 28 (Operand.tmp 9)),type:=28,pos:="l11_console.go:336",after:=#[],guard:=none },{ dst:=none,op:=(Op.store 28 (Operand.tmp 5) (Operand.tmp 34)),type:=0,pos:="l11_console.go:336",after:=#[{ on:=0,ground:=Ground.data },{ on:=0,ground:=Ground.phase }],guard:=none }] false)
def JP:Oper:={ dst:=(some 35),op:=(Op.move (Operand.tmp 10)),type:=9,pos:="l11_console.go:337",after:=#[],guard:=none }
def JD:Oper:={ dst:=(some 36),op:=(Op.binOp BinOp.add 9 (Operand.tmp 35) (Operand.const (Value.string { data:=#[10] })) 9),type:=9,pos:="l11_console.go:337",after:=#[{ on:=0,ground:=Ground.data }],guard:=none }
def OS:Oper:={ dst:=(some 37),op:=(Op.call { callee:=(Callee.value (Operand.func 55)),args:=#[(Operand.tmp 7),(Operand.tmp 36)],argTypes:=#[71,9] }),type:=78,pos:="l11_console.go:337",after:=#[{ on:=1,ground:=Ground.data }],guard:=none }
def Ie:Code:=.region 14 #[JP,JD,OS] false
def wV:Code:=.block 1 (QK [SL,HU,RZ,IG,H2] Ie)
def cA(N N':Mem):Prop:=∀ b B,N b=none->N' b=some B->B.own=true
theorem cA.refl(N:Mem):cA N N:=fun b B h1 h2=>by rw[h1]at h2;cases h2
theorem cA.put{N N':Mem}(h:cA N N')(b:Nat)(B:Blk)(hB:B.own=true):cA N (N'.put b B):=by
 intro i X h1 h2;unfold Mem.put at h2;split at h2
 ·cases h2;exact hB
 ·exact h i X h1 h2
theorem cA.own{N N' N'':Mem}{v:Value}{xs:List Value}(h:cA N N')(o:Own N' v xs N''):cA N N'':=by
 rcases o with ⟨_,_,rfl⟩|⟨b,c,_,_,_,rfl⟩
 ·exact h
 ·exact h.put _ _ rfl
theorem cA.gv{N N' N'':Mem}{v v':Value}{d d':Dk}(h:cA N N')(g:Gv N' v d v' d' N''):cA N N'':=by
 rcases g with ⟨_,_,rfl⟩|o
 ·exact h
 ·exact h.own o
structure BO(b2 b3 b4 b5 b6:Nat):Prop where
 n23:b2≠b3
 n24:b2≠b4
 n25:b2≠b5
 n26:b2≠b6
 n34:b3≠b4
 n35:b3≠b5
 n36:b3≠b6
 n45:b4≠b5
 n46:b4≠b6
 n56:b5≠b6
structure CN(M0:Mem)(b2 b3 b4 b5 b6:Nat)(i:Nat)(d:Dk)(N:Mem):Prop where
 im:∃ u M1,Own M0 u (strs d.ms) M1/\Sub M1 N/\N b5=some (.cells true [str d.w,str d.p,u] 3)/\M1 b2=none/\M1 b3=none/\M1 b4=none/\M1 b5=none/\M1 b6=none
 k2:N b2=some (.cells true [str [],str [],.slice none 0 0] 3)
 k3:N b3=some (.cells true [str []] 1)
 k4:N b4=some (.cells true [.bool false] 1)
 k6:N b6=some (.cells true [.int .i64 i] 1)
def Rm(M0:Mem)(b2 b3 b4 b5 b6:Nat)(i:Nat)(d:Dk)(ln:List UInt8)(N:Mem):Exit->Env->Mem->Prop
 | .exit id,_,N'=>id=1/\i+1<=40/\ln=[]/\CN M0 b2 b3 b4 b5 b6 (i+1) d N'/\cA N N'
 | .ret,_,N'=>40<i+1/\Sub M0 N'/\N' b2=some (.cells true [str [],str [],.slice none 0 0] 3)/\N' b3=some (.cells true [str []] 1)/\N' b4=some (.cells true [.bool false] 1)/\cA N N'
 | _,_,_=>False
def Rb(M0:Mem)(b2 b3 b4 b5 b6 b7:Nat)(i:Nat)(d:Dk)(ln:List UInt8)(N:Mem)(env:Env)(N':Mem):Prop:=
 i+1<=40/\ln≠[]/\env 7=.pointer (some ⟨b7,0,none⟩)/\env 10=str (iO d ln).2/\CN M0 b2 b3 b4 b5 b6 (i+1) (iO d ln).1 N'/\cA N N'
theorem fT{M:Mem}{b:Nat}{B:Blk}(h:M b=some B):M.put b B=M:=by
 funext i;unfold Mem.put;split
 ·rename_i e;subst e;exact h.symm
 ·rfl
theorem KZ(pc:List UInt8)(M:Mem)(R:VP)(hl:pc.length<=1000000)(h:R (str (Lib.trimSuffix pc [10])) M):ar prog 54 [str pc,str [10]] M R:=
 dk _ ⟨_,func54,by kernel_rfl,by kernel_rfl⟩ (fun w _=>(Tryz.strings_TrimSuffix ⟨pc.toArray⟩ ⟨#[10]⟩ w (by show pc.toArray.size<=_;rw[size_toArray];omega)).mono (by rintro e w' ⟨rfl,rfl⟩;exact⟨rfl,Below.refl _ _⟩)) h
theorem F0(pc:List UInt8):(Lib.trimSuffix pc [10]).length<=pc.length:=by
 unfold Lib.trimSuffix;split
 ·rw[length_take];omega
 ·exact Nat.le_refl _
theorem RY{M0 M1 M':Mem}{u v':Value}{d d':Dk}(o:Own M0 u (strs d.ms) M1)(g:Gv M1 u d v' d' M'):∃ M8,Own M0 v' (strs d'.ms) M8/\Sub M8 M':=by
 rcases g with ⟨rfl,h,rfl⟩|o'
 ·rw[h];exact⟨_,o,Sub.refl _⟩
 ·obtain⟨M8,h1,h2,_⟩:=ee o.sub o';exact⟨M8,h1,h2⟩
set_option maxHeartbeats 4000000 in
theorem PR(M0:Mem)(b2 b3 b4 b5 b6 b7 i:Nat)(d:Dk)(pc:List UInt8)(N:Mem)(env:Env)(hap:BO b2 b3 b4 b5 b6)(hi:i<=40)(hok:d.ok)(hpc:pc.length<=1000000)(hvar:ch M0)(hN:CN M0 b2 b3 b4 b5 b6 i d N)
  (e2:env 2=.pointer (some ⟨b2,0,none⟩)) (e3:env 3=.pointer (some ⟨b3,0,none⟩)) (e4:env 4=.pointer (some ⟨b4,0,none⟩)) (e5:env 5=.pointer (some ⟨b5,0,none⟩)) (e6:env 6=.pointer (some ⟨b6,0,none⟩)) (e7:env 7=.pointer (some ⟨b7,0,none⟩)) (e8:env 8=str pc) :
  vcL prog tab 41 [SL,HU,RZ,IG,H2] (Rb M0 b2 b3 b4 b5 b6 b7 i d (Lib.trimSuffix pc [10]) N) (Rm M0 b2 b3 b4 b5 b6 i d (Lib.trimSuffix pc [10]) N) env N:=by
 obtain⟨⟨u,M1,o1,s1,k5,m2,m3,m4,m5,m6⟩,k2,k3,k4,k6⟩:=hN;have hfu:=aZ o1.rd;have hS0:Sub M0 N:=o1.sub.trans s1;unfold SL HU RZ IG H2;have hi1:(i:Int)+1=((i+1:Nat):Int):=by omega
 have s6:Sub M1 (N.put b6 (.cells true [.int .i64 (i+1:Nat)] 1)):=s1.put m6 _;have q2:(N.put b6 (.cells true [.int .i64 (i+1:Nat)] 1)) b2=_:=(ai _ _ hap.n26).trans k2;have q3:(N.put b6 (.cells true [.int .i64 (i+1:Nat)] 1)) b3=_:=(ai _ _ hap.n36).trans k3;have q4:(N.put b6 (.cells true [.int .i64 (i+1:Nat)] 1)) b4=_:=(ai _ _ hap.n46).trans k4;have q5:(N.put b6 (.cells true [.int .i64 (i+1:Nat)] 1)) b5=_:=(ai _ _ hap.n56).trans k5;have q6:(N.put b6 (.cells true [.int .i64 (i+1:Nat)] 1)) b6=some (.cells true [.int .i64 (i+1:Nat)] 1):=ag _ _ _;have w6:cA N (N.put b6 (.cells true [.int .i64 (i+1:Nat)] 1)):=(cA.refl N).put _ _ rfl;obtain⟨i1,hi2⟩:∃ i1,i1=i+1:=⟨_,rfl⟩;unfold Rb Rm;rw[<-hi2]at hi1 s6 q2 q3 q4 q5 q6 w6 ⊢;simp(disch:=omega)[e6,aj k6,k6,al,hi1];have hs06:Sub M0 (N.put b6 (.cells true [.int .i64 i1] 1)):=o1.sub.trans s6;generalize N.put b6 (.cells true [.int .i64 i1] 1)=N6 at *;by_cases hgt:40<i1
 ·have hgI:(40:Int)<(i1:Nat):=by omega
  have p2:N6.put b2 (.cells true [str [],str [],.slice none 0 0] 3)=N6:=fT q2;have p3:N6.put b3 (.cells true [str []] 1)=N6:=fT q3;have p4:N6.put b4 (.cells true [.bool false] 1)=N6:=fT q4;simp(disch:=omega)[hgI,e2,e3,e4,q2,al,p2,q3,p3,q4,p4];exact⟨hgt,hs06,w6⟩
 have hgI:¬(40:Int)<(i1:Nat):=by omega
 have htl:=F0 pc;simp(disch:=omega)[hgI,e8];refine KZ pc _ _ hpc ?_;generalize Lib.trimSuffix pc [10]=ln at *;by_cases hln:ln=[]
 ·subst hln;simp(disch:=omega);exact⟨by omega,⟨⟨u,M1,o1,s6,q5,m2,m3,m4,m5,m6⟩,q2,q3,q4,q6⟩,w6⟩
 ·simp(disch:=omega)[beq_eq_false_iff_ne.2 hln,e5,aq q5];refine Oe d u ln _ _ hok (hvar.sub hs06) (o1.rd.sub s6) (by omega) ?_;intro d' v' t M7 g7 hrun;have w7:=w6.gv g7;have hf7:=aZ (Rr (o1.rd.sub s6) g7);obtain⟨M',g',t1,n1⟩:=Dw s6 g7;have r2:=cY g7 _ _ q2;have r3:=cY g7 _ _ q3;have r4:=cY g7 _ _ q4;have r5:=cY g7 _ _ q5;have r6:=cY g7 _ _ q6;obtain⟨M8,o8,t8⟩:=RY o1 g';have z2:=bM t8 (n1 _ _ m2 q2);have z3:=bM t8 (n1 _ _ m3 q3);have z4:=bM t8 (n1 _ _ m4 q4);have z5:=bM t8 (n1 _ _ m5 q5);have z6:=bM t8 (n1 _ _ m6 q6);have s8:Sub M8 M7:=t8.trans t1;clear g' t1 n1 t8;unfold dkV;simp(disch:=omega);intro b9 hb9;have n29:b2≠b9:=by rintro rfl;rw[r2]at hb9;cases hb9
  have n39:b3≠b9:=by rintro rfl;rw[r3]at hb9;cases hb9
  have n49:b4≠b9:=by rintro rfl;rw[r4]at hb9;cases hb9
  have n59:b5≠b9:=by rintro rfl;rw[r5]at hb9;cases hb9
  have n69:b6≠b9:=by rintro rfl;rw[r6]at hb9;cases hb9
  simp(disch:=omega)[hf7,al,a7,r5,e5];rw[hrun];exact⟨by omega,hln,e7,rfl,⟨⟨v',M8,o8,(s8.putN hb9 _).ovr z5 _,ag _ _ _,z2,z3,z4,z5,z6⟩,by rw[ai _ _ hap.n25,ai _ _ n29];exact r2,by rw[ai _ _ hap.n35,ai _ _ n39];exact r3,by rw[ai _ _ hap.n45,ai _ _ n49];exact r4,by rw[ai _ _ (Ne.symm hap.n56),ai _ _ n69];exact r6⟩,(w7.put _ _ rfl).put _ _ rfl⟩
set_option maxRecDepth 4000
def goX:Nat->List UInt8->Nat->Dk×List UInt8->Option (Dk×List UInt8)
 | 0,_,_,s=>some s
 | f+1,r,i,s=>if r=[] then some s else if 40<i+1 then none else goX f (eP r) (i+1) (jR s (Lib.trimSuffix (gV r) [10]))
theorem AG{N:Mem}{b:Nat}(h:N b=none):¬ owns N b:=fun ⟨B,h1,_⟩=>by rw[h]at h1;cases h1
theorem aO{w:World}{b:Nat}{o:Obj}(h:w.heap[b]?=some o):b<w.heap.size:=(Array.getElem?_eq_some_iff.1 h).1
theorem bW{N N':Mem}{w w':World}(x:Ext N w N' w'){b:Nat}{o:Obj}(hb:w.heap[b]?=some o)(hn:N b=none):w'.heap[b]?=some o:=(x.block b (aO hb) (AG hn)).trans hb
theorem da{N N':Mem}{w w':World}(x:Ext N w N' w')(hnew:cA N N'){b:Nat}(hb:b<w.heap.size)(hn:N b=none):N' b=none:=by
 cases h:N' b with
 | none=>rfl
 | some B=>exact((x.own b ⟨B,h,hnew b B hn h⟩).elim (fun h'=>absurd h' (AG hn)) (fun h'=>by omega))
theorem iz{N:Mem}{w w':World}{X:Nat}{row:Option Nat}(h:Rep N w)(ht:el X row w w')(hX:N X=none)(hrow:∀ g,row=some g->N g=none):Rep N w':=fun b B hB=>
 Blk.holds_of (ht.block b (jI h hB) (by rintro rfl;rw[hX]at hB;cases hB) (fun e=>by rw[hrow b e]at hB;cases hB)) (h b B hB)
theorem iE{M0 N:Mem}{w0 w w':World}{X:Nat}{row:Option Nat}(h:Ext M0 w0 N w)(ht:el X row w w')(hX:w0.heap.size<=X)(hrow:∀ g,row=some g->w0.heap.size<=g):Ext M0 w0 N w':=
 ⟨ht.os.trans h.os,ht.tape.trans h.tape,ht.output.trans h.output,Nat.le_trans h.size ht.size,fun b hb ho=>(ht.block b (Nat.lt_of_lt_of_le hb h.size) (by omega) (fun e=>by have:=hrow b e;omega)).trans (h.block b hb ho),h.own⟩
theorem eL(w:World)(X:Nat)(o:Obj):el X none w (w.putObj X o):=⟨rfl,rfl,rfl,by simp,fun k _ hk _=>World.putObj_heap_other hk⟩
theorem qg{w w':World}{base:Nat}{e:TypeId}{size:Nat}{v:Value}{n:Nat}{xs:List Value}(h:w.ownsRowF base e size v n xs)(hs:∀ g o,v.ownBlock=some g->w.heap[g]?=some o->w'.heap[g]?=some o):w'.ownsRowF base e size v n xs:=by
 refine⟨h.1,?_⟩;rcases h.2 with h|⟨g,cap,cur,fz,rfl,h1,h2,h3⟩
 ·exact .inl h
 ·exact .inr ⟨g,cap,cur,fz,rfl,h1,hs g _ rfl h2,h3⟩
structure Core(M0:Mem)(w0:World)(b7:Nat)(N:Mem)(W:World)(out:List UInt8):Prop where
 rep:Rep N W
 ext:Ext M0 w0 N W
 n7:N b7=none
 bd:∃ p v,(p=.pointer none\/p=.pointer (some ⟨b7,0,none⟩))/\W.heap[b7]?=some (.cells #[p,v] 71 (0,0))/\W.ownsRowF w0.heap.size 5 1 v (av out).length (av out)/\v.ownBlock≠some b7/\(∀ g,v.ownBlock=some g->N g=none)/\(out=[]->v=.slice none 0 0)
theorem iC{w:World}{base:Nat}{e:TypeId}{size:Nat}{v:Value}{n:Nat}{xs:List Value}(h:w.ownsRowF base e size v n xs){g:Nat}(hg:v.ownBlock=some g):base<=g/\∃ c fz,w.heap[g]?=some (.cells c e fz):=by
 rcases h.2 with ⟨rfl,_⟩|⟨g',cap,cur,fz,rfl,h1,h2,h3⟩
 ·cases hg
 ·cases hg;exact⟨h1,_,_,h2⟩
theorem Core.turns{M0:Mem}{w0:World}{b7:Nat}{N:Mem}{W W':World}{out:List UInt8}{X:Nat}(h:Core M0 w0 b7 N W out)(ht:el X none W W')(hN:N X=none)(hX:w0.heap.size<=X)(h1:∀ c fz,W.heap[X]?≠some (.cells c 5 fz))(h2:∀ c fz,W.heap[X]?≠some (.cells c 71 fz)):Core M0 w0 b7 N W' out:=by
 obtain⟨p,v,hp,hb,ho,hne,hg,hz⟩:=h.bd;refine⟨iz h.rep ht hN (fun g e=>by cases e),iE h.ext ht hX (fun g e=>by cases e),h.n7,p,v,hp,?_,?_,hne,hg,hz⟩
 ·exact(ht.block b7 (aO hb) (by rintro rfl;exact h2 _ _ hb) (fun e=>by cases e)).trans hb
 ·exact qg ho fun g o hgo hgh=>by
   obtain⟨_,c,fz,hh⟩:=iC ho hgo;exact(ht.block g (aO hgh) (by rintro rfl;exact h1 _ _ hh) (fun e=>by cases e)).trans hgh
theorem Core.step{M0:Mem}{w0:World}{b7:Nat}{N N':Mem}{W W':World}{out:List UInt8}(h:Core M0 w0 b7 N W out)(x:Ext N W N' W')(hr:Rep N' W')(hnew:cA N N'):Core M0 w0 b7 N' W' out:=by
 obtain⟨p,v,hp,hb,ho,hne,hg,hz⟩:=h.bd;refine⟨hr,h.ext.trans x,da x hnew (aO hb) h.n7,p,v,hp,bW x hb h.n7,?_,hne,?_,hz⟩
 ·exact qg ho fun g o hgo hgh=>bW x hgh (hg g hgo)
 ·intro g hgo;obtain⟨_,c,fz,hh⟩:=iC ho hgo;exact da x hnew (aO hh) (hg g hgo)
theorem WO(B b:Nat)(bs:List Value)(s:ByteArray)(v p:Value)(w:World)(hp:p=.pointer none\/p=.pointer (some ⟨b,0,none⟩))(hb:w.heap[b]?=some (.cells #[p,v] 71 (0,0)))
  (hown:w.ownsRowF B 5 1 v bs.length bs) (hne:v.ownBlock≠some b) (hB:B<=b) (hlen:bs.length+s.size<=140737488355328) (hBw:B<=w.heap.size) :
  Calls prog 55 #[.pointer (some ⟨b,0,none⟩),.string s] w fun e w'=>e=.returned (.tuple #[.int .i64 s.size,.nilIface])/\(∃ v',w'.heap[b]?=some (.cells #[.pointer (some ⟨b,0,none⟩),v'] 71 (0,0))/\w'.ownsRowF B 5 1 v' (bs++Lib.strCells s).length (bs++Lib.strCells s)/\v'.ownBlock≠some b/\∀ g',v'.ownBlock=some g'->v.ownBlock=some g'\/w.heap.size<=g')/\el b v.ownBlock w w':=
 Ag (ρ:=Tryz.lays156_ren) { Tryz.lays156 with } Tryz.Builder_Extra_156 B b bs s v p w hp hb hown hne hB hlen hBw
abbrev gH(tm:Array Value)(D:Nat)(fn:FuncId)(st:LoopState)(pend:Option Code):Loop:={ state:=st,pending:=pend,fn:=fn,tmps:=tm,params:=#[18],assign:=iF,body:=wV,defers:=D }
def JC(M0:Mem)(w0:World)(b2 b3 b4 b5 b6 b7 l D Bs:Nat)(tm:Array Value)(fn:FuncId)(Z:Option (Dk×List UInt8))(r:List UInt8)(W:World):Prop:=
 ∃ f i s N,r.length<=f/\i<=40/\s.1.ok/\s.2.length<=i*1100001/\goX f r i s=Z/\CN M0 b2 b3 b4 b5 b6 i s.1 N/\Core M0 w0 b7 N W s.2/\N l=none/\N D=none/\N Bs=none /\
  W.heap[l]?=some (.loop (gH tm D fn .ready none))/\W.heap[D]?=some (.deferred (some []))/\∃ c,W.heap[Bs]?=some (.cells c 9 (0,0))
def JX(M0:Mem)(w0:World)(b2 b3 b4 l D:Nat)(tm:Array Value)(fn:FuncId)(Z:Option (Dk×List UInt8))(W:World):Prop:=
 Z=none/\∃ N,Rep N W/\Ext M0 w0 N W/\Sub M0 N/\N b2=some (.cells true [str [],str [],.slice none 0 0] 3)/\N b3=some (.cells true [str []] 1)/\N b4=some (.cells true [.bool false] 1)/\N l=none/\N D=none /\
  W.heap[l]?=some (.loop (gH tm D fn .done (some .ret)))/\W.heap[D]?=some (.deferred (some []))
theorem Df{id:Nat}{Q:Exit->Act->World->Prop}{a:Act}{w:World}:Exit.inBlock id Q (.exit id) a w=Q .normal a w:=if_pos rfl
theorem xh{id:Nat}{Q:Exit->Act->World->Prop}{a:Act}{w:World}:Exit.inBlock id Q .normal a w=Q .normal a w:=rfl
theorem LS(r:List UInt8):(gV r).length<=r.length:=by
 unfold gV;split
 ·rw[length_take];omega
 ·exact Nat.le_refl _
set_option maxHeartbeats 2000000 in
theorem KR(M0:Mem)(w0:World)(b2 b3 b4 b5 b6 b7 l D Bs:Nat)(tm:Array Value)(fn:FuncId)(Z:Option (Dk×List UInt8))(nM:Env)(n:Nat)(hap:BO b2 b3 b4 b5 b6)(hvar:ch M0)(hB7:w0.heap.size<=b7)(hBl:w0.heap.size<=l)(hlD:l≠D)(hlB:l≠Bs)
  (htm:tm.size=41) (hev:(⟨tm,[]⟩:Act).eval=ev nM)
  (e2:nM 2=.pointer (some ⟨b2,0,none⟩)) (e3:nM 3=.pointer (some ⟨b3,0,none⟩)) (e4:nM 4=.pointer (some ⟨b4,0,none⟩)) (e5:nM 5=.pointer (some ⟨b5,0,none⟩)) (e6:nM 6=.pointer (some ⟨b6,0,none⟩)) (e7:nM 7=.pointer (some ⟨b7,0,none⟩))
  (r:List UInt8) (W:World) (hJ:JC M0 w0 b2 b3 b4 b5 b6 b7 l D Bs tm fn Z r W) (hr:r≠[]) (hrl:r.length<=1000000) :
  YieldAt Fence.wide n prog l #[str (gV r)] W fun e W'=>
   (e=.returned (.bool true)/\JC M0 w0 b2 b3 b4 b5 b6 b7 l D Bs tm fn Z (eP r) W'/\W'.heap[Bs]?=W.heap[Bs]?)\/(e=.returned (.bool false)/\JX M0 w0 b2 b3 b4 l D tm fn Z W'):=by
 obtain⟨f,i,s,N,hf,hi,hok,hsl,hZ,hN,hC,nl,nD,nB,hL,hD,c,hBs⟩:=hJ;have hpcl:(gV r).length<=1000000:=Nat.le_trans (LS r) hrl;have htl:=ow hr;obtain⟨f',rfl⟩:∃ f',f=f'+1:=⟨f-1,by have:0<r.length:=List.length_pos_iff.2 hr;omega⟩;unfold goX at hZ;rw[if_neg hr]at hZ;generalize gV r=pc at *;have hlnl:(Lib.trimSuffix pc [10]).length<=1000000:=Nat.le_trans (F0 pc) hpcl;refine⟨fn,tm.setIfInBounds 18 (str pc),iF,wV,by simpa[gH] using run_yield (P:=prog) (args:=#[str pc]) hL rfl,roundIn_of_wpIn trivial ?_⟩;have hfit:fq [] 41 (put nM (some 18) (str pc)) (⟨tm.setIfInBounds 18 (str pc),[]⟩:Act):=(fq.put (a:=⟨tm,[]⟩) ⟨rfl,htm,hev⟩ (d:=some 18) (fun t e=>by cases e;decide) (str pc));have hA:jT (some l) n [] prog 41 iF (fun e env' N'=>e=.normal/\env'=put (put nM (some 18) (str pc)) (some 8) (str pc)/\N=N') (put nM (some 18) (str pc)) N:=J6 tab aR iF _ _ _ (by kernel_rfl) (by kernel_rfl) (by unfold iF;simp(disch:=omega));refine wpIn_mono (hA N W _ W hfit hC.rep (Ext.refl N W)) ?_
 rintro e a1 w1 ⟨env1,N1,f1,r1,x1,rfl,rfl,rfl⟩
 have hC1:=hC.step x1 r1 (cA.refl N);have hL1:=bW x1 hL nl;have hD1:=bW x1 hD nD;have hB1:=bW x1 hBs nB;refine⟨_,run_beginRound hL1 rfl,?_⟩;have hT2:=eL w1 l (.loop (gH tm D fn .busy none));have hC2:=hC1.turns hT2 nl hBl (fun c fz e=>by rw[hL1]at e;cases e) (fun c fz e=>by rw[hL1]at e;cases e);have hL2:(w1.putObj l (.loop (gH tm D fn .busy none))).heap[l]?=some (.loop (gH tm D fn .busy none)):=World.putObj_heap_same (aO hL1);have hD2:=(World.putObj_heap_other (o:=.loop (gH tm D fn .busy none)) (w:=w1) (Ne.symm hlD)).trans hD1;have hB2:=(World.putObj_heap_other (o:=.loop (gH tm D fn .busy none)) (w:=w1) (Ne.symm hlB)).trans hB1;have hBsz:w1.heap[Bs]?=W.heap[Bs]?:=hB1.trans hBs.symm;generalize w1.putObj l (.loop (gH tm D fn .busy none))=w2 at *;clear hA hT2 hC hC1;have fin:∀(a:Act) (w:World) (N':Mem) (s':Dk×List UInt8),¬ 40<i+1->s'.1.ok->s'.2.length<=(i+1)*1100001->jR s (Lib.trimSuffix pc [10])=s'->CN M0 b2 b3 b4 b5 b6 (i+1) s'.1 N'->Core M0 w0 b7 N' w s'.2->N' l=none->N' D=none->N' Bs=none ->
   w.heap[l]?=some (.loop (gH tm D fn .busy none))->w.heap[D]?=some (.deferred (some []))->w.heap[Bs]?=some (.cells c 9 (0,0)) ->
   roundPost prog l (fun e W'=>(e=.returned (.bool true)/\JC M0 w0 b2 b3 b4 b5 b6 b7 l D Bs tm fn Z (eP r) W'/\W'.heap[Bs]?=W.heap[Bs]?)\/(e=.returned (.bool false)/\JX M0 w0 b2 b3 b4 l D tm fn Z W')) .normal a w:=by
  intro a w N' s' h40 hok' hsl' hst hcn hcore ml mD mB gL gD gB;refine⟨_,_,run_endRound none gL,.inl ⟨rfl,?_,(World.putObj_heap_other (Ne.symm hlB)).trans (gB.trans hBs.symm)⟩⟩;have ht:=eL w l (.loop (gH tm D fn .ready none));rw[if_neg h40,hst]at hZ;exact⟨f',i+1,s',N',by omega,by omega,hok',hsl',hZ,hcn,hcore.turns ht ml hBl (fun c fz e=>by rw[gL]at e;cases e) (fun c fz e=>by rw[gL]at e;cases e),ml,mD,mB,World.putObj_heap_same (aO gL),(World.putObj_heap_other (Ne.symm hlD)).trans gD,c,(World.putObj_heap_other (Ne.symm hlB)).trans gB⟩
 unfold wV;refine wpIn_block ?_;refine Ja (ro:=some l) (k:=n) (ds:=[]) aR Ie (M0:=N) (w0:=w2) ?hq ?hz _ _ N a1 w2 (by kernel_rfl) (PR M0 b2 b3 b4 b5 b6 b7 i s.1 pc N _ hap hi hok hpcl hvar hN (by simp[e2]) (by simp[e3]) (by simp[e4]) (by simp[e5]) (by simp[e6]) (by simp[e7]) (by simp)) f1 hC2.rep (Ext.refl N w2)
 case hq=>
  rintro e a w hne ⟨env',N',g',r',x',h'⟩
  cases e with
  | exit id=>
   obtain⟨rfl,hi40,hln,hcn,hnew⟩:=h';rw[Df];refine fin a w N' s (by omega) hok (Nat.le_trans hsl (Nat.mul_le_mul_right _ (Nat.le_succ i))) (by rw[hln];unfold jR;rw[if_pos rfl]) hcn (hC2.step x' r' hnew) (da x' hnew (aO hL2) nl) (da x' hnew (aO hD2) nD) (da x' hnew (aO hB2) nB) (bW x' hL2 nl) (bW x' hD2 nD) (bW x' hB2 nB)
  | ret=>
   obtain⟨h40,hs0,k2,k3,k4,hnew⟩:=h';have gL:=bW x' hL2 nl;refine⟨_,_,run_endRound (some .ret) gL,.inr ⟨rfl,?_⟩⟩;rw[if_pos h40]at hZ;have ml:=da x' hnew (aO hL2) nl;have ht:=eL w l (.loop (gH tm D fn .done (some .ret)));exact⟨hZ.symm,N',iz r' ht ml (fun g e=>by cases e),iE (hC2.ext.trans x') ht hBl (fun g e=>by cases e),hs0,k2,k3,k4,ml,da x' hnew (aO hD2) nD,World.putObj_heap_same (aO gL),(World.putObj_heap_other (Ne.symm hlD)).trans (bW x' hD2 nD)⟩
  | normal=>exact absurd rfl hne
  | goto id=>exact h'.elim
  | panic c=>exact h'.elim
  | outgrown=>exact h'.elim
 case hz=>
  rintro env' N' a w g' r' x' ⟨hi40,hln,e7',e10,hcn,hnew⟩
  have hC3:=hC2.step x' r' hnew;have gl:=da x' hnew (aO hL2) nl;have gD:=da x' hnew (aO hD2) nD;have gB:=da x' hnew (aO hB2) nB;have hL3:=bW x' hL2 nl;have hD3:=bW x' hD2 nD;have hB3:=bW x' hB2 nB;have hrl2:=wy hok hlnl;have hok2:=HQ hok (Lib.trimSuffix pc [10]);have hst:jR s (Lib.trimSuffix pc [10])=((iO s.1 (Lib.trimSuffix pc [10])).1,s.2++(iO s.1 (Lib.trimSuffix pc [10])).2++[10]):=by unfold jR;rw[if_neg hln]
  generalize iO s.1 (Lib.trimSuffix pc [10])=RR at *;unfold Ie;refine wpIn_region_list ?_;refine iK (ro:=some l) (k:=n) (ds:=[]) (n:=41) (M0:=N') (w0:=w) (K:=fun env2 N2=>N'=N2/\env2 7=.pointer (some ⟨b7,0,none⟩)/\env2 36=str (RR.2++[10])) aR [JP,JD,OS] [OS] ?_ [JP,JD] env' N' a w (by kernel_rfl) (by unfold JP JD;simp(disch:=omega)[e10,e7']) g' r' (Ext.refl N' w)
  rintro env2 N2 a2 w3 f3 r3 x3 ⟨hNN,h7,h36⟩
  subst hNN;refine wpListIn_plain rfl fun K hK=>?_;refine tz (env:=env2) (x:=.func 55) rfl rfl ⟨_,func55,by kernel_rfl,by kernel_rfl⟩ f3.ev ?_;have hC4:=hC3.step x3 r3 (cA.refl N');have hL4:=bW x3 hL3 gl;have hD4:=bW x3 hD3 gD;have hB4:=bW x3 hB3 gB;obtain⟨p,v,hp,hb,ho,hnb,hg,_⟩:=hC4.bd;have hargs:((#[.tmp 7,.tmp 36]:Array Operand).toList.map (ev env2)).toArray = #[.pointer (some ⟨b7,0,none⟩),.string ⟨(RR.2++[10]).toArray⟩]:=by
   show #[env2 7,env2 36]=_;rw[h7,h36];rfl
  rw[hargs];have hbl:(av s.2).length=s.2.length:=aS _;have h1s:(⟨(RR.2++[10]).toArray⟩:ByteArray).size=RR.2.length+1:=by
   show (RR.2++[10]).toArray.size=_;rw[size_toArray,length_append];rfl
  have hs2:s.2.length<=44000040:=Nat.le_trans hsl (Nat.mul_le_mul_right 1100001 hi);have hlen:(av s.2).length+(⟨(RR.2++[10]).toArray⟩:ByteArray).size<=140737488355328:=by rw[h1s,hbl];omega
  have hW:=WO w0.heap.size b7 (av s.2) ⟨(RR.2++[10]).toArray⟩ v p w3 hp hb ho hnb hB7 hlen hC4.ext.size;refine hW.mono ?_
  rintro e w4 ⟨rfl,⟨v',hb',ho',hn',hpl⟩,hT⟩
  refine⟨_,rfl,hK _ _ (wpListIn_nil ?_)⟩;rw[xh];have hout:av s.2++Lib.strCells ⟨(RR.2++[10]).toArray⟩=av (s.2++RR.2++[10]):=by
   rw[append_assoc];unfold av;rw[map_append];rfl
  rw[hout]at ho';have hgB:∀ g,v.ownBlock=some g->w0.heap.size<=g:=fun g hgo=>(iC ho hgo).1;have other:∀ {k:Nat} {o:Obj},w3.heap[k]?=some o->(∀ c fz,o≠.cells c 5 fz)->(∀ c fz,o≠.cells c 71 fz)->w4.heap[k]?=some o:=by
   intro k o hk h5 h38;refine(hT.block k (aO hk) ?_ ?_).trans hk
   ·rintro rfl;rw[hb]at hk;cases hk;exact h38 _ _ rfl
   ·intro e;obtain⟨_,c',fz',hh⟩:=iC ho e;rw[hh]at hk;cases hk;exact h5 _ _ rfl
  refine fin _ w4 N' (RR.1,s.2++RR.2++[10]) (by omega) hok2 (by show (s.2++RR.2++[10]).length<=_;rw[length_append,length_append,Nat.succ_mul];have:([10]:List UInt8).length=1:=rfl;omega) hst hcn ?_ gl gD gB (other hL4 (fun _ _ e=>by cases e) (fun _ _ e=>by cases e)) (other hD4 (fun _ _ e=>by cases e) (fun _ _ e=>by cases e)) (other hB4 (fun _ _ e=>by cases e) (fun _ _ e=>by cases e));refine⟨iz hC4.rep hT hC4.n7 hg,iE hC4.ext hT hB7 hgB,hC4.n7,_,v',.inr rfl,hb',ho',hn',?_,fun e=>absurd (congrArg length e) (by simp)⟩;intro g' hg';rcases hpl g' hg' with h|h
  ·exact hg g' h
  ·cases hn2:N' g' with
   | none=>rfl
   | some B=>have:=jI hC4.rep hn2;omega
end Go.Proofs.YtapimhjbilkfpaaGreatDoor
