/- Lemmas for FnExactDeskAfter, part 4 of 33. -/
import Derived.StillTail
import Derived.Test.YtapimhjbilkfpaaGreatDoorZ02
set_option linter.unusedVariables false
set_option linter.unusedSimpArgs false
namespace Go.Proofs.YtapimhjbilkfpaaGreatDoor
open Go Go.Proofs.Tryz List
def O6(M0:Mem)(rest:Env->Mem->Prop):Env->Mem->Prop:=fun env M=>Sub M0 M/\rest env M
def pl(pm:List Nat)(j:Nat):Nat:=pm.getD j 0
def cM(l:List Oper)(j:Nat):Option Tmp:=(l[j]?).bind (·.dst)
def WE(t:Tmp):Operand->Bool
 | .tmp u=>u==t
 | _=>false
def TQ(l:List Oper)(i:Nat)(t:Tmp):Bool:=match l[i]? with
 | some o=>o.op.operands.toList.any (WE t)
 | none=>false
def Oq(l:List Oper)(i j:Nat):Bool:=i==j||(match cM l i,cM l j with
 | some a,some b=>a != b
 | _,_=>true)
def ZF(r l:List Oper)(pm:List Nat)(i j:Nat):Bool:=i==j||(match cM l j with
 | some t=>!TQ l i t||(decide (j<i)&&Region.waitsFor .any r.toArray (pl pm i) (pl pm j))||(decide (i<j)&&Region.waitsFor .any r.toArray (pl pm j) (pl pm i))
 | none=>true)
def S9(l:List Oper)(i:Nat):Bool:=match l[i]? with
 | some o=>o.after.all fun e=>!Region.binds .any e||decide (e.on<i)
 | none=>true
section
variable {P:Program} {T:Tab} {env:Env} {M:Mem} {Q:Exit->Env->Mem->Prop}
theorem BE{o:Op}{K K':VP}(h:jq P o env M K)(hk:∀ v M',K v M'->K' v M'):jq P o env M K':=
 fun o' a w next Q e1 e2 hw hn=>h o' a w next Q e1 e2 hw fun v M' w' q1 q2 q3=>hn v M' w' q1 q2 (hk v M' q3)
theorem RD{o:Oper}{nt:Nat}{c e:Env}{a:Act}{w:World}{K:VP}(hs:∀ cs b,o.op≠.select cs b)(hd:ki nt o=true)(h:jq P o.op c M K)(hf:Fits nt e a)
  (hx:∀ x∈o.op.operands,ev c x=ev e x) (hc:∀ t,nt<=t->c t=undef) (hw:Rep M w) (next:Act->World->Prop) (Q:Exit->Act->World->Prop)
  (hn:∀ v M' w',Rep M' w'->Ext M w M' w'->K v M'->next (a.put o.dst v) w'):o.upon P a next Q ((execOp a.eval o).run P w):=by
 obtain⟨a2,ha2,hsz⟩:∃ a2:Act,a2.eval=ev c/\a2.tmps.size=nt:=by
  refine⟨{ tmps:=Array.ofFn (n:=nt) fun i=>c i,defers:=[] },?_,by simp⟩
  funext x
  cases x with
  | tmp t=>
   simp only[Act.eval,ev,Array.getD_eq_getD_getElem?];by_cases ht:t<nt
   ·rw[Array.getElem?_eq_getElem (by simpa using ht)];simp
   ·rw[Array.getElem?_eq_none (by simpa using ht),hc t (Nat.le_of_not_lt ht)];rfl
  | const v=>rfl
  | global g=>rfl
  | func f=>rfl
 have hr:execOp a.eval o=execOp a2.eval o:=by
  rw[hf.ev,ha2];exact(execOp_congr o hs hx).symm
 rw[hr];have key:∀ v w',(∃ v2,a2.put o.dst v=a2.put o.dst v2/\next (a.put o.dst v2) w')->next (a.put o.dst v) w':=by
  rintro v w' ⟨v2,e1,e2⟩
  cases hdst:o.dst with
  | none=>rw[hdst]at e2;exact e2
  | some d=>
   rw[hdst]at e1 e2;have hlt:=cw hd d hdst;have:v=v2:=by
    have:=congrArg (fun b:Act=>b.tmps[d]?) e1;simpa[Act.put,hsz,hlt] using this
   rw[this];exact e2
 have h2:=h o a2 w (fun b w'=>∃ v2,b=a2.put o.dst v2/\next (a.put o.dst v2) w') (fun _ _ _=>False) rfl ha2 hw (fun v M' w' k1 k2 k3=>⟨v,rfl,hn v M' w' k1 k2 k3⟩);generalize (execOp a2.eval o).run P w=r at h2 ⊢;cases r with
 | ok n w'=>
  cases n<;>simp only[Oper.upon]at h2 ⊢
  case value v=>exact key v w' h2
  case skip=>exact key _ w' h2
  case enter f args=>
   refine h2.mono fun e w'' he=>?_;cases e with
   | returned v=>exact key v w'' he
   | panicked c=>exact he.elim
   | outgrown=>obtain⟨_,_,hh⟩:=he;exact hh.elim
  case row r args=>exact Rows.mono h2 fun v w'' he=>key v w'' he
  case defer d=>
   obtain⟨v2,e1,_⟩:=h2;have:=congrArg (fun b:Act=>b.defers.length) e1;cases hdst:o.dst<;>simp[hdst,Act.put]at this
 | halt x w'=>cases x<;>simp only[Oper.upon]at h2 ⊢
theorem NH{M M':Mem}{w w':World}(h:Rep M' w)(hs:Sub M M')(h1:Rep M w')(h2:Ext M w M w'):Rep M' w':=by
 intro b B hB;cases hM:M b with
 | some B0=>
  have:=hs _ _ hM;rw[hB]at this;injection this with this
  rw[this];exact h1 b _ hM
 | none=>
  have hold:=h b B hB;have hlt:b<w.heap.size:=by
   rcases Nat.lt_or_ge b w.heap.size with hlt|hge
   ·exact hlt
   ·cases B with
    | cells own xs tot=>obtain⟨c,e,fr,q,_⟩:=hold;rw[Array.getElem?_eq_none hge]at q;cases q
    | obj o=>obtain⟨q,_⟩:=hold;rw[Array.getElem?_eq_none hge]at q;cases q
  have heq:=h2.block b hlt (fun ⟨B1,q,_⟩=>by rw[hM]at q;cases q);exact Blk.holds_of heq hold
def left(listed:Array Bool):Nat:=listed.toList.count false
theorem FW:∀(l:List Bool) (i:Nat),l[i]?=some false->(l.set i true).count false+1=l.count false
 | [],i,h=>by simp at h
 | b::l,0,h=>by
  injection h with h
  subst h;simp
 | b::l,i+1,h=>by
  have ih:=FW l i (by simpa using h);rw[set_cons_succ,count_cons,count_cons];omega
theorem Lr{listed:Array Bool}{i:Nat}(h:listed.getD i true=false):listed.getD i false=false/\listed.toList[i]?=some false:=by
 rw[Array.getD_eq_getD_getElem?]at *;rw[Array.getElem?_toList];cases hq:listed[i]? with
 | none=>rw[hq]at h;simp at h
 | some b=>rw[hq]at h;simp at h;subst h;exact⟨rfl,rfl⟩
theorem Nr{listed:Array Bool}{i j:Nat}(hi:i<listed.size):(listed.setIfInBounds i true).getD j false=if j=i then true else listed.getD j false:=by
 rw[Array.getD_eq_getD_getElem?,Array.getD_eq_getD_getElem?];by_cases h:j=i
 ·subst h;rw[if_pos rfl];simp[hi]
 ·rw[if_neg h,Array.getElem?_setIfInBounds_ne (Ne.symm h)]
theorem xx(e:Env){d:Option Tmp}{t:Tmp}(v:Value)(h:d=some t):put e d v t=v:=by subst h;simp[put]
theorem fg(e:Env){d:Option Tmp}{t:Tmp}(v:Value)(h:d≠some t):put e d v t=e t:=by
 cases d with
 | none=>rfl
 | some d=>simp only[put];rw[if_neg (fun hh=>h (by rw[hh]))]
theorem PF(n:Nat):left (Array.replicate n false)=n:=by unfold left;simp
theorem uI(n j:Nat):(Array.replicate n false).getD j false=false:=by
 rw[Array.getD_eq_getD_getElem?];rcases Nat.lt_or_ge j n with h|h
 ·simp[h]
 ·simp[h]
end
section
variable {P:Program} {T:Tab} {env:Env} {M:Mem} {Q:Exit->Env->Mem->Prop}
@[simp] theorem Wb{M0:Mem}{r:Env->Mem->Prop}:O6 M0 r env M=(Sub M0 M/\r env M):=nr rfl
@[simp] theorem UW{M:Mem}:Sub M M=True:=eq_true (Sub.refl M)
end
def Want(r:List Oper)(o:Oper)(c:Env):Prop:=∀ j b,o.guard=some (j,b)->yE r c j=some b
def EU(P:Program)(r:List Oper)(o:Oper)(c:Env)(M:Mem)(v:Value):Prop:=(¬ Want r o c/\v=undef)\/(Want r o c/\∃ M1,Sub M1 M/\xU P o.op c M1 v)
def rQ(r:List Oper)(o:Oper):Option Tmp:=match o.guard with
 | none=>none
 | some (j,_)=>(r[j]?).bind (·.dst)
section
variable {P:Program} {T:Tab} {env:Env} {M:Mem} {Q:Exit->Env->Mem->Prop}
def vK(P:Program)(T:Tab)(k:Nat)(o:Op)(d:Option Tmp)(rest:Env->Mem->Prop):Env->Mem->Prop:=fun env M=>match k with
 | 0=>vQ P T o env (Kt rest env d) M
 | 1=>vOp P T o env (Kt (O6 M rest) env d) M
 | _=>vOp P T o env (Kt rest env d) M
theorem Df{r:List Oper}{o:Oper}{nt:Nat}{e:Env}{a:Act}(hf:Fits nt e a):Region.wanted o (yielded r.toArray a.tmps)=true↔Want r o e:=by
 unfold Region.wanted Want;cases hg:o.guard with
 | none=>simp
 | some jb=>
  obtain⟨j,b⟩:=jb;have hy:=eU hf r.toArray j;rw[show r.toArray.toList=r from rfl]at hy;simp[hy]
theorem JT{r:List Oper}{o:Oper}{e c:Env}(h:∀ t,rQ r o=some t->e t=c t):Want r o e↔Want r o c:=by
 unfold Want;have key:∀ j b,o.guard=some (j,b)->yE r e j=yE r c j:=by
  intro j b hg;unfold rQ at h;rw[hg]at h;dsimp only at h;unfold yE;cases hd:(r[j]?).bind (·.dst) with
  | none=>rfl
  | some t=>dsimp only;rw[h t hd]
 constructor
 ·intro hh j b hg;rw[<-key j b hg];exact hh j b hg
 ·intro hh j b hg;rw[key j b hg];exact hh j b hg
end
section
variable {P:Program} {T:Tab} {env:Env} {M:Mem} {Q:Exit->Env->Mem->Prop} {r l:List Oper} {ks:List Nat}
@[simp] theorem aaB{o:Op}{d:Option Tmp}{rest:Env->Mem->Prop}:vK P T 0 o d rest env M=vQ P T o env (Kt rest env d) M:=nr rfl
@[simp] theorem aaG{o:Op}{d:Option Tmp}{rest:Env->Mem->Prop}:vK P T 1 o d rest env M=vOp P T o env (Kt (O6 M rest) env d) M:=nr rfl
@[simp] theorem aaJ{o:Op}{d:Option Tmp}{rest:Env->Mem->Prop}:vK P T 2 o d rest env M=vOp P T o env (Kt rest env d) M:=nr rfl
end
inductive gN where
 | fin
 | light (i:Nat) (p:gN)
 | one (x k:Nat) (p:gN)
 | alt (x k:Nat) (p q:gN)
def ak:List Nat->gN->gN
 | [],p=>p
 | i::l,p=>.light i (ak l p)
def gN.heads:gN->List Nat
 | .one x _ _=>[x]
 | .alt x _ _ q=>x::q.heads
 | _=>[]
def tmpsOf(r:List Oper)(o:Oper):List Tmp:=(match rQ r o with|some t=>[t]|none=>[])++o.op.operands.toList.filterMap fun x=>match x with|.tmp t=>some t|_=>none
def tn(r:List Oper)(i j:Nat):Bool:=Region.waitsFor .any r.toArray i j
def uK(r:List Oper)(pre:List Nat)(i:Nat)(t:Tmp):Bool:=
 (pre.any fun j=>cM r j==some t&&tn r i j)||(pre.all (fun j=>cM r j != some t)&&(range r.length).all fun j=>cM r j != some t||(j==i||tn r j i))
def PB(r:List Oper)(pre:List Nat)(i:Nat):Bool:=match r[i]? with
 | some o=>!pre.contains i&&(tmpsOf r o).all fun t=>uK r pre i t
 | none=>false
def RO(r:List Oper)(pre hs:List Nat):Bool:=(range r.length).all fun i=>pre.contains i||(hs.contains i||(range r.length).any fun j=>!pre.contains j&&tn r i j)
def tL:Op->Bool
 | .move _=>true
 | .assign _=>true
 | .pick _ _ _=>true
 | .extract _ _=>true
 | .binOp _ _ _ _ _=>true
 | .unOp _ _ _=>true
 | .slice _ _ _ _ _=>true
 | .field _ _ _=>true
 | .indexAddr _ _ _=>true
 | .fieldAddr _ _ _=>true
 | .nilCheck _=>true
 | .index _ _ _=>true
 | .call ⟨.builtin .min,_,_⟩=>true
 | .call ⟨.builtin .max,_,_⟩=>true
 | .call ⟨.builtin .len,⟨[_]⟩,⟨[_]⟩⟩=>true
 | _=>false
def vr(r:List Oper)(j:Nat):Bool:=match r[j]? with
 | some o=>tL o.op
 | none=>false
def dF:Mem:=fun _=>none
def wy(o:Oper)(M:Mem):Mem:=if tL o.op then dF else M
theorem oL(M:Mem):Sub dF M:=fun b B h=>by cases h
theorem LZ(o:Oper)(M:Mem):Sub (wy o M) M:=by
 unfold wy;split
 ·exact oL M
 ·exact Sub.refl M
def BH(r:List Oper)(x:Nat):Bool:=match r[x]? with
 | some o=>o.guard.isNone
 | none=>false
def KJ(r:List Oper)(pre hs:List Nat)(x:Nat):Bool:=pre.all fun j=>(vr r j||(hs.contains j&&BH r j))||(x::pre).any fun i=>(i==x || !vr r i)&&tn r i j
def eV(r:List Oper):Option (List Nat)->List Nat->List Nat->gN->Bool
 | none,pre,hs,.fin=>(range r.length).all fun i=>pre.contains i
 | none,pre,hs,.light i p=>PB r pre i&&eV r none (i::pre) hs p
 | some _,_,_,.fin=>false
 | some _,_,_,.light _ _=>false
 | h,pre,hs,.one x k p=>PB r pre x&&(RO r pre (h.getD [x])&&((h.isNone||BH r x)&&((k != 2||KJ r pre hs x)&&(decide (1<=k/\k<=2)&&eV r none (x::pre) (x::hs) p))))
 | h,pre,hs,.alt x k p q=>PB r pre x&&(RO r pre (h.getD (x::q.heads))&&(BH r x&&((k != 2||KJ r pre hs x)&&(decide (1<=k/\k<=2)&&(eV r none (x::pre) (x::hs) p&&eV r (some (h.getD (x::q.heads))) pre hs q)))))
def Ri(r:List Oper)(p:gN):Bool:=Region.noSelect r.toArray&&(((range r.length).all fun i=>(range r.length).all fun j=>Oq r i j)&&(((range r.length).all fun i=>S9 r i)&&eV r none [] [] p))
section
variable {P:Program} {T:Tab} {env:Env} {M:Mem} {Q:Exit->Env->Mem->Prop}
def my(P:Program)(T:Tab)(r:List Oper)(k:Nat)(o:Option Oper)(rest:Env->Mem->Prop)(env:Env)(M:Mem):Prop:=match o with
 | some o=>(match o.guard with
  | none=>vK P T k o.op o.dst rest env M
  | some (j,b)=>vGd (yE r env j) b (vK P T k o.op o.dst rest) (gB o.dst rest) env M)
 | none=>False
def vT(P:Program)(T:Tab)(r:List Oper)(Q:Exit->Env->Mem->Prop):gN->Env->Mem->Prop
 | .fin,env,M=>Q .normal env M
 | .light i p,env,M=>my P T r 0 r[i]? (vT P T r Q p) env M
 | .one x k p,env,M=>my P T r k r[x]? (vT P T r Q p) env M
 | .alt x k p q,env,M=>my P T r k r[x]? (vT P T r Q p) env M/\vT P T r Q q env M
theorem gO{r:Out}{K:VP}{M M':Mem}(h:vR r K M):vR r (fun v _=>K v M) M':=by
 cases r with
 | ok v=>exact h
 | need p v=>exact h
 | no=>exact h
theorem R9{P:Program}{T:Tab}{o:Op}{env:Env}{K:VP}{M:Mem}(hp:tL o=true)(h:vQ P T o env K M):vQ P T o env (fun v _=>K v M) dF:=by
 cases o
 case move x=>exact h
 case assign x=>exact h
 case pick c a b=>exact gO (M':=dF) (r:=BK (ev env c) (ev env a) (ev env b)) h
 case extract x i=>exact gO (M':=dF) (r:=Jj (ev env x) i) h
 case binOp op t x y t'=>exact gO (M':=dF) (r:=oB T op t (isLit y) (ev env x) (ev env y)) h
 case unOp op t x=>exact gO (M':=dF) (r:=unR op (ev env x)) h
 case slice t x lo hi mx=>exact gO (M':=dF) (r:=uG T t (ev env x) (lo.map (ev env)) (hi.map (ev env)) (mx.map (ev env))) h
 case field t x f=>exact gO (M':=dF) (r:=Di T t (ev env x) f) h
 case indexAddr t x i=>exact gO (M':=dF) (r:=kV T t (ev env x) (ev env i)) h
 case fieldAddr t x f=>exact gO (M':=dF) (r:=gK T t (ev env x) f) h
 case nilCheck x=>exact gO (M':=dF) (r:=Ql (ev env x)) h
 case index t x i=>exact gO (M':=dF) (r:=L9 T t (ev env x) (ev env i)) h
 case call c=>
  obtain⟨callee,args,ts⟩:=c;cases callee
  case builtin b=>
   cases b
   case min=>exact gO (M':=dF) (r:=FK (args.toList.map (ev env))) h
   case max=>exact gO (M':=dF) (r:=Gd (args.toList.map (ev env))) h
   case len=>
    obtain⟨l⟩:=args;obtain⟨l'⟩:=ts;rcases l with _|⟨x,_|⟨y,l⟩⟩<;>rcases l' with _|⟨t,_|⟨t',l'⟩⟩<;>first|exact gO (M':=dF) (r:=E5 T t (ev env x)) h|exact absurd hp (by simp[tL])
   all_goals exact absurd hp (by simp[tL])
  all_goals exact absurd hp (by simp[tL])
 all_goals exact absurd hp (by simp[tL])
theorem TT(hT:bX P T)(o:Oper){K:VP}(h:vQ P T o.op env K M):∃ v,xU P o.op env (wy o M) v/\K v M:=by
 unfold wy;by_cases hp:tL o.op=true
 ·rw[if_pos hp];exact Pn hT o.op (R9 hp h)
 ·rw[if_neg hp];exact Pn hT o.op h
def wj(r:List Oper)(env:Env)(pre:List Nat)(vals:Nat->Value)(i:Nat)(o:Oper)(c:Env):Prop:=∀ t,t∈tmpsOf r o->(∃ j,j∈pre/\cM r j=some t/\tn r i j=true/\c t=vals j)\/((∀ j,cM r j=some t->j=i\/tn r j i=true)/\c t=env t)
structure Sp(P:Program)(T:Tab)(r:List Oper)(nt:Nat)(Q:Exit->Env->Mem->Prop)(env:Env)(M0:Mem)(w0:World)(listed:Array Bool)(a:Act)(w:World)(pre hs:List Nat)(plan:gN)(vals:Nat->Value)(c:Nat->Env)(cur e:Env)(M':Mem):Prop where
 size:listed.size=r.length
 closed:∀(j:Nat) (o:Oper),r[j]?=some o->listed.getD j false=true->∀ x∈o.after,Region.binds .any x=true->listed.getD x.on false=true
 known:∀ j,j<r.length->listed.getD j false=true->j∈pre
 fits:Fits nt e a
 rep:Rep M' w
 ext:Ext M0 w0 M' w
 curA:∀ j t,j∈pre->cM r j=some t->cur t=vals j
 curB:∀ t,(∀ j,j∈pre->cM r j≠some t)->cur t=env t
 light:∀ i o,i∈pre->r[i]?=some o->listed.getD i false=false->EU P r o (c i) (wy o M') (vals i)/\wj r env pre vals i o (c i)
 ea:∀ j t,cM r j=some t->listed.getD j false=true->e t=vals j
 eb:∀ j t,cM r j=some t->listed.getD j false=false->e t=env t
 ec:∀ t,(∀ j,cM r j≠some t)->e t=env t
 hv:∀ j∈hs,j∈pre/\∀ o,r[j]?=some o->listed.getD j false=true\/¬ Want r o (c j)
 ok:eV r none pre hs plan=true
 vc:vT P T r Q plan cur M'
theorem jc{r:List Oper}{pre:List Nat}{i:Nat}(h:PB r pre i=true):∃ o,r[i]?=some o/\i ∉ pre/\∀ t∈tmpsOf r o,uK r pre i t=true:=by
 unfold PB at h;cases ho:r[i]? with
 | none=>rw[ho]at h;cases h
 | some o=>
  rw[ho]at h;simp only[Bool.and_eq_true,all_eq_true,Bool.not_eq_true',contains_eq_mem,decide_eq_false_iff_not]at h;exact⟨o,rfl,h.1,h.2⟩
theorem CL{r:List Oper}{env cur:Env}{pre:List Nat}{vals:Nat->Value}{i:Nat}{o:Oper}(h:∀ t∈tmpsOf r o,uK r pre i t=true)(hA:∀ j t,j∈pre->cM r j=some t->cur t=vals j)(hB:∀ t,(∀ j,j∈pre->cM r j≠some t)->cur t=env t):wj r env pre vals i o cur:=by
 intro t ht;have:=h t ht;unfold uK at this;rw[Bool.or_eq_true]at this;rcases this with h1|h1
 ·obtain⟨j,hj,h2⟩:=List.any_eq_true.1 h1;rw[Bool.and_eq_true,beq_iff_eq]at h2;exact .inl ⟨j,hj,h2.1,h2.2,hA j t hj h2.1⟩
 ·rw[Bool.and_eq_true,all_eq_true,all_eq_true]at h1;refine .inr ⟨fun j hj=>?_,hB t fun j hj=>by simpa using h1.1 j hj⟩;have hjl:j<r.length:=by
   rcases Nat.lt_or_ge j r.length with h3|h3
   ·exact h3
   ·unfold cM at hj;rw[getElem?_eq_none h3]at hj;cases hj
  have:=h1.2 j (List.mem_range.2 hjl);simpa[hj] using this
theorem qZ{r:List Oper}{env:Env}{pre:List Nat}{vals:Nat->Value}{i x:Nat}{o:Oper}{c:Env}{v:Value}(h:wj r env pre vals i o c)(hx:x ∉ pre):wj r env (x::pre) (fun j=>if j=x then v else vals j) i o c:=by
 intro t ht;rcases h t ht with ⟨j,q0,q1,q2,q3⟩|q
 ·refine .inl ⟨j,mem_cons_of_mem _ q0,q1,q2,?_⟩;show c t=if j=x then v else vals j
  rw[if_neg (by rintro rfl;exact hx q0)];exact q3
 ·exact .inr q
theorem Sa{r:List Oper}{o:Oper}{t:Tmp}(h:Operand.tmp t∈o.op.operands):t∈tmpsOf r o:=by
 unfold tmpsOf;refine mem_append_right _ (List.mem_filterMap.2 ⟨.tmp t,by simpa using h,rfl⟩)
theorem JI{r:List Oper}{o:Oper}{t:Tmp}(h:rQ r o=some t):t∈tmpsOf r o:=by
 unfold tmpsOf;rw[h];simp
theorem KM{r:List Oper}{nt:Nat}(huniq:∀ i j t,cM r i=some t->cM r j=some t->i=j){M0:Mem}{w0:World}{listed:Array Bool}{a:Act}{w:World}{e:Env}{M':Mem}{x:Nat}{o:Oper}{p plan:gN}{pre hs hs':List Nat}{vals:Nat->Value}{c:Nat->Env}{cur:Env}{v:Value}
  (h:Sp P T r nt Q env M0 w0 listed a w pre hs plan vals c cur e M') (ho:r[x]?=some o) (hx:x ∉ pre) (hrd:∀ t∈tmpsOf r o,uK r pre x t=true) (hhs:∀ j∈hs',j∈hs\/(j=x/\¬ Want r o cur)) (hok:eV r none (x::pre) hs' p=true) (hL:EU P r o cur (wy o M') v) (hv:vT P T r Q p (put cur o.dst v) M') :
  Sp P T r nt Q env M0 w0 listed a w (x::pre) hs' p (fun j=>if j=x then v else vals j) (fun j=>if j=x then cur else c j) (put cur o.dst v) e M':=by
 have hdo:cM r x=o.dst:=by unfold cM;rw[ho];rfl
 have hxl:x<r.length:=(List.getElem?_eq_some_iff.1 ho).1;have hnl:listed.getD x false=false:=by
  cases hh:listed.getD x false with
  | false=>rfl
  | true=>exact absurd (h.known x hxl hh) hx
 have hag:=CL hrd h.curA h.curB;refine⟨h.size,h.closed,fun j hjl hj=>mem_cons_of_mem _ (h.known j hjl hj),h.fits,h.rep,h.ext,?_,?_,?_,?_,h.eb,h.ec,?_,hok,hv⟩
 ·intro j t hj hjt;by_cases hjx:j=x
  ·subst hjx;rw[if_pos rfl];exact xx _ _ (by rw[<-hdo];exact hjt)
  ·rw[if_neg hjx,fg _ _ (by rw[<-hdo];exact fun hh=>hjx (huniq j x t hjt hh))];exact h.curA j t ((List.mem_cons.1 hj).resolve_left hjx) hjt
 ·intro t ht;rw[fg _ _ (by rw[<-hdo];exact ht x (mem_cons_self ..))];exact h.curB t fun j hj=>ht j (mem_cons_of_mem _ hj)
 ·intro i oi hi hoi hli;by_cases hix:i=x
  ·subst hix;rw[ho]at hoi;injection hoi with hoi
   subst hoi;rw[if_pos rfl,if_pos rfl];exact⟨hL,qZ hag hx⟩
  ·rw[if_neg hix,if_neg hix];have hip:=(List.mem_cons.1 hi).resolve_left hix;obtain⟨h1,h2⟩:=h.light i oi hip hoi hli;exact⟨h1,qZ h2 hx⟩
 ·intro j t hj hlj;by_cases hjx:j=x
  ·subst hjx;rw[hnl]at hlj;cases hlj
  ·rw[if_neg hjx];exact h.ea j t hj hlj
 ·intro j hj;rcases hhs j hj with hj|⟨rfl,hw⟩
  ·obtain⟨h1,h2⟩:=h.hv j hj;have hjx:j≠x:=by rintro rfl;exact hx h1
   simp only[if_neg hjx];exact⟨mem_cons_of_mem _ h1,h2⟩
  ·simp only[];refine⟨mem_cons_self ..,fun o' ho'=>.inr ?_⟩;rw[ho]at ho';injection ho' with ho'
   subst ho';exact hw
def Ii(r:List Oper)(cur:Env):gN->Prop
 | .fin=>True
 | .light _ _=>False
 | .one x _ _=>∀ o,r[x]?=some o->Want r o cur
 | .alt _ _ _ _=>True
theorem xu(hT:bX P T){r:List Oper}{nt:Nat}(huniq:∀ i j t,cM r i=some t->cM r j=some t->i=j){M0:Mem}{w0:World}{listed:Array Bool}{a:Act}{w:World}{e:Env}{M':Mem}:∀(plan:gN) (pre hs:List Nat) (vals:Nat->Value) (c:Nat->Env) (cur:Env),
  Sp P T r nt Q env M0 w0 listed a w pre hs plan vals c cur e M'->∃ pre' hs' plan' vals' c' cur',Sp P T r nt Q env M0 w0 listed a w pre' hs' plan' vals' c' cur' e M'/\Ii r cur' plan'
 | .fin,pre,hs,vals,c,cur,h=>⟨pre,hs,.fin,vals,c,cur,h,trivial⟩
 | .alt x k p q,pre,hs,vals,c,cur,h=>⟨pre,hs,.alt x k p q,vals,c,cur,h,trivial⟩
 | .light x p,pre,hs,vals,c,cur,h=>by
  have hok:=h.ok;unfold eV at hok;rw[Bool.and_eq_true]at hok;obtain⟨o,ho,hx,hrd⟩:=jc hok.1;have hv:=h.vc;unfold vT my at hv;rw[ho]at hv;dsimp only at hv;have fin:∀ v,EU P r o cur (wy o M') v->vT P T r Q p (put cur o.dst v) M'->∃ pre' hs' plan' vals' c' cur',Sp P T r nt Q env M0 w0 listed a w pre' hs' plan' vals' c' cur' e M'/\Ii r cur' plan':=
   fun v h1 h2=>xu hT huniq p _ _ _ _ _ (KM huniq h ho hx hrd (fun j hj=>.inl hj) hok.2 h1 h2)
  have run:Want r o cur->vQ P T o.op cur (Kt (vT P T r Q p) cur o.dst) M'->∃ pre' hs' plan' vals' c' cur',Sp P T r nt Q env M0 w0 listed a w pre' hs' plan' vals' c' cur' e M'/\Ii r cur' plan':=by
   intro hw hq;obtain⟨v,hv,hr⟩:=TT hT o hq;exact fin v (.inr ⟨hw,_,Sub.refl _,hv⟩) hr
  cases hg:o.guard with
  | none=>
   rw[hg]at hv;exact run (fun j b hh=>by rw[hg]at hh;cases hh) hv
  | some jb=>
   obtain⟨j,b⟩:=jb;rw[hg]at hv;dsimp only at hv;by_cases hy:yE r cur j=some b
   ·refine run (fun j' b' hh=>?_) (hv.1 hy);rw[hg]at hh;injection hh with hh
    injection hh with h3 h4
    subst h3;subst h4;exact hy
   ·exact fin undef (.inl ⟨fun hh=>hy (hh j b hg),rfl⟩) (hv.2 hy)
 | .one x k p,pre,hs,vals,c,cur,h=>by
  have hok:=h.ok;unfold eV at hok;simp only[Bool.and_eq_true]at hok;obtain⟨o,ho,hx,hrd⟩:=jc hok.1;by_cases hw:Want r o cur
  ·exact⟨pre,hs,.one x k p,vals,c,cur,h,fun o' ho'=>by rw[ho]at ho';injection ho' with ho';subst ho';exact hw⟩
  ·have hv:=h.vc;unfold vT my at hv;rw[ho]at hv;dsimp only at hv;cases hg:o.guard with
   | none=>exact absurd (fun j b hh=>by rw[hg]at hh;cases hh) hw
   | some jb=>
    obtain⟨j,b⟩:=jb;rw[hg]at hv;dsimp only at hv;have hy:yE r cur j≠some b:=fun hy=>hw fun j' b' hh=>by
     rw[hg]at hh;injection hh with hh
     injection hh with h3 h4
     subst h3;subst h4;exact hy
    exact xu hT huniq p _ _ _ _ _ (KM huniq h ho hx hrd (fun j hj=>(List.mem_cons.1 hj).symm.imp id fun e=>⟨e,hw⟩) hok.2.2.2.2.2 (.inl ⟨hw,rfl⟩) (hv.2 hy))
theorem RH(hT:bX P T){r:List Oper}{pre hs:List Nat}{cur:Env}{M':Mem}{i:Nat}:∀(plan:gN) (h:Option (List Nat)),eV r h pre hs plan=true->vT P T r Q plan cur M'->Ii r cur plan->i∈plan.heads ->
  ∃ o k p,r[i]?=some o/\i ∉ pre/\(∀ t∈tmpsOf r o,uK r pre i t=true)/\Want r o cur/\(k=2->KJ r pre hs i=true)/\eV r none (i::pre) (i::hs) p=true/\jq P o.op cur M' (fun v M''=>(k≠2->Sub M' M'')/\vT P T r Q p (put cur o.dst v) M''):=by
 have step:∀ {x k:Nat} {p:gN} {o:Oper},r[x]?=some o->Want r o cur->(1<=k/\k<=2)->my P T r k r[x]? (vT P T r Q p) cur M'->jq P o.op cur M' (fun v M''=>(k≠2->Sub M' M'')/\vT P T r Q p (put cur o.dst v) M''):=by
  intro x k p o ho hw hk hv;unfold my at hv;rw[ho]at hv;dsimp only at hv;have hv':vK P T k o.op o.dst (vT P T r Q p) cur M':=by
   cases hg:o.guard with
   | none=>rw[hg]at hv;exact hv
   | some jb=>
    obtain⟨j,b⟩:=jb;rw[hg]at hv;exact hv.1 (hw j b hg)
  have:k=1\/k=2:=by omega
  rcases this with rfl|rfl
  ·exact BE (rr T hT o.op hv') fun v M'' hq=>⟨fun _=>hq.1,hq.2⟩
  ·exact BE (rr T hT o.op hv') fun v M'' hq=>⟨fun hh=>absurd rfl hh,hq⟩
 intro plan
 induction plan with
 | fin=>intro h _ _ _ hi;cases hi
 | light x p ih=>intro h _ _ hr;exact hr.elim
 | one x k p ih=>
  intro h hok hv hr hi;unfold eV at hok;simp only[Bool.and_eq_true,Bool.or_eq_true,decide_eq_true_eq,bne_iff_ne]at hok;obtain⟨o,ho,hx,hrd⟩:=jc hok.1;have hix:i=x:=by unfold gN.heads at hi;simpa using hi
  subst hix;refine⟨o,k,p,ho,hx,hrd,hr o ho,fun hk=>(hok.2.2.2.1).resolve_left (fun hh=>hh hk),hok.2.2.2.2.2,?_⟩;unfold vT at hv;exact step ho (hr o ho) hok.2.2.2.2.1 hv
 | alt x k p q ih1 ih2=>
  intro h hok hv hr hi;unfold eV at hok;simp only[Bool.and_eq_true,Bool.or_eq_true,decide_eq_true_eq,bne_iff_ne]at hok;obtain⟨o,ho,hx,hrd⟩:=jc hok.1;unfold vT at hv;unfold gN.heads at hi;rcases List.mem_cons.1 hi with rfl|hi
  ·have hbare:o.guard=none:=by
    have:=hok.2.2.1;unfold BH at this;rw[ho]at this;simpa using this
   have hw:Want r o cur:=fun j b hh=>by rw[hbare]at hh;cases hh
   exact⟨o,k,p,ho,hx,hrd,hw,fun hk=>(hok.2.2.2.1).resolve_left (fun hh=>hh hk),hok.2.2.2.2.2.1,step ho hw hok.2.2.2.2.1 hv.1⟩
  ·refine ih2 _ hok.2.2.2.2.2.2 hv.2 ?_ hi;have hq:=hok.2.2.2.2.2.2;cases q with
   | fin=>trivial
   | light y s=>unfold eV at hq;cases hq
   | one y k' s=>
    intro o' ho' j b hh;unfold eV at hq;simp only[Bool.and_eq_true,Bool.or_eq_true]at hq;have hb:=hq.2.2.1;rcases hb with hb|hb
    ·cases hb
    ·unfold BH at hb;rw[ho']at hb;simp only[Option.isNone_iff_eq_none]at hb;rw[hb]at hh;cases hh
   | alt y k' s t=>trivial
theorem OY{r:List Oper}{pre hs:List Nat}{plan:gN}{cur:Env}(hok:eV r none pre hs plan=true)(hr:Ii r cur plan):(plan=.fin/\∀ i,i<r.length->i∈pre)\/(plan.heads≠[]/\RO r pre plan.heads=true):=by
 cases plan with
 | fin=>
  left;unfold eV at hok;rw[all_eq_true]at hok;exact⟨rfl,fun i hi=>by have:=hok i (List.mem_range.2 hi);simpa using this⟩
 | light x p=>exact hr.elim
 | one x k p=>
  right;unfold eV at hok;simp only[Bool.and_eq_true]at hok;exact⟨by unfold gN.heads;simp,hok.2.1⟩
 | alt x k p q=>
  right;unfold eV at hok;simp only[Bool.and_eq_true]at hok;exact⟨by unfold gN.heads;simp,hok.2.1⟩
theorem RQ{r:List Oper}{pre hs:List Nat}{plan:gN}:∀ {h:Option (List Nat)},eV r h pre hs plan=true->plan.heads≠[]->∃ x,x ∉ pre/\x<r.length:=by
 intro h hok hh;cases plan with
 | fin=>exact absurd rfl hh
 | light x p=>exact absurd rfl hh
 | one x k p=>
  unfold eV at hok;simp only[Bool.and_eq_true]at hok;obtain⟨o,ho,hx,_⟩:=jc hok.1;exact⟨x,hx,(List.getElem?_eq_some_iff.1 ho).1⟩
 | alt x k p q=>
  unfold eV at hok;simp only[Bool.and_eq_true]at hok;obtain⟨o,ho,hx,_⟩:=jc hok.1;exact⟨x,hx,(List.getElem?_eq_some_iff.1 ho).1⟩
theorem Rv(hT:bX P T){r:List Oper}{nt:Nat}(hsel0:Region.noSelect r.toArray=true)(huniq:∀ i j t,cM r i=some t->cM r j=some t->i=j)(back:∀(i:Nat) (o:Oper),r[i]?=some o->∀ e∈o.after,Region.binds .any e=true->e.on<i)(hd:r.all (ki nt)=true)(M0:Mem)(w0:World) :
  ∀(fuel:Nat) (listed:Array Bool) (a:Act) (w:World) (pre hs:List Nat) (plan:gN) (vals:Nat->Value) (c:Nat->Env) (cur e:Env) (M':Mem),left listed=fuel->Sp P T r nt Q env M0 w0 listed a w pre hs plan vals c cur e M'->wpAny P .any r.toArray (Way nt M0 w0 Q) fuel listed a w:=by
 have dof:∀(i:Nat) (o:Oper),r[i]?=some o->cM r i=o.dst:=by intro i o h;unfold cM;rw[h];rfl
 have dlt:∀ j t,cM r j=some t->j<r.length:=by
  intro j t h;rcases Nat.lt_or_ge j r.length with h1|h1
  ·exact h1
  ·unfold cM at h;rw[getElem?_eq_none h1]at h;cases h
 have waits:∀(i j:Nat) (o:Oper),r[i]?=some o->tn r i j=true->∃ x∈o.after,Region.binds .any x=true/\x.on=j:=by
  intro i j o ho h;obtain⟨oj,h1,x,h2,h3,h4⟩:=Region.waitsFor_spec h;rw[getElem?_toArray,ho]at h1;injection h1 with h1
  subst h1;exact⟨x,h2,h3,h4⟩
 have fin:∀ {listed:Array Bool} {a:Act} {w:World} {pre hs:List Nat} {plan:gN} {vals:Nat->Value} {c:Nat->Env} {cur e:Env} {M':Mem},Sp P T r nt Q env M0 w0 listed a w pre hs plan vals c cur e M'->(∀ j,j<r.length->listed.getD j false=true)->Way nt M0 w0 Q .normal a w:=by
  intro listed a w pre hs plan vals c cur e M' h all;obtain⟨pre,hs,plan,vals,c,cur,h,hr⟩:=xu hT huniq plan pre hs vals c cur h;rcases OY h.ok hr with ⟨rfl,hpre⟩|⟨hne,_⟩
  ·have hQ:Q .normal cur M':=h.vc;have he:e=cur:=by
    funext t
    by_cases hw:∃ j,cM r j=some t
    ·obtain⟨j,hj⟩:=hw;rw[h.ea j t hj (all j (dlt j t hj)),h.curA j t (hpre j (dlt j t hj)) hj]
    ·have hno:∀ j,cM r j≠some t:=fun j hh=>hw ⟨j,hh⟩;rw[h.ec t hno,h.curB t fun j _=>hno j]
   exact⟨cur,M',he▸h.fits,h.rep,h.ext,hQ⟩
  ·exfalso;obtain⟨x,hx,hxl⟩:=RQ h.ok hne;exact hx (h.known x hxl (all x hxl))
 intro fuel
 induction fuel with
 | zero=>
  intro listed a w pre hs plan vals c cur e M' hf h;have allO:∀ j,j<r.length->listed.getD j false=true:=by
   intro j hj;have h0:listed.toList.count false=0:=hf;rw[count_eq_zero]at h0;have hsz:=h.size;rw[Array.getD_eq_getD_getElem?,Array.getElem?_eq_getElem (by omega)];simp only[Option.getD_some];cases hb:listed[j] with
   | true=>rfl
   | false=>exact absurd (by rw[<-hb];exact Array.mem_toList_iff.2 (Array.getElem_mem _)) h0
  have hready:Region.ready .any r.toArray listed=[]:=by
   rw[eq_nil_iff_forall_not_mem];intro i hi;obtain⟨h1,o,h2,_⟩:=mem_ready.1 hi;have:=allO i (by rw[getElem?_toArray]at h2;exact(List.getElem?_eq_some_iff.1 h2).1);rw[(Lr h1).1]at this;cases this
  exact⟨hready,fin h allO⟩
 | succ fuel ih=>
  intro listed a w pre hs plan vals c cur e M' hf h;refine⟨fun hr=>?_,fun i hi=>?_⟩
  ·have allO:∀ j,j<r.length->listed.getD j false=true:=by
    intro j
    induction j using Nat.strongRecOn with
    | _ j ihj=>
     intro hj;cases hb:listed.getD j false with
     | true=>rfl
     | false=>
      exfalso;have hsz:=h.size;have:j∈Region.ready .any r.toArray listed:=by
       refine mem_ready.2 ⟨?_,r[j],by simp[hj],?_⟩
       ·rw[Array.getD_eq_getD_getElem?,Array.getElem?_eq_getElem (by omega)]at hb ⊢;exact hb
       ·intro x hx hbx;have hlt:=back j r[j] (gEl hj) x hx hbx;exact ihj x.on hlt (by omega)
      rw[hr]at this;cases this
   exact fin h allO
  ·obtain⟨pre,hs,plan,vals,c,cur,h,hrdy⟩:=xu hT huniq plan pre hs vals c cur h;obtain⟨h1,o,h2,h3⟩:=mem_ready.1 hi;rw[getElem?_toArray]at h2;obtain⟨hu,hul⟩:=Lr h1;have hil:i<r.length:=(List.getElem?_eq_some_iff.1 h2).1;have hsz:=h.size;have hdo:=List.all_eq_true.1 hd o (mem_of_getElem? h2);have hsel:∀ cs b,o.op≠.select cs b:=fun cs b=>Region.noSelect_spec hsel0 _ o cs b (by rw[getElem?_toArray];exact h2);have hleft:left (listed.setIfInBounds i true)=fuel:=by
    unfold left at *;rw[Array.toList_setIfInBounds];have:=FW listed.toList _ hul;omega
   have hset:∀ j,(listed.setIfInBounds i true).getD j false=if j=i then true else listed.getD j false:=fun j=>Nr (by omega)
   have hclosed:∀(j:Nat) (o':Oper),r[j]?=some o'->(listed.setIfInBounds i true).getD j false=true->∀ x∈o'.after,Region.binds .any x=true->(listed.setIfInBounds i true).getD x.on false=true:=by
    intro j o' ho' hj x hx hb;rw[hset]at hj ⊢;split
    ·rfl
    ·by_cases hji:j=i
     ·subst hji;rw[h2]at ho';injection ho' with ho'
      subst ho';exact h3 x hx hb
     ·rw[if_neg hji]at hj;exact h.closed j o' ho' hj x hx hb
   have hdi:=dof i o h2;have done:∀ j,tn r i j=true->listed.getD j false=true:=by
    intro j hj;obtain⟨x,k1,k2,k3⟩:=waits i j o h2 hj;have:=h3 x k1 k2;rw[k3]at this;exact this
   have undone:∀ j o',r[j]?=some o'->tn r j i=true->listed.getD j false=false:=by
    intro j o' ho' hj;cases hb:listed.getD j false with
    | false=>rfl
    | true=>
     obtain⟨x,k1,k2,k3⟩:=waits j i o' ho' hj;have:=h.closed j o' ho' hb x k1 k2;rw[k3,hu]at this;cases this
   have same:∀ {ci:Env},wj r env pre vals i o ci->∀ t∈tmpsOf r o,e t=ci t:=by
    intro ci hA t ht;rcases hA t ht with ⟨j,q0,q1,q2,q3⟩|⟨q1,q2⟩
    ·rw[h.ea j t q1 (done j q2),q3]
    ·rw[q2];by_cases hw:∃ j,cM r j=some t
     ·obtain⟨j,hj⟩:=hw;refine h.eb j t hj ?_;rcases q1 j hj with rfl|hji
      ·exact hu
      ·exact undone j _ (gEl (dlt j t hj)) hji
     ·exact h.ec t fun j hh=>hw ⟨j,hh⟩
   have ops:∀ {ci:Env},wj r env pre vals i o ci->∀ x∈o.op.operands,ev e x=ev ci x:=by
    intro ci hA x hx;cases x with
    | const v=>rfl
    | global g=>rfl
    | func f=>rfl
    | tmp t=>exact same hA t (Sa hx)
   have wnt:∀ {ci:Env},wj r env pre vals i o ci->(Want r o e↔Want r o ci):=fun hA=>JT fun t ht=>same hA t (JI ht);unfold wpOp;rw[getElem?_toArray,h2];dsimp only;by_cases hin:i∈pre
   ·
    obtain⟨hL,hA⟩:=h.light i o hin h2 hu;have hnext:∀ w',Rep M' w'->Ext M' w M' w'->wpAny P .any r.toArray (Way nt M0 w0 Q) fuel (listed.setIfInBounds i true) (a.put o.dst (vals i)) w':=by
     intro w' hr' he';refine ih _ _ _ pre hs plan vals c cur (put e o.dst (vals i)) M' hleft ⟨by simp[hsz],hclosed,?_,h.fits.put (cw hdo) _,hr',h.ext.trans he',h.curA,h.curB,?_,?_,?_,?_,?_,h.ok,h.vc⟩
     ·intro j hj hlj;rw[hset]at hlj;by_cases hji:j=i
      ·rw[hji];exact hin
      ·rw[if_neg hji]at hlj;exact h.known j hj hlj
     ·intro j o' hj ho' hlj;rw[hset]at hlj;by_cases hji:j=i
      ·rw[if_pos hji]at hlj;cases hlj
      ·rw[if_neg hji]at hlj;exact h.light j o' hj ho' hlj
     ·intro j t hj hlj;rw[hset]at hlj;by_cases hji:j=i
      ·subst hji;exact xx _ _ (by rw[<-hdi];exact hj)
      ·rw[if_neg hji]at hlj;rw[fg _ _ (by rw[<-hdi];exact fun hh=>hji (huniq j i t hj hh))];exact h.ea j t hj hlj
     ·intro j t hj hlj;rw[hset]at hlj;by_cases hji:j=i
      ·rw[if_pos hji]at hlj;cases hlj
      ·rw[if_neg hji]at hlj;rw[fg _ _ (by rw[<-hdi];exact fun hh=>hji (huniq j i t hj hh))];exact h.eb j t hj hlj
     ·intro t ht;rw[fg _ _ (by rw[<-hdi];exact ht i)];exact h.ec t ht
     ·intro j hj;obtain⟨q1,q2⟩:=h.hv j hj;refine⟨q1,fun o' ho'=>?_⟩;rw[hset];split
      ·exact .inl rfl
      ·exact q2 o' ho'
    rcases hL with ⟨hw,hv⟩|⟨hw,M1,hsub0,q2⟩
    ·rw[if_neg (by rw[Df h.fits,wnt hA];exact hw),<-hv];exact hnext w h.rep (Ext.refl _ _)
    ·have hsub:=hsub0.trans (LZ o M');rw[if_pos (by rw[Df h.fits,wnt hA];exact hw)];refine Or.inl ?_;unfold Oper.wp;have hex:execOp a.eval o=execOp (ev (c i)) o:=by rw[h.fits.ev];exact execOp_congr o hsel (ops hA)
     rw[hex];rcases q2 w o (h.rep.sub hsub) rfl with hr|⟨f,args,hr,hcall⟩
     ·rw[hr];exact hnext w h.rep (Ext.refl _ _)
     ·rw[hr];refine hcall.mono ?_
      rintro e' w' ⟨rfl,k1,k2⟩
      exact hnext w' (NH h.rep hsub k1 k2) ⟨k2.os,k2.tape,k2.output,k2.size,fun b hb ho=>k2.block b hb (fun hh=>ho (GA hsub hh)),fun b hb=>.inl hb⟩
   ·
    have hhead:i∈plan.heads:=by
     rcases OY h.ok hrdy with ⟨_,hpre⟩|⟨_,hfut⟩
     ·exact absurd (hpre i hil) hin
     ·unfold RO at hfut;have:=List.all_eq_true.1 hfut i (List.mem_range.2 hil);simp only[Bool.or_eq_true,contains_eq_mem,decide_eq_true_eq,any_eq_true,Bool.and_eq_true,Bool.not_eq_true',decide_eq_false_iff_not]at this;rcases this with hh|hh|⟨j,hj,hjp,hjw⟩
      ·exact absurd hh hin
      ·exact hh
      ·exact absurd (h.known j (List.mem_range.1 hj) (done j hjw)) hjp
    obtain⟨o',k,p,ho',hx,hrd,hw,hsk,hok,hO⟩:=RH hT plan none h.ok h.vc hrdy hhead;rw[h2]at ho';injection ho' with ho'
    subst ho';have hA:wj r env pre vals i o cur:=CL hrd h.curA h.curB;rw[if_pos (by rw[Df h.fits,wnt hA];exact hw)];refine Or.inl ?_;unfold Oper.wp;refine RD (nt:=nt) (c:=cur) (e:=e) hsel hdo hO h.fits (fun x hxx=>(ops hA x hxx).symm) ?_ h.rep _ _ ?_
    ·intro t ht;have hno:∀ j,cM r j≠some t:=fun j hh=>by
      have hjl:=dlt j t hh;have:=cw (List.all_eq_true.1 hd r[j] (getElem_mem hjl)) t (by rw[<-dof j r[j] (gEl hjl)];exact hh);exact absurd this (Nat.not_lt.2 ht)
     rw[h.curB t fun j _=>hno j,<-h.ec t hno];have:=congrFun h.fits.ev (.tmp t);simp only[Act.eval,ev]at this;rw[<-this,Array.getD_eq_getD_getElem?,Array.getElem?_eq_none (by rw[h.fits.size];exact ht)];rfl
    ·intro v M'' w' k1 k2 k3;obtain⟨k3,k4⟩:=k3;have hsinks:k=2->∀ j,j∈pre->j<r.length->vr r j=false->listed.getD j false=true:=by
      intro h22;have hs:=hsk h22;unfold KJ at hs;have key:∀ d j,r.length-j=d->j∈pre->j<r.length->vr r j=false->listed.getD j false=true:=by
       intro d
       induction d using Nat.strongRecOn with
       | _ d ihd=>
        intro j hd' hj hjl hjp;have hsj:=List.all_eq_true.1 hs j hj;rw[hjp,Bool.false_or,Bool.or_eq_true,Bool.and_eq_true]at hsj;rcases hsj with ⟨hsj,hbare⟩|hsj
        ·have hjr:=gEl hjl;rcases(h.hv j (by simpa using hsj)).2 _ hjr with q|q
         ·exact q
         ·exfalso;apply q;intro j2 b2 hg;unfold BH at hbare;rw[hjr]at hbare;simp only[Option.isNone_iff_eq_none]at hbare;rw[hbare]at hg;cases hg
        obtain⟨j',r1,r2⟩:=List.any_eq_true.1 hsj;rw[Bool.and_eq_true,Bool.or_eq_true,beq_iff_eq]at r2;obtain⟨r3,r2⟩:=r2;by_cases hji':j'=i
        ·rw[hji']at r2;exact done j r2
        ·have r1:=(List.mem_cons.1 r1).resolve_left hji';have r3:vr r j'=false:=by simpa using r3.resolve_left hji'
         have hj'l:j'<r.length:=by
          obtain⟨oj,q1,_⟩:=Region.waitsFor_spec r2;rw[getElem?_toArray]at q1;exact(List.getElem?_eq_some_iff.1 q1).1
         have hj':=gEl hj'l;obtain⟨x,k1,k2,k3⟩:=waits j' j _ hj' r2;have hlt:=back j' _ hj' x k1 k2;rw[k3]at hlt;have hlj:=ihd (r.length-j') (by omega) j' rfl r1 hj'l r3;have:=h.closed j' _ hj' hlj x k1 k2;rw[k3]at this;exact this
      exact fun j hj hjl hjp=>key _ j rfl hj hjl hjp
     refine ih _ _ _ (i::pre) (i::hs) p (fun j=>if j=i then v else vals j) c (put cur o.dst v) (put e o.dst v) M'' hleft ⟨by simp[hsz],hclosed,?_,h.fits.put (cw hdo) _,k1,h.ext.trans k2,?_,?_,?_,?_,?_,?_,?_,hok,k4⟩
     ·intro j hj hlj;rw[hset]at hlj;by_cases hji:j=i
      ·rw[hji];exact mem_cons_self ..
      ·rw[if_neg hji]at hlj;exact mem_cons_of_mem _ (h.known j hj hlj)
     ·intro j t hj hjt;by_cases hji:j=i
      ·subst hji;rw[if_pos rfl];exact xx _ _ (by rw[<-hdi];exact hjt)
      ·rw[if_neg hji,fg _ _ (by rw[<-hdi];exact fun hh=>hji (huniq j i t hjt hh))];exact h.curA j t ((List.mem_cons.1 hj).resolve_left hji) hjt
     ·intro t ht;rw[fg _ _ (by rw[<-hdi];exact ht i (mem_cons_self ..))];exact h.curB t fun j hj=>ht j (mem_cons_of_mem _ hj)
     ·intro j o' hj ho' hlj;rw[hset]at hlj;by_cases hji:j=i
      ·rw[if_pos hji]at hlj;cases hlj
      ·rw[if_neg hji]at hlj;have hjp:=(List.mem_cons.1 hj).resolve_left hji;obtain⟨hL,hAg⟩:=h.light j o' hjp ho' hlj;rw[if_neg hji];refine⟨?_,qZ hAg hx⟩;rcases hL with hq|⟨hq,M1,hB,hC⟩
       ·exact .inl hq
       ·refine .inr ⟨hq,M1,?_,hC⟩;unfold wy at hB ⊢;by_cases hpo:tL o'.op=true
        ·rw[if_pos hpo]at hB ⊢;exact hB
        ·rw[if_neg hpo]at hB ⊢;refine hB.trans (k3 fun h22=>?_);rw[hsinks h22 j hjp (List.getElem?_eq_some_iff.1 ho').1 (by unfold vr;rw[ho'];simpa using hpo)]at hlj;cases hlj
     ·intro j t hj hlj;rw[hset]at hlj;by_cases hji:j=i
      ·subst hji;rw[if_pos rfl];exact xx _ _ (by rw[<-hdi];exact hj)
      ·rw[if_neg hji]at hlj;rw[if_neg hji,fg _ _ (by rw[<-hdi];exact fun hh=>hji (huniq j i t hj hh))];exact h.ea j t hj hlj
     ·intro j t hj hlj;rw[hset]at hlj;by_cases hji:j=i
      ·rw[if_pos hji]at hlj;cases hlj
      ·rw[if_neg hji]at hlj;rw[fg _ _ (by rw[<-hdi];exact fun hh=>hji (huniq j i t hj hh))];exact h.eb j t hj hlj
     ·intro t ht;rw[fg _ _ (by rw[<-hdi];exact ht i)];exact h.ec t ht
     ·intro j hj;by_cases hji:j=i
      ·refine⟨by rw[hji];exact mem_cons_self ..,fun o' _=>.inl ?_⟩;rw[hset,if_pos hji]
      ·obtain⟨q1,q2⟩:=h.hv j ((List.mem_cons.1 hj).resolve_left hji);refine⟨mem_cons_of_mem _ q1,fun o' ho'=>?_⟩;rw[hset,if_neg hji];exact q2 o' ho'
theorem Xd(p:gN)(hT:bX P T){nt id:Nat}{r:List Oper}(hm:P.follows .mixedOrders=true)(hB:Ri r p=true)(hd:r.all (ki nt)=true)(h:vT P T r Q p env M):cA P nt (.region id r.toArray true) Q env M:=by
 intro M0 w0 a w h1 h2 h3;unfold Ri at hB;simp only[Bool.and_eq_true,all_eq_true,mem_range]at hB;obtain⟨hsel,hap,hbk,hok⟩:=hB;have dlt:∀ j t,cM r j=some t->j<r.length:=by
  intro j t h;rcases Nat.lt_or_ge j r.length with h1|h1
  ·exact h1
  ·unfold cM at h;rw[getElem?_eq_none h1]at h;cases h
 refine wp_region_any hm ?_;refine Rv (env:=env) hT hsel ?_ ?_ hd M0 w0 _ _ _ _ [] [] p (fun _=>undef) (fun _=>env) env env M (by simp[PF]) ⟨by simp,?_,?_,h1,fun b B hB'=>Blk.holds_of (w:=w) rfl (h2 b B hB'),⟨h3.os,h3.tape,h3.output,h3.size,h3.block,h3.own⟩,?_,?_,?_,?_,?_,?_,(fun j hj=>by cases hj),hok,h⟩
 ·intro i j t hi hj;have:=hap i (dlt i t hi) j (dlt j t hj);unfold Oq at this;rw[hi,hj]at this;by_cases hh:i=j
  ·exact hh
  ·simp[hh]at this
 ·intro i o ho e he hb;have:=hbk i (List.getElem?_eq_some_iff.1 ho).1;unfold S9 at this;rw[ho]at this;have:=Array.all_eq_true'.1 this e he;simpa[hb] using this
 ·intro j o ho hj;rw[uI]at hj;cases hj
 ·intro j _ hlj;rw[uI]at hlj;cases hlj
 ·intro j t hj;cases hj
 ·intro t _;rfl
 ·intro i o hi;cases hi
 ·intro j t _ hlj;rw[uI]at hlj;cases hlj
 ·intro j t _ _;rfl
 ·intro t _;rfl
end
section
variable {P:Program} {T:Tab} {env:Env} {M:Mem} {Q:Exit->Env->Mem->Prop} {r l:List Oper} {p q:gN}
@[simp] theorem Uq:ak [] p=p:=nr rfl
@[simp] theorem SL{i:Nat}{l:List Nat}:ak (i::l) p=.light i (ak l p):=nr rfl
@[simp] theorem Y3:vT P T r Q .fin env M=Q .normal env M:=nr rfl
@[simp] theorem VX{i:Nat}:vT P T r Q (.light i p) env M=my P T r 0 r[i]? (vT P T r Q p) env M:=nr rfl
@[simp] theorem ZW{x k:Nat}:vT P T r Q (.one x k p) env M=my P T r k r[x]? (vT P T r Q p) env M:=nr rfl
theorem jz{x k:Nat}:vT P T r Q (.alt x k p q) env M=(my P T r k r[x]? (vT P T r Q p) env M/\vT P T r Q q env M):=nr rfl
@[simp] theorem SU{d:Option Tmp}{o:Op}{ty:TypeId}{pos:String}{af:Array Edge}{k:Nat}{rest:Env->Mem->Prop}:my P T r k (some ⟨d,o,ty,pos,af,none⟩) rest env M=vK P T k o d rest env M:=nr rfl
@[simp] theorem Tb{d:Option Tmp}{o:Op}{ty:TypeId}{pos:String}{af:Array Edge}{j k:Nat}{b:Bool}{rest:Env->Mem->Prop}:my P T r k (some ⟨d,o,ty,pos,af,some (j,b)⟩) rest env M=vGd (yE r env j) b (vK P T k o d rest) (gB d rest) env M:=nr rfl
end
def rlA(l:List Nat)(a n:Nat):List Nat:=l++range' a n
@[simp] theorem rlA_m(l:List Nat)(a n t:Nat):t∈rlA l a n↔t∈l\/(a<=t/\t<a+n):=by
 unfold rlA;rw[mem_append,mem_range'_1]
theorem mixS:prog.follows .mixedOrders=true:=by kernel_rfl
theorem fnS{f:FuncId}{fn:Func}{c:Code}(hf:prog.funcs[f]?=some fn)(hb:fn.body=some c){n:Nat}{rs:List ResultVar}(hnt:fn.ntmps=n)(hrs:fn.results=rs.toArray){args:List Value}{R:VP}{M:Mem}(h:vc prog tab n c (Hl tab rs R) (mn args 0) M)(hn:(fn.name == "runtime.NumGoroutine")=false:=by kernel_rfl)(hi:ek fn.ntmps c=true:=by kernel_rfl)(ha:Nat.ble args.length n=true:=by rfl):ar prog f args M R:=Rt aR hf hb hn hi hnt hrs ha h
section
variable {env:Env} {M:Mem} {Q:Exit->Env->Mem->Prop}
theorem drwS{n id:Nat}{l:List Oper}(h:vQs prog tab l Q l env M)(hB:Region.lexB .any l.toArray=true:=by kernel_rfl)(hd:l.all (ki n)=true:=by rfl):cA prog n (.region id l.toArray true) Q env M:=SA aR mixS hB hd h
theorem plyS(p:gN){nt id:Nat}{r:List Oper}(h:vT prog tab r Q p env M)(hB:Ri r p=true:=by kernel_rfl)(hd:r.all (ki nt)=true:=by rfl):cA prog nt (.region id r.toArray true) Q env M:=Xd p aR mixS hB hd h
theorem lupS{n:Nat}{body:Code}{X:Type}(A:List Nat)(live:X->List (Nat×Value))(J:X->Mem->Prop)(μ:X->Nat)(x0:X)(hJ:J x0 M)
  (round:∀ x M g,J x M->vc prog tab n body (mu (Rnd A env live J μ (μ x)) Q) (FY (mrg A g env) (live x)) M) (hi:ek n body=true:=by kernel_rfl) (h0:ft env (live x0):=by simp(disch:=omega)):cA prog n (.loop body) Q env M:=aP aR A live J μ x0 hi h0 hJ round
end
theorem rndS{X:Type}{A:List Nat}{e:Env}{live:X->List (Nat×Value)}{J:X->Mem->Prop}{μ:X->Nat}{k:Nat}{e':Env}{M':Mem}(x':X)(h4:J x' M')(h1:μ x'<k:=by first|omega|(simp only;omega))(h2:fT A e e':=by (repeat (first|exact km|refine kp rfl ?_|refine km' rfl ?_)))(h3:ft e' (live x'):=by simp(disch:=omega)) :
  Rnd A e live J μ k e' M':=⟨x',M',Sub.refl _,h1,h2,h3,h4⟩
theorem rndA{X:Type}{A:List Nat}{e:Env}{live:X->List (Nat×Value)}{J:X->Mem->Prop}{μ:X->Nat}{k:Nat}{e':Env}{M':Mem}(x':X)(h3:ft e' (live x'))(h4:J x' M')(h1:μ x'<k:=by first|omega|(simp only;omega))(h2:fT A e e':=by (repeat (first|exact km|refine kp rfl ?_|refine km' rfl ?_))) :
  Rnd A e live J μ k e' M':=⟨x',M',Sub.refl _,h1,h2,h3,h4⟩
theorem rndM{X:Type}{A:List Nat}{e:Env}{live:X->List (Nat×Value)}{J:X->Mem->Prop}{μ:X->Nat}{k:Nat}{e':Env}{M':Mem}(M1:Mem)(x':X)(hs:Sub M1 M')(h4:J x' M1)(h1:μ x'<k:=by first|omega|(simp only;omega))(h2:fT A e e':=by (repeat (first|exact km|refine kp rfl ?_|refine km' rfl ?_)))(h3:ft e' (live x'):=by simp(disch:=omega)) :
  Rnd A e live J μ k e' M':=⟨x',M1,hs,h1,h2,h3,h4⟩
theorem rndB{X:Type}{A:List Nat}{e:Env}{live:X->List (Nat×Value)}{J:X->Mem->Prop}{μ:X->Nat}{k:Nat}{e':Env}{M':Mem}(M1:Mem)(x':X)(hs:Sub M1 M')(h3:ft e' (live x'))(h4:J x' M1)(h1:μ x'<k:=by first|omega|(simp only;omega))(h2:fT A e e':=by (repeat (first|exact km|refine kp rfl ?_|refine km' rfl ?_))) :
  Rnd A e live J μ k e' M':=⟨x',M1,hs,h1,h2,h3,h4⟩
end Go.Proofs.YtapimhjbilkfpaaGreatDoor
