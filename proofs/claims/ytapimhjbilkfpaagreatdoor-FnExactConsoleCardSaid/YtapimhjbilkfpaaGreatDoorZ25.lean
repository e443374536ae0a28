/- Lemmas for FnExactConsole, part 26 of 46. -/
import Derived.Test.YtapimhjbilkfpaaGreatDoorZ14
import Derived.Test.YtapimhjbilkfpaaGreatDoorZ24
import Derived.Test.YtapimhjbilkfpaaGreatDoorZ11
import Derived.Test.YtapimhjbilkfpaaGreatDoorZ04
import Derived.Test.YtapimhjbilkfpaaGreatDoorZ18
set_option linter.unusedVariables false
set_option linter.unusedSimpArgs false
namespace Go.Proofs.YtapimhjbilkfpaaGreatDoor
open Go Go.Proofs.Tryz List
theorem kg:∀ a b:List UInt8,Op.bytesLess a b=true↔a<b
 | [],[]=>by
  have e:Op.bytesLess [] []=false:=rfl;rw[e];exact⟨fun h=>by (cases h),fun h=>absurd h (List.lt_irrefl _)⟩
 | [],b::y=>by
  have e:Op.bytesLess [] (b::y)=true:=rfl;rw[e];exact⟨fun _=>nil_lt_cons b y,fun _=>rfl⟩
 | a::x,[]=>by
  have e:Op.bytesLess (a::x) []=false:=rfl;rw[e];exact⟨fun h=>by (cases h),fun h=>absurd h (not_lt_nil _)⟩
 | a::x,b::y=>by
  have e:Op.bytesLess (a::x) (b::y)=(decide (a<b)||(a==b&&Op.bytesLess x y)):=rfl;rw[e,Bool.or_eq_true,Bool.and_eq_true,decide_eq_true_eq,beq_iff_eq,cons_lt_cons_iff,kg x y]
theorem Rn{a b:List UInt8}:Op.bytesLess a b=false↔b<=a:=by
 rw[<-List.not_lt,<-kg];cases Op.bytesLess a b<;>simp
abbrev fh(l:List (List UInt8)):Prop:=l.Pairwise (· < ·)
theorem lH:∀ {a b:List (List UInt8)},fh a->fh b->(∀ x,x∈a↔x∈b)->a=b
 | [],[],_,_,_=>rfl
 | [],y::b,_,_,h=>absurd ((h y).2 mem_cons_self) (by simp)
 | x::a,[],_,_,h=>absurd ((h x).1 mem_cons_self) (by simp)
 | x::a,y::b,ha,hb,h=>by
  unfold fh at ha hb;rw[pairwise_cons]at ha hb;have hxy:x=y:=by
   have h1:=(h x).1 mem_cons_self;have h2:=(h y).2 mem_cons_self;rcases List.mem_cons.1 h1 with e|e
   ·exact e
   ·rcases List.mem_cons.1 h2 with e2|e2
    ·exact e2.symm
    ·exact absurd (List.lt_trans (hb.1 x e) (ha.1 y e2)) (List.lt_irrefl _)
  subst hxy
  congr 1
  refine lH ha.2 hb.2 fun z=>?_;constructor
  ·intro hz;rcases List.mem_cons.1 ((h z).1 (mem_cons_of_mem _ hz)) with e|e
   ·exact absurd (e▸ha.1 z hz) (List.lt_irrefl _)
   ·exact e
  ·intro hz;rcases List.mem_cons.1 ((h z).2 (mem_cons_of_mem _ hz)) with e|e
   ·exact absurd (e▸hb.1 z hz) (List.lt_irrefl _)
   ·exact e
theorem lt_of_le_ne{a b:List UInt8}(h:a<=b)(hn:a≠b):a<b:=by
 by_cases hl:a<b
 ·exact hl
 ·exact absurd (List.le_antisymm h (List.not_lt.1 hl)) hn
theorem sh{zs:List (List UInt8)}(hs:zs.Pairwise (·<=·)):∀ m,m<=zs.length->fh (Lib.compactUpTo zs.toArray m)
 | 0,_=>by simp[Lib.compactUpTo,fh]
 | m+1,hm=>by
  rw[Lib.compactUpTo_succ];unfold fh;rw[pairwise_append];refine⟨sh hs m (by omega),by split<;>simp,?_⟩;intro x hx y hy;cases hk:Lib.keeps zs.toArray m with
  | false=>rw[hk]at hy;simp at hy
  | true=>
   rw[hk,if_pos rfl,mem_singleton]at hy;subst hy;obtain⟨j,hj,rfl⟩:=(yK _ _ _).1 hx;have hg:∀ i,(hi:i<zs.length)->zs.toArray[i]! = zs[i]:=fun i hi=>by rw[getElem!_pos _ i (by simpa using hi)];simp
   rw[hg j (by omega),hg m (by omega)];have hle:∀ i k,(hk:k<zs.length)->(hi:i<=k)->zs[i]'(by omega)<=zs[k]:=fun i k hk hi=>by
    rcases Nat.lt_or_eq_of_le hi with h|h
    ·exact List.pairwise_iff_getElem.1 hs i k (by omega) hk h
    ·subst h;exact List.le_refl _
   have h1:=hle j (m-1) (by omega) (by omega);have h2:=hle (m-1) m (by omega) (by omega);simp only[Lib.keeps,decide_eq_true_eq]at hk;rcases hk with h0|hne
   ·omega
   ·rw[hg m (by omega),hg (m-1) (by omega)]at hne;exact lt_of_le_ne (List.le_trans h1 h2) fun e=>hne (List.le_antisymm (e▸h1) h2)
theorem qc(zs:List (List UInt8)):fh (srt zs):=by
 unfold srt Lib.compact;refine sh ?_ _ (Nat.le_refl _);have:=pairwise_mergeSort (le:=fun x y:List UInt8=>decide (x<=y)) (fun a b c h1 h2=>decide_eq_true (List.le_trans (of_decide_eq_true h1) (of_decide_eq_true h2))) (fun a b=>by
  rcases List.le_total a b with h|h
  ·rw[decide_eq_true h];rfl
  ·rw[decide_eq_true h,Bool.or_true]) zs
 exact this.imp fun h=>of_decide_eq_true h
def iM(L:List (List UInt8))(w:List UInt8):Nat->Nat
 | 0=>0
 | n+1=>if Op.bytesLess w (L.getD n []) then iM L w n else n+1
theorem Ch(L:List (List UInt8))(w:List UInt8):∀ n,iM L w n<=n
 | 0=>Nat.le_refl 0
 | n+1=>by
  unfold iM;have:=Ch L w n;split<;>omega
theorem xC(L:List (List UInt8))(w:List UInt8):∀ n i,iM L w n<=i->i<n->w<L.getD i []
 | 0,i,_,h=>by omega
 | n+1,i,h1,h2=>by
  unfold iM at h1;by_cases hb:Op.bytesLess w (L.getD n [])=true
  ·rw[if_pos hb]at h1;by_cases e:i=n
   ·subst e;exact(kg _ _).1 hb
   ·exact xC L w n i h1 (by omega)
  ·rw[if_neg hb]at h1;omega
theorem xm(L:List (List UInt8))(w:List UInt8):∀ n,iM L w n≠0->L.getD (iM L w n-1) []<=w
 | 0,h=>absurd rfl h
 | n+1,h=>by
  unfold iM at h ⊢;by_cases hb:Op.bytesLess w (L.getD n [])=true
  ·rw[if_pos hb]at h ⊢;exact xm L w n h
  ·rw[if_neg hb,Nat.add_sub_cancel];exact Rn.1 (by simpa using hb)
def mc(L:List (List UInt8))(w:List UInt8):List (List UInt8):=
 if iM L w L.length≠0/\L.getD (iM L w L.length-1) []=w then L else L.take (iM L w L.length)++w::L.drop (iM L w L.length)
theorem oH{L:List (List UInt8)}{i:Nat}(h:i<L.length):L.getD i []=L[i]:=by rw[getD_eq_getElem?_getD,getElem?_eq_getElem h];rfl
theorem OT{L:List (List UInt8)}{w x:List UInt8}:x∈mc L w↔x∈L\/x=w:=by
 unfold mc;have hle:=Ch L w L.length;generalize iM L w L.length=n at *;split
 ·rename_i h;refine⟨.inl,fun hx=>?_⟩;rcases hx with hx|hx
  ·exact hx
  ·rw[hx,<-h.2,oH (by omega)];exact getElem_mem _
 ·rw[mem_append,mem_cons];constructor
  ·rintro(h|h|h)
   ·exact .inl (mem_of_mem_take h)
   ·exact .inr h
   ·exact .inl (mem_of_mem_drop h)
  ·rintro(h|h)
   ·rw[<-take_append_drop n L,mem_append]at h;exact h.imp_right .inr
   ·exact .inr (.inl h)
theorem EP{L:List (List UInt8)}{w:List UInt8}(h:fh L):fh (mc L w):=by
 unfold mc;have hle:=Ch L w L.length;have hab:=xC L w L.length;have hbe:=xm L w L.length;generalize iM L w L.length=n at *;split
 ·exact h
 ·rename_i hn;unfold fh at h ⊢;rw[pairwise_append,pairwise_cons];have hlt:∀ x∈L.take n,x<w:=by
   intro x hx;obtain⟨i,hi,rfl⟩:=List.mem_iff_getElem.1 hx;rw[length_take]at hi;rw[getElem_take];have hb:=hbe (by omega);rw[oH (show n-1<L.length by omega)]at hb hn;have hlast:L[n-1]'(by omega)<w:=lt_of_le_ne hb (fun e=>hn ⟨by omega,e⟩);by_cases e:i=n-1
   ·subst e;exact hlast
   ·exact List.lt_trans (List.pairwise_iff_getElem.1 h i (n-1) (by omega) (by omega) (by omega)) hlast
  have hgt:∀ x∈L.drop n,w<x:=by
   intro x hx;obtain⟨i,hi,rfl⟩:=List.mem_iff_getElem.1 hx;rw[length_drop]at hi;rw[getElem_drop];have:=hab (n+i) (by omega) (by omega);rw[oH (by omega)]at this;exact this
  refine⟨h.sublist (take_sublist _ _),⟨hgt,h.sublist (drop_sublist _ _)⟩,?_⟩;intro x hx y hy;rcases List.mem_cons.1 hy with e|e
  ·rw[e];exact hlt x hx
  ·exact List.lt_trans (hlt x hx) (hgt y e)
theorem Nx(L:List (List UInt8))(w:List UInt8):(mc L w).length<=L.length+1:=by
 unfold mc;split
 ·omega
 ·rw[length_append,length_cons,length_take,length_drop];omega
def eQ(L:List (List UInt8)):List (List UInt8)->List (List UInt8)
 | []=>L
 | w::l=>eQ (mc L w) l
theorem vg(l:List (List UInt8))(w:List UInt8):∀ L,eQ L (l++[w])=mc (eQ L l) w:=by
 induction l with
 | nil=>intro L;rfl
 | cons a l ih=>intro L;exact ih (mc L a)
theorem pt:∀(l L:List (List UInt8)),fh L->fh (eQ L l)
 | [],L,h=>h
 | w::l,L,h=>pt l _ (EP h)
theorem xF:∀(l L:List (List UInt8)) (x:List UInt8),x∈eQ L l↔x∈L\/x∈l
 | [],L,x=>by simp[eQ]
 | w::l,L,x=>by
  show x∈eQ (mc L w) l↔_;rw[xF l,OT,mem_cons,or_assoc]
theorem xD:∀(l L:List (List UInt8)),(eQ L l).length<=L.length+l.length
 | [],L=>Nat.le_refl _
 | w::l,L=>by
  have h1:=xD l (mc L w);have h2:=Nx L w;show (eQ (mc L w) l).length<=_;rw[length_cons];omega
theorem Iy(l:List (List UInt8)):eQ [] l=srt l:=
 lH (pt l [] List.Pairwise.nil) (qc l) fun x=>by rw[xF,oD];simp
def vS(w:List UInt8):Int:=if cg w=0 then ((w.length/Nat.gcd w.length (cB w):Nat):Int) else 0
def vP(w:List UInt8):Int:=if cg w=0 then ((cB w/Nat.gcd w.length (cB w):Nat):Int) else 0
theorem wH(a b:Nat):(a:Int).tdiv (b:Int)=((a/b:Nat):Int):=by
 rw[Int.tdiv_eq_ediv_of_nonneg (by omega)];rfl
theorem D8(a b:Nat)(M:Mem)(R:VP)(ha:a<=1000000)(hb:1<=b)(hb':b<=1000000)(h:R (.tuple #[.int .i64 ((a/Nat.gcd a b:Nat):Int),.int .i64 ((b/Nat.gcd a b:Nat):Int)]) M):ar prog 316 [.int .i64 a,.int .i64 b] M R:=by
 refine fnS func316 rfl ntmps316 results316 ?_;simp(disch:=omega);refine k9 a b _ _ (by omega) (by omega) ?_;have hg:1<=Nat.gcd a b:=Nat.gcd_pos_of_pos_right _ (by omega);have q1:a/Nat.gcd a b<=a:=Nat.div_le_self _ _;have q2:b/Nat.gcd a b<=b:=Nat.div_le_self _ _;have e1:=wH a (Nat.gcd a b);have e2:=wH b (Nat.gcd a b);generalize Nat.gcd a b=g at *;have hg0:¬(g:Int)=0:=by omega
 generalize a/g=x at *;generalize b/g=y at *;simp(disch:=omega);refine drwS ?_;simp(disch:=omega)[e1,e2];exact ad h
theorem vY(w:List UInt8)(M:Mem)(R:VP)(hl:w.length<=1099511627776)(h:∀ M',Sub M M'->R (.tuple #[.int .i64 (vS w),.int .i64 (vP w),.int .i64 (cg w)]) M'):ar prog 230 [str w] M R:=by
 unfold vS vP at h;refine fnS func230 rfl ntmps230 results230 ?_;simp(disch:=omega);refine fa w _ _ hl ?_;intro M1 s1;by_cases hc:cg w=0
 ·rw[if_pos hc,if_pos hc,hc]at h;obtain⟨hw,h0,h1,h60⟩:=gj hc;rw[hc];simp(disch:=omega);refine bV w _ _ hl ?_;simp(disch:=omega);refine jC w _ _ h60 h1 ?_;intro p1 p2;generalize cB w=p at *;simp(disch:=omega);refine D8 w.length p _ _ (by omega) p1 (by omega) ?_;generalize w.length/Nat.gcd w.length p=x at *;generalize p/Nat.gcd w.length p=y at *;simp(disch:=omega);exact ad (h _ s1)
 ·rw[if_neg hc,if_neg hc]at h;generalize cg w=c at *;simp(disch:=omega);exact ad (h _ s1)
theorem wb(w:List UInt8)(M:Mem)(R:VP)(hl:w.length<=1099511627776)(h:∀ M',Sub M M'->R (.tuple #[.int .i64 (vS w),.int .i64 (vP w),.int .i64 (cg w)]) M'):ar prog 184 [str w] M R:=by
 unfold vS vP at h;refine fnS func184 rfl ntmps184 results184 ?_;simp(disch:=omega);refine gr w _ _ hl ?_;by_cases hc:cg w=0
 ·rw[if_pos hc,if_pos hc,hc]at h;obtain⟨hw,h0,h1,h60⟩:=gj hc;rw[hc];simp(disch:=omega);refine plyS (ak [0,1,2] (.one 3 1 (ak [4,5,6,7] .fin))) ?_;simp(disch:=omega);refine db w _ _ h60 ?_;intro v N o;obtain⟨p1,p2,p3⟩:=ky h1;have p0:1<=cB w:=by unfold cB;omega
  obtain⟨a,c,rfl,ha⟩:=o.rd.opened;rw[ay]at ha ⊢;rcases ha with hz|⟨b,o',rfl,ha⟩
  ·omega
  have hg:=ha 0 (by omega);rw[cJ,p1,Option.map_some,Nat.add_zero]at hg;have sN:=o.sub;clear ha o;generalize cB w=p at *;generalize (cy w).length=n at *;simp(disch:=omega)[hg];refine⟨sN,?_⟩;refine mq w.length p _ _ (by omega) (by omega) ?_;have hgp:1<=Nat.gcd w.length p:=Nat.gcd_pos_of_pos_right _ (by omega);have q1:w.length/Nat.gcd w.length p<=w.length:=Nat.div_le_self _ _;have q2:p/Nat.gcd w.length p<=p:=Nat.div_le_self _ _;have e1:=wH w.length (Nat.gcd w.length p);have e2:=wH p (Nat.gcd w.length p);generalize Nat.gcd w.length p=g at *;have hg0:¬(g:Int)=0:=by omega
  generalize w.length/g=x at *;generalize p/g=y at *;simp(disch:=omega);refine drwS ?_;simp(disch:=omega)[e1,e2];exact ad (h _ sN)
 ·rw[if_neg hc,if_neg hc]at h;generalize cg w=c at *;simp(disch:=omega);exact ad (h _ (Sub.refl _))
theorem Py{a b:List UInt8}(h:¬ a<b):Op.bytesLess a b=false:=by
 cases hq:Op.bytesLess a b
 ·rfl
 ·exact absurd ((kg a b).1 hq) h
theorem ud(w:List UInt8)(M:Mem)(R:VP)(hl:w.length<=60)(h:R (.tuple #[str (ltF w w.length).1,.int .i64 (ltF w w.length).2]) M):ar prog 331 [str w] M R:=by
 refine fnS func331 rfl ntmps331 results331 ?_;simp(disch:=omega);refine aQ aR [4,5,6,7,11,12,13,14,15,16,17,18,19,20,21,22,23,24,25,26] (fun k:Nat=>[(11,.int .i64 k),(4,str (ltF w k).1),(5,.int .i64 (ltF w k).2)]) (fun k M'=>M=M'/\k<=w.length) (fun k=>w.length-k) 0 (by kernel_rfl) (by simp(disch:=omega);exact⟨rfl,rfl⟩) ⟨rfl,Nat.zero_le _⟩ ?_
 rintro k M' g ⟨rfl,hk⟩
 obtain⟨t1,t2⟩:=qG w k;by_cases hlt:k<w.length
 ·have hs:ltF w (k+1)=if w.drop k++w.take k<(ltF w k).1 then (w.drop k++w.take k,k) else ltF w k:=rfl
  have hol:(w.drop k++w.take k).length=w.length:=by rw[length_append,length_drop,length_take];omega
  generalize ltF w k=X at *;simp(disch:=omega);refine drwS ?_;simp(disch:=omega);by_cases hc:w.drop k++w.take k<X.1
  ·rw[if_pos hc]at hs;have hb:=(kg _ _).2 hc;simp(disch:=omega)[hb];exact rndA (k+1) (by simp(disch:=omega)[hs]) ⟨rfl,by omega⟩
  ·rw[if_neg hc]at hs;have hb:=Py hc;simp(disch:=omega)[hb];exact rndA (k+1) (by simp(disch:=omega)[hs]) ⟨rfl,by omega⟩
 ·have hkE:k=w.length:=by omega
  subst hkE;simp(disch:=omega);exact ad h
theorem AB(w:List UInt8)(M:Mem)(R:VP)(hl:w.length<=60)(h:R (.tuple #[str (ltF w w.length).1,.int .i64 (ltF w w.length).2]) M):ar prog 272 [str w] M R:=by
 refine fnS func272 rfl ntmps272 results272 ?_;simp(disch:=omega);refine aQ aR [4,5,6,7,9,10,11,12,13,14,15,16,17,18,19,20,21,22] (fun k:Nat=>[(6,.int .i64 k),(4,str (ltF w k).1),(5,.int .i64 (ltF w k).2)]) (fun k M'=>M=M'/\1<=k/\k<=w.length+1/\(w.length<k->k=1)) (fun k=>w.length+1-k) 1 (by kernel_rfl) (by rw[JN];simp(disch:=omega)) ⟨rfl,Nat.le_refl _,by omega,fun _=>rfl⟩ ?_
 rintro k M' g ⟨rfl,hk1,hk,hk3⟩
 obtain⟨t1,t2⟩:=qG w k;by_cases hlt:k<w.length
 ·have hs:ltF w (k+1)=if w.drop k++w.take k<(ltF w k).1 then (w.drop k++w.take k,k) else ltF w k:=rfl
  have hol:(w.drop k++w.take k).length=w.length:=by rw[length_append,length_drop,length_take];omega
  generalize ltF w k=X at *;simp(disch:=omega);refine nE w k _ _ (by omega) (by omega) ?_;simp(disch:=omega);by_cases hc:w.drop k++w.take k<X.1
  ·rw[if_pos hc]at hs;have hb:=(kg _ _).2 hc;simp(disch:=omega)[hb];exact rndA (k+1) (by simp(disch:=omega)[hs]) ⟨rfl,by omega,by omega,by omega⟩
  ·rw[if_neg hc]at hs;have hb:=Py hc;simp(disch:=omega)[hb];exact rndA (k+1) (by simp(disch:=omega)[hs]) ⟨rfl,by omega,by omega,by omega⟩
 ·have he:ltF w k=ltF w w.length:=by
   by_cases hkE:k=w.length
   ·rw[hkE]
   ·have hk1:=hk3 (by omega);have hw0:w.length=0:=by omega
    rw[hk1,hw0,JN];rfl
  rw[he];simp(disch:=omega);exact ad h
theorem tk(w:List UInt8)(M:Mem)(R:VP)(hl:w.length<=1099511627776)(h:∀ M',Sub M M'->R (.tuple #[str (if isWord w then (ltF w w.length).1 else []),.int .i64 (if isWord w then (((ltF w w.length).2:Nat):Int) else 0),.int .i64 (aJ w)]) M'):ar prog 238 [str w] M R:=by
 unfold aJ at h;refine fnS func238 rfl ntmps238 results238 ?_;simp(disch:=omega);intro b1 hb1;simp(disch:=omega);have hs1:Sub M (M.put b1 (.cells true [str w] 1)):=(Sub.refl _).put hb1 _;refine bq _ _ [w] true (fun _=>True) _ _ (Rd.new rfl (Nat.le_refl 1)) (fM hl) (by simp) trivial bT (bG _) ?_;rw[cV];cases hw:isWord w
 ·rw[hw]at h;simp(disch:=omega);exact ad (h _ hs1)
 ·rw[hw,if_pos rfl,if_pos rfl,if_pos rfl]at h;have h60:=au hw;simp(disch:=omega);refine ud w _ _ h60 ?_;generalize ltF w w.length=X at *;simp(disch:=omega);exact ad (h _ hs1)
theorem tG(w:List UInt8)(M:Mem)(R:VP)(hl:w.length<=1099511627776)(h:∀ M',Sub M M'->R (.tuple #[str (if isWord w then (ltF w w.length).1 else []),.int .i64 (if isWord w then (((ltF w w.length).2:Nat):Int) else 0),.int .i64 (aJ w)]) M'):ar prog 185 [str w] M R:=by
 unfold aJ at h;refine fnS func185 rfl ntmps185 results185 ?_;simp(disch:=omega);refine ba w _ _ hl ?_;cases hw:isWord w
 ·rw[hw]at h;simp(disch:=omega);exact ad (h _ (Sub.refl _))
 ·rw[hw,if_pos rfl,if_pos rfl,if_pos rfl]at h;have h60:=au hw;simp(disch:=omega);refine AB w _ _ h60 ?_;generalize ltF w w.length=X at *;simp(disch:=omega);exact ad (h _ (Sub.refl _))
theorem Om(a b:List UInt8):a<b\/Op.bytesLess b a=true\/b=a:=by
 by_cases h:a<b
 ·exact .inl h
 ·rcases List.le_iff_lt_or_eq.1 (List.not_lt.1 h) with h1|h1
  ·exact .inr (.inl ((kg _ _).2 h1))
  ·exact .inr (.inr h1)
theorem RA{a b:List UInt8}(h:a<b):Op.bytesLess b a=false/\¬ b=a:=by
 constructor
 ·cases hq:Op.bytesLess b a
  ·rfl
  ·exact absurd ((kg _ _).1 hq) (List.lt_asymm h)
 ·rintro rfl;exact List.lt_irrefl _ h
theorem QP{w:List UInt8}{k:Nat}(hk:k+1<w.length)(h:¬ w<w.drop (k+1)++w.take (k+1)):KC w=false:=by
 unfold KC;rw[all_eq_false];exact⟨k,List.mem_range.2 (by omega),by rw[decide_eq_false h];simp⟩
theorem QE{w:List UInt8}{k:Nat}(hk:k+1<w.length)(h:¬ w<w.drop (k+1)):tO w=false:=by
 unfold tO;rw[all_eq_false];exact⟨k,List.mem_range.2 (by omega),by rw[decide_eq_false h];simp⟩
theorem nV{w:List UInt8}(h:1<=w.length):¬ w=[]/\w.isEmpty=false:=by
 cases w with
 | nil=>simp at h
 | cons a b=>exact⟨(fun e=>by cases e),rfl⟩
theorem AQ{a b:List UInt8}(h:Op.bytesLess b a=true\/b=a):¬ a<b:=by
 rcases h with h|h
 ·exact List.lt_asymm ((kg _ _).1 h)
 ·rw[h];exact List.lt_irrefl _
theorem xT(w:List UInt8)(M:Mem)(R:VP)(hl:w.length<=60)(h1:1<=w.length)(h:R (.bool (tO w)) M):ar prog 333 [str w] M R:=by
 rw[<-O5]at h;obtain⟨hn1,hn2⟩:=nV h1;refine fnS func333 rfl ntmps333 results333 ?_;simp(disch:=omega);refine lupS [2,3,4,5,6,7,8,9,10,11,12,13,14,15,16,17,18] (fun i:Nat=>[(3,.int .i64 i)]) (fun i M'=>M=M'/\1<=i/\i<=w.length/\∀ k,k+1<i->w<w.drop (k+1)++w.take (k+1)) (fun i=>w.length-i) 1 ⟨rfl,by omega,by omega,fun k hk=>by omega⟩ ?_
 rintro i M' g ⟨rfl,hi1,hi,hall⟩
 by_cases hlt:i<w.length
 ·rcases Om w (w.drop i++w.take i) with hc|hc
  ·obtain⟨c1,c2⟩:=RA hc;have c3:(w.drop i++w.take i==w)=false:=beq_eq_false_iff_ne.2 c2;simp(disch:=omega);refine drwS ?_;simp(disch:=omega)[c1,c3];exact rndS (i+1) ⟨rfl,by omega,by omega,fun k hk=>by
    by_cases e:k+1=i
    ·rw[e];exact hc
    ·exact hall k (by omega)⟩
  ·obtain⟨k,rfl⟩:∃ k,i=k+1:=⟨i-1,by omega⟩;rw[QP hlt (AQ hc)]at h;obtain⟨i,hi2⟩:∃ i,i=k+1:=⟨_,rfl⟩;rw[<-hi2]at hc hlt ⊢;rcases hc with hc|hc
   ·simp(disch:=omega);refine drwS ?_;simp(disch:=omega)[hc];exact ad h
   ·simp(disch:=omega);refine drwS ?_;simp(disch:=omega)[hc];exact ad h
 ·have:KC w=true:=by
   unfold KC;rw[all_eq_true];intro k hk;exact decide_eq_true (hall k (by have:=List.mem_range.1 hk;omega))
  rw[this]at h;simp(disch:=omega)[hn2];exact ad h
theorem vI(w:List UInt8)(M:Mem)(R:VP)(hl:w.length<=60)(h1:1<=w.length)(h:R (.bool (tO w)) M):ar prog 361 [str w] M R:=by
 obtain⟨hn1,hn2⟩:=nV h1;refine fnS func361 rfl ntmps361 results361 ?_;simp(disch:=omega);refine lupS [2,3,4,5,6,7,8,9,10,11,12,13,14] (fun i:Nat=>[(3,.int .i64 i)]) (fun i M'=>M=M'/\1<=i/\i<=w.length/\∀ k,k+1<i->w<w.drop (k+1)) (fun i=>w.length-i) 1 ⟨rfl,by omega,by omega,fun k hk=>by omega⟩ ?_
 rintro i M' g ⟨rfl,hi1,hi,hall⟩
 by_cases hlt:i<w.length
 ·rcases Om w (w.drop i) with hc|hc
  ·obtain⟨c1,c2⟩:=RA hc;have c3:(w.drop i==w)=false:=beq_eq_false_iff_ne.2 c2;simp(disch:=omega)[c1,c3];exact rndS (i+1) ⟨rfl,by omega,by omega,fun k hk=>by
    by_cases e:k+1=i
    ·rw[e];exact hc
    ·exact hall k (by omega)⟩
  ·obtain⟨k,rfl⟩:∃ k,i=k+1:=⟨i-1,by omega⟩;rw[QE hlt (AQ hc)]at h;obtain⟨i,hi2⟩:∃ i,i=k+1:=⟨_,rfl⟩;rw[<-hi2]at hc hlt ⊢;rcases hc with hc|hc
   ·simp(disch:=omega)[hc];exact ad h
   ·have:=congrArg length hc;rw[length_drop]at this;omega
 ·have:tO w=true:=by
   unfold tO;rw[all_eq_true];intro k hk;exact decide_eq_true (hall k (by have:=List.mem_range.1 hk;omega))
  rw[this]at h;have h1I:(0:Int)<w.length:=by omega
  simp(disch:=omega)
  first|exact ad h|(rw[decide_eq_true (show 0<w.length by omega)];exact ad h)
theorem uk(w:List UInt8)(M:Mem)(R:VP)(hl:w.length<=1099511627776)(h:∀ v M',Sub M M'->Rd M' v (strs (if isWord w then kI w else []))->R (aD v (aJ w)) M'):ar prog 241 [str w] M R:=by
 unfold aD aJ at h;refine fnS func241 rfl ntmps241 results241 ?_;simp(disch:=omega);intro b1 hb1;simp(disch:=omega);have hs1:Sub M (M.put b1 (.cells true [str w] 1)):=(Sub.refl _).put hb1 _;refine bq _ _ [w] true (fun _=>True) _ _ (Rd.new rfl (Nat.le_refl 1)) (fM hl) (by simp) trivial bT (bG _) ?_;rw[cV];cases hw:isWord w
 ·rw[hw]at h;simp(disch:=omega);exact ad (h _ _ hs1 (.inl ⟨none,0,rfl,rfl⟩))
 ·rw[hw,if_pos rfl,if_pos rfl]at h;have h60:=au hw;generalize M.put b1 (.cells true [str w] 1)=M0 at *;simp(disch:=omega);refine lupS [0,5,6,13,14,15,16,17,18,19,20,21,22,23,24,25,26,27,28,29,30,31,32] (fun x:List UInt8×Value=>[(0,str x.1),(5,x.2)]) (fun x N=>x.1.length<=60/\∃ L,L.length+x.1.length<=60/\kI w=L++kI x.1/\Own M0 x.2 (strs L) N) (fun x=>x.1.length) (w,.slice none 0 0) ⟨h60,[],by simpa using h60,rfl,Own.nil _⟩ ?_
  rintro⟨u,v⟩ N g ⟨hu,L,hLl,hL,ho⟩
  simp only at hu hLl hL ho;by_cases h0:u=[]
  ·subst h0;rw[Fx,append_nil]at hL;rw[<-hL]at ho;simp(disch:=omega);exact ad (h _ _ (hs1.trans ho.sub) ho.rd)
  ·have h1:1<=u.length:=List.length_pos_iff.2 h0;obtain⟨n1,n2⟩:=nV h1;have hc:=BB h0;have hb1:=gT h1 u.length h1;have hb2:=qf u u.length;simp(disch:=omega)[n2];refine lupS [6,17,18,19,20,21,22,23] (fun n:Nat=>[(6,.int .i64 n)]) (fun n N'=>N=N'/\1<=n/\n<=u.length/\bY u u.length=bY u n) (fun n=>n) u.length ⟨rfl,h1,Nat.le_refl _,rfl⟩ ?_
   rintro n N' g2 ⟨rfl,hn1,hn,hbn⟩
   obtain⟨m,rfl⟩:∃ m,n=m+1:=⟨n-1,by omega⟩;have hstep:bY u (m+1)=if tO (u.take (m+1)) then m+1 else bY u m:=rfl
   have htl:(u.take (m+1)).length=m+1:=by rw[length_take];omega
   obtain⟨n,hnE⟩:∃ n,n=m+1:=⟨_,rfl⟩;rw[<-hnE]at hstep htl hn hbn ⊢;have hmI:(n:Int)-1=(m:Nat):=by omega
   simp(disch:=omega);refine xT (u.take n) _ _ (by omega) (by omega) ?_;cases hly:tO (u.take n)
   ·rw[hly,if_neg (by decide)]at hstep;have hm1:1<=m:=by
     rcases Nat.eq_zero_or_pos m with e|e
     ·rw[<-hbn,e]at hstep;have e0:bY u 0=0:=rfl;omega
     ·exact e
    simp(disch:=omega);exact rndA m (by simp(disch:=omega)[hmI]) ⟨rfl,hm1,by omega,by rw[hbn,hstep]⟩
   ·rw[hly,if_pos rfl]at hstep;have hbE:bY u u.length=n:=by rw[hbn,hstep,hnE]
    rw[hbE]at hc;rw[hc]at hL;have hL2:kI w=(L++[u.take n])++kI (u.drop n):=by rw[hL];simp
    simp(disch:=omega);intro b' hb';simp(disch:=omega);refine aN ho ((Sub.refl _).put hb' _) (by simp(disch:=omega);rfl) rfl rfl (by omega) (by simp(disch:=omega)) (by simp(disch:=omega);omega) ?_;intro v' M'' N'' ho' hs';rw[cO]at ho';simp(disch:=omega);exact Rnd.mk'' M'' (u.drop n,v') hs' (by simp only[length_drop];omega) (by (repeat (first|exact km|refine kp rfl ?_|refine km' rfl ?_))) (by simp(disch:=omega)) ⟨by simp only[length_drop];omega,_,by simp only[length_append,length_singleton,length_drop];omega,hL2,ho'⟩
theorem tg(w:List UInt8)(M:Mem)(R:VP)(hl:w.length<=1099511627776)(h:∀ v M',Sub M M'->Rd M' v (strs (if isWord w then kI w else []))->R (aD v (aJ w)) M'):ar prog 280 [str w] M R:=by
 unfold aD aJ at h;refine fnS func280 rfl ntmps280 results280 ?_;simp(disch:=omega);refine ba w _ _ hl ?_;cases hw:isWord w
 ·rw[hw]at h;simp(disch:=omega);exact ad (h _ _ (Sub.refl M) (.inl ⟨none,0,rfl,rfl⟩))
 ·rw[hw,if_pos rfl,if_pos rfl]at h;have h60:=au hw;simp(disch:=omega);intro b0 hb0;simp(disch:=omega);refine lupS [0,4,5,6,11,12,13,14,15,16,17,18,19,20,21,22,23,24,25,26,27,28,29,30,31,32,33] (fun x:List UInt8×Value=>[(0,str x.1),(4,x.2)]) (fun x N=>x.1.length<=60/\∃ L,L.length+x.1.length<=60/\kI w=L++kI x.1/\Own M x.2 (strs L) N) (fun x=>x.1.length) (w,.slice (some ⟨b0,0,none⟩) 0 0) ⟨h60,[],by simpa using h60,rfl,Own.new hb0 rfl (Nat.le_refl 0)⟩ ?_
  rintro⟨u,v⟩ N g ⟨hu,L,hLl,hL,ho⟩
  simp only at hu hLl hL ho;by_cases h0:u=[]
  ·subst h0;rw[Fx,append_nil]at hL;rw[<-hL]at ho;simp(disch:=omega);exact ad (h _ _ ho.sub ho.rd)
  ·have h1:1<=u.length:=List.length_pos_iff.2 h0;obtain⟨n1,n2⟩:=nV h1;have hc:=BB h0;have hb1:=gT h1 u.length h1;have hb2:=qf u u.length;have h1I:(0:Int)<u.length:=by omega
   have hone:=vu h1;simp(disch:=omega);refine aQ aR [5,6,14,15,16,17,18,19,20,21,22,23,24] (fun m:Nat=>[(6,.int .i64 ((m:Int)+1)),(5,.int .i64 (bY u m:Nat))]) (fun m N'=>N=N'/\1<=m/\m<=u.length) (fun m=>u.length-m) 1 (by kernel_rfl) (by simp(disch:=omega)[hone]) ⟨rfl,Nat.le_refl _,h1⟩ ?_
   rintro m N' g2 ⟨rfl,hm1,hm⟩
   by_cases hlt:m<u.length
   ·have hltI:(m:Int)+1<=(u.length:Nat):=by omega
    have hstep:bY u (m+1)=if tO (u.take (m+1)) then m+1 else bY u m:=rfl
    have htl:(u.take (m+1)).length=m+1:=by rw[length_take];omega
    obtain⟨n,hnE⟩:∃ n,n=m+1:=⟨_,rfl⟩;rw[<-hnE]at hstep htl;have hnI:(m:Int)+1=(n:Nat):=by omega
    rw[hnI]at hltI ⊢;simp(disch:=omega)[hltI];refine vI (u.take n) _ _ (by omega) (by omega) ?_;cases hly:tO (u.take n)
    ·rw[hly,if_neg (by decide)]at hstep;simp(disch:=omega);exact rndA n (by simp(disch:=omega)[hstep]) ⟨rfl,by omega,by omega⟩
    ·rw[hly,if_pos rfl]at hstep;simp(disch:=omega);exact rndA n (by simp(disch:=omega)[hstep]) ⟨rfl,by omega,by omega⟩
   ·have hltI:¬(m:Int)+1<=(u.length:Nat):=by omega
    have hmE:m=u.length:=by omega
    subst hmE;rw[hc]at hL;generalize bY u u.length=n at *;have hL2:kI w=(L++[u.take n])++kI (u.drop n):=by rw[hL];simp
    simp(disch:=omega)[hltI];intro b' hb';simp(disch:=omega);refine aN ho ((Sub.refl _).put hb' _) (by simp(disch:=omega);rfl) rfl rfl (by omega) (by simp(disch:=omega)) (by simp(disch:=omega);omega) ?_;intro v' M'' N'' ho' hs';rw[cO]at ho';simp(disch:=omega);exact Rnd.mk'' M'' (u.drop n,v') hs' (by simp only[length_drop];omega) (by (repeat (first|exact km|refine kp rfl ?_|refine km' rfl ?_))) (by simp(disch:=omega)) ⟨by simp only[length_drop];omega,_,by simp only[length_append,length_singleton,length_drop];omega,hL2,ho'⟩
def ubT(w:List UInt8):List UInt8:=if cg w=0 then (jZ kW w w.length).1 else []
theorem lG(w:List UInt8)(M:Mem)(R:VP)(hl:w.length<=1099511627776)(h:∀ M',Sub M M'->R (aD (str (ubT w)) (cg w)) M'):ar prog 242 [str w] M R:=by
 unfold aD ubT at h;refine fnS func242 rfl ntmps242 results242 ?_;simp(disch:=omega);refine fa w _ _ hl ?_;intro M1 s1;by_cases hc:cg w=0
 ·rw[if_pos hc,hc]at h;obtain⟨hw,h0,h1,h60⟩:=gj hc;rw[hc];have h:=h _ s1;simp(disch:=omega);refine lupS [2,3,5,6,7,15,16,17,18,19,20,21,22,23,24,25,26,27,28,29,30,31,32,33,34,35] (fun n:Nat=>[(5,.int .i64 n)]) (fun n N=>M1=N/\1<=n/\n<=w.length/\jZ kW w w.length=jZ kW w n) (fun n=>n) w.length ⟨rfl,h1,Nat.le_refl _,rfl⟩ ?_
  rintro n N g ⟨rfl,hn1,hn,hbn⟩
  obtain⟨m,hm⟩:∃ m,n=m+1:=⟨n-1,by omega⟩;have hmI:(n:Int)-1=(m:Nat):=by omega
  simp(disch:=omega);refine lupS [2,3,6,7,17,18,19,20,21,22,23,24,25,26,27,28,29,30,31,32,33,34,35] (fun i:Nat=>[(6,.int .i64 i)]) (fun i N=>M1=N/\i<=w.length-m/\∀ j,j<i->kW (seg w j n)=false) (fun i=>w.length-m-i) 0 ⟨rfl,Nat.zero_le _,fun j hj=>by omega⟩ ?_
  rintro i N g2 ⟨rfl,hi,hno⟩
  by_cases hlt:i<w.length-m
  ·have hltI:(i:Int)+n<=(w.length:Nat):=by omega
   have hsg:=fK (w:=w) (a:=i) (m:=n);have hsl:=ef (w:=w) (a:=i) (m:=n) (by omega);have hub:kW (seg w i n)=(cB (seg w i n)==n):=by unfold kW;rw[hsl]
   have hyes:=mK (P:=kW) (w:=w) (n:=m) (i:=i) hlt;rw[<-hm]at hyes;generalize hSu:seg w i n=u at *;simp(disch:=omega)[hltI,hsg];refine jC u _ _ (by omega) (by omega) ?_;intro p1 p2;by_cases he:cB u=n
   ·have hy:=hyes (by rw[hub,he];exact beq_self_eq_true _) hno;rw[hbn,hy]at h;simp(disch:=omega)[he];exact ad h
   ·have heb:(((cB u:Nat):Int)==(n:Nat))=false:=beq_eq_false_iff_ne.2 (by omega);have hub2:kW u=false:=by rw[hub];exact beq_eq_false_iff_ne.2 he
    simp(disch:=omega)[heb];exact rndS (i+1) ⟨rfl,by omega,fun j hj=>by
     by_cases e:j=i
     ·rw[e,hSu];exact hub2
     ·exact hno j (by omega)⟩
  ·have hltI:¬(i:Int)+n<=(w.length:Nat):=by omega
   have hnoA:=wC (P:=kW) (w:=w) (n:=m) (fun j hj=>by rw[<-hm];exact hno j (by omega));rw[<-hm]at hnoA;have hm1:1<=m:=by
    rcases Nat.eq_zero_or_pos m with e|e
    ·exfalso;have:=hno 0 (by omega);rw[hm,e]at this;obtain⟨u,hu⟩:=Hk h1;rw[show 0+1=1 from rfl,rK,hu,GR]at this;cases this
    ·exact e
   simp(disch:=omega)[hltI];exact rndA m (by simp(disch:=omega)[hmI]) ⟨rfl,hm1,by omega,by rw[hbn,hnoA]⟩
 ·rw[if_neg hc]at h;generalize cg w=c at *;simp(disch:=omega);exact ad (h _ s1)
def pP(w u:List UInt8)(n:Nat):List Nat:=(range n).filter fun i=>u.isPrefixOf (w.drop i)
def Ey(w u:List UInt8):List Nat:=pP w u (w.length+1)
theorem kU(w u:List UInt8)(n:Nat):pP w u (n+1)=pP w u n++if u.isPrefixOf (w.drop n) then [n] else []:=by
 unfold pP;rw[range_succ,filter_append]
 congr 1
 by_cases h:u.isPrefixOf (w.drop n)=true
 ·rw[if_pos h];simp[h]
 ·rw[if_neg h];simp[h]
theorem Gm{w u:List UInt8}{n:Nat}(h:w.length<n+u.length):∀ d,n+d<=w.length+1->pP w u (n+d)=pP w u n
 | 0,_=>rfl
 | d+1,hd=>by
  rw[show n+(d+1)=n+d+1 by omega,kU,Gm h d (by omega)];have:u.isPrefixOf (w.drop (n+d))=false:=by
   cases hp:u.isPrefixOf (w.drop (n+d)) with
   | false=>rfl
   | true=>
    have:=(List.isPrefixOf_iff_prefix.1 hp).length_le;rw[length_drop]at this;omega
  rw[this];simp
theorem O9{w u:List UInt8}{n:Nat}(h:w.length<n+u.length)(hn:n<=w.length+1):Ey w u=pP w u n:=by
 unfold Ey;rw[show w.length+1=n+(w.length+1-n) by omega];exact Gm h _ (by omega)
theorem Ga(w u:List UInt8)(n:Nat):(pP w u n).length<=n:=by
 unfold pP;have:=length_filter_le (fun i=>u.isPrefixOf (w.drop i)) (range n);rw[length_range]at this;exact this
def qX(w:List UInt8)(m:Nat):List (List UInt8):=if m<=w.length then srt (dq w m (w.length-m+1)) else []
theorem Ev(w:List UInt8)(m:Nat):fh (qX w m):=by
 unfold qX;split
 ·exact qc _
 ·exact List.Pairwise.nil
theorem GK{w:List UInt8}(h:w.length<=60)(m:Nat):(qX w m).length<=61:=by
 unfold qX;split
 ·have:=NF (dq w m (w.length-m+1));rw[fD]at this;omega
 ·simp
end Go.Proofs.YtapimhjbilkfpaaGreatDoor
