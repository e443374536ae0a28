/- Lemmas for FnExactDeskAfter, part 24 of 33. -/
import Derived.Test.YtapimhjbilkfpaaGreatDoorZ21
set_option linter.unusedVariables false
set_option linter.unusedSimpArgs false
namespace Go.Proofs.YtapimhjbilkfpaaGreatDoor
open Go Go.Proofs.Tryz List
theorem CD{w:B8}{p a m n:Nat}(h:m<=n)(hf:lQ w p a m=false):lQ w p a n=false:=by
 unfold lQ at *;rw[all_eq_false]at *;obtain⟨t,ht,hc⟩:=hf;exact⟨t,List.mem_range.2 (by have:=List.mem_range.1 ht;omega),hc⟩
theorem getD_in{w:B8}{j:Nat}(h:j<w.length):w[j]?=some (w.getD j 0):=by
 rw[gDe,gEl h];rfl
theorem E2(x y:UInt8):((x.toNat:Int)==(y.toNat:Int))=(x==y):=by
 rw[Bool.eq_iff_iff,beq_iff_eq,beq_iff_eq];constructor
 ·intro h;exact UInt8.toNat_inj.1 (by omega)
 ·rintro rfl;rfl
theorem ve(w:B8)(i:Nat)(M:Mem)(R:VP)(hl:w.length<=60)(hi1:1<=w.length)(hi:i<=w.length)(h:R (.int .i64 (lpF w i:Nat)) M):ar prog 332 [str w,.int .i64 i] M R:=by
 refine fnS func332 rfl ntmps332 results332 ?_;simp(disch:=omega);refine lupS (rlA [] 4 37) (fun p:Nat=>[(5,.int .i64 p)]) (fun p M'=>M=M'/\1<=p/\p<=w.length+1/\∀ q,1<=q->q<p->lpB w i q=false) (fun p=>w.length+1-p) 1 ⟨rfl,lRf _,by omega,fun q h1 h2=>by omega⟩ ?_
 rintro p M' g ⟨rfl,hp1,hp2,hno⟩
 have hpl:p<=w.length:=by
  rcases Nat.lt_or_ge w.length p with hh|hh
  ·have:=hno w.length hi1 hh;rw[LQ (lRf _)]at this;cases this
  ·exact hh
 obtain⟨a,ha⟩:∃ a,a=i-p:=⟨_,rfl⟩;obtain⟨n,hn⟩:∃ n,n=min i (w.length-p)-a:=⟨_,rfl⟩;have hlp:lQ w p a n=lpB w i p:=by unfold lpB;rw[ha,hn,ha]
 by_cases hip:i<p
 ·have ha0:a=0:=by omega
  have hipI:(i:Int)-p<0:=by omega
  simp(disch:=omega)[hipI];refine aP aR (rlA [6,7] 14 25) (fun t:Nat=>[(7,.int .i64 ((a:Int)+t)),(6,.bool (lQ w p a t))]) (fun t M'=>M=M'/\t<=n) (fun t=>n-t) 0 (by kernel_rfl) (by simp(disch:=omega)[ha0];rfl) ⟨rfl,lZe _⟩ ?_
  rintro t M' g2 ⟨rfl,ht⟩
  by_cases htn:t<n
  ·have c1:(a:Int)+t<(i:Nat):=by omega
   have c2:(a:Int)+t+p<(w.length:Nat):=by omega
   have hs:=pq w p a t;have g1:=getD_in (w:=w) (j:=a+t) (by omega);have g2:=getD_in (w:=w) (j:=a+t+p) (by omega);have hx:=E2 (w.getD (a+t) 0) (w.getD (a+t+p) 0);obtain⟨j,hj⟩:∃ j,j=a+t:=⟨_,rfl⟩;obtain⟨k,hk⟩:∃ k,k=a+t+p:=⟨_,rfl⟩;have hjI:(a:Int)+t=j:=by omega
   have hkI:(j:Int)+p=k:=by omega
   have hnI:(a:Int)+((t:Int)+1)=(j:Int)+1:=by omega
   rw[<-hk]at g2 hx hs;rw[<-hj]at g1 hx hs;rw[hjI]at c1 c2 ⊢;rw[hkI]at c2;generalize w.getD j 0=x at *;generalize w.getD k 0=y at *;generalize lQ w p a t=f at *;cases f
   ·rw[Bool.false_and]at hs;simp(disch:=omega)[c1,c2,hkI];refine drwS ?_;simp(disch:=omega)[undef];exact rndA (t+1) (by simp(disch:=omega)[hs,hnI]) ⟨rfl,by omega⟩
   ·rw[Bool.true_and]at hs;have hjl:j<w.length:=by omega
    have hkl:k<w.length:=by omega
    simp(disch:=omega)[c1,c2,hkI];refine drwS ?_;have at1:w[j]=x:=by rw[gEl hjl]at g1;exact Option.some.inj g1
    have at2:w[k]=y:=by rw[gEl hkl]at g2;exact Option.some.inj g2
    by_cases hxy:x=y
    ·have hb:(x==y)=true:=by rw[hxy];exact beq_self_eq_true _
     rw[hb]at hs;subst hxy;simp(disch:=omega)[hkI,hjl,hkl,at1,at2];exact rndA (t+1) (by simp(disch:=omega)[hs,hnI]) ⟨rfl,by omega⟩
    ·have hb:(x==y)=false:=bNe.2 hxy;rw[hb]at hs hx;have hxn:¬ x.toNat=y.toNat:=fun e=>hxy (UInt8.toNat_inj.1 e);simp(disch:=omega)[hkI,hjl,hkl,at1,at2,hx];exact rndA (t+1) (by simp(disch:=omega)[hs,hnI]) ⟨rfl,by omega⟩
  ·have htE:t=n:=by omega
   subst htE;rw[hlp];by_cases c1:(a:Int)+t<(i:Nat)
   ·have c2:¬(a:Int)+t+p<(w.length:Nat):=by omega
    cases hB:lpB w i p
    ·simp(disch:=omega)[c1,c2];exact rndS (p+1) ⟨rfl,by omega,by omega,fun q h1 h2=>by
      by_cases e:q=p
      ·rw[e,hB]
      ·exact hno q h1 (by omega)⟩
    ·rw[nz hp1 hp2 hB hno]at h;simp(disch:=omega)[c1,c2];exact ad h
   ·cases hB:lpB w i p
    ·simp(disch:=omega)[c1,undef];exact rndS (p+1) ⟨rfl,by omega,by omega,fun q h1 h2=>by
      by_cases e:q=p
      ·rw[e,hB]
      ·exact hno q h1 (by omega)⟩
    ·rw[nz hp1 hp2 hB hno]at h;simp(disch:=omega)[c1,undef];exact ad h
 ·have ha0:(i:Int)-p=(a:Int):=by omega
  have hipI:¬(i:Int)-p<0:=by omega
  simp(disch:=omega)[hipI];refine aP aR (rlA [6,7] 14 25) (fun t:Nat=>[(7,.int .i64 ((a:Int)+t)),(6,.bool (lQ w p a t))]) (fun t M'=>M=M'/\t<=n) (fun t=>n-t) 0 (by kernel_rfl) (by simp(disch:=omega)[ha0];rfl) ⟨rfl,lZe _⟩ ?_
  rintro t M' g2 ⟨rfl,ht⟩
  by_cases htn:t<n
  ·have c1:(a:Int)+t<(i:Nat):=by omega
   have c2:(a:Int)+t+p<(w.length:Nat):=by omega
   have hs:=pq w p a t;have g1:=getD_in (w:=w) (j:=a+t) (by omega);have g2:=getD_in (w:=w) (j:=a+t+p) (by omega);have hx:=E2 (w.getD (a+t) 0) (w.getD (a+t+p) 0);obtain⟨j,hj⟩:∃ j,j=a+t:=⟨_,rfl⟩;obtain⟨k,hk⟩:∃ k,k=a+t+p:=⟨_,rfl⟩;have hjI:(a:Int)+t=j:=by omega
   have hkI:(j:Int)+p=k:=by omega
   have hnI:(a:Int)+((t:Int)+1)=(j:Int)+1:=by omega
   rw[<-hk]at g2 hx hs;rw[<-hj]at g1 hx hs;rw[hjI]at c1 c2 ⊢;rw[hkI]at c2;generalize w.getD j 0=x at *;generalize w.getD k 0=y at *;generalize lQ w p a t=f at *;cases f
   ·rw[Bool.false_and]at hs;simp(disch:=omega)[c1,c2,hkI];refine drwS ?_;simp(disch:=omega)[undef];exact rndA (t+1) (by simp(disch:=omega)[hs,hnI]) ⟨rfl,by omega⟩
   ·rw[Bool.true_and]at hs;have hjl:j<w.length:=by omega
    have hkl:k<w.length:=by omega
    simp(disch:=omega)[c1,c2,hkI];refine drwS ?_;have at1:w[j]=x:=by rw[gEl hjl]at g1;exact Option.some.inj g1
    have at2:w[k]=y:=by rw[gEl hkl]at g2;exact Option.some.inj g2
    by_cases hxy:x=y
    ·have hb:(x==y)=true:=by rw[hxy];exact beq_self_eq_true _
     rw[hb]at hs;subst hxy;simp(disch:=omega)[hkI,hjl,hkl,at1,at2];exact rndA (t+1) (by simp(disch:=omega)[hs,hnI]) ⟨rfl,by omega⟩
    ·have hb:(x==y)=false:=bNe.2 hxy;rw[hb]at hs hx;have hxn:¬ x.toNat=y.toNat:=fun e=>hxy (UInt8.toNat_inj.1 e);simp(disch:=omega)[hkI,hjl,hkl,at1,at2,hx];exact rndA (t+1) (by simp(disch:=omega)[hs,hnI]) ⟨rfl,by omega⟩
  ·have htE:t=n:=by omega
   subst htE;rw[hlp];by_cases c1:(a:Int)+t<(i:Nat)
   ·have c2:¬(a:Int)+t+p<(w.length:Nat):=by omega
    cases hB:lpB w i p
    ·simp(disch:=omega)[c1,c2];exact rndS (p+1) ⟨rfl,by omega,by omega,fun q h1 h2=>by
      by_cases e:q=p
      ·rw[e,hB]
      ·exact hno q h1 (by omega)⟩
    ·rw[nz hp1 hp2 hB hno]at h;simp(disch:=omega)[c1,c2];exact ad h
   ·cases hB:lpB w i p
    ·simp(disch:=omega)[c1,undef];exact rndS (p+1) ⟨rfl,by omega,by omega,fun q h1 h2=>by
      by_cases e:q=p
      ·rw[e,hB]
      ·exact hno q h1 (by omega)⟩
    ·rw[nz hp1 hp2 hB hno]at h;simp(disch:=omega)[c1,undef];exact ad h
theorem By(w:B8)(i:Nat)(M:Mem)(R:VP)(hl:w.length<=60)(hi1:1<=w.length)(hi:i<=w.length)(h:R (.int .i64 (lpF w i:Nat)) M):ar prog 363 [str w,.int .i64 i] M R:=by
 refine fnS func363 rfl ntmps363 results363 ?_;simp(disch:=omega);refine lupS (rlA [] 4 37) (fun p:Nat=>[(5,.int .i64 p)]) (fun p M'=>M=M'/\1<=p/\p<=w.length+1/\∀ q,1<=q->q<p->lpB w i q=false) (fun p=>w.length+1-p) 1 ⟨rfl,lRf _,by omega,fun q h1 h2=>by omega⟩ ?_
 rintro p M' g ⟨rfl,hp1,hp2,hno⟩
 have hpl:p<=w.length:=by
  rcases Nat.lt_or_ge w.length p with hh|hh
  ·have:=hno w.length hi1 hh;rw[LQ (lRf _)]at this;cases this
  ·exact hh
 obtain⟨a,ha⟩:∃ a,a=i-p:=⟨_,rfl⟩;obtain⟨n,hn⟩:∃ n,n=min i (w.length-p)-a:=⟨_,rfl⟩;have hlp:lQ w p a n=lpB w i p:=by unfold lpB;rw[ha,hn,ha]
 by_cases hip:i<p
 ·have ha0:a=0:=by omega
  have hipI:(i:Int)-p<0:=by omega
  simp(disch:=omega)[hipI];refine aP aR (rlA [6,7] 14 25) (fun t:Nat=>[(7,.int .i64 ((a:Int)+t)),(6,.bool (lQ w p a t))]) (fun t M'=>M=M'/\t<=n) (fun t=>n-t) 0 (by kernel_rfl) (by simp(disch:=omega)[ha0];rfl) ⟨rfl,lZe _⟩ ?_
  rintro t M' g2 ⟨rfl,ht⟩
  have iO:lQ w p a t=false->lpB w i p=false:=fun hf=>by rw[<-hlp];exact CD ht hf
  by_cases htn:t<n
  ·have c1:(a:Int)+t<(i:Nat):=by omega
   have c2:(a:Int)+t+p<(w.length:Nat):=by omega
   have hs:=pq w p a t;have g1:=getD_in (w:=w) (j:=a+t) (by omega);have g2:=getD_in (w:=w) (j:=a+t+p) (by omega);have hx:=E2 (w.getD (a+t) 0) (w.getD (a+t+p) 0);obtain⟨j,hj⟩:∃ j,j=a+t:=⟨_,rfl⟩;obtain⟨k,hk⟩:∃ k,k=a+t+p:=⟨_,rfl⟩;have hjI:(a:Int)+t=j:=by omega
   have hkI:(j:Int)+p=k:=by omega
   have hnI:(a:Int)+((t:Int)+1)=(j:Int)+1:=by omega
   rw[<-hk]at g2 hx hs;rw[<-hj]at g1 hx hs;rw[hjI]at c1 c2 ⊢;rw[hkI]at c2;generalize w.getD j 0=x at *;generalize w.getD k 0=y at *;cases hf:lQ w p a t
   ·have hB:=iO hf;simp(disch:=omega)[c1,c2,hkI];exact rndS (p+1) ⟨rfl,by omega,by omega,fun q h1 h2=>by
     by_cases e:q=p
     ·rw[e,hB]
     ·exact hno q h1 (by omega)⟩
   ·rw[hf,Bool.true_and]at hs;have hjl:j<w.length:=by omega
    have hkl:k<w.length:=by omega
    simp(disch:=omega)[c1,c2,hkI];refine drwS ?_;have at1:w[j]=x:=by rw[gEl hjl]at g1;exact Option.some.inj g1
    have at2:w[k]=y:=by rw[gEl hkl]at g2;exact Option.some.inj g2
    by_cases hxy:x=y
    ·have hb:(x==y)=true:=by rw[hxy];exact beq_self_eq_true _
     rw[hb]at hs;subst hxy;simp(disch:=omega)[hkI,hjl,hkl,at1,at2];exact rndA (t+1) (by simp(disch:=omega)[hs,hnI]) ⟨rfl,by omega⟩
    ·have hb:(x==y)=false:=bNe.2 hxy;rw[hb]at hs hx;have hxn:¬ x.toNat=y.toNat:=fun e=>hxy (UInt8.toNat_inj.1 e);simp(disch:=omega)[hkI,hjl,hkl,at1,at2,hx];exact rndA (t+1) (by simp(disch:=omega)[hs,hnI]) ⟨rfl,by omega⟩
  ·have htE:t=n:=by omega
   subst htE;rw[hlp];by_cases c1:(a:Int)+t<(i:Nat)
   ·have c2:¬(a:Int)+t+p<(w.length:Nat):=by omega
    cases hB:lpB w i p
    ·simp(disch:=omega)[c1,c2,undef];exact rndS (p+1) ⟨rfl,by omega,by omega,fun q h1 h2=>by
      by_cases e:q=p
      ·rw[e,hB]
      ·exact hno q h1 (by omega)⟩
    ·rw[nz hp1 hp2 hB hno]at h;simp(disch:=omega)[c1,c2,undef];exact ad h
   ·cases hB:lpB w i p
    ·simp(disch:=omega)[c1,undef];exact rndS (p+1) ⟨rfl,by omega,by omega,fun q h1 h2=>by
      by_cases e:q=p
      ·rw[e,hB]
      ·exact hno q h1 (by omega)⟩
    ·rw[nz hp1 hp2 hB hno]at h;simp(disch:=omega)[c1,undef];exact ad h
 ·have ha0:(i:Int)-p=(a:Int):=by omega
  have hipI:¬(i:Int)-p<0:=by omega
  simp(disch:=omega)[hipI];refine aP aR (rlA [6,7] 14 25) (fun t:Nat=>[(7,.int .i64 ((a:Int)+t)),(6,.bool (lQ w p a t))]) (fun t M'=>M=M'/\t<=n) (fun t=>n-t) 0 (by kernel_rfl) (by simp(disch:=omega)[ha0];rfl) ⟨rfl,lZe _⟩ ?_
  rintro t M' g2 ⟨rfl,ht⟩
  have iO:lQ w p a t=false->lpB w i p=false:=fun hf=>by rw[<-hlp];exact CD ht hf
  by_cases htn:t<n
  ·have c1:(a:Int)+t<(i:Nat):=by omega
   have c2:(a:Int)+t+p<(w.length:Nat):=by omega
   have hs:=pq w p a t;have g1:=getD_in (w:=w) (j:=a+t) (by omega);have g2:=getD_in (w:=w) (j:=a+t+p) (by omega);have hx:=E2 (w.getD (a+t) 0) (w.getD (a+t+p) 0);obtain⟨j,hj⟩:∃ j,j=a+t:=⟨_,rfl⟩;obtain⟨k,hk⟩:∃ k,k=a+t+p:=⟨_,rfl⟩;have hjI:(a:Int)+t=j:=by omega
   have hkI:(j:Int)+p=k:=by omega
   have hnI:(a:Int)+((t:Int)+1)=(j:Int)+1:=by omega
   rw[<-hk]at g2 hx hs;rw[<-hj]at g1 hx hs;rw[hjI]at c1 c2 ⊢;rw[hkI]at c2;generalize w.getD j 0=x at *;generalize w.getD k 0=y at *;cases hf:lQ w p a t
   ·have hB:=iO hf;simp(disch:=omega)[c1,c2,hkI];exact rndS (p+1) ⟨rfl,by omega,by omega,fun q h1 h2=>by
     by_cases e:q=p
     ·rw[e,hB]
     ·exact hno q h1 (by omega)⟩
   ·rw[hf,Bool.true_and]at hs;have hjl:j<w.length:=by omega
    have hkl:k<w.length:=by omega
    simp(disch:=omega)[c1,c2,hkI];refine drwS ?_;have at1:w[j]=x:=by rw[gEl hjl]at g1;exact Option.some.inj g1
    have at2:w[k]=y:=by rw[gEl hkl]at g2;exact Option.some.inj g2
    by_cases hxy:x=y
    ·have hb:(x==y)=true:=by rw[hxy];exact beq_self_eq_true _
     rw[hb]at hs;subst hxy;simp(disch:=omega)[hkI,hjl,hkl,at1,at2];exact rndA (t+1) (by simp(disch:=omega)[hs,hnI]) ⟨rfl,by omega⟩
    ·have hb:(x==y)=false:=bNe.2 hxy;rw[hb]at hs hx;have hxn:¬ x.toNat=y.toNat:=fun e=>hxy (UInt8.toNat_inj.1 e);simp(disch:=omega)[hkI,hjl,hkl,at1,at2,hx];exact rndA (t+1) (by simp(disch:=omega)[hs,hnI]) ⟨rfl,by omega⟩
  ·have htE:t=n:=by omega
   subst htE;rw[hlp];by_cases c1:(a:Int)+t<(i:Nat)
   ·have c2:¬(a:Int)+t+p<(w.length:Nat):=by omega
    cases hB:lpB w i p
    ·simp(disch:=omega)[c1,c2,undef];exact rndS (p+1) ⟨rfl,by omega,by omega,fun q h1 h2=>by
      by_cases e:q=p
      ·rw[e,hB]
      ·exact hno q h1 (by omega)⟩
    ·rw[nz hp1 hp2 hB hno]at h;simp(disch:=omega)[c1,c2,undef];exact ad h
   ·cases hB:lpB w i p
    ·simp(disch:=omega)[c1,undef];exact rndS (p+1) ⟨rfl,by omega,by omega,fun q h1 h2=>by
      by_cases e:q=p
      ·rw[e,hB]
      ·exact hno q h1 (by omega)⟩
    ·rw[nz hp1 hp2 hB hno]at h;simp(disch:=omega)[c1,undef];exact ad h
theorem pC(w:B8)(M:Mem)(R:VP)(hl:w.length<=1099511627776)(h:∀ v M',Sub M M'->Rd M' v (ints (if isWord w then ie w (w.length-1) else []))->R (aE v (aJ w)) M'):ar prog 239 [str w] M R:=by
 unfold aE aJ at h;refine fnS func239 rfl ntmps239 results239 ?_;simp(disch:=omega);intro b1 hb1;simp(disch:=omega);have hs1:Sub M (M.put b1 (.cells true [str w] 1)):=(Sub.refl _).put hb1 _;refine bt _ _ [w] true (fun _=>True) _ _ (Rd.new rfl (lRf 1)) (gg hl) (by simp) trivial bV (bI _) ?_;rw[db];cases hw:isWord w
 ·rw[hw]at h;simp(disch:=omega);exact ad (h _ _ hs1 (.inl ⟨none,0,rfl,rfl⟩))
 ·rw[hw,if_pos rfl,if_pos rfl]at h;have h60:=au hw;generalize M.put b1 (.cells true [str w] 1)=M0 at *;simp(disch:=omega);refine lupS (rlA [5,6] 13 16) (fun x:Nat×Value=>[(6,.int .i64 ((x.1:Int)+1)),(5,x.2)]) (fun x N=>x.1<=w.length-1/\Own M0 x.2 (ints (ie w x.1)) N) (fun x=>w.length-1-x.1) (0,.slice none 0 0) ⟨lZe _,Own.nil _⟩ ?_
  rintro⟨i,v⟩ N g ⟨hi,ho⟩
  simp only at hi ho;have hcl:=u0 w i;by_cases hlt:i<w.length-1
  ·have hltI:(i:Int)+1<(w.length:Nat):=by omega
   have hs:=yF w i;obtain⟨q,hq⟩:∃ q,q=i+1:=⟨_,rfl⟩;have hqI:(i:Int)+1=(q:Nat):=by omega
   rw[<-hq]at hs;rw[hqI]at hltI ⊢;simp(disch:=omega)[hltI];refine ve w q _ _ h60 (by omega) (by omega) ?_;simp(disch:=omega);refine j0 w _ _ h60 (by omega) ?_;intro p1 p2;generalize ie w i=L at *;by_cases he:lpF w q=cE w
   ·have hb:(lpF w q==cE w)=true:=by rw[he];exact beq_self_eq_true _
    rw[hb,if_pos rfl]at hs;have heI:((lpF w q:Nat):Int)=(cE w:Nat):=by omega
    simp(disch:=omega)[he];intro b' hb';simp(disch:=omega);refine aN ho ((Sub.refl _).put hb' _) (by simp(disch:=omega);rfl) rfl rfl (by omega) (by simp(disch:=omega)) (by simp(disch:=omega);omega) ?_;intro v' M'' N'' ho' hs';rw[cv,<-hs]at ho';simp(disch:=omega);exact rndM M'' (q,v') hs' ⟨by simp only;omega,ho'⟩
   ·have hb:(lpF w q==cE w)=false:=bNe.2 he;rw[hb,if_neg (by decide),append_nil]at hs;have hbI:(((lpF w q:Nat):Int)==((cE w:Nat):Int))=false:=bNe.2 (by omega);rw[<-hs]at ho;simp(disch:=omega)[hbI];exact rndS (q,v) ⟨by simp only;omega,ho⟩
  ·have hltI:¬(i:Int)+1<(w.length:Nat):=by omega
   have hiE:i=w.length-1:=by omega
   rw[hiE]at ho;simp(disch:=omega)[hltI];exact ad (h _ _ (hs1.trans ho.sub) ho.rd)
theorem pE(w:B8)(M:Mem)(R:VP)(hl:w.length<=1099511627776)(h:∀ v M',Sub M M'->Rd M' v (ints (if isWord w then ie w (w.length-1) else []))->R (aE v (aJ w)) M'):ar prog 286 [str w] M R:=by
 unfold aE aJ at h;refine fnS func286 rfl ntmps286 results286 ?_;simp(disch:=omega);refine bg w _ _ hl ?_;cases hw:isWord w
 ·rw[hw]at h;simp(disch:=omega);exact ad (h _ _ (Sub.refl M) (.inl ⟨none,0,rfl,rfl⟩))
 ·rw[hw,if_pos rfl,if_pos rfl]at h;have h60:=au hw;simp(disch:=omega);intro b0 hb0;simp(disch:=omega);refine lupS (rlA [4,5] 10 18) (fun x:Nat×Value=>[(5,.int .i64 ((x.1:Int)+1)),(4,x.2)]) (fun x N=>x.1<=w.length-1/\∃ Mb,Sub M Mb/\Own Mb x.2 (ints (ie w x.1)) N) (fun x=>w.length-1-x.1) (0,.slice (some ⟨b0,0,none⟩) 0 0) ⟨lZe _,M,Sub.refl _,Own.new hb0 rfl (lRf 0)⟩ ?_
  rintro⟨i,v⟩ N g ⟨hi,Mb,sB,ho⟩
  simp only at hi ho;have hcl:=u0 w i;by_cases hlt:i<w.length-1
  ·have hltI:(i:Int)+1<(w.length:Nat):=by omega
   have hs:=yF w i;obtain⟨q,hq⟩:∃ q,q=i+1:=⟨_,rfl⟩;have hqI:(i:Int)+1=(q:Nat):=by omega
   rw[<-hq]at hs;rw[hqI]at hltI ⊢;obtain⟨p1,p2,p3⟩:=lq (w:=w) (by omega);simp(disch:=omega)[hltI];refine By w q _ _ h60 (by omega) (by omega) ?_;simp(disch:=omega);refine dk w _ _ h60 ?_;intro vp N1 op;obtain⟨ap,cp,rfl,hap⟩:=op.rd.opened;rw[az]at hap ⊢;rcases hap with hz|⟨bp,o',rfl,hap⟩
   ·omega
   have hg:=hap 0 (by omega);rw[cD,p1,Option.map_some,Nat.add_zero]at hg;have sN:=op.sub;clear hap op;generalize ie w i=L at *;by_cases he:lpF w q=cE w
   ·have hb:(lpF w q==cE w)=true:=by rw[he];exact beq_self_eq_true _
    rw[hb,if_pos rfl]at hs;simp(disch:=omega)[hg,he];intro b' hb';simp(disch:=omega);refine aN ho (sN.trans ((Sub.refl _).put hb' _)) (by simp(disch:=omega);rfl) rfl rfl (by omega) (by simp(disch:=omega)) (by simp(disch:=omega);omega) ?_;intro v' M'' N'' ho' hs';rw[cv,<-hs]at ho';simp(disch:=omega);exact rndM M'' (q,v') hs' ⟨by simp only;omega,Mb,sB,ho'⟩
   ·have hb:(lpF w q==cE w)=false:=bNe.2 he;rw[hb,if_neg (by decide),append_nil]at hs;have hbI:(((lpF w q:Nat):Int)==((cE w:Nat):Int))=false:=bNe.2 (by omega);rw[<-hs]at ho;simp(disch:=omega)[hg,hbI];exact rndM N (q,v) sN ⟨by simp only;omega,Mb,sB,ho⟩
  ·have hltI:¬(i:Int)+1<(w.length:Nat):=by omega
   have hiE:i=w.length-1:=by omega
   rw[hiE]at ho;simp(disch:=omega)[hltI];exact ad (h _ _ (sB.trans ho.sub) ho.rd)
theorem DZ(n:Nat):replicate n (Value.int .i64 0)=ints (bB n fun _=>0):=by
 rw[<-L6];unfold ints;rw[map_replicate]
theorem en{n:Nat}{g:Nat->Int}{i:Nat}(h:i<n):(ints (bB n g))[i]?=some (.int .i64 (g i)):=by
 rw[cD,tJ h];rfl
theorem Sc{n:Nat}{g:Nat->Int}{i:Nat}(x:Int):(ints (bB n g)).set i (.int .i64 x)=ints (bB n fun k=>if k=i then x else g k):=by
 rw[ints_set,Og]
theorem cR(n:Nat)(g:Nat->Int):(ints (bB n g)).length=n:=by rw[az,jB]
def fpG(w:B8)(d k:Nat):Int:=if k<w.length-d then 0 else (fpN w k:Nat)
def fpH(w:B8)(d k:Nat):Int:=if k<w.length-d then 0 else (fpE w k:Nat)
theorem yy(w:B8):∀ k,k<w.length+1->fpG w 0 k=0:=fun k hk=>by
 unfold fpG;split
 ·rfl
 ·rw[(ym (show w.length<=k by omega)).1];rfl
theorem HU(w:B8):∀ k,k<w.length+1->fpH w 0 k=0:=fun k hk=>by
 unfold fpH;split
 ·rfl
 ·rw[(ym (show w.length<=k by omega)).2];rfl
theorem dO{n:Nat}{g h:Nat->Int}(e:∀ k,k<n->g k=h k):bB n g=bB n h:=by
 unfold bB;exact map_congr_left fun k hk=>e k (List.mem_range.1 hk)
def upd(g:Nat->Int)(i:Nat)(x:Int):Nat->Int:=fun k=>if k=i then x else g k
theorem xz(g:Nat->Int)(i:Nat)(x y:Int):upd (upd g i x) i y=upd g i y:=by
 funext k
 unfold upd;split<;>rfl
theorem Ig(g:Nat->Int)(i:Nat):upd g i (g i)=g:=by
 funext k
 unfold upd;split
 ·rename_i e;rw[e]
 ·rfl
theorem gW{n:Nat}{g:Nat->Int}{i:Nat}(x:Int):(ints (bB n g)).set i (.int .i64 x)=ints (bB n (upd g i x)):=Sc x
theorem Ao{w:B8}{d i:Nat}(h:i+d+1=w.length):upd (fpG w d) i (fpN w i:Nat)=fpG w (d+1):=by
 funext k
 unfold upd fpG;by_cases e:k=i
 ·rw[if_pos e,if_neg (by omega),e]
 ·rw[if_neg e];by_cases h1:k<w.length-(d+1)
  ·rw[if_pos (by omega),if_pos h1]
  ·rw[if_neg (by omega),if_neg h1]
theorem Hw{w:B8}{d i:Nat}(h:i+d+1=w.length):upd (fpH w d) i (fpE w i:Nat)=fpH w (d+1):=by
 funext k
 unfold upd fpH;by_cases e:k=i
 ·rw[if_pos e,if_neg (by omega),e]
 ·rw[if_neg e];by_cases h1:k<w.length-(d+1)
  ·rw[if_pos (by omega),if_pos h1]
  ·rw[if_neg (by omega),if_neg h1]
theorem jm(n i:Nat)(pal:Nat->Bool)(L:Nat->Nat):bO n i pal L 0=(n+1,0):=rfl
set_option maxHeartbeats 2000000 in
theorem vE(w:B8)(M:Mem)(R:VP)(hl:w.length<=1099511627776)(h:∀ v M',Sub M M'->Rd M' v (strs (if isWord w then iF w 0 else []))->R (aE v (aJ w)) M'):ar prog 246 [str w] M R:=by
 unfold aE aJ at h;refine fnS func246 rfl ntmps246 results246 ?_;simp(disch:=omega);intro b0 hb0;simp(disch:=omega);have hs1:Sub M (M.put b0 (.cells true [str w] 1)):=(Sub.refl _).put hb0 _;refine bt _ _ [w] true (fun _=>True) _ _ (Rd.new rfl (lRf 1)) (gg hl) (by simp) trivial bV (bI _) ?_;rw[db];cases hw:isWord w
 ·rw[hw]at h;simp(disch:=omega);exact ad (h _ _ hs1 (.inl ⟨none,0,rfl,rfl⟩))
 ·rw[hw,if_pos rfl,if_pos rfl]at h;have h60:=au hw;generalize M.put b0 (.cells true [str w] 1)=M0 at *;have er:((w.length:Int)+1).toNat=w.length+1:=by omega
  have hrep:=DZ (w.length+1);simp(disch:=omega);refine plyS (ak [0,1,3,4] (.alt 2 1 (ak [6] (.one 5 1 (ak [7] .fin))) (.one 5 1 (.one 2 1 (ak [6,7] .fin))))) ?_;simp(disch:=omega);have tl:=jB (w.length+1) (fun _=>0);refine⟨?_,?_⟩
  ·simp(disch:=omega)[er,hrep];intro b1 hb1;simp(disch:=omega)[er,hrep,tl];refine⟨(Sub.refl M0).put hb1 _,?_⟩;intro b2 hb2;have hb2':=hb2;rw[aA]at hb2';simp(disch:=omega)[tl];refine⟨(Sub.refl _).put hb2 _,?_⟩;have hne:b1≠b2:=Ne.symm hb2'.1;have sN:=((Sub.refl M0).put hb1 (.cells true (ints (bB (w.length+1) fun _=>0)) (w.length+1))).trans ((Sub.refl _).put hb2 (.cells true (ints (bB (w.length+1) fun _=>0)) (w.length+1)));have k2:=ag (M0.put b1 (.cells true (ints (bB (w.length+1) fun _=>0)) (w.length+1))) b2 (.cells true (ints (bB (w.length+1) fun _=>0)) (w.length+1));have k1:((M0.put b1 (.cells true (ints (bB (w.length+1) fun _=>0)) (w.length+1))).put b2 (.cells true (ints (bB (w.length+1) fun _=>0)) (w.length+1))) b1=some (.cells true (ints (bB (w.length+1) fun _=>0)) (w.length+1)):=by rw[ai _ _ hne,ag]
   have hb2:=hb2'.2;clear hb2' tl hrep;generalize (M0.put b1 (.cells true (ints (bB (w.length+1) fun _=>0)) (w.length+1))).put b2 (.cells true (ints (bB (w.length+1) fun _=>0)) (w.length+1))=N at *;have hm0:∀ k,k<w.length+1->(fun _=>(0:Int)) k=fpG w 0 k:=fun k hk=>(yy w k hk).symm;have hm1:∀ k,k<w.length+1->(fun _=>(0:Int)) k=fpH w 0 k:=fun k hk=>(HU w k hk).symm;rw[dO hm0]at k1;rw[dO hm1]at k2;clear hm0 hm1;refine lupS (rlA [8,9] 28 45) (fun d:Nat=>[(8,.int .i64 ((w.length:Int)-1-d))]) (fun d N'=>d<=w.length/\Sub M0 N'/\N' b1=some (.cells true (ints (bB (w.length+1) (fpG w d))) (w.length+1))/\N' b2=some (.cells true (ints (bB (w.length+1) (fpH w d))) (w.length+1))) (fun d=>w.length-d) 0 ⟨lZe _,sN,k1,k2⟩ ?_
   rintro d N1 g ⟨hd,sN1,q1,q2⟩
   by_cases hlt:d<w.length
   ·obtain⟨i,hi⟩:∃ i,i=w.length-1-d:=⟨_,rfl⟩;have hid:i+d+1=w.length:=by omega
    have hiI:(w.length:Int)-1-d=(i:Nat):=by omega
    have hi0:(0:Int)<=(i:Nat):=by omega
    have hnx:(w.length:Int)-1-((d:Int)+1)=(i:Int)-1:=by omega
    have hl1:=cR (w.length+1) (fpG w d);have hH0:fpH w d i=0:=by unfold fpH;rw[if_pos (by omega)]
    have hst:=oI (w:=w) (i:=i) (by omega);have hGn:=Ao (w:=w) hid;have hHn:=Hw (w:=w) hid;have hNE:(bO w.length i (cl w i) (fun t=>fpN w (i+1+t)) (w.length-i))=(fpN w i,fpE w i):=by rw[<-hst];rfl
    rw[hiI];simp(disch:=omega)[hi0,q1,hl1,aj,gW];have p1:=ag N1 b1 (.cells true (ints (bB (w.length+1) (upd (fpG w d) i ((w.length:Int)+1)))) (w.length+1));have p2:(N1.put b1 (.cells true (ints (bB (w.length+1) (upd (fpG w d) i ((w.length:Int)+1)))) (w.length+1))) b2=some (.cells true (ints (bB (w.length+1) (upd (fpH w d) i 0))) (w.length+1)):=by
     rw[ai _ _ (Ne.symm hne),q2,<-hH0,Ig]
    have sP:Sub M0 (N1.put b1 (.cells true (ints (bB (w.length+1) (upd (fpG w d) i ((w.length:Int)+1)))) (w.length+1))):=sN1.ovr hb1 _;generalize N1.put b1 (.cells true (ints (bB (w.length+1) (upd (fpG w d) i ((w.length:Int)+1)))) (w.length+1))=N2 at *;clear q1 q2;refine lupS (rlA [9] 39 34) (fun t:Nat=>[(9,.int .i64 ((i:Int)+1+t))]) (fun t N'=>t<=w.length-i/\Sub M0 N'/\N' b1=some (.cells true (ints (bB (w.length+1) (upd (fpG w d) i ((bO w.length i (cl w i) (fun t=>fpN w (i+1+t)) t).1:Nat)))) (w.length+1))/\N' b2=some (.cells true (ints (bB (w.length+1) (upd (fpH w d) i ((bO w.length i (cl w i) (fun t=>fpN w (i+1+t)) t).2:Nat)))) (w.length+1))) (fun t=>w.length-i-t) 0 ⟨lZe _,sP,by rw[jm];simpa using p1,by rw[jm];simpa using p2⟩ ?_
    rintro t N3 g3 ⟨ht,sN3,r1,r2⟩
    have hsle:=nK (n:=w.length) (i:=i) (pal:=cl w i) (L:=fun t=>fpN w (i+1+t)) t;by_cases htl:t<w.length-i
    ·obtain⟨e,he⟩:∃ e,e=i+1+t:=⟨_,rfl⟩;have heI:(i:Int)+1+t=(e:Nat):=by omega
     have heI2:(i:Int)+1+((t:Int)+1)=(e:Int)+1:=by omega
     have hel:(e:Int)<=(w.length:Nat):=by omega
     have hs:bO w.length i (cl w i) (fun t=>fpN w (i+1+t)) (t+1)=if cl w i t&&decide (1+fpN w (i+1+t)<=(bO w.length i (cl w i) (fun t=>fpN w (i+1+t)) t).1) then (1+fpN w (i+1+t),i+1+t) else bO w.length i (cl w i) (fun t=>fpN w (i+1+t)) t:=rfl
     have hsg:(w.take e).drop i=seg w i (t+1):=by unfold seg;rw[show i+(t+1)=e by omega]
     have hsl:=eB (w:=w) (a:=i) (m:=t+1) (by omega);have hpa:cl w i t=ch (seg w i (t+1)):=rfl;rw[hpa]at hs;rw[<-he]at hs;have hfn:=AA w e;have hil:(i:Int)<=(e:Nat):=by omega
     generalize (bO w.length i (cl w i) (fun t=>fpN w (i+1+t)) t)=s at *;generalize seg w i (t+1)=u at *;have l1:=cR (w.length+1) (upd (fpG w d) i (s.1:Nat));have l2:=cR (w.length+1) (upd (fpH w d) i (s.2:Nat));have ge:N3.get? b1 e=some (.int .i64 (fpN w e:Nat)):=by
      rw[al r1,en (by omega)];unfold upd fpG;rw[if_neg (by omega),if_neg (by omega)]
     have gi:N3.get? b1 i=some (.int .i64 (s.1:Nat)):=by
      rw[al r1,en (by omega)];unfold upd;rw[if_pos rfl]
     rw[heI];simp(disch:=omega)[hel];refine drwS ?_;simp(disch:=omega)[hil,hsg];refine aU (a:=[]) (c:=[]) (jh u _ _ (by omega) ⟨rfl,rfl⟩) ?_;cases hp:ch u
     ·rw[hp,Bool.false_and,if_neg (by decide)]at hs;simp(disch:=omega)[undef];exact rndA (t+1) (by simp(disch:=omega)[heI2]) ⟨by omega,sN3,by rw[hs];exact r1,by rw[hs];exact r2⟩
     ·rw[hp,Bool.true_and]at hs;by_cases hc:1+fpN w e<=s.1
      ·rw[decide_eq_true hc,if_pos rfl]at hs;have hcI:(1:Int)+(fpN w e:Nat)<=(s.1:Nat):=by omega
       generalize fpN w e=f at *;have hff:f<=1000:=by omega
       have u1:N3.put b1 (.cells true (ints (bB (w.length+1) (upd (fpG w d) i ((1:Int)+(f:Nat))))) (w.length+1)) b2=some (.cells true (ints (bB (w.length+1) (upd (fpH w d) i (s.2:Nat)))) (w.length+1)):=by
        rw[ai _ _ (Ne.symm hne)];exact r2
       have hil2:(i:Int)<(w.length:Int)+1:=by omega
       have hiN:i<w.length+1:=by omega
       have heN:e<w.length+1:=by omega
       simp(disch:=omega)[ge,gi,hcI,r1,r2,l1,l2,aj,gW,xz,hiN];refine rndA (t+1) (by simp(disch:=omega)[heI2]) ⟨by omega,(sN3.ovr hb1 _).ovr hb2 _,?_,?_⟩
       ·rw[hs,ai _ _ hne,ag]
        push_cast
        rfl
       ·rw[hs,ag]
      ·rw[decide_eq_false hc,if_neg (by decide)]at hs;have hcI:¬(1:Int)+(fpN w e:Nat)<=(s.1:Nat):=by omega
       generalize fpN w e=f at *;simp(disch:=omega)[ge,gi,hcI];exact rndA (t+1) (by simp(disch:=omega)[heI2]) ⟨by omega,sN3,by rw[hs];exact r1,by rw[hs];exact r2⟩
    ·have htE:t=w.length-i:=by omega
     subst htE;have hel:¬(i:Int)+1+((w.length-i:Nat):Int)<=(w.length:Nat):=by omega
     rw[hNE]at r1 r2;simp only at r1 r2;rw[hGn]at r1;rw[hHn]at r2;simp(disch:=omega)[hel];exact rndA (d+1) (by simp(disch:=omega)[hnx]) ⟨by omega,sN3,r1,r2⟩
   ·have hdE:d=w.length:=by omega
    subst hdE;have hneg:¬(0:Int)<=(w.length:Int)-1-(w.length:Nat):=by omega
    have hE:∀ i,i<w.length->N1.get? b2 i=some (.int .i64 (fpE w i:Nat)):=fun i hi=>by
     rw[al q2,en (by omega)];unfold fpH;rw[if_neg (by omega)]
    clear q1 q2 k1 k2;simp(disch:=omega);refine lupS (rlA [10,11] 73 17) (fun x:Nat×Value=>[(11,.int .i64 (x.1:Nat)),(10,x.2)]) (fun x N'=>x.1<=w.length/\∃ L,L.length<=x.1/\iF w 0=L++iF w x.1/\Own N1 x.2 (strs L) N') (fun x=>w.length-x.1) (0,.slice none 0 0) ⟨lZe _,[],lZe _,rfl,Own.nil _⟩ ?_
    rintro⟨i,v⟩ N2 g2 ⟨hi,L,hLl,hL,ho⟩
    simp only at hi hLl hL ho;by_cases hlt2:i<w.length
    ·have hltI:(i:Int)<(w.length:Nat):=by omega
     have hgE:=hE i hlt2;have hg:=aX hgE ho.sub;obtain⟨e1,e2⟩:=zL hlt2;rw[vC hlt2]at hL;have hsg:(w.take (fpE w i)).drop i=seg w i (fpE w i-i):=by unfold seg;rw[show i+(fpE w i-i)=fpE w i by omega]
     have hsl:=eB (w:=w) (a:=i) (m:=fpE w i-i) (by omega);have hL2:iF w 0=(L++[seg w i (fpE w i-i)])++iF w (fpE w i):=by rw[hL];simp
     have hil:(i:Int)<=(fpE w i:Nat):=by omega
     have hiN:i<w.length+1:=by omega
     generalize seg w i (fpE w i-i)=u at *;generalize fpE w i=e at *;simp(disch:=omega)[hltI,hg,hil,hsg];intro b' hb';simp(disch:=omega);refine aN ho ((Sub.refl _).put hb' _) (by simp(disch:=omega);rfl) rfl rfl (by omega) (by simp(disch:=omega)) (by simp(disch:=omega);omega) ?_;intro v' M'' N'' ho' hs';rw[cK]at ho';have hg2:=aX (aX hgE ho'.sub) hs';simp(disch:=omega)[hg2];exact rndM M'' (e,v') hs' ⟨by simp only;omega,_,by simp only[lAp,length_singleton];omega,hL2,ho'⟩
    ·have hiE:i=w.length:=by omega
     have hltI:¬(i:Int)<(w.length:Nat):=by omega
     rw[yD (w:=w) (i:=i) (by omega),append_nil]at hL;rw[<-hL]at ho;simp(disch:=omega)[hltI];exact ad (h _ _ (hs1.trans (sN1.trans ho.sub)) ho.rd)
  ·simp(disch:=omega)[er,hrep];intro b2 hb2;simp(disch:=omega)[er,hrep,tl];refine⟨(Sub.refl M0).put hb2 _,?_⟩;intro b1 hb1;have hb1':=hb1;rw[aA]at hb1';simp(disch:=omega)[tl];refine⟨(Sub.refl _).put hb1 _,?_⟩;have hne:b1≠b2:=hb1'.1;have sN:=((Sub.refl M0).put hb2 (.cells true (ints (bB (w.length+1) fun _=>0)) (w.length+1))).trans ((Sub.refl _).put hb1 (.cells true (ints (bB (w.length+1) fun _=>0)) (w.length+1)));have k1:=ag (M0.put b2 (.cells true (ints (bB (w.length+1) fun _=>0)) (w.length+1))) b1 (.cells true (ints (bB (w.length+1) fun _=>0)) (w.length+1));have k2:((M0.put b2 (.cells true (ints (bB (w.length+1) fun _=>0)) (w.length+1))).put b1 (.cells true (ints (bB (w.length+1) fun _=>0)) (w.length+1))) b2=some (.cells true (ints (bB (w.length+1) fun _=>0)) (w.length+1)):=by rw[ai _ _ (Ne.symm hne),ag]
   have hb1:=hb1'.2;clear hb1' tl hrep;generalize (M0.put b2 (.cells true (ints (bB (w.length+1) fun _=>0)) (w.length+1))).put b1 (.cells true (ints (bB (w.length+1) fun _=>0)) (w.length+1))=N at *;have hm0:∀ k,k<w.length+1->(fun _=>(0:Int)) k=fpG w 0 k:=fun k hk=>(yy w k hk).symm;have hm1:∀ k,k<w.length+1->(fun _=>(0:Int)) k=fpH w 0 k:=fun k hk=>(HU w k hk).symm;rw[dO hm0]at k1;rw[dO hm1]at k2;clear hm0 hm1;refine lupS (rlA [8,9] 28 45) (fun d:Nat=>[(8,.int .i64 ((w.length:Int)-1-d))]) (fun d N'=>d<=w.length/\Sub M0 N'/\N' b1=some (.cells true (ints (bB (w.length+1) (fpG w d))) (w.length+1))/\N' b2=some (.cells true (ints (bB (w.length+1) (fpH w d))) (w.length+1))) (fun d=>w.length-d) 0 ⟨lZe _,sN,k1,k2⟩ ?_
   rintro d N1 g ⟨hd,sN1,q1,q2⟩
   by_cases hlt:d<w.length
   ·obtain⟨i,hi⟩:∃ i,i=w.length-1-d:=⟨_,rfl⟩;have hid:i+d+1=w.length:=by omega
    have hiI:(w.length:Int)-1-d=(i:Nat):=by omega
    have hi0:(0:Int)<=(i:Nat):=by omega
    have hnx:(w.length:Int)-1-((d:Int)+1)=(i:Int)-1:=by omega
    have hl1:=cR (w.length+1) (fpG w d);have hH0:fpH w d i=0:=by unfold fpH;rw[if_pos (by omega)]
    have hst:=oI (w:=w) (i:=i) (by omega);have hGn:=Ao (w:=w) hid;have hHn:=Hw (w:=w) hid;have hNE:(bO w.length i (cl w i) (fun t=>fpN w (i+1+t)) (w.length-i))=(fpN w i,fpE w i):=by rw[<-hst];rfl
    rw[hiI];simp(disch:=omega)[hi0,q1,hl1,aj,gW];have p1:=ag N1 b1 (.cells true (ints (bB (w.length+1) (upd (fpG w d) i ((w.length:Int)+1)))) (w.length+1));have p2:(N1.put b1 (.cells true (ints (bB (w.length+1) (upd (fpG w d) i ((w.length:Int)+1)))) (w.length+1))) b2=some (.cells true (ints (bB (w.length+1) (upd (fpH w d) i 0))) (w.length+1)):=by
     rw[ai _ _ (Ne.symm hne),q2,<-hH0,Ig]
    have sP:Sub M0 (N1.put b1 (.cells true (ints (bB (w.length+1) (upd (fpG w d) i ((w.length:Int)+1)))) (w.length+1))):=sN1.ovr hb1 _;generalize N1.put b1 (.cells true (ints (bB (w.length+1) (upd (fpG w d) i ((w.length:Int)+1)))) (w.length+1))=N2 at *;clear q1 q2;refine lupS (rlA [9] 39 34) (fun t:Nat=>[(9,.int .i64 ((i:Int)+1+t))]) (fun t N'=>t<=w.length-i/\Sub M0 N'/\N' b1=some (.cells true (ints (bB (w.length+1) (upd (fpG w d) i ((bO w.length i (cl w i) (fun t=>fpN w (i+1+t)) t).1:Nat)))) (w.length+1))/\N' b2=some (.cells true (ints (bB (w.length+1) (upd (fpH w d) i ((bO w.length i (cl w i) (fun t=>fpN w (i+1+t)) t).2:Nat)))) (w.length+1))) (fun t=>w.length-i-t) 0 ⟨lZe _,sP,by rw[jm];simpa using p1,by rw[jm];simpa using p2⟩ ?_
    rintro t N3 g3 ⟨ht,sN3,r1,r2⟩
    have hsle:=nK (n:=w.length) (i:=i) (pal:=cl w i) (L:=fun t=>fpN w (i+1+t)) t;by_cases htl:t<w.length-i
    ·obtain⟨e,he⟩:∃ e,e=i+1+t:=⟨_,rfl⟩;have heI:(i:Int)+1+t=(e:Nat):=by omega
     have heI2:(i:Int)+1+((t:Int)+1)=(e:Int)+1:=by omega
     have hel:(e:Int)<=(w.length:Nat):=by omega
     have hs:bO w.length i (cl w i) (fun t=>fpN w (i+1+t)) (t+1)=if cl w i t&&decide (1+fpN w (i+1+t)<=(bO w.length i (cl w i) (fun t=>fpN w (i+1+t)) t).1) then (1+fpN w (i+1+t),i+1+t) else bO w.length i (cl w i) (fun t=>fpN w (i+1+t)) t:=rfl
     have hsg:(w.take e).drop i=seg w i (t+1):=by unfold seg;rw[show i+(t+1)=e by omega]
     have hsl:=eB (w:=w) (a:=i) (m:=t+1) (by omega);have hpa:cl w i t=ch (seg w i (t+1)):=rfl;rw[hpa]at hs;rw[<-he]at hs;have hfn:=AA w e;have hil:(i:Int)<=(e:Nat):=by omega
     generalize (bO w.length i (cl w i) (fun t=>fpN w (i+1+t)) t)=s at *;generalize seg w i (t+1)=u at *;have l1:=cR (w.length+1) (upd (fpG w d) i (s.1:Nat));have l2:=cR (w.length+1) (upd (fpH w d) i (s.2:Nat));have ge:N3.get? b1 e=some (.int .i64 (fpN w e:Nat)):=by
      rw[al r1,en (by omega)];unfold upd fpG;rw[if_neg (by omega),if_neg (by omega)]
     have gi:N3.get? b1 i=some (.int .i64 (s.1:Nat)):=by
      rw[al r1,en (by omega)];unfold upd;rw[if_pos rfl]
     rw[heI];simp(disch:=omega)[hel];refine drwS ?_;simp(disch:=omega)[hil,hsg];refine aU (a:=[]) (c:=[]) (jh u _ _ (by omega) ⟨rfl,rfl⟩) ?_;cases hp:ch u
     ·rw[hp,Bool.false_and,if_neg (by decide)]at hs;simp(disch:=omega)[undef];exact rndA (t+1) (by simp(disch:=omega)[heI2]) ⟨by omega,sN3,by rw[hs];exact r1,by rw[hs];exact r2⟩
     ·rw[hp,Bool.true_and]at hs;by_cases hc:1+fpN w e<=s.1
      ·rw[decide_eq_true hc,if_pos rfl]at hs;have hcI:(1:Int)+(fpN w e:Nat)<=(s.1:Nat):=by omega
       generalize fpN w e=f at *;have hff:f<=1000:=by omega
       have u1:N3.put b1 (.cells true (ints (bB (w.length+1) (upd (fpG w d) i ((1:Int)+(f:Nat))))) (w.length+1)) b2=some (.cells true (ints (bB (w.length+1) (upd (fpH w d) i (s.2:Nat)))) (w.length+1)):=by
        rw[ai _ _ (Ne.symm hne)];exact r2
       have hil2:(i:Int)<(w.length:Int)+1:=by omega
       have hiN:i<w.length+1:=by omega
       have heN:e<w.length+1:=by omega
       simp(disch:=omega)[ge,gi,hcI,r1,r2,l1,l2,aj,gW,xz,hiN];refine rndA (t+1) (by simp(disch:=omega)[heI2]) ⟨by omega,(sN3.ovr hb1 _).ovr hb2 _,?_,?_⟩
       ·rw[hs,ai _ _ hne,ag]
        push_cast
        rfl
       ·rw[hs,ag]
      ·rw[decide_eq_false hc,if_neg (by decide)]at hs;have hcI:¬(1:Int)+(fpN w e:Nat)<=(s.1:Nat):=by omega
       generalize fpN w e=f at *;simp(disch:=omega)[ge,gi,hcI];exact rndA (t+1) (by simp(disch:=omega)[heI2]) ⟨by omega,sN3,by rw[hs];exact r1,by rw[hs];exact r2⟩
    ·have htE:t=w.length-i:=by omega
     subst htE;have hel:¬(i:Int)+1+((w.length-i:Nat):Int)<=(w.length:Nat):=by omega
     rw[hNE]at r1 r2;simp only at r1 r2;rw[hGn]at r1;rw[hHn]at r2;simp(disch:=omega)[hel];exact rndA (d+1) (by simp(disch:=omega)[hnx]) ⟨by omega,sN3,r1,r2⟩
   ·have hdE:d=w.length:=by omega
    subst hdE;have hneg:¬(0:Int)<=(w.length:Int)-1-(w.length:Nat):=by omega
    have hE:∀ i,i<w.length->N1.get? b2 i=some (.int .i64 (fpE w i:Nat)):=fun i hi=>by
     rw[al q2,en (by omega)];unfold fpH;rw[if_neg (by omega)]
    clear q1 q2 k1 k2;simp(disch:=omega);refine lupS (rlA [10,11] 73 17) (fun x:Nat×Value=>[(11,.int .i64 (x.1:Nat)),(10,x.2)]) (fun x N'=>x.1<=w.length/\∃ L,L.length<=x.1/\iF w 0=L++iF w x.1/\Own N1 x.2 (strs L) N') (fun x=>w.length-x.1) (0,.slice none 0 0) ⟨lZe _,[],lZe _,rfl,Own.nil _⟩ ?_
    rintro⟨i,v⟩ N2 g2 ⟨hi,L,hLl,hL,ho⟩
    simp only at hi hLl hL ho;by_cases hlt2:i<w.length
    ·have hltI:(i:Int)<(w.length:Nat):=by omega
     have hgE:=hE i hlt2;have hg:=aX hgE ho.sub;obtain⟨e1,e2⟩:=zL hlt2;rw[vC hlt2]at hL;have hsg:(w.take (fpE w i)).drop i=seg w i (fpE w i-i):=by unfold seg;rw[show i+(fpE w i-i)=fpE w i by omega]
     have hsl:=eB (w:=w) (a:=i) (m:=fpE w i-i) (by omega);have hL2:iF w 0=(L++[seg w i (fpE w i-i)])++iF w (fpE w i):=by rw[hL];simp
     have hil:(i:Int)<=(fpE w i:Nat):=by omega
     have hiN:i<w.length+1:=by omega
     generalize seg w i (fpE w i-i)=u at *;generalize fpE w i=e at *;simp(disch:=omega)[hltI,hg,hil,hsg];intro b' hb';simp(disch:=omega);refine aN ho ((Sub.refl _).put hb' _) (by simp(disch:=omega);rfl) rfl rfl (by omega) (by simp(disch:=omega)) (by simp(disch:=omega);omega) ?_;intro v' M'' N'' ho' hs';rw[cK]at ho';have hg2:=aX (aX hgE ho'.sub) hs';simp(disch:=omega)[hg2];exact rndM M'' (e,v') hs' ⟨by simp only;omega,_,by simp only[lAp,length_singleton];omega,hL2,ho'⟩
    ·have hiE:i=w.length:=by omega
     have hltI:¬(i:Int)<(w.length:Nat):=by omega
     rw[yD (w:=w) (i:=i) (by omega),append_nil]at hL;rw[<-hL]at ho;simp(disch:=omega)[hltI];exact ad (h _ _ (hs1.trans (sN1.trans ho.sub)) ho.rd)
theorem NX{n i:Nat}{pal:Nat->Bool}{L:Nat->Nat}{t:Nat}(h:pal t=true):(bO n i pal L (t+1)).1=if 1+L t<(bO n i pal L t).1 then 1+L t else (bO n i pal L t).1:=by
 have hs:bO n i pal L (t+1)=if pal t&&decide (1+L t<=(bO n i pal L t).1) then (1+L t,i+1+t) else bO n i pal L t:=rfl
 rw[hs,h,Bool.true_and];by_cases hc:1+L t<=(bO n i pal L t).1
 ·rw[decide_eq_true hc,if_pos rfl];split
  ·rfl
  ·simp only;omega
 ·rw[decide_eq_false hc,if_neg (by decide),if_neg (by omega)]
theorem IW{n i:Nat}{pal:Nat->Bool}{L:Nat->Nat}{t:Nat}(h:pal t=false):(bO n i pal L (t+1)).1=(bO n i pal L t).1:=by
 have hs:bO n i pal L (t+1)=if pal t&&decide (1+L t<=(bO n i pal L t).1) then (1+L t,i+1+t) else bO n i pal L t:=rfl
 rw[hs,h,Bool.false_and,if_neg (by decide)]
set_option maxHeartbeats 2000000 in
theorem uQ(w:B8)(M:Mem)(R:VP)(hl:w.length<=1099511627776)(h:∀ v M',Sub M M'->Rd M' v (strs (if isWord w then iF w 0 else []))->R (aE v (aJ w)) M'):ar prog 282 [str w] M R:=by
 unfold aE aJ at h;refine fnS func282 rfl ntmps282 results282 ?_;simp(disch:=omega);refine bg w _ _ hl ?_;cases hw:isWord w
 ·rw[hw]at h;simp(disch:=omega);exact ad (h _ _ (Sub.refl M) (.inl ⟨none,0,rfl,rfl⟩))
 ·rw[hw,if_pos rfl,if_pos rfl]at h;have h60:=au hw;have er:((w.length:Int)+1).toNat=w.length+1:=by omega
  have hrep:=DZ (w.length+1);have tl:=jB (w.length+1) (fun _=>0);simp(disch:=omega)[er,hrep];intro b1 hb1;simp(disch:=omega)[tl];have sN:=(Sub.refl M).put hb1 (.cells true (ints (bB (w.length+1) fun _=>0)) (w.length+1));have k1:=ag M b1 (.cells true (ints (bB (w.length+1) fun _=>0)) (w.length+1));clear hrep tl;generalize M.put b1 (.cells true (ints (bB (w.length+1) fun _=>0)) (w.length+1))=N at *;have hm0:∀ k,k<w.length+1->(fun _=>(0:Int)) k=fpG w 0 k:=fun k hk=>(yy w k hk).symm;rw[dO hm0]at k1;clear hm0;refine lupS (rlA [6,7] 21 34) (fun d:Nat=>[(6,.int .i64 ((w.length:Int)-1-d))]) (fun d N'=>d<=w.length/\Sub M N'/\N' b1=some (.cells true (ints (bB (w.length+1) (fpG w d))) (w.length+1))) (fun d=>w.length-d) 0 ⟨lZe _,sN,k1⟩ ?_
  rintro d N1 g ⟨hd,sN1,q1⟩
  by_cases hlt:d<w.length
  ·obtain⟨i,hi⟩:∃ i,i=w.length-1-d:=⟨_,rfl⟩;have hid:i+d+1=w.length:=by omega
   have hiI:(w.length:Int)-1-d=(i:Nat):=by omega
   have hi0:(0:Int)<=(i:Nat):=by omega
   have hnx:(w.length:Int)-1-((d:Int)+1)=(i:Int)-1:=by omega
   have hl1:=cR (w.length+1) (fpG w d);have hst:=oI (w:=w) (i:=i) (by omega);have hGn:=Ao (w:=w) hid;have hNE:(bO w.length i (cl w i) (fun t=>fpN w (i+1+t)) (w.length-i)).1=fpN w i:=by rw[<-hst];rfl
   rw[hiI];simp(disch:=omega)[hi0,q1,hl1,aj,gW];have p1:=ag N1 b1 (.cells true (ints (bB (w.length+1) (upd (fpG w d) i ((w.length:Int)+1)))) (w.length+1));have sP:Sub M (N1.put b1 (.cells true (ints (bB (w.length+1) (upd (fpG w d) i ((w.length:Int)+1)))) (w.length+1))):=sN1.ovr hb1 _;generalize N1.put b1 (.cells true (ints (bB (w.length+1) (upd (fpG w d) i ((w.length:Int)+1)))) (w.length+1))=N2 at *;clear q1;refine lupS (rlA [7] 32 23) (fun t:Nat=>[(7,.int .i64 ((i:Int)+1+t))]) (fun t N'=>t<=w.length-i/\Sub M N'/\N' b1=some (.cells true (ints (bB (w.length+1) (upd (fpG w d) i ((bO w.length i (cl w i) (fun t=>fpN w (i+1+t)) t).1:Nat)))) (w.length+1))) (fun t=>w.length-i-t) 0 ⟨lZe _,sP,by rw[jm];simpa using p1⟩ ?_
   rintro t N3 g3 ⟨ht,sN3,r1⟩
   have hsle:=nK (n:=w.length) (i:=i) (pal:=cl w i) (L:=fun t=>fpN w (i+1+t)) t;by_cases htl:t<w.length-i
   ·obtain⟨e,he⟩:∃ e,e=i+1+t:=⟨_,rfl⟩;have heI:(i:Int)+1+t=(e:Nat):=by omega
    have heI2:(i:Int)+1+((t:Int)+1)=(e:Int)+1:=by omega
    have hel:(e:Int)<=(w.length:Nat):=by omega
    have hs1:=fun hp=>NX (n:=w.length) (i:=i) (pal:=cl w i) (L:=fun t=>fpN w (i+1+t)) (t:=t) hp;have hs0:=fun hp=>IW (n:=w.length) (i:=i) (pal:=cl w i) (L:=fun t=>fpN w (i+1+t)) (t:=t) hp;have hsg:(w.take e).drop i=seg w i (t+1):=by unfold seg;rw[show i+(t+1)=e by omega]
    have hsl:=eB (w:=w) (a:=i) (m:=t+1) (by omega);have hpa:cl w i t=ch (seg w i (t+1)):=rfl;rw[hpa]at hs1 hs0;rw[<-he]at hs1;have hfn:=AA w e;have hil:(i:Int)<=(e:Nat):=by omega
    generalize (bO w.length i (cl w i) (fun t=>fpN w (i+1+t)) t).1=s at *;generalize seg w i (t+1)=u at *;have l1:=cR (w.length+1) (upd (fpG w d) i (s:Nat));have ge:N3.get? b1 e=some (.int .i64 (fpN w e:Nat)):=by
     rw[al r1,en (by omega)];unfold upd fpG;rw[if_neg (by omega),if_neg (by omega)]
    have gi:N3.get? b1 i=some (.int .i64 (s:Nat)):=by
     rw[al r1,en (by omega)];unfold upd;rw[if_pos rfl]
    rw[heI];simp(disch:=omega)[hel,hil,hsg];refine gh u _ _ (by omega) ?_;cases hp:ch u
    ·have hs:=hs0 hp;simp(disch:=omega);exact rndA (t+1) (by simp(disch:=omega)[heI2]) ⟨by omega,sN3,by rw[hs];exact r1⟩
    ·have hs:=hs1 hp;have hiN:i<w.length+1:=by omega
     have heN:e<w.length+1:=by omega
     simp(disch:=omega);refine plyS (ak [0,1,2,3,4,5,6,7,8,9,10,11,12] (.one 13 2 .fin)) ?_;by_cases hc:1+fpN w e<s
     ·rw[if_pos hc]at hs;have hcI:(1:Int)+(fpN w e:Nat)<(s:Nat):=by omega
      generalize fpN w e=f at *;have hff:f<=1000:=by omega
      simp(disch:=omega)[ge,gi,hcI,r1,l1,aj,gW,xz,hiN];refine rndA (t+1) (by simp(disch:=omega)[heI2]) ⟨by omega,sN3.ovr hb1 _,?_⟩;rw[hs,ag]
      push_cast
      rfl
     ·rw[if_neg hc]at hs;have hcI:¬(1:Int)+(fpN w e:Nat)<(s:Nat):=by omega
      generalize fpN w e=f at *;have hff:f<=1000:=by omega
      simp(disch:=omega)[ge,gi,hcI,r1,l1,aj,gW,xz,hiN];refine rndA (t+1) (by simp(disch:=omega)[heI2]) ⟨by omega,sN3.ovr hb1 _,?_⟩;rw[hs,ag]
   ·have htE:t=w.length-i:=by omega
    subst htE;have hel:¬(i:Int)+1+((w.length-i:Nat):Int)<=(w.length:Nat):=by omega
    rw[hNE]at r1;rw[hGn]at r1;simp(disch:=omega)[hel];exact rndA (d+1) (by simp(disch:=omega)[hnx]) ⟨by omega,sN3,r1⟩
  ·have hdE:d=w.length:=by omega
   subst hdE;have hneg:¬(0:Int)<=(w.length:Int)-1-(w.length:Nat):=by omega
   have hG:∀ i,i<w.length+1->N1.get? b1 i=some (.int .i64 (fpN w i:Nat)):=fun i hi=>by
    rw[al q1,en (by omega)];unfold fpG;rw[if_neg (by omega)]
   clear q1 k1;simp(disch:=omega);intro b0 hb0;simp(disch:=omega);refine lupS (rlA [8,9,10] 56 34) (fun x:Nat×Value=>[(9,.int .i64 (x.1:Nat)),(8,x.2)]) (fun x N'=>x.1<=w.length/\∃ L,L.length<=x.1/\iF w 0=L++iF w x.1/\Own N1 x.2 (strs L) N') (fun x=>w.length-x.1) (0,.slice (some ⟨b0,0,none⟩) 0 0) ⟨lZe _,[],lZe _,rfl,Own.new hb0 rfl (lRf 0)⟩ ?_
   rintro⟨i,v⟩ N2 g2 ⟨hi,L,hLl,hL,ho⟩
   simp only at hi hLl hL ho;by_cases hlt2:i<w.length
   ·have hltI:(i:Int)<(w.length:Nat):=by omega
    obtain⟨e1,e2⟩:=zL hlt2;obtain⟨t,f1,f2,f3,f4,f5⟩:=Tc hlt2;rw[vC hlt2]at hL;have hgi:=aX (hG i (by omega)) ho.sub;simp(disch:=omega)[hltI];refine lupS (rlA [8,9,10] 60 30) (fun k:Nat=>[(10,.int .i64 k),(9,.int .i64 i),(8,v)]) (fun k N'=>N2=N'/\fpE w i<=k/\k<=w.length) (fun k=>k) w.length ⟨rfl,e2,lRf _⟩ ?_
    rintro k N3 g3 ⟨rfl,hk1,hk2⟩
    have hkI:(i:Int)<(k:Nat):=by omega
    have hgk:=aX (hG k (by omega)) ho.sub;have hil:(i:Int)<=(k:Nat):=by omega
    obtain⟨s,hsE⟩:∃ s,k=i+1+s:=⟨k-i-1,by omega⟩;have hsg:(w.take k).drop i=seg w i (s+1):=by unfold seg;rw[show i+(s+1)=k by omega]
    have hsl:=eB (w:=w) (a:=i) (m:=s+1) (by omega);have hpa:cl w i s=ch (seg w i (s+1)):=rfl;have hnn:=AA w k;have hni:=AA w i;have hkN:k<w.length+1:=by omega
    have hiN:i<w.length+1:=by omega
    by_cases hkE:k=fpE w i
    ·have hst:s=t:=by omega
     have hpt:ch (seg w i (s+1))=true:=by rw[<-hpa,hst];exact f2
     have hfe:fpN w i=1+fpN w k:=by rw[f3,hsE,hst]
     have hfeI:((fpN w i:Nat):Int)=1+(fpN w k:Nat):=by omega
     have hL2:iF w 0=(L++[seg w i (s+1)])++iF w k:=by
      rw[hL,<-hkE,show k-i=s+1 by omega];simp
     generalize seg w i (s+1)=u at *;generalize fpN w i=fi at *;generalize fpN w k=fk at *;simp(disch:=omega)[hkI];refine drwS ?_;simp(disch:=omega)[hil,hsg];refine aU (a:=[]) (c:=[]) (gh u _ _ (by omega) ⟨rfl,rfl⟩) ?_;rw[hpt];simp(disch:=omega)[hgi,hgk,hfe,hil,hsg];intro b' hb';simp(disch:=omega);refine aN ho ((Sub.refl _).put hb' _) (by simp(disch:=omega);rfl) rfl rfl (by omega) (by simp(disch:=omega)) (by simp(disch:=omega);omega) ?_;intro v' M'' N'' ho' hs';rw[cK]at ho';simp(disch:=omega);exact rndM M'' (k,v') hs' ⟨by simp only;omega,_,by simp only[lAp,length_singleton];omega,hL2,ho'⟩
    ·have hnot:=f5 s (by omega) (by omega);rw[hpa,<-hsE]at hnot;have hkm:(k:Int)-1=((k-1:Nat):Int):=by omega
     generalize seg w i (s+1)=u at *;generalize fpN w i=fi at *;generalize fpN w k=fk at *;simp(disch:=omega)[hkI];refine drwS ?_;simp(disch:=omega)[hil,hsg];refine aU (a:=[]) (c:=[]) (gh u _ _ (by omega) ⟨rfl,rfl⟩) ?_;cases hpt:ch u
     ·simp(disch:=omega)[undef];exact rndA (k-1) (by simp(disch:=omega)[hkm]) ⟨rfl,by omega,by omega⟩
     ·have hne:¬ fi=1+fk:=fun q=>hnot ⟨hpt,q⟩;have hneI:((fi:Int)==1+(fk:Int))=false:=bNe.2 (by omega);have hneI2:¬(fi:Int)=1+(fk:Int):=by omega
      simp(disch:=omega)[hgi,hgk,hneI];exact rndA (k-1) (by simp(disch:=omega)[hkm]) ⟨rfl,by omega,by omega⟩
   ·have hiE:i=w.length:=by omega
    have hltI:¬(i:Int)<(w.length:Nat):=by omega
    rw[yD (w:=w) (i:=i) (by omega),append_nil]at hL;rw[<-hL]at ho;simp(disch:=omega)[hltI];exact ad (h _ _ (sN1.trans ho.sub) ho.rd)
end Go.Proofs.YtapimhjbilkfpaaGreatDoor
