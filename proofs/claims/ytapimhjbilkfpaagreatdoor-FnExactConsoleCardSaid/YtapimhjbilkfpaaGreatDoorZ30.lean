/- Lemmas for FnExactConsole, part 31 of 46. -/
import Derived.Test.YtapimhjbilkfpaaGreatDoorZ24
import Derived.Test.YtapimhjbilkfpaaGreatDoorZ04
set_option linter.unusedVariables false
set_option linter.unusedSimpArgs false
namespace Go.Proofs.YtapimhjbilkfpaaGreatDoor
open Go Go.Proofs.Tryz List
theorem A3{w:List UInt8}{p a m n:Nat}(h:m<=n)(hf:lr w p a m=false):lr w p a n=false:=by
 unfold lr at *;rw[all_eq_false]at *;obtain⟨t,ht,hc⟩:=hf;exact⟨t,List.mem_range.2 (by have:=List.mem_range.1 ht;omega),hc⟩
theorem getD_in{w:List UInt8}{j:Nat}(h:j<w.length):w[j]?=some (w.getD j 0):=by
 rw[getD_eq_getElem?_getD,getElem?_eq_getElem h];rfl
theorem Dm(x y:UInt8):((x.toNat:Int)==(y.toNat:Int))=(x==y):=by
 rw[Bool.eq_iff_iff,beq_iff_eq,beq_iff_eq];constructor
 ·intro h;exact UInt8.toNat_inj.1 (by omega)
 ·rintro rfl;rfl
theorem tF(w:List UInt8)(i:Nat)(M:Mem)(R:VP)(hl:w.length<=60)(hi1:1<=w.length)(hi:i<=w.length)(h:R (.int .i64 (lpF w i:Nat)) M):ar prog 332 [str w,.int .i64 i] M R:=by
 refine fnS func332 rfl ntmps332 results332 ?_;simp(disch:=omega);refine lupS [4,5,6,7,8,9,10,11,12,13,14,15,16,17,18,19,20,21,22,23,24,25,26,27,28,29,30,31,32,33,34,35,36,37,38,39,40] (fun p:Nat=>[(5,.int .i64 p)]) (fun p M'=>M=M'/\1<=p/\p<=w.length+1/\∀ q,1<=q->q<p->lpB w i q=false) (fun p=>w.length+1-p) 1 ⟨rfl,Nat.le_refl _,by omega,fun q h1 h2=>by omega⟩ ?_
 rintro p M' g ⟨rfl,hp1,hp2,hno⟩
 have hpl:p<=w.length:=by
  rcases Nat.lt_or_ge w.length p with hh|hh
  ·have:=hno w.length hi1 hh;rw[J3 (Nat.le_refl _)]at this;cases this
  ·exact hh
 obtain⟨a,ha⟩:∃ a,a=i-p:=⟨_,rfl⟩;obtain⟨n,hn⟩:∃ n,n=min i (w.length-p)-a:=⟨_,rfl⟩;have hlp:lr w p a n=lpB w i p:=by unfold lpB;rw[ha,hn,ha]
 by_cases hip:i<p
 ·have ha0:a=0:=by omega
  have hipI:(i:Int)-p<0:=by omega
  simp(disch:=omega)[hipI];refine aQ aR [6,7,14,15,16,17,18,19,20,21,22,23,24,25,26,27,28,29,30,31,32,33,34,35,36,37,38] (fun t:Nat=>[(7,.int .i64 ((a:Int)+t)),(6,.bool (lr w p a t))]) (fun t M'=>M=M'/\t<=n) (fun t=>n-t) 0 (by kernel_rfl) (by simp(disch:=omega)[ha0];rfl) ⟨rfl,Nat.zero_le _⟩ ?_
  rintro t M' g2 ⟨rfl,ht⟩
  by_cases htn:t<n
  ·have c1:(a:Int)+t<(i:Nat):=by omega
   have c2:(a:Int)+t+p<(w.length:Nat):=by omega
   have hs:=oL w p a t;have g1:=getD_in (w:=w) (j:=a+t) (by omega);have g2:=getD_in (w:=w) (j:=a+t+p) (by omega);have hx:=Dm (w.getD (a+t) 0) (w.getD (a+t+p) 0);obtain⟨j,hj⟩:∃ j,j=a+t:=⟨_,rfl⟩;obtain⟨k,hk⟩:∃ k,k=a+t+p:=⟨_,rfl⟩;have hjI:(a:Int)+t=j:=by omega
   have hkI:(j:Int)+p=k:=by omega
   have hnI:(a:Int)+((t:Int)+1)=(j:Int)+1:=by omega
   rw[<-hk]at g2 hx hs;rw[<-hj]at g1 hx hs;rw[hjI]at c1 c2 ⊢;rw[hkI]at c2;generalize w.getD j 0=x at *;generalize w.getD k 0=y at *;generalize lr w p a t=f at *;cases f
   ·rw[Bool.false_and]at hs;simp(disch:=omega)[c1,c2,hkI];refine drwS ?_;simp(disch:=omega)[undef];exact rndA (t+1) (by simp(disch:=omega)[hs,hnI]) ⟨rfl,by omega⟩
   ·rw[Bool.true_and]at hs;have hjl:j<w.length:=by omega
    have hkl:k<w.length:=by omega
    simp(disch:=omega)[c1,c2,hkI];refine drwS ?_;have at1:w[j]=x:=by rw[getElem?_eq_getElem hjl]at g1;exact Option.some.inj g1
    have at2:w[k]=y:=by rw[getElem?_eq_getElem hkl]at g2;exact Option.some.inj g2
    by_cases hxy:x=y
    ·have hb:(x==y)=true:=by rw[hxy];exact beq_self_eq_true _
     rw[hb]at hs;subst hxy;simp(disch:=omega)[hkI,hjl,hkl,at1,at2];exact rndA (t+1) (by simp(disch:=omega)[hs,hnI]) ⟨rfl,by omega⟩
    ·have hb:(x==y)=false:=beq_eq_false_iff_ne.2 hxy;rw[hb]at hs hx;have hxn:¬ x.toNat=y.toNat:=fun e=>hxy (UInt8.toNat_inj.1 e);simp(disch:=omega)[hkI,hjl,hkl,at1,at2,hx];exact rndA (t+1) (by simp(disch:=omega)[hs,hnI]) ⟨rfl,by omega⟩
  ·have htE:t=n:=by omega
   subst htE;rw[hlp];by_cases c1:(a:Int)+t<(i:Nat)
   ·have c2:¬(a:Int)+t+p<(w.length:Nat):=by omega
    cases hB:lpB w i p
    ·simp(disch:=omega)[c1,c2];exact rndS (p+1) ⟨rfl,by omega,by omega,fun q h1 h2=>by
      by_cases e:q=p
      ·rw[e,hB]
      ·exact hno q h1 (by omega)⟩
    ·rw[ni hp1 hp2 hB hno]at h;simp(disch:=omega)[c1,c2];exact ad h
   ·cases hB:lpB w i p
    ·simp(disch:=omega)[c1,undef];exact rndS (p+1) ⟨rfl,by omega,by omega,fun q h1 h2=>by
      by_cases e:q=p
      ·rw[e,hB]
      ·exact hno q h1 (by omega)⟩
    ·rw[ni hp1 hp2 hB hno]at h;simp(disch:=omega)[c1,undef];exact ad h
 ·have ha0:(i:Int)-p=(a:Int):=by omega
  have hipI:¬(i:Int)-p<0:=by omega
  simp(disch:=omega)[hipI];refine aQ aR [6,7,14,15,16,17,18,19,20,21,22,23,24,25,26,27,28,29,30,31,32,33,34,35,36,37,38] (fun t:Nat=>[(7,.int .i64 ((a:Int)+t)),(6,.bool (lr w p a t))]) (fun t M'=>M=M'/\t<=n) (fun t=>n-t) 0 (by kernel_rfl) (by simp(disch:=omega)[ha0];rfl) ⟨rfl,Nat.zero_le _⟩ ?_
  rintro t M' g2 ⟨rfl,ht⟩
  by_cases htn:t<n
  ·have c1:(a:Int)+t<(i:Nat):=by omega
   have c2:(a:Int)+t+p<(w.length:Nat):=by omega
   have hs:=oL w p a t;have g1:=getD_in (w:=w) (j:=a+t) (by omega);have g2:=getD_in (w:=w) (j:=a+t+p) (by omega);have hx:=Dm (w.getD (a+t) 0) (w.getD (a+t+p) 0);obtain⟨j,hj⟩:∃ j,j=a+t:=⟨_,rfl⟩;obtain⟨k,hk⟩:∃ k,k=a+t+p:=⟨_,rfl⟩;have hjI:(a:Int)+t=j:=by omega
   have hkI:(j:Int)+p=k:=by omega
   have hnI:(a:Int)+((t:Int)+1)=(j:Int)+1:=by omega
   rw[<-hk]at g2 hx hs;rw[<-hj]at g1 hx hs;rw[hjI]at c1 c2 ⊢;rw[hkI]at c2;generalize w.getD j 0=x at *;generalize w.getD k 0=y at *;generalize lr w p a t=f at *;cases f
   ·rw[Bool.false_and]at hs;simp(disch:=omega)[c1,c2,hkI];refine drwS ?_;simp(disch:=omega)[undef];exact rndA (t+1) (by simp(disch:=omega)[hs,hnI]) ⟨rfl,by omega⟩
   ·rw[Bool.true_and]at hs;have hjl:j<w.length:=by omega
    have hkl:k<w.length:=by omega
    simp(disch:=omega)[c1,c2,hkI];refine drwS ?_;have at1:w[j]=x:=by rw[getElem?_eq_getElem hjl]at g1;exact Option.some.inj g1
    have at2:w[k]=y:=by rw[getElem?_eq_getElem hkl]at g2;exact Option.some.inj g2
    by_cases hxy:x=y
    ·have hb:(x==y)=true:=by rw[hxy];exact beq_self_eq_true _
     rw[hb]at hs;subst hxy;simp(disch:=omega)[hkI,hjl,hkl,at1,at2];exact rndA (t+1) (by simp(disch:=omega)[hs,hnI]) ⟨rfl,by omega⟩
    ·have hb:(x==y)=false:=beq_eq_false_iff_ne.2 hxy;rw[hb]at hs hx;have hxn:¬ x.toNat=y.toNat:=fun e=>hxy (UInt8.toNat_inj.1 e);simp(disch:=omega)[hkI,hjl,hkl,at1,at2,hx];exact rndA (t+1) (by simp(disch:=omega)[hs,hnI]) ⟨rfl,by omega⟩
  ·have htE:t=n:=by omega
   subst htE;rw[hlp];by_cases c1:(a:Int)+t<(i:Nat)
   ·have c2:¬(a:Int)+t+p<(w.length:Nat):=by omega
    cases hB:lpB w i p
    ·simp(disch:=omega)[c1,c2];exact rndS (p+1) ⟨rfl,by omega,by omega,fun q h1 h2=>by
      by_cases e:q=p
      ·rw[e,hB]
      ·exact hno q h1 (by omega)⟩
    ·rw[ni hp1 hp2 hB hno]at h;simp(disch:=omega)[c1,c2];exact ad h
   ·cases hB:lpB w i p
    ·simp(disch:=omega)[c1,undef];exact rndS (p+1) ⟨rfl,by omega,by omega,fun q h1 h2=>by
      by_cases e:q=p
      ·rw[e,hB]
      ·exact hno q h1 (by omega)⟩
    ·rw[ni hp1 hp2 hB hno]at h;simp(disch:=omega)[c1,undef];exact ad h
theorem AE(w:List UInt8)(i:Nat)(M:Mem)(R:VP)(hl:w.length<=60)(hi1:1<=w.length)(hi:i<=w.length)(h:R (.int .i64 (lpF w i:Nat)) M):ar prog 363 [str w,.int .i64 i] M R:=by
 refine fnS func363 rfl ntmps363 results363 ?_;simp(disch:=omega);refine lupS [4,5,6,7,8,9,10,11,12,13,14,15,16,17,18,19,20,21,22,23,24,25,26,27,28,29,30,31,32,33,34,35,36,37,38,39,40] (fun p:Nat=>[(5,.int .i64 p)]) (fun p M'=>M=M'/\1<=p/\p<=w.length+1/\∀ q,1<=q->q<p->lpB w i q=false) (fun p=>w.length+1-p) 1 ⟨rfl,Nat.le_refl _,by omega,fun q h1 h2=>by omega⟩ ?_
 rintro p M' g ⟨rfl,hp1,hp2,hno⟩
 have hpl:p<=w.length:=by
  rcases Nat.lt_or_ge w.length p with hh|hh
  ·have:=hno w.length hi1 hh;rw[J3 (Nat.le_refl _)]at this;cases this
  ·exact hh
 obtain⟨a,ha⟩:∃ a,a=i-p:=⟨_,rfl⟩;obtain⟨n,hn⟩:∃ n,n=min i (w.length-p)-a:=⟨_,rfl⟩;have hlp:lr w p a n=lpB w i p:=by unfold lpB;rw[ha,hn,ha]
 by_cases hip:i<p
 ·have ha0:a=0:=by omega
  have hipI:(i:Int)-p<0:=by omega
  simp(disch:=omega)[hipI];refine aQ aR [6,7,14,15,16,17,18,19,20,21,22,23,24,25,26,27,28,29,30,31,32,33,34,35,36,37,38] (fun t:Nat=>[(7,.int .i64 ((a:Int)+t)),(6,.bool (lr w p a t))]) (fun t M'=>M=M'/\t<=n) (fun t=>n-t) 0 (by kernel_rfl) (by simp(disch:=omega)[ha0];rfl) ⟨rfl,Nat.zero_le _⟩ ?_
  rintro t M' g2 ⟨rfl,ht⟩
  have il:lr w p a t=false->lpB w i p=false:=fun hf=>by rw[<-hlp];exact A3 ht hf
  by_cases htn:t<n
  ·have c1:(a:Int)+t<(i:Nat):=by omega
   have c2:(a:Int)+t+p<(w.length:Nat):=by omega
   have hs:=oL w p a t;have g1:=getD_in (w:=w) (j:=a+t) (by omega);have g2:=getD_in (w:=w) (j:=a+t+p) (by omega);have hx:=Dm (w.getD (a+t) 0) (w.getD (a+t+p) 0);obtain⟨j,hj⟩:∃ j,j=a+t:=⟨_,rfl⟩;obtain⟨k,hk⟩:∃ k,k=a+t+p:=⟨_,rfl⟩;have hjI:(a:Int)+t=j:=by omega
   have hkI:(j:Int)+p=k:=by omega
   have hnI:(a:Int)+((t:Int)+1)=(j:Int)+1:=by omega
   rw[<-hk]at g2 hx hs;rw[<-hj]at g1 hx hs;rw[hjI]at c1 c2 ⊢;rw[hkI]at c2;generalize w.getD j 0=x at *;generalize w.getD k 0=y at *;cases hf:lr w p a t
   ·have hB:=il hf;simp(disch:=omega)[c1,c2,hkI];exact rndS (p+1) ⟨rfl,by omega,by omega,fun q h1 h2=>by
     by_cases e:q=p
     ·rw[e,hB]
     ·exact hno q h1 (by omega)⟩
   ·rw[hf,Bool.true_and]at hs;have hjl:j<w.length:=by omega
    have hkl:k<w.length:=by omega
    simp(disch:=omega)[c1,c2,hkI];refine drwS ?_;have at1:w[j]=x:=by rw[getElem?_eq_getElem hjl]at g1;exact Option.some.inj g1
    have at2:w[k]=y:=by rw[getElem?_eq_getElem hkl]at g2;exact Option.some.inj g2
    by_cases hxy:x=y
    ·have hb:(x==y)=true:=by rw[hxy];exact beq_self_eq_true _
     rw[hb]at hs;subst hxy;simp(disch:=omega)[hkI,hjl,hkl,at1,at2];exact rndA (t+1) (by simp(disch:=omega)[hs,hnI]) ⟨rfl,by omega⟩
    ·have hb:(x==y)=false:=beq_eq_false_iff_ne.2 hxy;rw[hb]at hs hx;have hxn:¬ x.toNat=y.toNat:=fun e=>hxy (UInt8.toNat_inj.1 e);simp(disch:=omega)[hkI,hjl,hkl,at1,at2,hx];exact rndA (t+1) (by simp(disch:=omega)[hs,hnI]) ⟨rfl,by omega⟩
  ·have htE:t=n:=by omega
   subst htE;rw[hlp];by_cases c1:(a:Int)+t<(i:Nat)
   ·have c2:¬(a:Int)+t+p<(w.length:Nat):=by omega
    cases hB:lpB w i p
    ·simp(disch:=omega)[c1,c2,undef];exact rndS (p+1) ⟨rfl,by omega,by omega,fun q h1 h2=>by
      by_cases e:q=p
      ·rw[e,hB]
      ·exact hno q h1 (by omega)⟩
    ·rw[ni hp1 hp2 hB hno]at h;simp(disch:=omega)[c1,c2,undef];exact ad h
   ·cases hB:lpB w i p
    ·simp(disch:=omega)[c1,undef];exact rndS (p+1) ⟨rfl,by omega,by omega,fun q h1 h2=>by
      by_cases e:q=p
      ·rw[e,hB]
      ·exact hno q h1 (by omega)⟩
    ·rw[ni hp1 hp2 hB hno]at h;simp(disch:=omega)[c1,undef];exact ad h
 ·have ha0:(i:Int)-p=(a:Int):=by omega
  have hipI:¬(i:Int)-p<0:=by omega
  simp(disch:=omega)[hipI];refine aQ aR [6,7,14,15,16,17,18,19,20,21,22,23,24,25,26,27,28,29,30,31,32,33,34,35,36,37,38] (fun t:Nat=>[(7,.int .i64 ((a:Int)+t)),(6,.bool (lr w p a t))]) (fun t M'=>M=M'/\t<=n) (fun t=>n-t) 0 (by kernel_rfl) (by simp(disch:=omega)[ha0];rfl) ⟨rfl,Nat.zero_le _⟩ ?_
  rintro t M' g2 ⟨rfl,ht⟩
  have il:lr w p a t=false->lpB w i p=false:=fun hf=>by rw[<-hlp];exact A3 ht hf
  by_cases htn:t<n
  ·have c1:(a:Int)+t<(i:Nat):=by omega
   have c2:(a:Int)+t+p<(w.length:Nat):=by omega
   have hs:=oL w p a t;have g1:=getD_in (w:=w) (j:=a+t) (by omega);have g2:=getD_in (w:=w) (j:=a+t+p) (by omega);have hx:=Dm (w.getD (a+t) 0) (w.getD (a+t+p) 0);obtain⟨j,hj⟩:∃ j,j=a+t:=⟨_,rfl⟩;obtain⟨k,hk⟩:∃ k,k=a+t+p:=⟨_,rfl⟩;have hjI:(a:Int)+t=j:=by omega
   have hkI:(j:Int)+p=k:=by omega
   have hnI:(a:Int)+((t:Int)+1)=(j:Int)+1:=by omega
   rw[<-hk]at g2 hx hs;rw[<-hj]at g1 hx hs;rw[hjI]at c1 c2 ⊢;rw[hkI]at c2;generalize w.getD j 0=x at *;generalize w.getD k 0=y at *;cases hf:lr w p a t
   ·have hB:=il hf;simp(disch:=omega)[c1,c2,hkI];exact rndS (p+1) ⟨rfl,by omega,by omega,fun q h1 h2=>by
     by_cases e:q=p
     ·rw[e,hB]
     ·exact hno q h1 (by omega)⟩
   ·rw[hf,Bool.true_and]at hs;have hjl:j<w.length:=by omega
    have hkl:k<w.length:=by omega
    simp(disch:=omega)[c1,c2,hkI];refine drwS ?_;have at1:w[j]=x:=by rw[getElem?_eq_getElem hjl]at g1;exact Option.some.inj g1
    have at2:w[k]=y:=by rw[getElem?_eq_getElem hkl]at g2;exact Option.some.inj g2
    by_cases hxy:x=y
    ·have hb:(x==y)=true:=by rw[hxy];exact beq_self_eq_true _
     rw[hb]at hs;subst hxy;simp(disch:=omega)[hkI,hjl,hkl,at1,at2];exact rndA (t+1) (by simp(disch:=omega)[hs,hnI]) ⟨rfl,by omega⟩
    ·have hb:(x==y)=false:=beq_eq_false_iff_ne.2 hxy;rw[hb]at hs hx;have hxn:¬ x.toNat=y.toNat:=fun e=>hxy (UInt8.toNat_inj.1 e);simp(disch:=omega)[hkI,hjl,hkl,at1,at2,hx];exact rndA (t+1) (by simp(disch:=omega)[hs,hnI]) ⟨rfl,by omega⟩
  ·have htE:t=n:=by omega
   subst htE;rw[hlp];by_cases c1:(a:Int)+t<(i:Nat)
   ·have c2:¬(a:Int)+t+p<(w.length:Nat):=by omega
    cases hB:lpB w i p
    ·simp(disch:=omega)[c1,c2,undef];exact rndS (p+1) ⟨rfl,by omega,by omega,fun q h1 h2=>by
      by_cases e:q=p
      ·rw[e,hB]
      ·exact hno q h1 (by omega)⟩
    ·rw[ni hp1 hp2 hB hno]at h;simp(disch:=omega)[c1,c2,undef];exact ad h
   ·cases hB:lpB w i p
    ·simp(disch:=omega)[c1,undef];exact rndS (p+1) ⟨rfl,by omega,by omega,fun q h1 h2=>by
      by_cases e:q=p
      ·rw[e,hB]
      ·exact hno q h1 (by omega)⟩
    ·rw[ni hp1 hp2 hB hno]at h;simp(disch:=omega)[c1,undef];exact ad h
theorem oQ(w:List UInt8)(M:Mem)(R:VP)(hl:w.length<=1099511627776)(h:∀ v M',Sub M M'->Rd M' v (ints (if isWord w then gY w (w.length-1) else []))->R (aD v (aJ w)) M'):ar prog 239 [str w] M R:=by
 unfold aD aJ at h;refine fnS func239 rfl ntmps239 results239 ?_;simp(disch:=omega);intro b1 hb1;simp(disch:=omega);have hs1:Sub M (M.put b1 (.cells true [str w] 1)):=(Sub.refl _).put hb1 _;refine bq _ _ [w] true (fun _=>True) _ _ (Rd.new rfl (Nat.le_refl 1)) (fM hl) (by simp) trivial bT (bG _) ?_;rw[cV];cases hw:isWord w
 ·rw[hw]at h;simp(disch:=omega);exact ad (h _ _ hs1 (.inl ⟨none,0,rfl,rfl⟩))
 ·rw[hw,if_pos rfl,if_pos rfl]at h;have h60:=au hw;generalize M.put b1 (.cells true [str w] 1)=M0 at *;simp(disch:=omega);refine lupS [5,6,13,14,15,16,17,18,19,20,21,22,23,24,25,26,27,28] (fun x:Nat×Value=>[(6,.int .i64 ((x.1:Int)+1)),(5,x.2)]) (fun x N=>x.1<=w.length-1/\Own M0 x.2 (ints (gY w x.1)) N) (fun x=>w.length-1-x.1) (0,.slice none 0 0) ⟨Nat.zero_le _,Own.nil _⟩ ?_
  rintro⟨i,v⟩ N g ⟨hi,ho⟩
  simp only at hi ho;have hcl:=uh w i;by_cases hlt:i<w.length-1
  ·have hltI:(i:Int)+1<(w.length:Nat):=by omega
   have hs:=zf w i;obtain⟨q,hq⟩:∃ q,q=i+1:=⟨_,rfl⟩;have hqI:(i:Int)+1=(q:Nat):=by omega
   rw[<-hq]at hs;rw[hqI]at hltI ⊢;simp(disch:=omega)[hltI];refine tF w q _ _ h60 (by omega) (by omega) ?_;simp(disch:=omega);refine jC w _ _ h60 (by omega) ?_;intro p1 p2;generalize gY w i=L at *;by_cases he:lpF w q=cB w
   ·have hb:(lpF w q==cB w)=true:=by rw[he];exact beq_self_eq_true _
    rw[hb,if_pos rfl]at hs;have heI:((lpF w q:Nat):Int)=(cB w:Nat):=by omega
    simp(disch:=omega)[he];intro b' hb';simp(disch:=omega);refine aN ho ((Sub.refl _).put hb' _) (by simp(disch:=omega);rfl) rfl rfl (by omega) (by simp(disch:=omega)) (by simp(disch:=omega);omega) ?_;intro v' M'' N'' ho' hs';rw[cw,<-hs]at ho';simp(disch:=omega);exact rndM M'' (q,v') hs' ⟨by simp only;omega,ho'⟩
   ·have hb:(lpF w q==cB w)=false:=beq_eq_false_iff_ne.2 he;rw[hb,if_neg (by decide),append_nil]at hs;have hbI:(((lpF w q:Nat):Int)==((cB w:Nat):Int))=false:=beq_eq_false_iff_ne.2 (by omega);rw[<-hs]at ho;simp(disch:=omega)[hbI];exact rndS (q,v) ⟨by simp only;omega,ho⟩
  ·have hltI:¬(i:Int)+1<(w.length:Nat):=by omega
   have hiE:i=w.length-1:=by omega
   rw[hiE]at ho;simp(disch:=omega)[hltI];exact ad (h _ _ (hs1.trans ho.sub) ho.rd)
theorem oU(w:List UInt8)(M:Mem)(R:VP)(hl:w.length<=1099511627776)(h:∀ v M',Sub M M'->Rd M' v (ints (if isWord w then gY w (w.length-1) else []))->R (aD v (aJ w)) M'):ar prog 286 [str w] M R:=by
 unfold aD aJ at h;refine fnS func286 rfl ntmps286 results286 ?_;simp(disch:=omega);refine ba w _ _ hl ?_;cases hw:isWord w
 ·rw[hw]at h;simp(disch:=omega);exact ad (h _ _ (Sub.refl M) (.inl ⟨none,0,rfl,rfl⟩))
 ·rw[hw,if_pos rfl,if_pos rfl]at h;have h60:=au hw;simp(disch:=omega);intro b0 hb0;simp(disch:=omega);refine lupS [4,5,10,11,12,13,14,15,16,17,18,19,20,21,22,23,24,25,26,27] (fun x:Nat×Value=>[(5,.int .i64 ((x.1:Int)+1)),(4,x.2)]) (fun x N=>x.1<=w.length-1/\∃ Mb,Sub M Mb/\Own Mb x.2 (ints (gY w x.1)) N) (fun x=>w.length-1-x.1) (0,.slice (some ⟨b0,0,none⟩) 0 0) ⟨Nat.zero_le _,M,Sub.refl _,Own.new hb0 rfl (Nat.le_refl 0)⟩ ?_
  rintro⟨i,v⟩ N g ⟨hi,Mb,sB,ho⟩
  simp only at hi ho;have hcl:=uh w i;by_cases hlt:i<w.length-1
  ·have hltI:(i:Int)+1<(w.length:Nat):=by omega
   have hs:=zf w i;obtain⟨q,hq⟩:∃ q,q=i+1:=⟨_,rfl⟩;have hqI:(i:Int)+1=(q:Nat):=by omega
   rw[<-hq]at hs;rw[hqI]at hltI ⊢;obtain⟨p1,p2,p3⟩:=ky (w:=w) (by omega);simp(disch:=omega)[hltI];refine AE w q _ _ h60 (by omega) (by omega) ?_;simp(disch:=omega);refine db w _ _ h60 ?_;intro vp N1 op;obtain⟨ap,cp,rfl,hap⟩:=op.rd.opened;rw[ay]at hap ⊢;rcases hap with hz|⟨bp,o',rfl,hap⟩
   ·omega
   have hg:=hap 0 (by omega);rw[cJ,p1,Option.map_some,Nat.add_zero]at hg;have sN:=op.sub;clear hap op;generalize gY w i=L at *;by_cases he:lpF w q=cB w
   ·have hb:(lpF w q==cB w)=true:=by rw[he];exact beq_self_eq_true _
    rw[hb,if_pos rfl]at hs;simp(disch:=omega)[hg,he];intro b' hb';simp(disch:=omega);refine aN ho (sN.trans ((Sub.refl _).put hb' _)) (by simp(disch:=omega);rfl) rfl rfl (by omega) (by simp(disch:=omega)) (by simp(disch:=omega);omega) ?_;intro v' M'' N'' ho' hs';rw[cw,<-hs]at ho';simp(disch:=omega);exact rndM M'' (q,v') hs' ⟨by simp only;omega,Mb,sB,ho'⟩
   ·have hb:(lpF w q==cB w)=false:=beq_eq_false_iff_ne.2 he;rw[hb,if_neg (by decide),append_nil]at hs;have hbI:(((lpF w q:Nat):Int)==((cB w:Nat):Int))=false:=beq_eq_false_iff_ne.2 (by omega);rw[<-hs]at ho;simp(disch:=omega)[hg,hbI];exact rndM N (q,v) sN ⟨by simp only;omega,Mb,sB,ho⟩
  ·have hltI:¬(i:Int)+1<(w.length:Nat):=by omega
   have hiE:i=w.length-1:=by omega
   rw[hiE]at ho;simp(disch:=omega)[hltI];exact ad (h _ _ (sB.trans ho.sub) ho.rd)
end Go.Proofs.YtapimhjbilkfpaaGreatDoor
