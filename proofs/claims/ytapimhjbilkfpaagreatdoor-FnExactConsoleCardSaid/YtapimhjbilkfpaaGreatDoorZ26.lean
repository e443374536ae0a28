/- Lemmas for FnExactDeskAfter, part 27 of 33. -/
import Derived.Test.YtapimhjbilkfpaaGreatDoorZ25
set_option linter.unusedVariables false
set_option linter.unusedSimpArgs false
namespace Go.Proofs.YtapimhjbilkfpaaGreatDoor
open Go Go.Proofs.Tryz List
def dN(c:Nat->Nat)(k:Nat):Int:=((c k:Nat):Int)
def part(a b:Nat)(c:Nat->Nat)(n k:Nat):Nat:=if k<n then kC a b c k else c k
theorem Cw(a b:Nat)(c:Nat->Nat):part a b c 0=c:=by funext k;unfold part;rw[if_neg (by omega)]
theorem F1{a b n:Nat}{c:Nat->Nat}(h:c n=b):upd (dN (part a b c n)) n (a:Nat)=dN (part a b c (n+1)):=by
 funext k
 unfold upd dN part;by_cases e:k=n
 ·rw[if_pos e,if_pos (by omega),e];unfold kC;rw[if_pos h]
 ·rw[if_neg e];by_cases h1:k<n
  ·rw[if_pos h1,if_pos (by omega)]
  ·rw[if_neg h1,if_neg (by omega)]
theorem Cm{a b n:Nat}{c:Nat->Nat}(h:c n≠b):part a b c (n+1)=part a b c n:=by
 funext k
 unfold part;by_cases e:k=n
 ·rw[if_pos (by omega),if_neg (by omega),e];unfold kC;rw[if_neg h]
 ·by_cases h1:k<n
  ·rw[if_pos h1,if_pos (by omega)]
  ·rw[if_neg h1,if_neg (by omega)]
theorem GR{a b n:Nat}{c:Nat->Nat}:∀ k,k<n->dN (part a b c n) k=dN (kC a b c) k:=fun k hk=>by
 unfold dN part;rw[if_pos hk]
def Nf(n p q:Nat):Nat->Nat->Nat
 | 0=>id
 | 1=>foI p id (n-p)
 | _=>lO n p q
def pqJ(p q:Nat):Nat->Nat
 | 0=>p
 | _=>q
theorem J5(n p q j:Nat):fB n (Nf n p q j):=by
 match j with
 | 0=>exact fun k hk=>hk
 | 1=>
  by_cases hp:p<=n
  ·exact(tR (q:=q) (xR n p q) (fun k hk=>hk) (.inl rfl) _ (by omega)).2
  ·unfold Nf;rw[show n-p=0 by omega];exact fun k hk=>hk
 | j+2=>exact(K4 n p q).2.2
theorem NP{n p q j:Nat}(hj:j<2):foI (pqJ p q j) (Nf n p q j) (n-pqJ p q j)=Nf n p q (j+1):=by
 match j,hj with
 | 0,_=>rfl
 | 1,_=>rfl
theorem B5{n s:Nat}{c:Nat->Nat}(hb:fB n c):∀ t,s+t<=n->fB n (foI s c t)
 | 0,_=>hb
 | t+1,h=>by
  have h2:=B5 (s:=s) hb t (by omega);unfold foI stI;rw[Nat.add_sub_cancel_left];refine qH h2 ?_;have:=h2 t (by omega);have:=h2 (s+t) (by omega);omega
theorem Nd{M:Mem}{b:Nat}{B:Blk}(h:M b=some B):M.put b B=M:=by
 funext i
 by_cases e:i=b
 ·rw[e,ag,h]
 ·rw[ai _ _ e]
def idG(d k:Nat):Int:=if k<d then (k:Int) else 0
theorem Ox(k:Nat):idG 0 k=0:=by unfold idG;rw[if_neg (by omega)]
theorem Q8(n:Nat):upd (idG n) n (n:Int)=idG (n+1):=by
 funext k
 unfold upd idG;by_cases e:k=n
 ·rw[if_pos e,if_pos (by omega),e]
 ·rw[if_neg e];by_cases h1:k<n
  ·rw[if_pos h1,if_pos (by omega)]
  ·rw[if_neg h1,if_neg (by omega)]
theorem Sr{n:Nat}:∀ k,k<n->idG n k=dN id k:=fun k hk=>by unfold idG dN;rw[if_pos hk];rfl
set_option maxHeartbeats 2000000 in
theorem EB(n p q:Nat)(M:Mem)(R:VP)(hn:n<=60)(hp:1<=p)(hp6:p<=60)(hq:1<=q)(hq6:q<=60)(h:∀ v M',Sub M M'->Rd M' v (ints (bB n (dN (lO n p q))))->R v M'):ar prog 252 [.int .i64 (n:Nat),.int .i64 (p:Nat),.int .i64 (q:Nat)] M R:=by
 refine fnS func252 rfl ntmps252 results252 ?_;have er:(n:Int).toNat=n:=by omega
 have hrep:=DZ n;have tl:=jB n (fun _=>0);simp(disch:=omega)[er,hrep];intro b1 hb1;simp(disch:=omega)[tl];have sN:=(Sub.refl M).put hb1 (.cells true (ints (bB n fun _=>0)) n);have k1:=ag M b1 (.cells true (ints (bB n fun _=>0)) n);clear hrep tl;generalize M.put b1 (.cells true (ints (bB n fun _=>0)) n)=N at *;have hm0:∀ k,k<n->(fun _=>(0:Int)) k=idG 0 k:=fun k hk=>(Ox k).symm;rw[dO hm0]at k1;clear hm0;refine lupS (rlA [8] 19 8) (fun d:Nat=>[(19,.int .i64 (d:Nat))]) (fun d N'=>d<=n/\Sub M N'/\N' b1=some (.cells true (ints (bB n (idG d))) n)) (fun d=>n-d) 0 ⟨lZe _,sN,k1⟩ ?_
 rintro d N1 g ⟨hd,sN1,q1⟩
 by_cases hlt:d<n
 ·have hltI:(d:Int)<(n:Nat):=by omega
  have hl1:=cR n (idG d);simp(disch:=omega)[hltI,q1,hl1,aj,gW];refine rndS (d+1) ⟨by omega,sN1.ovr hb1 _,?_⟩;rw[ag,Q8]
 ·have hdE:n=d:=by omega
  subst hdE;rw[dO Sr]at q1;simp(disch:=omega);intro b2 hb2;have hne:b1≠b2:=fun e=>by rw[e]at q1;rw[q1]at hb2;cases hb2
  have sN2:=sN1.putN hb2 (.cells true [.int .i64 (p:Nat),.int .i64 (q:Nat)] 2);have k2:(N1.put b2 (.cells true [.int .i64 (p:Nat),.int .i64 (q:Nat)] 2)) b1=some (.cells true (ints (bB n (dN id))) n):=by rw[ai _ _ hne];exact q1
  have k3:=ag N1 b2 (.cells true [.int .i64 (p:Nat),.int .i64 (q:Nat)] 2);simp(disch:=omega);generalize N1.put b2 (.cells true [.int .i64 (p:Nat),.int .i64 (q:Nat)] 2)=N2 at *;clear q1 k1;refine lupS (rlA [10,11,12,13,14] 31 49) (fun j:Nat=>[(31,.int .i64 (j:Nat))]) (fun j N'=>j<=2/\Sub M N'/\N' b1=some (.cells true (ints (bB n (dN (Nf n p q j)))) n)/\N' b2=some (.cells true [.int .i64 (p:Nat),.int .i64 (q:Nat)] 2)) (fun j=>2-j) 0 ⟨lZe _,sN2,k2,k3⟩ ?_
  rintro j N3 g3 ⟨hj,sN3,r1,r2⟩
  by_cases hj2:j<2
  ·have hjI:(j:Int)<2:=by omega
   have hsg:N3.get? b2 j=some (.int .i64 (pqJ p q j:Nat)):=by
    rw[al r2]
    match j,hj2 with
    | 0,_=>rfl
    | 1,_=>rfl
   have hst:=NP (n:=n) (p:=p) (q:=q) hj2;have hbl:=J5 n p q j;have hs1:1<=pqJ p q j:=by
                   unfold pqJ;split;· exact hp
                   ·exact hq
   have hs6:pqJ p q j<=60:=by
                   unfold pqJ;split;· exact hp6
                   ·exact hq6
   generalize Nf n p q j=c at *;generalize pqJ p q j=s at *;simp(disch:=omega)[hjI,hsg];refine lupS (rlA [11,12,13,14] 36 43) (fun i:Nat=>[(11,.int .i64 (i:Nat))]) (fun i N'=>s<=i/\(i<=n\/i=s)/\Sub M N'/\N' b1=some (.cells true (ints (bB n (dN (foI s c (i-s))))) n)/\N' b2=some (.cells true [.int .i64 (p:Nat),.int .i64 (q:Nat)] 2)) (fun i=>n-i) s ⟨lRf _,.inr rfl,sN3,by rw[Nat.sub_self];exact r1,r2⟩ ?_
   rintro i N4 g4 ⟨hsi,hin,sN4,u1,u2⟩
   by_cases hi:i<n
   ·obtain⟨t,ht⟩:∃ t,t=i-s:=⟨_,rfl⟩;have hit:i=s+t:=by omega
    have hiI:(i:Int)<(n:Nat):=by omega
    have htI:(i:Int)-(s:Nat)=(t:Nat):=by omega
    have hcb:=B5 (s:=s) hbl t (by omega);have hnx:foI s c (t+1)=kC (min (foI s c t i) (foI s c t t)) (max (foI s c t i) (foI s c t t)) (foI s c t):=by
     rw[hit];show kC (min (foI s c t (s+t)) (foI s c t (s+t-s))) (max (foI s c t (s+t)) (foI s c t (s+t-s))) (foI s c t)=_;rw[Nat.add_sub_cancel_left]
    rw[<-ht]at u1;have hl1:=cR n (dN (foI s c t));have gi:N4.get? b1 i=some (.int .i64 (foI s c t i:Nat)):=by rw[al u1,en hi];rfl
    have gt:N4.get? b1 t=some (.int .i64 (foI s c t t:Nat)):=by rw[al u1,en (by omega)];rfl
    have hxi:=hcb i hi;have hxt:=hcb t (by omega);simp(disch:=omega)[hiI];refine plyS (ak [0,1,2,3,4,5,6,7,8,9,10,11,12,13,14,15,16,17,18,19,20,21,22,23] .fin) ?_;obtain⟨a,ha⟩:∃ a,a=min (foI s c t i) (foI s c t t):=⟨_,rfl⟩;obtain⟨b,hb⟩:∃ b,b=max (foI s c t i) (foI s c t t):=⟨_,rfl⟩;have haI:min ((foI s c t i:Nat):Int) (foI s c t t:Nat)=(a:Nat):=by omega
    have hbI:max ((foI s c t i:Nat):Int) (foI s c t t:Nat)=(b:Nat):=by omega
    have haF:(if foI s c t t<foI s c t i then ((foI s c t t:Nat):Int) else (foI s c t i:Nat))=(a:Nat):=by
     split
     ·omega
     ·omega
    rw[<-ha,<-hb]at hnx;simp(disch:=omega)[gi,gt,htI];refine lupS (rlA [14] 65 14) (fun k:Nat=>[(65,.int .i64 (k:Nat))]) (fun k N'=>k<=n/\Sub M N'/\N' b1=some (.cells true (ints (bB n (dN (part a b (foI s c t) k)))) n)/\N' b2=some (.cells true [.int .i64 (p:Nat),.int .i64 (q:Nat)] 2)) (fun k=>n-k) 0 ⟨lZe _,sN4,by rw[Cw];exact u1,u2⟩ ?_
    rintro k N5 g5 ⟨hk,sN5,x1,x2⟩
    by_cases hkn:k<n
    ·have hkI:(k:Int)<(n:Nat):=by omega
     have hl2:=cR n (dN (part a b (foI s c t) k));have gk:N5.get? b1 k=some (.int .i64 (foI s c t k:Nat)):=by
      rw[al x1,en hkn];unfold dN part;rw[if_neg (by omega)]
     by_cases hcb2:foI s c t k=b
     ·have hcI:((foI s c t k:Nat):Int)=(b:Nat):=by omega
      simp(disch:=omega)[hkI,gk,hcI,x1,hl2,aj,gW];refine rndS (k+1) ⟨by omega,sN5.ovr hb1 _,?_,?_⟩
      ·rw[ag,haF,F1 hcb2]
      ·rw[ai _ _ (Ne.symm hne)];exact x2
     ·have hcI:¬((foI s c t k:Nat):Int)=(b:Nat):=by omega
      simp(disch:=omega)[hkI,gk];exact rndS (k+1) ⟨by omega,sN5,by rw[Cm hcb2];exact x1,x2⟩
    ·have hkE:k=n:=by omega
     have hkI:¬(k:Int)<(n:Nat):=by omega
     rw[hkE]at x1;rw[dO GR]at x1;simp(disch:=omega)[hkI];refine rndS (i+1) ⟨by omega,.inl (by omega),sN5,?_,x2⟩;rw[show i+1-s=t+1 by omega,hnx];exact x1
   ·have hiI:¬(i:Int)<(n:Nat):=by omega
    have hie:i-s=n-s:=by
     rcases hin with h1|h1
     ·omega
     ·omega
    rw[hie,hst]at u1;simp(disch:=omega)[hiI];exact rndS (j+1) ⟨by omega,sN4,u1,u2⟩
  ·have hj2:j=2:=by omega
   subst hj2;simp(disch:=omega);refine ad (h _ _ sN3 ?_);have hr:=Rd.new (M:=N3) (b:=b1) (w:=true) (xs:=ints (bB n (dN (lO n p q)))) (n:=n) (c:=n) (cR n _) (lRf _);have r3:N3 b1=some (.cells true (ints (bB n (dN (lO n p q)))) n):=r1;rw[Nd r3]at hr;exact hr
def lr(c:Nat->Nat)(i:Nat):List (Int×Int):=((range i).filter fun k=>frs c k==k).map fun k=>((c k:Int),(dK c k:Int))
theorem ON(c:Nat->Nat)(i:Nat):(lr c i).length=dK c i:=by unfold lr dK;rw[length_map]
theorem Pe{c:Nat->Nat}{i:Nat}(h:frs c i=i):lr c (i+1)=lr c i++[((c i:Int),(dK c i:Int))]:=by
 unfold lr;rw[range_succ,filter_append,map_append];simp[h]
theorem PW{c:Nat->Nat}{i:Nat}(h:frs c i≠i):lr c (i+1)=lr c i:=by
 unfold lr;rw[range_succ,filter_append,map_append];simp[h]
theorem H4{c:Nat->Nat}{i:Nat}{x:Int×Int}(h:x∈lr c i):∃ k,k<i/\frs c k=k/\x=((c k:Int),(dK c k:Int)):=by
 unfold lr at h;obtain⟨k,hk,rfl⟩:=List.mem_map.1 h;obtain⟨h1,h2⟩:=List.mem_filter.1 hk;exact⟨k,List.mem_range.1 h1,eq_of_beq h2,rfl⟩
theorem OP{c:Nat->Nat}{i:Nat}(h:frs c i=i):G2 (lr c i) (c i:Nat)=false:=by
 unfold G2;cases hf:(lr c i).find? (fun p=>p.1==((c i:Nat):Int)) with
 | none=>rfl
 | some x=>
  obtain⟨k,hk,h1,rfl⟩:=H4 (mem_of_find?_eq_some hf);have h2:=find?_some hf;have h2:((c k:Nat):Int)=(c i:Nat):=eq_of_beq h2;obtain⟨q1,q2,q3⟩:=nQ c i;exact absurd (by omega) (q3 k (by omega))
theorem OC{c:Nat->Nat}{i:Nat}(h:frs c i≠i):G2 (lr c i) (c i:Nat)=true/\PT (lr c i) (c i:Nat)=(lab c i:Nat):=by
 obtain⟨q1,q2,q3⟩:=nQ c i;have hff:frs c (frs c i)=frs c i:=AD (lRf _) rfl (fun k hk e=>q3 k hk (e.trans q2));unfold G2 PT;cases hf:(lr c i).find? (fun p=>p.1==((c i:Nat):Int)) with
 | none=>
  rw[find?_eq_none]at hf;have hm:((c (frs c i):Int),(dK c (frs c i):Int))∈lr c i:=by
   unfold lr;exact List.mem_map.2 ⟨frs c i,List.mem_filter.2 ⟨List.mem_range.2 (by omega),beq_iff_eq.2 hff⟩,rfl⟩
  have:=hf _ hm;rw[q2]at this;simp at this
 | some x=>
  obtain⟨k,hk,h1,rfl⟩:=H4 (mem_of_find?_eq_some hf);have h2:=find?_some hf;have h2:((c k:Nat):Int)=(c i:Nat):=eq_of_beq h2;have h3:c k=c i:=by omega
  refine⟨rfl,?_⟩;rw[Ln hk h3,EZ h1];rfl
theorem Ia{p q:Nat}(hp:1<=p)(hq:1<=q):(p:Int)+(q:Nat)-(Nat.gcd p q:Nat)-1=(kG p q:Nat):=by
 have:=Nat.gcd_le_left q hp;unfold kG;omega
theorem tK(p q:Nat)(M:Mem)(R:VP)(hp:1<=p)(hq:1<=q)(hp6:p<=60)(hq6:q<=60)(h:R (.int .i64 (kG p q:Nat)) M):ar prog 251 [.int .i64 (p:Nat),.int .i64 (q:Nat)] M R:=by
 refine fnS func251 rfl ntmps251 results251 ?_;simp(disch:=omega);refine lG p q _ _ (by omega) (by omega) ?_;have hg:=Nat.gcd_le_left q hp;have hi:=Ia hp hq;simp(disch:=omega);rw[hi];exact ad h
theorem OJ:∃ I,prog.info? 2=some I/\I.zero=some (.int .i64 0):=by
 have h:(prog.info? 2).map (fun i=>i.zero)=some (some (.int .i64 0)):=by kernel_rfl
 cases hi:prog.info? 2 with
 | none=>rw[hi]at h;cases h
 | some I=>rw[hi]at h;exact⟨I,rfl,by simpa using h⟩
theorem EA:prog.underlying 201=some (.map 2 2):=by kernel_rfl
theorem KL:prog.underlying 2=some (.int .i64):=by kernel_rfl
set_option maxHeartbeats 2000000 in
theorem w8(p q:Int)(M:Mem)(R:VP)(h:∀ M',Sub M M'->R (.tuple #[str (iU p q),.int .i64 (iu p q)]) M'):ar prog 165 [.int .i64 p,.int .i64 q] M R:=by
 refine fnS func165 rfl ntmps165 results165 ?_;simp(disch:=omega);refine bF p _ _ _ _ ?_;by_cases hp:1<=p/\p<=60
 ·simp(disch:=omega)[hp];refine bF q _ _ _ _ ?_;by_cases hq:1<=q/\q<=60
  ·obtain⟨a,rfl⟩:∃ a:Nat,p=a:=⟨p.toNat,by omega⟩;obtain⟨b,rfl⟩:∃ b:Nat,q=b:=⟨q.toNat,by omega⟩;simp(disch:=omega)[hq];refine tK a b _ _ (by omega) (by omega) (by omega) (by omega) ?_;have hNn:kG (a:Int).toNat (b:Int).toNat=kG a b:=by rw[Int.toNat_natCast,Int.toNat_natCast]
   by_cases hn:60<kG a b
   ·have hnI:(60:Int)<(kG a b:Nat):=by omega
    have hc:iu a b=3:=by unfold iu;rw[if_pos ⟨hp,hq⟩,hNn,if_pos hn]
    have ht:iU a b=[]:=by unfold iU;rw[hc,if_neg (by decide)]
    have h0:=h M (Sub.refl M);rw[hc,ht]at h0;simp(disch:=omega)[hnI];exact ad h0
   ·have hnI:¬(60:Int)<(kG a b:Nat):=by omega
    simp(disch:=omega)[hnI];refine Kw (fun r hr=>?_);have kr:=ag M r (qu #[] 0);have sr:=(Sub.refl M).put hr (qu #[] 0);have hI0:yU #[] (lr (lO (kG a b) a b) 0):=rfl;obtain⟨n,hnE⟩:∃ n,n=kG a b:=⟨_,rfl⟩;rw[<-hnE]at hn hnI hI0 hNn;simp(disch:=omega);rw[<-hnE];refine EB n a b _ _ (by omega) (by omega) (by omega) (by omega) (by omega) ?_;intro v M1 s1 hv;have kr1:=s1 _ _ kr;have sM:=sr.trans s1;have hcd:iu a b=if 5<dK (lO n a b) n then 3 else 0:=by
     unfold iu;rw[if_pos ⟨hp,hq⟩,hNn,if_neg hn,Int.toNat_natCast,Int.toNat_natCast]
    have htd:iU a b=if iu a b=0 then gj (lO n a b) n else []:=by
     unfold iU;rw[hNn,Int.toNat_natCast,Int.toNat_natCast]
    rw[htd,hcd]at h;clear htd hcd;generalize lO n a b=c at *;obtain⟨x1,x2,hv1,hv2⟩:=hv.opened;have hln:(ints (bB n (dN c))).length=n:=cR n _;rw[hln]at hv1 hv2;subst hv1;simp(disch:=omega);refine aP aR (rlA [4,5,8,10,11,12] 32 24) (fun i:Nat=>[(32,.int .i64 (i:Nat)),(8,str (gj c i))]) (fun i N'=>i<=n/\Sub M N'/\(∃ es cn,N' r=some (qu es cn)/\yU es (lr c i))/\Rd N' (.slice x1 n x2) (ints (bB n (dN c)))/\dK c i<=5) (fun i=>n-i) 0 (by kernel_rfl) (by simp(disch:=omega)[gj]) ⟨lZe _,sM,⟨_,_,kr1,hI0⟩,hv,lZe _⟩ ?_
    rintro i N g ⟨hi,sN,⟨es,cn,kN,hI⟩,hvN,h5⟩
    by_cases hin:i<n
    ·have hinI:(i:Int)<(n:Nat):=by omega
     have hat:(ints (bB n (dN c)))[i]?=some (.int .i64 (c i:Nat)):=en hin;obtain⟨I,hI1,hI2⟩:=OJ;obtain⟨q1,q2,hqe,hap⟩:=hvN.opened;rw[hln]at hqe hap;injection hqe with e1 e2 e3
     subst e1;subst e3;rcases hap with hz|⟨bp,op,e4,hap⟩
     ·omega
     subst e4;have hg:=hap i hin;rw[hat]at hg;have hns:=pr c i;simp(disch:=omega)[hinI,hg];refine Mf (kt:=2) (et:=2) (k:=((c i:Nat):Int)) EA KL hI1 hI2 (by simp(disch:=omega)) (by simp(disch:=omega)) kN hI ?_;by_cases hf:frs c i=i
     ·rw[if_pos hf]at hns;have hmh:=OP hf;have hsz:=hI.size;rw[ON]at hsz;generalize PT (lr c i) ((c i:Nat):Int)=own0;simp(disch:=omega)[hmh];refine Mm (kt:=2) (et:=2) EA (by simp(disch:=omega)) kN ?_;rw[hsz];simp(disch:=omega);refine MK (kt:=2) (et:=2) (k:=((c i:Nat):Int)) (v:=((dK c i:Nat):Int)) EA KL (by simp(disch:=omega)) (by simp(disch:=omega)) (by simp(disch:=omega)) kN hI hmh ?_;intro es' hI';rw[<-Pe hf]at hI';have sN':=sN.ovr hr (qu es' (cn+1));have kN':=ag N r (qu es' (cn+1));have hbr:bp≠r:=by
       rintro rfl
       have:=hg;unfold Mem.get? at this;rw[kN]at this;cases this
      have hvN':Rd (N.put r (qu es' (cn+1))) (.slice (some ⟨bp,op,none⟩) n x2) (ints (bB n (dN c))):=by
       rcases hvN with ⟨_,_,z1,z2⟩|⟨y1,y2,y3,z1,z2,z3⟩
       ·rw[z2]at hln;rw[<-hln]at hin;cases hin
       ·injection z1 with w1 w2 w3
        injection w1 with w1
        injection w1 with w4 w5
        refine .inr ⟨bp,op,x2,by rw[hln],?_,by rw[w3];exact z3⟩;rw[<-z2,<-w4,<-w5];unfold Mem.sub?;rw[ai _ _ hbr]
      by_cases h5b:5<=dK c i
      ·have h5I:(5:Int)<=(dK c i:Nat):=by omega
       have hm:=pd c (i:=i+1) (j:=n) (by omega);rw[if_pos (show 5<dK c n by omega),if_neg (by decide)]at h;simp(disch:=omega)[h5I,aj];exact ad (h _ sN')
      ·have h5I:¬(5:Int)<=(dK c i:Nat):=by omega
       have hlw:=uy c i;rw[EZ hf]at hlw;have hwl:=sk c i;simp(disch:=omega)[h5I,aj];refine cS (dK c i) _ _ (by omega) ?_;simp(disch:=omega)[hwl];exact rndA (i+1) (by simp(disch:=omega)[hlw]) ⟨by omega,sN',⟨es',⟨cn+1,kN'⟩,hI'⟩,hvN',by omega⟩
     ·rw[if_neg hf]at hns;obtain⟨hmh,hmv⟩:=OC hf;have hlt:=Jb c (i:=i) (j:=i+1) (by omega);have h5I:¬(5:Int)<=(lab c i:Nat):=by omega
      have hlw:=uy c i;have hwl:=sk c i;simp(disch:=omega)[hmh,hmv,h5I];refine cS (lab c i) _ _ (by omega) ?_;simp(disch:=omega)[hwl];exact rndA (i+1) (by simp(disch:=omega)[hlw]) ⟨by omega,sN,⟨es,⟨cn,kN⟩,by rw[PW hf];exact hI⟩,hvN,by omega⟩
    ·have hinI:¬(i:Int)<(n:Nat):=by omega
     have hiE:i=n:=by omega
     rw[if_neg (show ¬ 5<dK c n by rw[<-hiE];omega),if_pos rfl]at h;subst hiE;simp(disch:=omega);exact ad (h _ sN)
  ·have hc:iu p q=2:=by unfold iu;rw[if_neg (fun e=>hq e.2)]
   have ht:iU p q=[]:=by unfold iU;rw[hc,if_neg (by decide)]
   have h0:=h M (Sub.refl M);rw[hc,ht]at h0;simp(disch:=omega)[hq];exact ad h0
 ·have hc:iu p q=2:=by unfold iu;rw[if_neg (fun e=>hp e.1)]
  have ht:iU p q=[]:=by unfold iU;rw[hc,if_neg (by decide)]
  have h0:=h M (Sub.refl M);rw[hc,ht]at h0;simp(disch:=omega)[hp];exact ad h0
theorem Ol(a:Nat)(c:Nat->Nat):kC a a c=c:=by
 funext k
 unfold kC;split
 ·rename_i h;exact h.symm
 ·rfl
theorem Mr(i:Nat)(g:Nat->Int):ints (bB i g)++[.int .i64 (g i)]=ints (bB (i+1) g):=by
 unfold bB ints;rw[range_succ,map_append,map_append];rfl
def pqS(p q:Nat):Nat->Nat
 | 0=>p
 | _=>q
def inS(n p q t:Nat)(c:Nat->Nat):Nat->Nat->Nat
 | 0=>c
 | 1=>stS n p t c
 | _=>stS n q t (stS n p t c)
theorem OV{n p q t j:Nat}{c:Nat->Nat}(hj:j<2):stS n (pqS p q j) t (inS n p q t c j)=inS n p q t c (j+1):=by
 match j,hj with
 | 0,_=>rfl
 | 1,_=>rfl
theorem Ny{n p q t j:Nat}{c:Nat->Nat}(hb:fB n c)(ht:t<n)(hg:jV n p q c):fB n (inS n p q t c j):=by
 match j with
 | 0=>exact hb
 | 1=>exact(lp hg hb (.inl rfl) ht).2
 | j+2=>exact(lp (lp hg hb (.inl rfl) ht).1 (lp hg hb (.inl rfl) ht).2 (.inr rfl) ht).2
theorem L7(c:Nat->Nat){i k:Nat}(h:k<i):(av (gj c i))[k]?=some (.int .u8 (ltr (lab c k)).toNat):=by
 unfold av gj;rw[getElem?_map,getElem?_map,getElem?_range h];rfl
theorem Q7{n:Nat}(h:n<=4):(ltr n).toNat=97+n:=by
 have:n=0\/n=1\/n=2\/n=3\/n=4:=by omega
 rcases this with rfl|rfl|rfl|rfl|rfl<;>rfl
set_option maxHeartbeats 4000000 in
set_option maxRecDepth 4000 in
theorem wX(p q:Int)(M:Mem)(R:VP)(h:∀ M',Sub M M'->R (.tuple #[str (iU p q),.int .i64 (iu p q)]) M'):ar prog 123 [.int .i64 p,.int .i64 q] M R:=by
 refine fnS func123 rfl ntmps123 results123 ?_;simp(disch:=omega);refine cg p _ _ _ _ ?_;by_cases hp:1<=p/\p<=60
 ·simp(disch:=omega)[hp];refine cg q _ _ _ _ ?_;by_cases hq:1<=q/\q<=60
  ·obtain⟨a,rfl⟩:∃ a:Nat,p=a:=⟨p.toNat,by omega⟩;obtain⟨b,rfl⟩:∃ b:Nat,q=b:=⟨q.toNat,by omega⟩;simp(disch:=omega)[hq];refine nW a b _ _ (by omega) (by omega) ?_;have hNn:kG (a:Int).toNat (b:Int).toNat=kG a b:=by rw[Int.toNat_natCast,Int.toNat_natCast]
   have hi:=Ia (p:=a) (q:=b) (by omega) (by omega);have hgl:=Nat.gcd_le_left b (show 0<a by omega);simp(disch:=omega)[hi];by_cases hn:60<kG a b
   ·have hnI:(60:Int)<(kG a b:Nat):=by omega
    have hc:iu a b=3:=by unfold iu;rw[if_pos ⟨hp,hq⟩,hNn,if_pos hn]
    have ht:iU a b=[]:=by unfold iU;rw[hc,if_neg (by decide)]
    have h0:=h M (Sub.refl M);rw[hc,ht]at h0;simp(disch:=omega)[hnI];exact ad h0
   ·have hnI:¬(60:Int)<(kG a b:Nat):=by omega
    obtain⟨n,hnE⟩:∃ n,n=kG a b:=⟨_,rfl⟩;have hcd:iu a b=if 5<dK (foS n a b n) n then 3 else 0:=by
     unfold iu;rw[if_pos ⟨hp,hq⟩,hNn,if_neg hn,Int.toNat_natCast,Int.toNat_natCast,<-hnE,Hd (Ll (n:=n) (p:=a) (q:=b)) (lRf _)]
    have htd:iU a b=if iu a b=0 then gj (foS n a b n) n else []:=by
     unfold iU;rw[hNn,Int.toNat_natCast,Int.toNat_natCast,<-hnE,Pv (Ll (n:=n) (p:=a) (q:=b))]
    rw[htd,hcd]at h;rw[<-hnE]at hn hnI ⊢;clear htd hcd hNn hi hnE;simp(disch:=omega)[hnI];intro b0 hb0;have o0:Own M (.slice (some ⟨b0,0,none⟩) 0 0) (ints (bB 0 (dN id))) (M.put b0 (.cells true [] 0)):=Own.new hb0 rfl (lRf 0);simp(disch:=omega);generalize M.put b0 (.cells true [] 0)=N0 at *;generalize Value.slice (some ⟨b0,0,none⟩) 0 0=v0 at *;refine lupS (rlA [7,8] 39 9) (fun x:Nat×Value=>[(8,.int .i64 (x.1:Nat)),(7,x.2)]) (fun x N=>x.1<=n/\Own M x.2 (ints (bB x.1 (dN id))) N) (fun x=>n-x.1) (0,v0) ⟨lZe _,o0⟩ ?_
    rintro⟨i,v⟩ N g ⟨hi,ho⟩
    simp only at hi ho;by_cases hlt:i<n
    ·have hltI:(i:Int)<(n:Nat):=by omega
     have htl:=cR i (dN id);simp(disch:=omega)[hltI];intro b' hb';simp(disch:=omega);refine aN ho ((Sub.refl _).put hb' _) (by simp(disch:=omega);rfl) rfl rfl (by omega) (by simp(disch:=omega)) (by simp(disch:=omega)[htl];omega) ?_;intro v' M'' N'' ho' hs';have hsn:ints (bB i (dN id))++[.int .i64 (i:Nat)]=ints (bB (i+1) (dN id)):=Mr i (dN id);rw[hsn]at ho';simp(disch:=omega);exact rndM M'' (i+1,v') hs' ⟨by simp only;omega,ho'⟩
    ·have hltI:¬(i:Int)<(n:Nat):=by omega
     have hin:n=i:=by omega
     subst hin;clear hlt;by_cases hz:n=0
     ·subst hz;have e0:gj (foS 0 a b 0) 0=[]:=rfl;have e1:¬ 5<dK (foS 0 a b 0) 0:=by show ¬ 5<0;omega
      rw[if_neg e1,if_pos rfl,e0]at h;have hv2:Rd N v []:=ho.rd;obtain⟨x1,x2,rfl,_⟩:=hv2.opened;have sN:=ho.sub;simp(disch:=omega);refine lupS (rlA [9,11,12,13,14] 48 57) (fun i:Nat=>[(9,.int .i64 (i:Nat))]) (fun i N'=>N=N'/\i=0) (fun i=>i) 0 ⟨rfl,rfl⟩ ?_
      rintro i N' g1 ⟨rfl,rfl⟩
      simp(disch:=omega);intro b5 hb5;simp(disch:=omega);refine lupS (rlA [4,5,15,16,17,18,19] 106 41) (fun i:Nat=>[(17,.int .i64 (i:Nat)),(15,.slice (some ⟨b5,0,none⟩) 0 0),(16,.int .i64 0)]) (fun i N'=>N.put b5 (.cells true [] 0)=N'/\i=0) (fun i=>i) 0 ⟨rfl,rfl⟩ ?_
      rintro i N' g2 ⟨rfl,rfl⟩
      simp(disch:=omega);exact ae (sN.putN hb5 _) (h M (Sub.refl M))
     ·rcases ho with ⟨_,e,_⟩|⟨b1,c1,rfl,hb1,hc1,rfl⟩
      ·have:=congrArg length e;rw[cR,length_nil]at this;omega
      rw[cR]at hc1 ⊢;have k1:=ag M b1 (.cells true (ints (bB n (dN id))) c1);have sN:=(Sub.refl M).put hb1 (.cells true (ints (bB n (dN id))) c1);generalize M.put b1 (.cells true (ints (bB n (dN id))) c1)=N at *;simp(disch:=omega);refine lupS (rlA [9,11,12,13,14] 48 57) (fun t:Nat=>[(9,.int .i64 (t:Nat))]) (fun t N'=>t<=n/\Sub M N'/\N' b1=some (.cells true (ints (bB n (dN (foS n a b t)))) c1)) (fun t=>n-t) 0 ⟨lZe _,sN,k1⟩ ?_
      rintro t N1 g1 ⟨ht,sN1,u1⟩
      by_cases htn:t<n
      ·have htI:(t:Int)<(n:Nat):=by omega
       simp(disch:=omega)[htI];intro b2 hb2;have hne:b1≠b2:=fun e=>by rw[e]at u1;rw[u1]at hb2;cases hb2
       have sN2:=sN1.putN hb2 (.cells true [.int .i64 (a:Nat),.int .i64 (b:Nat)] 2);have k2:(N1.put b2 (.cells true [.int .i64 (a:Nat),.int .i64 (b:Nat)] 2)) b1=some (.cells true (ints (bB n (dN (foS n a b t)))) c1):=by rw[ai _ _ hne];exact u1
       have k3:=ag N1 b2 (.cells true [.int .i64 (a:Nat),.int .i64 (b:Nat)] 2);simp(disch:=omega);generalize N1.put b2 (.cells true [.int .i64 (a:Nat),.int .i64 (b:Nat)] 2)=N2 at *;obtain⟨f1,f2,_,_⟩:=JN (n:=n) (p:=a) (q:=b) t ht;have hbelow:=fun j=>Ny (n:=n) (p:=a) (q:=b) (t:=t) (j:=j) f2 htn f1;have hfin:inS n a b t (foS n a b t) 2=foS n a b (t+1):=rfl;generalize foS n a b t=c0 at *;refine lupS (rlA [11,12,13,14] 57 48) (fun j:Nat=>[(57,.int .i64 (j:Nat))]) (fun j N'=>j<=2/\Sub M N'/\N' b1=some (.cells true (ints (bB n (dN (inS n a b t c0 j)))) c1)/\N' b2=some (.cells true [.int .i64 (a:Nat),.int .i64 (b:Nat)] 2)) (fun j=>2-j) 0 ⟨lZe _,sN2,k2,k3⟩ ?_
       rintro j N3 g3 ⟨hj,sN3,r1,r2⟩
       by_cases hj2:j<2
       ·have hjI:(j:Int)<2:=by omega
        have hsg:N3.get? b2 j=some (.int .i64 (pqS a b j:Nat)):=by
         rw[al r2]
         match j,hj2 with
         | 0,_=>rfl
         | 1,_=>rfl
        have hst:=OV (n:=n) (p:=a) (q:=b) (t:=t) (c:=c0) hj2;have hbl:=hbelow j;have hs6:pqS a b j<=60:=by unfold pqS;split<;>omega
        generalize inS n a b t c0 j=c at *;generalize pqS a b j=s at *;obtain⟨m,hm⟩:∃ m,m=t+s:=⟨_,rfl⟩;have hmI:(t:Int)+(s:Nat)=(m:Nat):=by omega
        have hstm:stS n s t c=if m<n then kC (c t) (c m) c else c:=by rw[hm];rfl
        have hl1:=cR n (dN c);have gt:N3.get? b1 t=some (.int .i64 (c t:Nat)):=by rw[al r1,en htn];rfl
        by_cases hmn:m<n
        ·rw[if_pos hmn]at hstm;have gm:N3.get? b1 m=some (.int .i64 (c m:Nat)):=by rw[al r1,en hmn];rfl
         have hmI2:¬(n:Int)<=(m:Nat):=by omega
         by_cases hcc:c t=c m
         ·rw[hcc,Ol]at hstm;have hccI:((c t:Nat):Int)=(c m:Nat):=by omega
          simp(disch:=omega)[hjI,hsg];refine plyS (ak [0,1,2,3,4,5,6,7,8,9,10,11,12,13,14,15,16,17] .fin) ?_;simp(disch:=omega)[hmI,hmI2,gt,gm,hcc];exact rndS (j+1) ⟨by omega,sN3,by rw[<-hst,hstm];exact r1,r2⟩
         ·have hccI:¬((c t:Nat):Int)=(c m:Nat):=by omega
          simp(disch:=omega)[hjI,hsg];refine plyS (ak [0,1,2,3,4,5,6,7,8,9,10,11,12,13,14,15,16,17] .fin) ?_;simp(disch:=omega)[hmI,hmI2,gt,gm,bNe.2 hccI];refine plyS (ak [0,1,2,3,4,5,6,7,8,9,10,11] .fin) ?_;simp(disch:=omega)[hmI,gt,gm];refine lupS (rlA [14] 89 15) (fun k:Nat=>[(14,.int .i64 (k:Nat))]) (fun k N'=>k<=n/\Sub M N'/\N' b1=some (.cells true (ints (bB n (dN (part (c t) (c m) c k)))) c1)/\N' b2=some (.cells true [.int .i64 (a:Nat),.int .i64 (b:Nat)] 2)) (fun k=>n-k) 0 ⟨lZe _,sN3,by rw[Cw];exact r1,r2⟩ ?_
          rintro k N5 g5 ⟨hk,sN5,x1,x2⟩
          by_cases hkn:k<n
          ·have hkI:(k:Int)<(n:Nat):=by omega
           have hl2:=cR n (dN (part (c t) (c m) c k));have gk:N5.get? b1 k=some (.int .i64 (c k:Nat)):=by
            rw[al x1,en hkn];unfold dN part;rw[if_neg (by omega)]
           by_cases hcb2:c k=c m
           ·have hcI:((c k:Nat):Int)=(c m:Nat):=by omega
            simp(disch:=omega)[hkI,gk,hcI,x1,hl2,aj,gW];refine rndS (k+1) ⟨by omega,sN5.ovr hb1 _,?_,?_⟩
            ·rw[ag,F1 hcb2]
            ·rw[ai _ _ (Ne.symm hne)];exact x2
           ·have hcI:¬((c k:Nat):Int)=(c m:Nat):=by omega
            simp(disch:=omega)[hkI,gk,bNe.2 hcI];exact rndS (k+1) ⟨by omega,sN5,by rw[Cm hcb2];exact x1,x2⟩
          ·have hkE:k=n:=by omega
           have hkI:¬(k:Int)<(n:Nat):=by omega
           rw[hkE]at x1;rw[dO GR]at x1;simp(disch:=omega)[hkI];exact rndS (j+1) ⟨by omega,sN5,by rw[<-hst,hstm];exact x1,x2⟩
        ·rw[if_neg hmn]at hstm;have hmI2:(n:Int)<=(m:Nat):=by omega
         simp(disch:=omega)[hjI,hsg];refine plyS (ak [0,1,2,3,4,5,6,7,8,9,10,11,12,13,14,15,16,17] .fin) ?_;simp(disch:=omega)[hmI,hmI2,undef];exact rndS (j+1) ⟨by omega,sN3,by rw[<-hst,hstm];exact r1,r2⟩
       ·have hj2:j=2:=by omega
        subst hj2;simp(disch:=omega);exact rndS (t+1) ⟨by omega,sN3,by rw[<-hfin];exact r1⟩
      ·have hte:t=n:=by omega
       have htI:¬(t:Int)<(n:Nat):=by omega
       subst hte;generalize foS t a b t=c at *;simp(disch:=omega);intro b5 hb5;have hne:b1≠b5:=fun e=>by rw[e]at u1;rw[u1]at hb5;cases hb5
       have o5:Own N1 (.slice (some ⟨b5,0,none⟩) 0 0) (av (gj c 0)) (N1.put b5 (.cells true [] 0)):=Own.new hb5 rfl (lRf 0);simp(disch:=omega);generalize N1.put b5 (.cells true [] 0)=N6 at *;generalize Value.slice (some ⟨b5,0,none⟩) 0 0=v5 at *;refine aP aR (rlA [4,5,15,16,17,18,19] 106 41) (fun x:Nat×Value=>[(17,.int .i64 (x.1:Nat)),(15,x.2),(16,.int .i64 (dK c x.1:Nat))]) (fun x N'=>x.1<=t/\dK c x.1<=5/\Own N1 x.2 (av (gj c x.1)) N') (fun x=>t-x.1) (0,v5) (by kernel_rfl) (by simp(disch:=omega)[dK]) ⟨lZe _,lZe _,o5⟩ ?_
       rintro⟨i,v⟩ N7 g7 ⟨hi,h5,ho⟩
       simp only at hi h5 ho;have hlw:=sk c i;by_cases hit:i<t
       ·have hitI:(i:Int)<(t:Nat):=by omega
        have u7:=ho.sub _ _ u1;have hrt:=cR t (dN c);have hns:=pr c i;simp(disch:=omega)[hitI];refine lupS (rlA [18,19] 112 22) (fun x:Nat×UInt8=>[(19,.int .i64 (x.1:Nat)),(18,.int .u8 x.2.toNat)]) (fun x N'=>N7=N'/\x.1<=i/\((x.2=0/\∀ j,j<x.1->c j≠c i)\/(x.2=ltr (lab c i)/\frs c i<i))) (fun x=>i-x.1) (0,0) ⟨rfl,lZe _,.inl ⟨rfl,fun j hj=>by omega⟩⟩ ?_
        rintro⟨k,l⟩ N8 g8 ⟨rfl,hk,hl⟩
        simp only at hk hl;have hls:=uy c i;rcases hl with ⟨rfl,hno⟩|⟨rfl,hf⟩
        ·by_cases hki:k<i
         ·have hkI:(k:Int)<(i:Nat):=by omega
          have gk:N7.get? b1 k=some (.int .i64 (c k:Nat)):=by rw[al u7,en (by omega)];rfl
          have gi:N7.get? b1 i=some (.int .i64 (c i:Nat)):=by rw[al u7,en hit];rfl
          by_cases e:c k=c i
          ·have hlk:=Ln hki e;have hfr:frs c i<i:=by
            obtain⟨q1,q2,q3⟩:=nQ c i;rcases Nat.lt_or_ge k (frs c i) with q|q
            ·exact absurd e (q3 k q)
            ·omega
           have gl:=L7 c hki;rw[<-hlk]at gl;rcases ho with ⟨_,he,_⟩|⟨b3,c3,rfl,hM,hc,rfl⟩
           ·rw[he]at gl;cases gl
           have gl2:(N1.put b3 (.cells true (av (gj c i)) c3)).get? b3 k=some (.int .u8 (ltr (lab c i)).toNat):=by
            rw[al (ag N1 b3 _)];exact gl
           have hbl:(av (gj c i)).length=i:=by rw[aS,hlw]
           rw[hbl]at hc;generalize N1.put b3 (.cells true (av (gj c i)) c3)=N9 at *;generalize ltr (lab c i)=L at *;simp(disch:=omega)[hkI];refine plyS (ak [0,1,2,3,4,5,6,7,8] .fin) ?_;simp(disch:=omega)[gk,gi,e,gl2];exact rndS (k+1,L) ⟨rfl,by simp only;omega,.inr ⟨rfl,hfr⟩⟩
          ·have hcI:¬((c k:Nat):Int)=(c i:Nat):=by omega
           simp(disch:=omega)[hkI];refine plyS (ak [0,1,2,3,4,5,6,7,8] .fin) ?_;simp(disch:=omega)[gk,gi,bNe.2 hcI];exact rndS (k+1,0) ⟨rfl,by simp only;omega,.inl ⟨rfl,fun j hj=>by
            by_cases e2:j=k
            ·rw[e2];exact e
            ·exact hno j (by simp only at hj;omega)⟩⟩
         ·have hkE:k=i:=by omega
          have hkI:¬(k:Int)<(i:Nat):=by omega
          rw[hkE]at hno;have hf:frs c i=i:=AD (lRf _) rfl hno;rw[if_pos hf]at hns;rw[EZ hf]at hls;by_cases h5b:dK c i=5
          ·have hm:=pd c (i:=i+1) (j:=t) (by omega);rw[if_pos (show 5<dK c t by omega),if_neg (by decide)]at h;simp(disch:=omega)[hkI,undef,h5b];exact ad (h _ (sN1.trans ho.sub))
          ·have h5I:¬((dK c i:Nat):Int)=5:=by omega
           have hval:(97:Int)+(dK c i:Nat)=((ltr (dK c i)).toNat:Nat):=by rw[Q7 (by omega)];omega
           have hn9:dK c i<=4:=by omega
           simp(disch:=omega)[hkI,undef,bNe.2 h5I,hval];intro b' hb';simp(disch:=omega);refine aN ho ((Sub.refl _).put hb' _) (by simp(disch:=omega);rfl) rfl rfl (by first|omega|(simp(disch:=omega)<;>omega)) (by simp(disch:=omega)) (by simp(disch:=omega)[hlw];omega) ?_;intro v' M'' N'' ho' hs';rw[lN,<-hls]at ho';simp(disch:=omega);exact rndB M'' (i+1,v') hs' (by simp(disch:=omega)[hns]) ⟨by simp only;omega,by simp only;omega,ho'⟩
        ·rw[if_neg (by omega)]at hns;have hlt5:=Jb c (i:=i) (j:=i+1) (by omega);have hL0:¬(((ltr (lab c i)).toNat:Nat):Int)=0:=by rw[Q7 (by omega)];omega
         generalize ltr (lab c i)=L at *;by_cases hki:k<i
         ·have hkI:(k:Int)<(i:Nat):=by omega
          simp(disch:=omega)[hkI,bNe.2 hL0];intro b' hb';simp(disch:=omega);refine aN ho ((Sub.refl _).put hb' _) (by simp(disch:=omega);rfl) rfl rfl (by first|omega|(simp(disch:=omega)<;>omega)) (by simp(disch:=omega)) (by simp(disch:=omega)[hlw];omega) ?_;intro v' M'' N'' ho' hs';rw[lN,<-hls]at ho';simp(disch:=omega);exact rndB M'' (i+1,v') hs' (by simp(disch:=omega)[hns]) ⟨by simp only;omega,by simp only;omega,ho'⟩
         ·have hkI:¬(k:Int)<(i:Nat):=by omega
          simp(disch:=omega)[hkI,undef,bNe.2 hL0];intro b' hb';simp(disch:=omega);refine aN ho ((Sub.refl _).put hb' _) (by simp(disch:=omega);rfl) rfl rfl (by first|omega|(simp(disch:=omega)<;>omega)) (by simp(disch:=omega)) (by simp(disch:=omega)[hlw];omega) ?_;intro v' M'' N'' ho' hs';rw[lN,<-hls]at ho';simp(disch:=omega);exact rndB M'' (i+1,v') hs' (by simp(disch:=omega)[hns]) ⟨by simp only;omega,by simp only;omega,ho'⟩
       ·have hie:i=t:=by omega
        have hitI:¬(i:Int)<(t:Nat):=by omega
        subst hie;rw[if_neg (show ¬ 5<dK c i by omega),if_pos rfl]at h;have hs:=sN1.trans ho.sub;rcases ho with ⟨rfl,he,rfl⟩|⟨b2,c2,rfl,hM,hc,rfl⟩
        ·have e0:gj c i=[]:=by cases hr:gj c i<;>simp[hr,av]at he ⊢
         rw[e0]at h;simp(disch:=omega)[hitI];exact ad (h _ hs)
        ·have htk:take (gj c i).length (av (gj c i))=av (gj c i):=take_of_length_le (by rw[aS];exact lRf _);rw[hlw]at htk;simp(disch:=omega)[hitI,htk,hlw,ot];exact ad (h _ hs)
  ·have hc:iu p q=2:=by unfold iu;rw[if_neg (fun e=>hq e.2)]
   have ht:iU p q=[]:=by unfold iU;rw[hc,if_neg (by decide)]
   have h0:=h M (Sub.refl M);rw[hc,ht]at h0;simp(disch:=omega)[hq];exact ad h0
 ·have hc:iu p q=2:=by unfold iu;rw[if_neg (fun e=>hp e.1)]
  have ht:iU p q=[]:=by unfold iU;rw[hc,if_neg (by decide)]
  have h0:=h M (Sub.refl M);rw[hc,ht]at h0;simp(disch:=omega)[hp];exact ad h0
def bls(l:List Bool):List Value:=l.map Value.bool
theorem zp(l:List Bool):(bls l).length=l.length:=by simp[bls]
theorem EW(l:List Bool)(i:Nat):(bls l)[i]?=(l[i]?).map Value.bool:=by simp[bls]
theorem R5(l:List Bool)(i:Nat)(x:Bool):(bls l).set i (.bool x)=bls (l.set i x):=by simp[bls,map_set]
theorem Ry(n:Nat)(x:Bool):replicate n (Value.bool x)=bls (replicate n x):=by simp[bls]
def msr(k:Nat)(x:Bool×List Bool):Nat:=if x.1 then 1+(k-x.2.count true) else 0
def wx(ws:List B8):List Bool:=(range ws.length).map fun i=>dead ws ws.length (ltr i)
theorem rI(ws:List B8):(wx ws).length=ws.length:=by simp[wx]
theorem QP{ws:List B8}{out:List Bool}(hl:out.length=ws.length)(h:∀ i,i<ws.length->out[i]?=some (dead ws ws.length (ltr i))):out=wx ws:=by
 apply ext_getElem?;intro i;by_cases hi:i<ws.length
 ·rw[h i hi];simp[wx,hi]
 ·rw[getElem?_eq_none (by omega),getElem?_eq_none (by rw[rI];omega)]
theorem Nb{ws:List B8}{c:UInt8}(h:97<=c.toNat/\c.toNat-97<ws.length):(bls (wx ws))[c.toNat-97]?=some (.bool (dead ws ws.length c)):=by
 rw[EW];simp[wx,h.2,lX h]
theorem atI{L:List Value}{j:Nat}{v:Value}(h:L[j]?=some v)(hj:j<L.length):L[j]=v:=by
 rw[gEl hj]at h;exact Option.some.inj h
def NN(ou:List Bool)(row:B8)(j:Nat):Bool:=(row.take j).all fun c=>ou.getD (c.toNat-97) false
theorem qe(l:B8)(p:UInt8->Bool){j:Nat}(h:j<l.length):(l.take (j+1)).all p=((l.take j).all p&&p l[j]):=by
 rw[aw l h,all_append];simp
def KA(ws:List B8)(u:B8)(j:Nat):Bool:=(u.take j).all (dead ws ws.length)
theorem MA(ws:List B8)(u:B8){j:Nat}(h:j<u.length):KA ws u (j+1)=(KA ws u j&&dead ws ws.length u[j]):=qe u (dead ws ws.length) h
theorem OX(ws:List B8)(u:B8):KA ws u u.length=u.all (dead ws ws.length):=by unfold KA;rw[take_length]
theorem MW(ws:List B8)(u:B8):KA ws u 0=true:=rfl
theorem Az(v:Value)(ws:List B8)(M:Mem)(R:VP)(hv:Rd M v (strs ws))(hm:aY ws=true)
  (h:∀ b M',Sub M M'->M' b=some (.cells true (bls (wx ws)) ws.length)->R (.slice (some ⟨b,0,none⟩) ws.length ws.length) M'):ar prog 294 [.agg #[v]] M R:=by
 have h15:=aV hm;refine fnS func294 rfl ntmps294 results294 ?_;obtain⟨aa,c,rfl,ha⟩:=hv.opened;rw[ah]at ha hv ⊢;simp(disch:=omega);intro b1 hb1;have hs1:Sub M (M.put b1 (.cells true [.slice aa ws.length c] 1)):=(Sub.refl M).put hb1 _;have k1:(M.put b1 (.cells true [.slice aa ws.length c] 1)) b1=some (.cells true [.slice aa ws.length c] 1):=ag _ _ _;simp(disch:=omega);generalize M.put b1 (.cells true [.slice aa ws.length c] 1)=N1 at *;rcases ha with hz|⟨b,o,rfl,ha⟩
 ·omega
 have hget:∀ i,(hi:i<ws.length)->N1.get? b (o+i)=some (str ws[i]):=by
  intro i hi;have:=ha i hi;rw[ba,gEl hi]at this;exact aX this hs1
 try simp(disch:=omega)[al k1]
 intro b3 hb3;simp(disch:=omega);have e0:replicate ws.length (Value.bool false)=bls (replicate ws.length false):=Ry _ _;rw[e0];refine lupS (rlA [4,5,6,7] 12 42) (fun x:Bool×List Bool=>[(4,.bool x.1)]) (fun x M'=>x.2.length=ws.length/\Snd ws x.2/\(x.1=false->∀ i,i<ws.length->Cls ws x.2 i)/\M'=N1.put b3 (.cells true (bls x.2) ws.length)) (msr ws.length) (true,replicate ws.length false) ⟨by simp,?_,(fun h=>by cases h),rfl⟩ ?_
 ·intro i hi hh;rw[getElem?_replicate_of_lt hi]at hh;cases hh
 rintro⟨more,out⟩ M' g ⟨hl,hsn,hcl,rfl⟩
 simp only at hl hsn hcl;cases more with
 | false=>
  have hf:=QP hl (Qx hm hl hsn (hcl rfl));subst hf;simp(disch:=omega);exact ad (h _ _ (hs1.putN hb3 _) (ag _ _ _))
 | true=>
  simp(disch:=omega);refine lupS (rlA [4,5,6,7] 13 41) (fun x:Nat×Bool×List Bool=>[(5,.int .i64 x.1),(4,.bool x.2.1)]) (fun x M'=>x.1<=ws.length/\x.2.2.length=ws.length/\Snd ws x.2.2/\out.count true<=x.2.2.count true/\(x.2.1=true->out.count true<x.2.2.count true)/\(x.2.1=false->∀ j,j<x.1->Cls ws x.2.2 j)/\M'=N1.put b3 (.cells true (bls x.2.2) ws.length)) (fun x=>ws.length-x.1) (0,false,out) ⟨by simp only;omega,hl,hsn,lRf _,fun h=>(by cases h),fun _ j hj=>absurd hj (Nat.not_lt_zero j),rfl⟩ ?_
  rintro⟨i,more,ou⟩ M' g1 ⟨hi,hol,hos,hle,hmt,hmf,rfl⟩
  simp only at hi hol hos hle hmt hmf;have hbl:=zp ou;have sN:Sub N1 (N1.put b3 (.cells true (bls ou) ws.length)):=(Sub.refl N1).put hb3 _;have l1:=sN _ _ k1;by_cases hlt:i<ws.length
  ·have hgi:=aX (hget i hlt) sN;have hgr:ws.getD i []=ws[i]:=by rw[gDe,gEl hlt];rfl
   have hrl:=vw hm hlt;have hmB:mtB ws ou i=(ws.getD i []).all fun c=>ou.getD (c.toNat-97) false:=rfl;have hr12:ws[i].length<=12:=(bL hm (getElem_mem hlt)).1;rw[hgr]at hrl hmB;generalize ws[i]=row at *;have hoi:ou[i]?=some ou[i]:=gEl (by omega);simp(disch:=omega);refine aP aR (rlA [6,7] 19 24) (fun j:Nat=>[(7,.int .i64 j),(6,.bool (NN ou row j))]) (fun j M1=>j<=row.length/\M1=N1.put b3 (.cells true (bls ou) ws.length)) (fun j=>row.length-j) 0 (by kernel_rfl) (by simp(disch:=omega);rfl) ⟨lZe _,rfl⟩ ?_
   rintro j M1 g2 ⟨hj,rfl⟩
   by_cases hjl:j<row.length
   ·have hx:row[j]?=some row[j]:=gEl hjl;have hat:NN ou row (j+1)=(NN ou row j&&ou.getD (row[j].toNat-97) false):=qe row (fun c=>ou.getD (c.toNat-97) false) hjl;have hcl:=hrl _ (getElem_mem hjl);have hk:((row[j].toNat:Int)-97).toNat=row[j].toNat-97:=by omega
    have hu:=row[j].toNat_lt;have hov:(bls ou)[row[j].toNat-97]?=some (.bool (ou.getD (row[j].toNat-97) false)):=by
     rw[EW,gDe,gEl (by omega)];rfl
    generalize ou.getD (row[j].toNat-97) false=fv at *;generalize NN ou row j=acc at *;cases acc with
    | false=>
     simp(disch:=omega)[al l1,hgi];exact rndA (j+1) (by simp(disch:=omega)[hat]) ⟨by omega,rfl⟩
    | true=>
     rw[Bool.true_and]at hat;simp(disch:=omega)[al l1,hgi,hk,atI hov];exact rndA (j+1) (by simp(disch:=omega)[hat]) ⟨by omega,rfl⟩
   ·have hj':j=row.length:=by omega
    subst hj';have hac:NN ou row row.length=mtB ws ou i:=by rw[hmB];unfold NN;rw[take_length]
    rw[hac];have hov:(bls ou)[i]?=some (.bool ou[i]):=by rw[EW,hoi];rfl
    generalize ou[i]=oi at *;have hnx:Cls ws ou i->more=false->∀ q,q<i+1->Cls ws ou q:=fun hc hm0 q hq=>by
     by_cases h1:q=i
     ·rw[h1];exact hc
     ·exact hmf hm0 q (by omega)
    cases hmt2:mtB ws ou i with
    | false=>
     simp(disch:=omega)[al l1,hgi];exact rndS (i+1,more,ou) ⟨by simp only;omega,hol,hos,hle,hmt,hnx (fun hh=>by rw[hmt2]at hh;cases hh),rfl⟩
    | true=>
     cases oi with
     | true=>
      simp(disch:=omega)[al l1,hgi,atI hov];exact rndS (i+1,more,ou) ⟨by simp only;omega,hol,hos,hle,hmt,hnx (fun _=>hoi),rfl⟩
     | false=>
      have hcs:=count_set hoi;have hsn2:=RM hm hos hlt hoi hmt2;have hbs:=R5 ou i true;simp(disch:=omega)[al l1,hgi,atI hov,hbs];exact rndS (i+1,true,ou.set i true) ⟨by simp only;omega,by simpa using hol,hsn2,by simp only;omega,(fun _=>by simp only;omega),(fun hh=>by cases hh),rfl⟩
  ·have hi':i=ws.length:=by omega
   subst hi';simp(disch:=omega);refine Rnd.mk' (more,ou) ?_ (by (repeat (first|exact km|refine kp rfl ?_|refine km' rfl ?_))) (by simp(disch:=omega)) ⟨hol,hos,hmf,rfl⟩;have hcl2:ou.count true<=ws.length:=by rw[<-hol];exact count_le_length
   cases more with
   | false=>simp[msr];omega
   | true=>
    have:=hmt rfl;simp[msr];omega
theorem AV(v:Value)(ws:List B8)(a n:Nat)(M:Mem)(R:VP)(hv:Rd M v (strs ws))(hm:aY ws=true)(hal:a<ws.length)(hn60:n<=60)
  (h:R (.tuple #[str (if JG ws a then grF ws n n [ltr a] else []),.bool (JG ws a)]) M):ar prog 198 [.agg #[v],.int .i64 a,.int .i64 n] M R:=by
 have h15:=aV hm;refine fnS func198 rfl ntmps198 results198 ?_;obtain⟨aa,c,rfl,ha⟩:=hv.opened;rw[ah]at ha hv ⊢;rcases ha with hz|⟨b,o,rfl,ha⟩
 ·omega
 have hg:=ha a hal;rw[ba,gEl hal]at hg;have hgr:ws.getD a []=ws[a]:=by rw[gDe,gEl hal];rfl
 rw[<-hgr]at hg;have hg:M.get? b (o+a)=some (str (ws.getD a [])):=hg;have hrl:=vw hm hal;have hrow12:(ws.getD a []).length<=12:=by rw[hgr];exact(bL hm (getElem_mem hal)).1
 have hgrow:=fun u hu hd=>H0 (u:=u) hm hal hu hd;have hok:JG ws a=match ws.getD a [] with
  | []=>false
  | x::u=>x==ltr a && !u.all (dead ws ws.length):=rfl
 obtain⟨row,hrow⟩:∃ row,row=ws.getD a []:=⟨_,rfl⟩;rw[<-hrow]at hg hrl hrow12 hok;have hrn:=zc (i:=a) (by omega);simp(disch:=omega);intro b1 hb1;have hs1:Sub M (M.put b1 (.cells true [.slice (some ⟨b,o,none⟩) ws.length c] 1)):=(Sub.refl M).put hb1 _;have hv1:=hv.put hb1 (.cells true [.slice (some ⟨b,o,none⟩) ws.length c] 1);have k1:(M.put b1 (.cells true [.slice (some ⟨b,o,none⟩) ws.length c] 1)) b1=some (.cells true [.slice (some ⟨b,o,none⟩) ws.length c] 1):=ag _ _ _
 try simp(disch:=omega)
 generalize M.put b1 (.cells true [.slice (some ⟨b,o,none⟩) ws.length c] 1)=N1 at *;simp(disch:=omega)[uP,hrn,aq k1];refine Az _ ws _ _ hv1 hm ?_;intro b2 N2 hs2 k2;have l1:=hs2 _ _ k1;have hg2:=aX hg (hs1.trans hs2);have hv2:=hv1.sub hs2;have hs:=hs1.trans hs2;cases row with
 | nil=>
  rw[hok]at h;simp(disch:=omega)[al l1,hg2];exact ae hs h
 | cons x u=>
  by_cases hx:x=ltr a
  ·subst hx;simp only[beq_self_eq_true,Bool.true_and]at hok;have hul:u.length<=11:=by simp only[length_cons]at hrow12;omega
   simp(disch:=omega)[al l1,hg2];refine aP aR (rlA [9,11] 34 25) (fun j:Nat=>[(11,.int .i64 ((j:Int)+1)),(9,.bool (!KA ws u j))]) (fun j M'=>j<=u.length/\M'=N2) (fun j=>u.length-j) 0 (by kernel_rfl) (by simp(disch:=omega)[MW]) ⟨lZe _,rfl⟩ ?_
   rintro j M' g ⟨hj,rfl⟩
   by_cases hjl:j<u.length
   ·have hat:=MA ws u hjl;have hcl:=hrl _ (mem_cons_of_mem _ (getElem_mem hjl));have hx1:(ltr a::u)[j+1]?=some u[j]:=by rw[getElem?_cons_succ,gEl hjl]
    have hdv:=Nb hcl;have hk:((u[j].toNat:Int)-97).toNat=u[j].toNat-97:=by omega
    have hu:=u[j].toNat_lt;have hdl:(bls (wx ws)).length=ws.length:=by rw[zp,rI]
    have ej:((j:Int)+1).toNat=j+1:=by omega
    generalize dead ws ws.length u[j]=dv at *;generalize KA ws u j=acc at *;cases acc with
    | false=>
     simp(disch:=omega)[al l1,hg2];exact rndA (j+1) (by simp(disch:=omega)[hat]) ⟨by omega,rfl⟩
    | true=>
     simp(disch:=omega)[al l1,hg2,hx1,hk,ej,al k2,atI hdv];exact rndA (j+1) (by simp(disch:=omega)[hat]) ⟨by omega,rfl⟩
   ·have hj':j=u.length:=by omega
    subst hj';rw[OX];cases hd:u.all (dead ws ws.length) with
    | true=>
     rw[hok,hd]at h;simp(disch:=omega)[al l1,hg2];exact ae hs h
    | false=>
     rw[hok,hd]at h;simp only[Bool.not_false,if_true]at h;have hgl:=hgrow u hrow.symm hd;simp(disch:=omega)[al l1,hg2];refine lupS (rlA [8] 61 7) (fun x:B8=>[(8,str x)]) (fun x M1=>M1=M'/\x.length<=720/\∃ j f,x=itr ws j [ltr a]/\n<=x.length+f/\grF ws n f x=grF ws n n [ltr a]) (fun x=>n-x.length) [ltr a] ⟨rfl,by simp,0,n,rfl,by omega,rfl⟩ ?_
     rintro x M1 g1 ⟨rfl,hxl,j,f,hx,hnf,he⟩
     have hxt:Lt ws x:=by
      rw[hx];exact JM hm (fun c hc=>by rw[List.mem_singleton.1 hc,gE (by omega)];omega) j
     have hlj:=hgl j;have hnx:aQ ws x=itr ws (j+1) [ltr a]:=by rw[hx];rfl
     rw[<-hnx,<-hx]at hlj;by_cases hlt:x.length<n
     ·obtain⟨f,rfl⟩:∃ f',f=f'+1:=⟨f-1,by omega⟩;have he2:grF ws n (f+1) x=grF ws n f (aQ ws x):=if_pos hlt;have hil:=iN hm hxt;simp(disch:=omega)[aq l1];refine kL _ ws x _ _ hv2 hm (by omega) hxt ?_;simp(disch:=omega);exact rndS (aQ ws x) ⟨rfl,by omega,⟨j+1,hnx⟩,f,by omega,by rw[<-he2];exact he⟩
     ·rw[Lm hlt]at he;rw[<-he]at h;simp(disch:=omega);exact ae hs h
  ·have e4:(x==ltr a)=false:=bNe.2 hx;simp only[e4,Bool.false_and]at hok;rw[hok]at h;simp(disch:=omega)[al l1,hg2,e4];exact ae hs h
theorem Aj(v:Value)(ws:List B8)(a n:Int)(M:Mem)(R:VP)(hv:Rd M v (strs ws))(hf:cP ws)(hn:ws.length<=1099511627776)(h:R (aE (str (grT ws a n)) (grC ws a n)) M):ar prog 124 [.agg #[v],.int .i64 a,.int .i64 n] M R:=by
 refine fnS func124 rfl ntmps124 results124 ?_;obtain⟨aa,c,rfl,ha⟩:=hv.opened;rw[ah]at ha hv ⊢;simp(disch:=omega);intro b3 hb3;have hs3:Sub M (M.put b3 (.cells true [.slice aa ws.length c] 1)):=(Sub.refl M).put hb3 _;have hv3:=hv.put hb3 (.cells true [.slice aa ws.length c] 1);have k3:(M.put b3 (.cells true [.slice aa ws.length c] 1)) b3=some (.cells true [.slice aa ws.length c] 1):=ag _ _ _;simp(disch:=omega);generalize M.put b3 (.cells true [.slice aa ws.length c] 1)=N1 at *;refine oG _ ws a _ _ hv3 hf hn ?_;have hin:=Fk ws a n 60;unfold grT grC at h;by_cases ht:nv ws a=0
 ·rw[if_pos ht]at hin;rw[ht];simp(disch:=omega);refine cg _ _ _ _ _ ?_;by_cases hk:0<=n/\n<=60
  ·rw[if_pos hk]at hin;rw[decide_eq_true hk];obtain⟨hm,ha0,ha1,hk0,hk1⟩:=gF hin;rw[if_pos hin,if_pos hin]at h;obtain⟨a,rfl⟩:∃ m:Nat,a=m:=⟨a.toNat,by omega⟩;obtain⟨n,rfl⟩:∃ m:Nat,n=m:=⟨n.toNat,by omega⟩;rw[Int.toNat_natCast,Int.toNat_natCast]at h;simp(disch:=omega)[aq k3];refine AV _ ws a n _ _ hv3 hm (by omega) (by omega) ?_;cases hok:JG ws a with
   | true=>
    rw[hok]at h;simp only[if_true]at h ⊢;simp(disch:=omega);exact ae hs3 h
   | false=>
    rw[hok]at h;simp(disch:=omega);exact ae hs3 h
  ·rw[if_neg hk]at hin;rw[decide_eq_false hk];rw[hin]at h;simp(disch:=omega);exact ae hs3 h
 ·rw[if_neg ht]at hin;rw[hin,if_neg ht,if_neg ht]at h;have hb:(nv ws a==0)=false:=bNe.2 ht;generalize nv ws a=code at *;simp(disch:=omega)[hb];exact ae hs3 h
end Go.Proofs.YtapimhjbilkfpaaGreatDoor
