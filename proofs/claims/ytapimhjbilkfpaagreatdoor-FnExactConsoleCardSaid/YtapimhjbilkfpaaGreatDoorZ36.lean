/- Lemmas for FnExactConsole, part 37 of 46. -/
import Derived.Test.YtapimhjbilkfpaaGreatDoorZ35
import Derived.Test.YtapimhjbilkfpaaGreatDoorZ04
set_option linter.unusedVariables false
set_option linter.unusedSimpArgs false
namespace Go.Proofs.YtapimhjbilkfpaaGreatDoor
open Go Go.Proofs.Tryz List
theorem NX:∃ I,prog.info? 2=some I/\I.zero=some (.int .i64 0):=by
 have h:(prog.info? 2).map (fun i=>i.zero)=some (some (.int .i64 0)):=by kernel_rfl
 cases hi:prog.info? 2 with
 | none=>rw[hi]at h;cases h
 | some I=>rw[hi]at h;exact⟨I,rfl,by simpa using h⟩
theorem DH:prog.underlying 201=some (.map 2 2):=by kernel_rfl
theorem Jy:prog.underlying 2=some (.int .i64):=by kernel_rfl
set_option maxHeartbeats 2000000 in
theorem vZ(p q:Int)(M:Mem)(R:VP)(h:∀ M',Sub M M'->R (.tuple #[str (iw p q),.int .i64 (gP p q)]) M'):ar prog 165 [.int .i64 p,.int .i64 q] M R:=by
 refine fnS func165 rfl ntmps165 results165 ?_;simp(disch:=omega);refine bE p _ _ _ _ ?_;by_cases hp:1<=p/\p<=60
 ·simp(disch:=omega)[hp];refine bE q _ _ _ _ ?_;by_cases hq:1<=q/\q<=60
  ·obtain⟨a,rfl⟩:∃ a:Nat,p=a:=⟨p.toNat,by omega⟩;obtain⟨b,rfl⟩:∃ b:Nat,q=b:=⟨q.toNat,by omega⟩;simp(disch:=omega)[hq];refine sC a b _ _ (by omega) (by omega) (by omega) (by omega) ?_;have hNn:j9 (a:Int).toNat (b:Int).toNat=j9 a b:=by rw[Int.toNat_natCast,Int.toNat_natCast]
   by_cases hn:60<j9 a b
   ·have hnI:(60:Int)<(j9 a b:Nat):=by omega
    have hc:gP a b=3:=by unfold gP;rw[if_pos ⟨hp,hq⟩,hNn,if_pos hn]
    have ht:iw a b=[]:=by unfold iw;rw[hc,if_neg (by decide)]
    have h0:=h M (Sub.refl M);rw[hc,ht]at h0;simp(disch:=omega)[hnI];exact ad h0
   ·have hnI:¬(60:Int)<(j9 a b:Nat):=by omega
    simp(disch:=omega)[hnI];refine Io (fun r hr=>?_);have kr:=ag M r (qu #[] 0);have sr:=(Sub.refl M).put hr (qu #[] 0);have hI0:yo #[] (kA (lk (j9 a b) a b) 0):=rfl;obtain⟨n,hnE⟩:∃ n,n=j9 a b:=⟨_,rfl⟩;rw[<-hnE]at hn hnI hI0 hNn;simp(disch:=omega);rw[<-hnE];refine DM n a b _ _ (by omega) (by omega) (by omega) (by omega) (by omega) ?_;intro v M1 s1 hv;have kr1:=s1 _ _ kr;have sM:=sr.trans s1;have hcd:gP a b=if 5<dE (lk n a b) n then 3 else 0:=by
     unfold gP;rw[if_pos ⟨hp,hq⟩,hNn,if_neg hn,Int.toNat_natCast,Int.toNat_natCast]
    have htd:iw a b=if gP a b=0 then fR (lk n a b) n else []:=by
     unfold iw;rw[hNn,Int.toNat_natCast,Int.toNat_natCast]
    rw[htd,hcd]at h;clear htd hcd;generalize lk n a b=c at *;obtain⟨x1,x2,hv1,hv2⟩:=hv.opened;have hln:(ints (bw n (dK c))).length=n:=cL n _;rw[hln]at hv1 hv2;subst hv1;simp(disch:=omega);refine aQ aR [4,5,8,10,11,12,32,33,34,35,36,37,38,39,40,41,42,43,44,45,46,47,48,49,50,51,52,53,54,55] (fun i:Nat=>[(32,.int .i64 (i:Nat)),(8,str (fR c i))]) (fun i N'=>i<=n/\Sub M N'/\(∃ es cn,N' r=some (qu es cn)/\yo es (kA c i))/\Rd N' (.slice x1 n x2) (ints (bw n (dK c)))/\dE c i<=5) (fun i=>n-i) 0 (by kernel_rfl) (by simp(disch:=omega)[fR]) ⟨Nat.zero_le _,sM,⟨_,_,kr1,hI0⟩,hv,Nat.zero_le _⟩ ?_
    rintro i N g ⟨hi,sN,⟨es,cn,kN,hI⟩,hvN,h5⟩
    by_cases hin:i<n
    ·have hinI:(i:Int)<(n:Nat):=by omega
     have hat:(ints (bw n (dK c)))[i]?=some (.int .i64 (c i:Nat)):=dY hin;obtain⟨I,hI1,hI2⟩:=NX;obtain⟨q1,q2,hqe,hap⟩:=hvN.opened;rw[hln]at hqe hap;injection hqe with e1 e2 e3
     subst e1;subst e3;rcases hap with hz|⟨bp,op,e4,hap⟩
     ·omega
     subst e4;have hg:=hap i hin;rw[hat]at hg;have hns:=oJ c i;simp(disch:=omega)[hinI,hg];refine LD (kt:=2) (et:=2) (k:=((c i:Nat):Int)) DH Jy hI1 hI2 (by simp(disch:=omega)) (by simp(disch:=omega)) kN hI ?_;by_cases hf:frs c i=i
     ·rw[if_pos hf]at hns;have hmh:=OR hf;have hsz:=hI.size;rw[Pz]at hsz;generalize OD (kA c i) ((c i:Nat):Int)=own0;simp(disch:=omega)[hmh];refine Le (kt:=2) (et:=2) DH (by simp(disch:=omega)) kN ?_;rw[hsz];simp(disch:=omega);refine Mt (kt:=2) (et:=2) (k:=((c i:Nat):Int)) (v:=((dE c i:Nat):Int)) DH Jy (by simp(disch:=omega)) (by simp(disch:=omega)) (by simp(disch:=omega)) kN hI hmh ?_;intro es' hI';rw[<-Pm hf]at hI';have sN':=sN.ovr hr (qu es' (cn+1));have kN':=ag N r (qu es' (cn+1));have hbr:bp≠r:=by
       rintro rfl
       have:=hg;unfold Mem.get? at this;rw[kN]at this;cases this
      have hvN':Rd (N.put r (qu es' (cn+1))) (.slice (some ⟨bp,op,none⟩) n x2) (ints (bw n (dK c))):=by
       rcases hvN with ⟨_,_,z1,z2⟩|⟨y1,y2,y3,z1,z2,z3⟩
       ·rw[z2]at hln;rw[<-hln]at hin;cases hin
       ·injection z1 with w1 w2 w3
        injection w1 with w1
        injection w1 with w4 w5
        refine .inr ⟨bp,op,x2,by rw[hln],?_,by rw[w3];exact z3⟩;rw[<-z2,<-w4,<-w5];unfold Mem.sub?;rw[ai _ _ hbr]
      by_cases h5b:5<=dE c i
      ·have h5I:(5:Int)<=(dE c i:Nat):=by omega
       have hm:=ob c (i:=i+1) (j:=n) (by omega);rw[if_pos (show 5<dE c n by omega),if_neg (by decide)]at h;simp(disch:=omega)[h5I,al];exact ad (h _ sN')
      ·have h5I:¬(5:Int)<=(dE c i:Nat):=by omega
       have hlw:=uF c i;rw[CH hf]at hlw;have hwl:=sR c i;simp(disch:=omega)[h5I,al];refine cN (dE c i) _ _ (by omega) ?_;simp(disch:=omega)[hwl];exact rndA (i+1) (by simp(disch:=omega)[hlw]) ⟨by omega,sN',⟨es',⟨cn+1,kN'⟩,hI'⟩,hvN',by omega⟩
     ·rw[if_neg hf]at hns;obtain⟨hmh,hmv⟩:=Ps hf;have hlt:=Hs c (i:=i) (j:=i+1) (by omega);have h5I:¬(5:Int)<=(lab c i:Nat):=by omega
      have hlw:=uF c i;have hwl:=sR c i;simp(disch:=omega)[hmh,hmv,h5I];refine cN (lab c i) _ _ (by omega) ?_;simp(disch:=omega)[hwl];exact rndA (i+1) (by simp(disch:=omega)[hlw]) ⟨by omega,sN,⟨es,⟨cn,kN⟩,by rw[Pf hf];exact hI⟩,hvN,by omega⟩
    ·have hinI:¬(i:Int)<(n:Nat):=by omega
     have hiE:i=n:=by omega
     rw[if_neg (show ¬ 5<dE c n by rw[<-hiE];omega),if_pos rfl]at h;subst hiE;simp(disch:=omega);exact ad (h _ sN)
  ·have hc:gP p q=2:=by unfold gP;rw[if_neg (fun e=>hq e.2)]
   have ht:iw p q=[]:=by unfold iw;rw[hc,if_neg (by decide)]
   have h0:=h M (Sub.refl M);rw[hc,ht]at h0;simp(disch:=omega)[hq];exact ad h0
 ·have hc:gP p q=2:=by unfold gP;rw[if_neg (fun e=>hp e.1)]
  have ht:iw p q=[]:=by unfold iw;rw[hc,if_neg (by decide)]
  have h0:=h M (Sub.refl M);rw[hc,ht]at h0;simp(disch:=omega)[hp];exact ad h0
theorem Pt(a:Nat)(c:Nat->Nat):jS a a c=c:=by
 funext k
 unfold jS;split
 ·rename_i h;exact h.symm
 ·rfl
theorem Ls(i:Nat)(g:Nat->Int):ints (bw i g)++[.int .i64 (g i)]=ints (bw (i+1) g):=by
 unfold bw ints;rw[range_succ,map_append,map_append];rfl
def pqS(p q:Nat):Nat->Nat
 | 0=>p
 | _=>q
def inS(n p q t:Nat)(c:Nat->Nat):Nat->Nat->Nat
 | 0=>c
 | 1=>stS n p t c
 | _=>stS n q t (stS n p t c)
theorem Pk{n p q t j:Nat}{c:Nat->Nat}(hj:j<2):stS n (pqS p q j) t (inS n p q t c j)=inS n p q t c (j+1):=by
 match j,hj with
 | 0,_=>rfl
 | 1,_=>rfl
theorem KO{n p q t j:Nat}{c:Nat->Nat}(hb:fe n c)(ht:t<n)(hg:jP n p q c):fe n (inS n p q t c j):=by
 match j with
 | 0=>exact hb
 | 1=>exact(kD hg hb (.inl rfl) ht).2
 | j+2=>exact(kD (kD hg hb (.inl rfl) ht).1 (kD hg hb (.inl rfl) ht).2 (.inr rfl) ht).2
theorem KD(c:Nat->Nat){i k:Nat}(h:k<i):(av (fR c i))[k]?=some (.int .u8 (ltr (lab c k)).toNat):=by
 unfold av fR;rw[getElem?_map,getElem?_map,getElem?_range h];rfl
theorem OW{n:Nat}(h:n<=4):(ltr n).toNat=97+n:=by
 have:n=0\/n=1\/n=2\/n=3\/n=4:=by omega
 rcases this with rfl|rfl|rfl|rfl|rfl<;>rfl
set_option maxHeartbeats 4000000 in
set_option maxRecDepth 4000 in
theorem wm(p q:Int)(M:Mem)(R:VP)(h:∀ M',Sub M M'->R (.tuple #[str (iw p q),.int .i64 (gP p q)]) M'):ar prog 123 [.int .i64 p,.int .i64 q] M R:=by
 refine fnS func123 rfl ntmps123 results123 ?_;simp(disch:=omega);refine bZ p _ _ _ _ ?_;by_cases hp:1<=p/\p<=60
 ·simp(disch:=omega)[hp];refine bZ q _ _ _ _ ?_;by_cases hq:1<=q/\q<=60
  ·obtain⟨a,rfl⟩:∃ a:Nat,p=a:=⟨p.toNat,by omega⟩;obtain⟨b,rfl⟩:∃ b:Nat,q=b:=⟨q.toNat,by omega⟩;simp(disch:=omega)[hq];refine mq a b _ _ (by omega) (by omega) ?_;have hNn:j9 (a:Int).toNat (b:Int).toNat=j9 a b:=by rw[Int.toNat_natCast,Int.toNat_natCast]
   have hi:=Gn (p:=a) (q:=b) (by omega) (by omega);have hgl:=Nat.gcd_le_left b (show 0<a by omega);simp(disch:=omega)[hi];by_cases hn:60<j9 a b
   ·have hnI:(60:Int)<(j9 a b:Nat):=by omega
    have hc:gP a b=3:=by unfold gP;rw[if_pos ⟨hp,hq⟩,hNn,if_pos hn]
    have ht:iw a b=[]:=by unfold iw;rw[hc,if_neg (by decide)]
    have h0:=h M (Sub.refl M);rw[hc,ht]at h0;simp(disch:=omega)[hnI];exact ad h0
   ·have hnI:¬(60:Int)<(j9 a b:Nat):=by omega
    obtain⟨n,hnE⟩:∃ n,n=j9 a b:=⟨_,rfl⟩;have hcd:gP a b=if 5<dE (foS n a b n) n then 3 else 0:=by
     unfold gP;rw[if_pos ⟨hp,hq⟩,hNn,if_neg hn,Int.toNat_natCast,Int.toNat_natCast,<-hnE,FH (Js (n:=n) (p:=a) (q:=b)) (Nat.le_refl _)]
    have htd:iw a b=if gP a b=0 then fR (foS n a b n) n else []:=by
     unfold iw;rw[hNn,Int.toNat_natCast,Int.toNat_natCast,<-hnE,NM (Js (n:=n) (p:=a) (q:=b))]
    rw[htd,hcd]at h;rw[<-hnE]at hn hnI ⊢;clear htd hcd hNn hi hnE;simp(disch:=omega)[hnI];intro b0 hb0;have o0:Own M (.slice (some ⟨b0,0,none⟩) 0 0) (ints (bw 0 (dK id))) (M.put b0 (.cells true [] 0)):=Own.new hb0 rfl (Nat.le_refl 0);simp(disch:=omega);generalize M.put b0 (.cells true [] 0)=N0 at *;generalize Value.slice (some ⟨b0,0,none⟩) 0 0=v0 at *;refine lupS [7,8,39,40,41,42,43,44,45,46,47] (fun x:Nat×Value=>[(8,.int .i64 (x.1:Nat)),(7,x.2)]) (fun x N=>x.1<=n/\Own M x.2 (ints (bw x.1 (dK id))) N) (fun x=>n-x.1) (0,v0) ⟨Nat.zero_le _,o0⟩ ?_
    rintro⟨i,v⟩ N g ⟨hi,ho⟩
    simp only at hi ho;by_cases hlt:i<n
    ·have hltI:(i:Int)<(n:Nat):=by omega
     have htl:=cL i (dK id);simp(disch:=omega)[hltI];intro b' hb';simp(disch:=omega);refine aN ho ((Sub.refl _).put hb' _) (by simp(disch:=omega);rfl) rfl rfl (by omega) (by simp(disch:=omega)) (by simp(disch:=omega)[htl];omega) ?_;intro v' M'' N'' ho' hs';have hsn:ints (bw i (dK id))++[.int .i64 (i:Nat)]=ints (bw (i+1) (dK id)):=Ls i (dK id);rw[hsn]at ho';simp(disch:=omega);exact rndM M'' (i+1,v') hs' ⟨by simp only;omega,ho'⟩
    ·have hltI:¬(i:Int)<(n:Nat):=by omega
     have hin:n=i:=by omega
     subst hin;clear hlt;by_cases hz:n=0
     ·subst hz;have e0:fR (foS 0 a b 0) 0=[]:=rfl;have e1:¬ 5<dE (foS 0 a b 0) 0:=by show ¬ 5<0;omega
      rw[if_neg e1,if_pos rfl,e0]at h;have hv2:Rd N v []:=ho.rd;obtain⟨x1,x2,rfl,_⟩:=hv2.opened;have sN:=ho.sub;simp(disch:=omega);refine lupS [9,11,12,13,14,48,49,50,51,52,53,54,55,56,57,58,59,60,61,62,63,64,65,66,67,68,69,70,71,72,73,74,75,76,77,78,79,80,81,82,83,84,85,86,87,88,89,90,91,92,93,94,95,96,97,98,99,100,101,102,103,104] (fun i:Nat=>[(9,.int .i64 (i:Nat))]) (fun i N'=>N=N'/\i=0) (fun i=>i) 0 ⟨rfl,rfl⟩ ?_
      rintro i N' g1 ⟨rfl,rfl⟩
      simp(disch:=omega);intro b5 hb5;simp(disch:=omega);refine lupS [4,5,15,16,17,18,19,106,107,108,109,110,111,112,113,114,115,116,117,118,119,120,121,122,123,124,125,126,127,128,129,130,131,132,133,134,135,136,137,138,139,140,141,142,143,144,145,146] (fun i:Nat=>[(17,.int .i64 (i:Nat)),(15,.slice (some ⟨b5,0,none⟩) 0 0),(16,.int .i64 0)]) (fun i N'=>N.put b5 (.cells true [] 0)=N'/\i=0) (fun i=>i) 0 ⟨rfl,rfl⟩ ?_
      rintro i N' g2 ⟨rfl,rfl⟩
      simp(disch:=omega);exact ae (sN.putN hb5 _) (h M (Sub.refl M))
     ·rcases ho with ⟨_,e,_⟩|⟨b1,c1,rfl,hb1,hc1,rfl⟩
      ·have:=congrArg length e;rw[cL,length_nil]at this;omega
      rw[cL]at hc1 ⊢;have k1:=ag M b1 (.cells true (ints (bw n (dK id))) c1);have sN:=(Sub.refl M).put hb1 (.cells true (ints (bw n (dK id))) c1);generalize M.put b1 (.cells true (ints (bw n (dK id))) c1)=N at *;simp(disch:=omega);refine lupS [9,11,12,13,14,48,49,50,51,52,53,54,55,56,57,58,59,60,61,62,63,64,65,66,67,68,69,70,71,72,73,74,75,76,77,78,79,80,81,82,83,84,85,86,87,88,89,90,91,92,93,94,95,96,97,98,99,100,101,102,103,104] (fun t:Nat=>[(9,.int .i64 (t:Nat))]) (fun t N'=>t<=n/\Sub M N'/\N' b1=some (.cells true (ints (bw n (dK (foS n a b t)))) c1)) (fun t=>n-t) 0 ⟨Nat.zero_le _,sN,k1⟩ ?_
      rintro t N1 g1 ⟨ht,sN1,u1⟩
      by_cases htn:t<n
      ·have htI:(t:Int)<(n:Nat):=by omega
       simp(disch:=omega)[htI];intro b2 hb2;have hne:b1≠b2:=fun e=>by rw[e]at u1;rw[u1]at hb2;cases hb2
       have sN2:=sN1.putN hb2 (.cells true [.int .i64 (a:Nat),.int .i64 (b:Nat)] 2);have k2:(N1.put b2 (.cells true [.int .i64 (a:Nat),.int .i64 (b:Nat)] 2)) b1=some (.cells true (ints (bw n (dK (foS n a b t)))) c1):=by rw[ai _ _ hne];exact u1
       have k3:=ag N1 b2 (.cells true [.int .i64 (a:Nat),.int .i64 (b:Nat)] 2);simp(disch:=omega);generalize N1.put b2 (.cells true [.int .i64 (a:Nat),.int .i64 (b:Nat)] 2)=N2 at *;obtain⟨f1,f2,_,_⟩:=H7 (n:=n) (p:=a) (q:=b) t ht;have hbelow:=fun j=>KO (n:=n) (p:=a) (q:=b) (t:=t) (j:=j) f2 htn f1;have hfin:inS n a b t (foS n a b t) 2=foS n a b (t+1):=rfl;generalize foS n a b t=c0 at *;refine lupS [11,12,13,14,57,58,59,60,61,62,63,64,65,66,67,68,69,70,71,72,73,74,75,76,77,78,79,80,81,82,83,84,85,86,87,88,89,90,91,92,93,94,95,96,97,98,99,100,101,102,103,104] (fun j:Nat=>[(57,.int .i64 (j:Nat))]) (fun j N'=>j<=2/\Sub M N'/\N' b1=some (.cells true (ints (bw n (dK (inS n a b t c0 j)))) c1)/\N' b2=some (.cells true [.int .i64 (a:Nat),.int .i64 (b:Nat)] 2)) (fun j=>2-j) 0 ⟨Nat.zero_le _,sN2,k2,k3⟩ ?_
       rintro j N3 g3 ⟨hj,sN3,r1,r2⟩
       by_cases hj2:j<2
       ·have hjI:(j:Int)<2:=by omega
        have hsg:N3.get? b2 j=some (.int .i64 (pqS a b j:Nat)):=by
         rw[aj r2]
         match j,hj2 with
         | 0,_=>rfl
         | 1,_=>rfl
        have hst:=Pk (n:=n) (p:=a) (q:=b) (t:=t) (c:=c0) hj2;have hbl:=hbelow j;have hs6:pqS a b j<=60:=by unfold pqS;split<;>omega
        generalize inS n a b t c0 j=c at *;generalize pqS a b j=s at *;obtain⟨m,hm⟩:∃ m,m=t+s:=⟨_,rfl⟩;have hmI:(t:Int)+(s:Nat)=(m:Nat):=by omega
        have hstm:stS n s t c=if m<n then jS (c t) (c m) c else c:=by rw[hm];rfl
        have hl1:=cL n (dK c);have gt:N3.get? b1 t=some (.int .i64 (c t:Nat)):=by rw[aj r1,dY htn];rfl
        by_cases hmn:m<n
        ·rw[if_pos hmn]at hstm;have gm:N3.get? b1 m=some (.int .i64 (c m:Nat)):=by rw[aj r1,dY hmn];rfl
         have hmI2:¬(n:Int)<=(m:Nat):=by omega
         by_cases hcc:c t=c m
         ·rw[hcc,Pt]at hstm;have hccI:((c t:Nat):Int)=(c m:Nat):=by omega
          simp(disch:=omega)[hjI,hsg];refine plyS (ak [0,1,2,3,4,5,6,7,8,9,10,11,12,13,14,15,16,17] .fin) ?_;simp(disch:=omega)[hmI,hmI2,gt,gm,hcc];exact rndS (j+1) ⟨by omega,sN3,by rw[<-hst,hstm];exact r1,r2⟩
         ·have hccI:¬((c t:Nat):Int)=(c m:Nat):=by omega
          simp(disch:=omega)[hjI,hsg];refine plyS (ak [0,1,2,3,4,5,6,7,8,9,10,11,12,13,14,15,16,17] .fin) ?_;simp(disch:=omega)[hmI,hmI2,gt,gm,beq_eq_false_iff_ne.2 hccI];refine plyS (ak [0,1,2,3,4,5,6,7,8,9,10,11] .fin) ?_;simp(disch:=omega)[hmI,gt,gm];refine lupS [14,89,90,91,92,93,94,95,96,97,98,99,100,101,102,103] (fun k:Nat=>[(14,.int .i64 (k:Nat))]) (fun k N'=>k<=n/\Sub M N'/\N' b1=some (.cells true (ints (bw n (dK (part (c t) (c m) c k)))) c1)/\N' b2=some (.cells true [.int .i64 (a:Nat),.int .i64 (b:Nat)] 2)) (fun k=>n-k) 0 ⟨Nat.zero_le _,sN3,by rw[Bd];exact r1,r2⟩ ?_
          rintro k N5 g5 ⟨hk,sN5,x1,x2⟩
          by_cases hkn:k<n
          ·have hkI:(k:Int)<(n:Nat):=by omega
           have hl2:=cL n (dK (part (c t) (c m) c k));have gk:N5.get? b1 k=some (.int .i64 (c k:Nat)):=by
            rw[aj x1,dY hkn];unfold dK part;rw[if_neg (by omega)]
           by_cases hcb2:c k=c m
           ·have hcI:((c k:Nat):Int)=(c m:Nat):=by omega
            simp(disch:=omega)[hkI,gk,hcI,x1,hl2,al,gE];refine rndS (k+1) ⟨by omega,sN5.ovr hb1 _,?_,?_⟩
            ·rw[ag,GJ hcb2]
            ·rw[ai _ _ (Ne.symm hne)];exact x2
           ·have hcI:¬((c k:Nat):Int)=(c m:Nat):=by omega
            simp(disch:=omega)[hkI,gk,beq_eq_false_iff_ne.2 hcI];exact rndS (k+1) ⟨by omega,sN5,by rw[A9 hcb2];exact x1,x2⟩
          ·have hkE:k=n:=by omega
           have hkI:¬(k:Int)<(n:Nat):=by omega
           rw[hkE]at x1;rw[dI Er]at x1;simp(disch:=omega)[hkI];exact rndS (j+1) ⟨by omega,sN5,by rw[<-hst,hstm];exact x1,x2⟩
        ·rw[if_neg hmn]at hstm;have hmI2:(n:Int)<=(m:Nat):=by omega
         simp(disch:=omega)[hjI,hsg];refine plyS (ak [0,1,2,3,4,5,6,7,8,9,10,11,12,13,14,15,16,17] .fin) ?_;simp(disch:=omega)[hmI,hmI2,undef];exact rndS (j+1) ⟨by omega,sN3,by rw[<-hst,hstm];exact r1,r2⟩
       ·have hj2:j=2:=by omega
        subst hj2;simp(disch:=omega);exact rndS (t+1) ⟨by omega,sN3,by rw[<-hfin];exact r1⟩
      ·have hte:t=n:=by omega
       have htI:¬(t:Int)<(n:Nat):=by omega
       subst hte;generalize foS t a b t=c at *;simp(disch:=omega);intro b5 hb5;have hne:b1≠b5:=fun e=>by rw[e]at u1;rw[u1]at hb5;cases hb5
       have o5:Own N1 (.slice (some ⟨b5,0,none⟩) 0 0) (av (fR c 0)) (N1.put b5 (.cells true [] 0)):=Own.new hb5 rfl (Nat.le_refl 0);simp(disch:=omega);generalize N1.put b5 (.cells true [] 0)=N6 at *;generalize Value.slice (some ⟨b5,0,none⟩) 0 0=v5 at *;refine aQ aR [4,5,15,16,17,18,19,106,107,108,109,110,111,112,113,114,115,116,117,118,119,120,121,122,123,124,125,126,127,128,129,130,131,132,133,134,135,136,137,138,139,140,141,142,143,144,145,146] (fun x:Nat×Value=>[(17,.int .i64 (x.1:Nat)),(15,x.2),(16,.int .i64 (dE c x.1:Nat))]) (fun x N'=>x.1<=t/\dE c x.1<=5/\Own N1 x.2 (av (fR c x.1)) N') (fun x=>t-x.1) (0,v5) (by kernel_rfl) (by simp(disch:=omega)[dE]) ⟨Nat.zero_le _,Nat.zero_le _,o5⟩ ?_
       rintro⟨i,v⟩ N7 g7 ⟨hi,h5,ho⟩
       simp only at hi h5 ho;have hlw:=sR c i;by_cases hit:i<t
       ·have hitI:(i:Int)<(t:Nat):=by omega
        have u7:=ho.sub _ _ u1;have hrt:=cL t (dK c);have hns:=oJ c i;simp(disch:=omega)[hitI];refine lupS [18,19,112,113,114,115,116,117,118,119,120,121,122,123,124,125,126,127,128,129,130,131,132,133] (fun x:Nat×UInt8=>[(19,.int .i64 (x.1:Nat)),(18,.int .u8 x.2.toNat)]) (fun x N'=>N7=N'/\x.1<=i/\((x.2=0/\∀ j,j<x.1->c j≠c i)\/(x.2=ltr (lab c i)/\frs c i<i))) (fun x=>i-x.1) (0,0) ⟨rfl,Nat.zero_le _,.inl ⟨rfl,fun j hj=>by omega⟩⟩ ?_
        rintro⟨k,l⟩ N8 g8 ⟨rfl,hk,hl⟩
        simp only at hk hl;have hls:=uF c i;rcases hl with ⟨rfl,hno⟩|⟨rfl,hf⟩
        ·by_cases hki:k<i
         ·have hkI:(k:Int)<(i:Nat):=by omega
          have gk:N7.get? b1 k=some (.int .i64 (c k:Nat)):=by rw[aj u7,dY (by omega)];rfl
          have gi:N7.get? b1 i=some (.int .i64 (c i:Nat)):=by rw[aj u7,dY hit];rfl
          by_cases e:c k=c i
          ·have hlk:=JI hki e;have hfr:frs c i<i:=by
            obtain⟨q1,q2,q3⟩:=nQ c i;rcases Nat.lt_or_ge k (frs c i) with q|q
            ·exact absurd e (q3 k q)
            ·omega
           have gl:=KD c hki;rw[<-hlk]at gl;rcases ho with ⟨_,he,_⟩|⟨b3,c3,rfl,hM,hc,rfl⟩
           ·rw[he]at gl;cases gl
           have gl2:(N1.put b3 (.cells true (av (fR c i)) c3)).get? b3 k=some (.int .u8 (ltr (lab c i)).toNat):=by
            rw[aj (ag N1 b3 _)];exact gl
           have hbl:(av (fR c i)).length=i:=by rw[aS,hlw]
           rw[hbl]at hc;generalize N1.put b3 (.cells true (av (fR c i)) c3)=N9 at *;generalize ltr (lab c i)=L at *;simp(disch:=omega)[hkI];refine plyS (ak [0,1,2,3,4,5,6,7,8] .fin) ?_;simp(disch:=omega)[gk,gi,e,gl2];exact rndS (k+1,L) ⟨rfl,by simp only;omega,.inr ⟨rfl,hfr⟩⟩
          ·have hcI:¬((c k:Nat):Int)=(c i:Nat):=by omega
           simp(disch:=omega)[hkI];refine plyS (ak [0,1,2,3,4,5,6,7,8] .fin) ?_;simp(disch:=omega)[gk,gi,beq_eq_false_iff_ne.2 hcI];exact rndS (k+1,0) ⟨rfl,by simp only;omega,.inl ⟨rfl,fun j hj=>by
            by_cases e2:j=k
            ·rw[e2];exact e
            ·exact hno j (by simp only at hj;omega)⟩⟩
         ·have hkE:k=i:=by omega
          have hkI:¬(k:Int)<(i:Nat):=by omega
          rw[hkE]at hno;have hf:frs c i=i:=ze (Nat.le_refl _) rfl hno;rw[if_pos hf]at hns;rw[CH hf]at hls;by_cases h5b:dE c i=5
          ·have hm:=ob c (i:=i+1) (j:=t) (by omega);rw[if_pos (show 5<dE c t by omega),if_neg (by decide)]at h;simp(disch:=omega)[hkI,undef,h5b];exact ad (h _ (sN1.trans ho.sub))
          ·have h5I:¬((dE c i:Nat):Int)=5:=by omega
           have hval:(97:Int)+(dE c i:Nat)=((ltr (dE c i)).toNat:Nat):=by rw[OW (by omega)];omega
           have hn9:dE c i<=4:=by omega
           simp(disch:=omega)[hkI,undef,beq_eq_false_iff_ne.2 h5I,hval];intro b' hb';simp(disch:=omega);refine aN ho ((Sub.refl _).put hb' _) (by simp(disch:=omega);rfl) rfl rfl (by first|omega|(simp(disch:=omega)<;>omega)) (by simp(disch:=omega)) (by simp(disch:=omega)[hlw];omega) ?_;intro v' M'' N'' ho' hs';rw[lD,<-hls]at ho';simp(disch:=omega);exact rndB M'' (i+1,v') hs' (by simp(disch:=omega)[hns]) ⟨by simp only;omega,by simp only;omega,ho'⟩
        ·rw[if_neg (by omega)]at hns;have hlt5:=Hs c (i:=i) (j:=i+1) (by omega);have hL0:¬(((ltr (lab c i)).toNat:Nat):Int)=0:=by rw[OW (by omega)];omega
         generalize ltr (lab c i)=L at *;by_cases hki:k<i
         ·have hkI:(k:Int)<(i:Nat):=by omega
          simp(disch:=omega)[hkI,beq_eq_false_iff_ne.2 hL0];intro b' hb';simp(disch:=omega);refine aN ho ((Sub.refl _).put hb' _) (by simp(disch:=omega);rfl) rfl rfl (by first|omega|(simp(disch:=omega)<;>omega)) (by simp(disch:=omega)) (by simp(disch:=omega)[hlw];omega) ?_;intro v' M'' N'' ho' hs';rw[lD,<-hls]at ho';simp(disch:=omega);exact rndB M'' (i+1,v') hs' (by simp(disch:=omega)[hns]) ⟨by simp only;omega,by simp only;omega,ho'⟩
         ·have hkI:¬(k:Int)<(i:Nat):=by omega
          simp(disch:=omega)[hkI,undef,beq_eq_false_iff_ne.2 hL0];intro b' hb';simp(disch:=omega);refine aN ho ((Sub.refl _).put hb' _) (by simp(disch:=omega);rfl) rfl rfl (by first|omega|(simp(disch:=omega)<;>omega)) (by simp(disch:=omega)) (by simp(disch:=omega)[hlw];omega) ?_;intro v' M'' N'' ho' hs';rw[lD,<-hls]at ho';simp(disch:=omega);exact rndB M'' (i+1,v') hs' (by simp(disch:=omega)[hns]) ⟨by simp only;omega,by simp only;omega,ho'⟩
       ·have hie:i=t:=by omega
        have hitI:¬(i:Int)<(t:Nat):=by omega
        subst hie;rw[if_neg (show ¬ 5<dE c i by omega),if_pos rfl]at h;have hs:=sN1.trans ho.sub;rcases ho with ⟨rfl,he,rfl⟩|⟨b2,c2,rfl,hM,hc,rfl⟩
        ·have e0:fR c i=[]:=by cases hr:fR c i<;>simp[hr,av]at he ⊢
         rw[e0]at h;simp(disch:=omega)[hitI];exact ad (h _ hs)
        ·have htk:take (fR c i).length (av (fR c i))=av (fR c i):=take_of_length_le (by rw[aS];exact Nat.le_refl _);rw[hlw]at htk;simp(disch:=omega)[hitI,htk,hlw,mE];exact ad (h _ hs)
  ·have hc:gP p q=2:=by unfold gP;rw[if_neg (fun e=>hq e.2)]
   have ht:iw p q=[]:=by unfold iw;rw[hc,if_neg (by decide)]
   have h0:=h M (Sub.refl M);rw[hc,ht]at h0;simp(disch:=omega)[hq];exact ad h0
 ·have hc:gP p q=2:=by unfold gP;rw[if_neg (fun e=>hp e.1)]
  have ht:iw p q=[]:=by unfold iw;rw[hc,if_neg (by decide)]
  have h0:=h M (Sub.refl M);rw[hc,ht]at h0;simp(disch:=omega)[hp];exact ad h0
end Go.Proofs.YtapimhjbilkfpaaGreatDoor
