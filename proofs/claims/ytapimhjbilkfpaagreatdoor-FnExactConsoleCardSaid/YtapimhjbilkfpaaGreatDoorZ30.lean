/- Lemmas for FnExactDeskAfter, part 31 of 33. -/
import Derived.Test.YtapimhjbilkfpaaGreatDoorZ29
set_option linter.unusedVariables false
set_option linter.unusedSimpArgs false
namespace Go.Proofs.YtapimhjbilkfpaaGreatDoor
open Go Go.Proofs.Tryz List
theorem dp{M N M4:Mem}{v:Value}{xs:List Value}(hs:Sub M N)(o:Own N v xs M4):∃ M',Own M v xs M'/\Sub M' M4/\∀ b B,M b=none->N b=some B->M' b=none:=by
 rcases o with ⟨h1,h2,rfl⟩|⟨b',c,h1,h2,h3,rfl⟩
 ·refine⟨M,?_,hs,fun b B hb _=>hb⟩;rw[h1,h2];exact Own.nil M
 ·refine⟨M.put b' (.cells true xs c),.inr ⟨b',c,h1,bA hs h2,h3,rfl⟩,hs.both b' _,fun b B hb k=>?_⟩;have hne:b≠b':=by rintro rfl;rw[k]at h2;cases h2
  rw[ai _ _ hne];exact hb
theorem Qo{M M':Mem}{v v':Value}{d d':Dk}(hv:Rd M v (strs d.ms))(g:Gv M v d v' d' M'):Rd M' v' (strs d'.ms):=by
 rcases g with ⟨rfl,h2,rfl⟩|o
 ·rw[h2];exact hv
 ·exact o.rd
theorem uu(d:Dk)(v:Value)(M:Mem)(R:VP)(hm:aY d.ms=true)(hv:Rd M v (strs d.ms))(h:∀ v' M',Own M v' (strs d.ms) M'->R (dkV d v') M'):ar prog 33 [dkV d v] M R:=by
 have hf:=aT hv;have hm5:=aV hm;unfold dkV at h ⊢;refine fnS func33 rfl ntmps33 results33 ?_;simp(disch:=omega);intro b1 hb1;have h1:Sub M (M.put b1 (.cells true [str d.w,str d.p,v] 3)):=(Sub.refl M).put hb1 _;simp(disch:=omega);intro b2 hb2;have h2:=hb2;rw[aA]at h2;have sN:=h1.putN hb2 (.cells true [str [],str [],.slice none 0 0] 3);have k1:((M.put b1 (.cells true [str d.w,str d.p,v] 3)).put b2 (.cells true [str [],str [],.slice none 0 0] 3)) b1=some (.cells true [str d.w,str d.p,v] 3):=by rw[ai _ _ (Ne.symm h2.1)];exact ag _ _ _
 have k2:((M.put b1 (.cells true [str d.w,str d.p,v] 3)).put b2 (.cells true [str [],str [],.slice none 0 0] 3)) b2=some (.cells true [str [],str [],.slice none 0 0] 3):=ag _ _ _;generalize (M.put b1 (.cells true [str d.w,str d.p,v] 3)).put b2 (.cells true [str [],str [],.slice none 0 0] 3)=N at *;have hvN:=hv.sub sN;simp(disch:=omega);intro b3 hb3;have o3:Own N (.slice (some ⟨b3,0,none⟩) 0 0) [] (N.put b3 (.cells true [] 0)):=Own.new hb3 rfl (lRf 0);have hs1:=rX (hvN.sub o3.sub) (by rw[ah];omega);have k1':=o3.sub _ _ k1;dsimp only;generalize N.put b3 (.cells true [] 0)=N3 at *;generalize Value.slice (some ⟨b3,0,none⟩) 0 0=e3 at *;simp(disch:=omega)[al k1'];refine aN o3 (Sub.refl _) hs1 rfl rfl (by omega) (dB d.ms) (by rw[ah];simp only[length_nil];omega) ?_;intro v' M'' N'' o' hs';rw[nil_append]at o';have q1:=hs' _ _ (o'.sub _ _ k1);have q2:=hs' _ _ (o'.sub _ _ k2);have hf':=aT o'.rd;obtain⟨M',o4,s4,n4⟩:=dp sN o';have m1:=n4 _ _ hb1 k1;have m2:=n4 _ _ h2.2 k2;have q2':(N''.put b1 (.cells true [str d.w,str d.p,v'] 3)) b2=some (.cells true [str [],str [],.slice none 0 0] 3):=by rw[ai _ _ h2.1];exact q2
 have h:=h v' M' o4;simp(disch:=omega)[q1,q2,aj,hf'];exact ae (((s4.trans hs').ovr m1 _).ovr m2 _) h
theorem EY(d:Dk)(v:Value)(M:Mem)(R:VP)(hd:d.ok)(hv:Rd M v (strs d.ms))(h:R (.bool true) M):ar prog 24 [dkV d v] M R:=by
 obtain⟨hw,hp,hm⟩:=hd;have hw60:=au hw;have hp8:=(bJ hp).2.1;have hfi:cP d.ms:=fun w hw=>by have:=(bL hm hw).1;omega
 have hm5:=(aV hm).2;have hf:=aT hv;unfold dkV;refine fnS func24 rfl ntmps24 results24 ?_;simp(disch:=omega);intro b1 hb1;have s1:=(Sub.refl M).put hb1 (.cells true [str d.w,str d.p,v] 3);have k1:=ag M b1 (.cells true [str d.w,str d.p,v] 3);have hv1:=hv.sub s1;generalize M.put b1 (.cells true [str d.w,str d.p,v] 3)=N at *;simp(disch:=omega)[al k1];refine bg d.w _ _ (by omega) ?_;rw[hw];simp(disch:=omega)[al k1];refine gp d.p _ _ (by omega) ?_;rw[hp];simp(disch:=omega)[aq k1];refine fA v d.ms _ _ hv1 hfi (by omega) ?_;rw[hm];simp(disch:=omega);exact ae s1 h
set_option maxHeartbeats 1000000 in
theorem ff(d:Dk)(v:Value)(l:B8)(M:Mem)(R:VP)(hd:d.ok)(hv:Rd M v (strs d.ms))(hl:l.length<=1500000)
  (h:∀ v' M',Own M v' (strs (eL d l).1.ms) M'->R (.tuple #[dkV (eL d l).1 v',str (eL d l).2]) M'):ar prog 16 [dkV d v,str l] M R:=by
 have hf:=aT hv;have hro:=uZ hd l;unfold dkV at h ⊢;refine fnS func16 rfl ntmps16 results16 ?_;simp(disch:=omega);intro b1 hb1;have h1:Sub M (M.put b1 (.cells true [str d.w,str d.p,v] 3)):=(Sub.refl M).put hb1 _;simp(disch:=omega);intro b2 hb2;have h2:=hb2;rw[aA]at h2;have sN:=h1.putN hb2 (.cells true [str [],str [],.slice none 0 0] 3);have k1:((M.put b1 (.cells true [str d.w,str d.p,v] 3)).put b2 (.cells true [str [],str [],.slice none 0 0] 3)) b1=some (.cells true [str d.w,str d.p,v] 3):=by rw[ai _ _ (Ne.symm h2.1)];exact ag _ _ _
 have k2:((M.put b1 (.cells true [str d.w,str d.p,v] 3)).put b2 (.cells true [str [],str [],.slice none 0 0] 3)) b2=some (.cells true [str [],str [],.slice none 0 0] 3):=ag _ _ _;generalize (M.put b1 (.cells true [str d.w,str d.p,v] 3)).put b2 (.cells true [str [],str [],.slice none 0 0] 3)=N at *;have hvN:=hv.sub sN;simp(disch:=omega)[aq k1];refine EY d v _ _ hd hvN ?_;simp(disch:=omega)[aq k1];refine uu d v _ _ hd.2.2 hvN ?_;intro v2 M2 o2;have s2:=sN.trans o2.sub;have k1:=o2.sub _ _ k1;have k2:=o2.sub _ _ k2;have hv2:=o2.rd;have hf2:=aT hv2;unfold dkV;simp(disch:=omega);refine JV d v2 l _ _ hd hv2 hl ?_;intro d' v' t k M4 hgv hg;have hf':=eD hf2 hgv;have k1':=cU hgv _ _ k1;have k2':=cU hgv _ _ k2;have s4:=s2.trans (cU hgv);have hv4:=Qo hv2 hgv;unfold dkV;simp(disch:=omega);intro b6 hb6;have n16:b1≠b6:=by rintro rfl;rw[k1']at hb6;cases hb6
 have n26:b2≠b6:=by rintro rfl;rw[k2']at hb6;cases hb6
 have k1q:(M4.put b6 (.cells true [str d'.w,str d'.p,v'] 3)) b1=some (.cells true [str d.w,str d.p,v] 3):=by rw[ai _ _ n16];exact k1'
 have k2q:(M4.put b6 (.cells true [str d'.w,str d'.p,v'] 3)) b2=some (.cells true [str [],str [],.slice none 0 0] 3):=by rw[ai _ _ n26];exact k2'
 have k6q:=ag M4 b6 (.cells true [str d'.w,str d'.p,v'] 3);have s5:=s4.putN hb6 (.cells true [str d'.w,str d'.p,v'] 3);have hv5:=hv4.sub ((Sub.refl M4).put hb6 (.cells true [str d'.w,str d'.p,v'] 3));simp(disch:=omega)[hf',aj,aW];generalize M4.put b6 (.cells true [str d'.w,str d'.p,v'] 3)=M5 at *;by_cases hk:k=0
 ·have hr:=KF hg hk;rw[hr]at h hro;have hkb:(k != 0)=false:=by rw[hk];rfl
  simp(disch:=omega)[hkb,aq k6q];refine uu d' v' _ _ hro.2.2 hv5 ?_;intro v7 M7 o7;have q2:=o7.sub _ _ k2q;have hf7:=aT o7.rd;obtain⟨M',o8,s8,n8⟩:=dp s5 o7;have m2:=n8 _ _ h2.2 k2q;have h:=h v7 M' o8;unfold dkV;simp(disch:=omega)[q2,aj,hf7];exact ae (s8.ovr m2 _) h
 ·have hr:=LG hg hk;rw[hr]at h hro;have hvB:=hv.sub s5;simp(disch:=omega)[aq k1q];refine uu d v _ _ hd.2.2 hvB ?_;intro v7 M7 o7;have q2:=o7.sub _ _ k2q;have hf7:=aT o7.rd;obtain⟨M',o8,s8,n8⟩:=dp s5 o7;have m2:=n8 _ _ h2.2 k2q;have h:=h v7 M' o8;unfold dkV;simp(disch:=omega)[q2,aj,hf7];exact ae (s8.ovr m2 _) h
def Vr(M N:Mem)(b2 b5 b6:Nat)(u:Value)(d:Dk)(L:List B8)(c5:Nat):Prop:=
 ∃ M1,Own M u (strs d.ms) M1/\Sub M1 N/\M1 b6=none/\M1 b2=none/\N b6=some (.cells true [str d.w,str d.p,u] 3)/\N b2=some (.cells true [str [],str [],.slice none 0 0] 3)/\N b5=some (.cells true (strs L) c5)
set_option maxHeartbeats 4000000 in
set_option maxRecDepth 4000 in
theorem CS(l:B8)(M:Mem)(R:VP)(hl:l.length<=1500000)(h1:∀ d t v M',eC l=some (d,t)->Own M v (strs d.ms) M'->R (.tuple #[dkV d v,str t,.bool true]) M')
  (h0:eC l=none->R (.tuple #[.agg #[str [],str [],.slice none 0 0],str [],.bool false]) M):ar prog 26 [str l] M R:=by
 refine fnS func26 rfl ntmps26 results26 ?_;simp(disch:=omega);intro b2 hb2;have sN:=(Sub.refl M).put hb2 (.cells true [str [],str [],.slice none 0 0] 3);have k2:=ag M b2 (.cells true [str [],str [],.slice none 0 0] 3);generalize M.put b2 (.cells true [str [],str [],.slice none 0 0] 3)=N at *;simp(disch:=omega);refine q9 l 10 _ _ (by omega) ?_;intro v5 M3 o5;rw[rT]at o5;have hne:=fo 10 l;have hlw:∀ w∈bR l,w.length<=l.length:=HL l;have hLn:=pg 10 l;have hcl:l.count 10<=l.length:=count_le_length;obtain⟨q,hq⟩:∃ q,q=l.count 10:=⟨_,rfl⟩;rw[<-hq]at hLn hcl;have hlast:(spR 10 l)[q]?=some ((spR 10 l).getLast hne):=by
  rw[getLast_eq_getElem,gEl (by omega)]
  congr 2
  omega
 have hlsdef:bR l=if (spR 10 l).getLast hne=[] then (spR 10 l).dropLast else spR 10 l:=rfl
 generalize (spR 10 l).getLast hne=last at *;obtain⟨ls,hls⟩:∃ ls,bR l=ls:=⟨_,rfl⟩;rw[hls]at hlsdef hlw;generalize spR 10 l=L at *;obtain⟨n0,hn0⟩:∃ n0,n0=q+1:=⟨_,rfl⟩;rw[<-hn0]at hLn;rcases o5 with ⟨_,e,_⟩|⟨b5,c5,rfl,hb5,hc5,hM3⟩
 ·have:=congrArg length e;rw[ah,length_nil]at this;omega
 have n25:b2≠b5:=by rintro rfl;rw[k2]at hb5;cases hb5
 have k5:M3 b5=some (.cells true (strs L) c5):=by rw[hM3];exact ag _ _ _
 have s3:Sub M M3:=by rw[hM3];exact sN.putN hb5 _
 have k2:M3 b2=some (.cells true [str [],str [],.slice none 0 0] 3):=by rw[hM3,ai _ _ n25];exact k2
 clear hM3;rw[ah,hLn]at hc5 ⊢;have gl:M3.get? b5 q=some (str last):=by
  rw[al k5];show (strs L)[q]?=_;rw[ba,hlast];rfl
 have hqI:(n0:Int)-1=(q:Nat):=by omega
 have hgL:∀ i,i<n0->(hi:i<L.length)->M3.get? b5 i=some (str L[i]):=fun i _ hi=>by
  rw[al k5];show (strs L)[i]?=_;rw[ba,gEl hi];rfl
 by_cases hle:last=[]
 ·rw[if_pos hle]at hlsdef;have hn:ls.length=q:=by rw[hlsdef,length_dropLast];omega
  have hget:∀ i,i<q->M3.get? b5 i=some (str (ls.getD i [])):=fun i hi=>by
   have hi2:i<L.length:=by omega
   have hx:ls[i]?=some L[i]:=by rw[hlsdef,getElem?_dropLast,if_pos (by omega),gEl hi2]
   rw[hgL i (by omega) hi2,gDe,hx];rfl
  subst hle;simp(disch:=omega)[hqI,gl];by_cases hbig:4000<l.length
  ·have hbI:(4000:Int)<(l.length:Nat):=by omega
   have h:=h0 (by unfold eC;rw[if_neg (by omega)]);simp(disch:=omega)[hbI,undef,k2,aj];exact ae (s3.ovr hb2 _) h
  by_cases hmany:40<q
  ·have hbI:¬(4000:Int)<(l.length:Nat):=by omega
   have hmI:(40:Int)<(q:Nat):=by omega
   have h:=h0 (by unfold eC;rw[hls,if_neg (by omega)]);simp(disch:=omega)[hbI,hmI,undef,k2,aj];exact ae (s3.ovr hb2 _) h
  have hbI:¬(4000:Int)<(l.length:Nat):=by omega
  have hlw:∀ w∈ls,w.length<=1000000:=fun w hw=>by have:=hlw w hw;omega
  have hmI:¬(40:Int)<(q:Nat):=by omega
  have hcx:eC l=some (iQ ls q):=by unfold eC;rw[hls,if_pos (by omega)];rw[hn]
  simp(disch:=omega)[hbI,hmI];refine mR _ _ ?_;intro x6 M6 o6;unfold cQ;obtain⟨M1,o1,s1,n1⟩:=dp s3 o6;have hfx:=aT o6.rd;have k2':=o6.sub _ _ k2;have k5':=o6.sub _ _ k5;simp(disch:=omega);intro b6 hb6;have n26:b2≠b6:=by rintro rfl;rw[k2']at hb6;cases hb6
  have n56:b5≠b6:=by rintro rfl;rw[k5']at hb6;cases hb6
  have m6:M b6=none:=bA (s3.trans o6.sub) hb6;have q2:(M6.put b6 (.cells true [str [97,98,97,97,98],str [65,65],x6] 3)) b2=some (.cells true [str [],str [],.slice none 0 0] 3):=by rw[ai _ _ n26];exact k2'
  have q5:(M6.put b6 (.cells true [str [97,98,97,97,98],str [65,65],x6] 3)) b5=some (.cells true (strs L) c5):=by rw[ai _ _ n56];exact k5'
  have q6:=ag M6 b6 (.cells true [str [97,98,97,97,98],str [65,65],x6] 3);have sq:=s1.putN hb6 (.cells true [str [97,98,97,97,98],str [65,65],x6] 3);have z2:=n1 _ _ hb2 k2;have z6:M1 b6=none:=bA s1 hb6;simp(disch:=omega)[hfx,aj,aW];generalize M6.put b6 (.cells true [str [97,98,97,97,98],str [65,65],x6] 3)=N6 at *;refine aP aR (rlA [7,8,9,10] 35 25) (fun x:Nat×Value=>[(8,.int .i64 (x.1:Nat)),(7,str (iQ ls x.1).2)]) (fun x N=>x.1<=q/\Vr M N b2 b5 b6 x.2 (iQ ls x.1).1 L c5) (fun x=>q-x.1) (0,x6) (by kernel_rfl) (by simp(disch:=omega)[vH]) ⟨lZe _,⟨M1,o1,sq,z6,z2,q6,q2,q5⟩⟩ ?_
  rintro⟨i,u⟩ N g ⟨hi,hJ⟩
  simp only at hi hJ;obtain⟨M1,o1,s1,z6,z2,q6,q2,q5⟩:=hJ;have hok:=pB ls i (by omega);have hlen:=tV ls hlw i (by omega);have hfu:=aT o1.rd;have hlen2:(iQ ls i).2.length<=50000000:=Nat.le_trans hlen (Nat.le_trans (Nat.mul_le_mul_right 1100001 (show i<=40 by omega)) (by decide));clear hlen;by_cases hlt:i<q
  ·have hltI:(i:Int)<(q:Nat):=by omega
   have gi:=hget i hlt;rw[show ls.getD i []=ls[i]'(by omega) from by rw[gDe,gEl (by omega)];rfl]at gi;have hst:=ph ls (i:=i) (by omega);have hwl:=hlw ls[i] (getElem_mem (by omega));generalize ls[i]=w at *;have gi2:N.get? b5 i=some (str w):=by rw[al q5];rw[al k5]at gi;exact gi
   generalize iQ ls i=S at *;by_cases hw:w=[]
   ·unfold cf at hst;rw[if_pos hw]at hst;subst hw;simp(disch:=omega)[hltI,gi2];exact rndA (i+1,u) (by simp(disch:=omega)[hst]) ⟨by simp only;omega,by simp only;rw[hst];exact⟨M1,o1,s1,z6,z2,q6,q2,q5⟩⟩
   ·unfold cf at hst;rw[if_neg hw]at hst;have hrl:=po hok (l:=w) (by omega);have hwl2:w.length<=1500000:=by omega
    simp(disch:=omega)[hltI,gi2,bNe.2 hw];refine plyS (ak [0,1,2,3,4] (.alt 5 1 (ak [6,7,8] (.one 9 1 (.one 10 2 (ak [11] .fin)))) (.one 9 1 (.one 5 1 (ak [6,7,8] (.one 10 2 (ak [11] .fin))))))) ?_;simp(disch:=omega)[jz,gi2,aq q6];refine⟨?_,?_⟩
    ·refine ff S.1 u w _ _ hok (o1.rd.sub s1) hwl2 ?_;intro v7 M7 o7;obtain⟨M8,o8,s8,n8⟩:=dp (((o1.sub).trans s1)) o7;have e6:=n8 _ _ m6 q6;have e2:=n8 _ _ hb2 q2;have hf7:=aT o7.rd;have r6:=o7.sub _ _ q6;have r2:=o7.sub _ _ q2;have r5:=o7.sub _ _ q5;have sN7:=o7.sub;generalize eL S.1 w=RR at *;unfold dkV;simp(disch:=omega);refine⟨sN7,?_⟩;intro b9 hb9;have n69:b6≠b9:=by rintro rfl;rw[r6]at hb9;cases hb9
     have n29:b2≠b9:=by rintro rfl;rw[r2]at hb9;cases hb9
     have n59:b5≠b9:=by rintro rfl;rw[r5]at hb9;cases hb9
     simp(disch:=omega)[hf7,aj,aW,r6];refine⟨(Sub.refl M7).put hb9 _,?_⟩;refine rndA (i+1,v7) (by simp(disch:=omega)[hst]) ⟨by simp only;omega,?_⟩;simp only;rw[hst];exact⟨M8,o8,(s8.putN hb9 _).ovr e6 _,e6,e2,ag _ _ _,by rw[ai _ _ n26,ai _ _ n29];exact r2,by rw[ai _ _ n56,ai _ _ n59];exact r5⟩
    ·intro b9 hb9;have n69:b6≠b9:=by rintro rfl;rw[q6]at hb9;cases hb9
     have n29:b2≠b9:=by rintro rfl;rw[q2]at hb9;cases hb9
     have n59:b5≠b9:=by rintro rfl;rw[q5]at hb9;cases hb9
     have m9:M b9=none:=bA ((o1.sub).trans s1) hb9;have sP:=((o1.sub).trans s1).putN hb9 (.cells true [str [],str [],.slice none 0 0] 3);have w6:(N.put b9 (.cells true [str [],str [],.slice none 0 0] 3)) b6=some (.cells true [str S.1.w,str S.1.p,u] 3):=by rw[ai _ _ n69];exact q6
     have w2:(N.put b9 (.cells true [str [],str [],.slice none 0 0] 3)) b2=some (.cells true [str [],str [],.slice none 0 0] 3):=by rw[ai _ _ n29];exact q2
     have w5:(N.put b9 (.cells true [str [],str [],.slice none 0 0] 3)) b5=some (.cells true (strs L) c5):=by rw[ai _ _ n59];exact q5
     have w9:(N.put b9 (.cells true [str [],str [],.slice none 0 0] 3)) b9=some (.cells true [str [],str [],.slice none 0 0] 3):=ag _ _ _;have ru:=(o1.rd.sub s1).sub ((Sub.refl N).put hb9 (.cells true [str [],str [],.slice none 0 0] 3));simp(disch:=omega);refine⟨(Sub.refl N).put hb9 _,?_⟩;generalize N.put b9 (.cells true [str [],str [],.slice none 0 0] 3)=P at *;refine ff S.1 u w _ _ hok ru hwl2 ?_;intro v7 M7 o7;obtain⟨M8,o8,s8,n8⟩:=dp sP o7;have e6:=n8 _ _ m6 w6;have e2:=n8 _ _ hb2 w2;have e9:=n8 _ _ m9 w9;have hf7:=aT o7.rd;have r6:=o7.sub _ _ w6;have r2:=o7.sub _ _ w2;have r5:=o7.sub _ _ w5;have r9:=o7.sub _ _ w9;have sN7:=o7.sub;have r6q:∀ X,(M7.put b9 X) b6=some (.cells true [str S.1.w,str S.1.p,u] 3):=fun X=>by rw[ai _ _ n69];exact r6
     generalize eL S.1 w=RR at *;unfold dkV;simp(disch:=omega)[hf7,aj,r6,r9];refine⟨sN7,?_⟩;refine rndA (i+1,v7) (by simp(disch:=omega)[hst]) ⟨by simp only;omega,?_⟩;simp only;rw[hst];exact⟨M8,o8,(s8.ovr e9 _).ovr e6 _,e6,e2,ag _ _ _,by rw[ai _ _ n26,ai _ _ n29];exact r2,by rw[ai _ _ n56,ai _ _ n59];exact r5⟩
  ·have hie:i=q:=by omega
   have hltI:¬(i:Int)<(q:Nat):=by omega
   rw[<-hie]at hcx;have h:=h1 (iQ ls i).1 (iQ ls i).2 u M1 hcx o1;unfold dkV at h;simp(disch:=omega)[hltI,aq q6,q2,aj,hfu];exact ae (s1.ovr z2 _) h
 ·rw[if_neg hle]at hlsdef;have hn:ls.length=n0:=by rw[hlsdef];exact hLn
  have hget:∀ i,i<n0->M3.get? b5 i=some (str (ls.getD i [])):=fun i hi=>by
   have hi2:i<L.length:=by omega
   have hx:ls[i]?=some L[i]:=by rw[hlsdef,gEl hi2]
   rw[hgL i (by omega) hi2,gDe,hx];rfl
  simp(disch:=omega)[hqI,gl,bNe.2 hle];by_cases hbig:4000<l.length
  ·have hbI:(4000:Int)<(l.length:Nat):=by omega
   have h:=h0 (by unfold eC;rw[if_neg (by omega)]);simp(disch:=omega)[hbI,undef,k2,aj];exact ae (s3.ovr hb2 _) h
  by_cases hmany:40<n0
  ·have hbI:¬(4000:Int)<(l.length:Nat):=by omega
   have hmI:(40:Int)<(n0:Nat):=by omega
   have h:=h0 (by unfold eC;rw[hls,if_neg (by omega)]);simp(disch:=omega)[hbI,hmI,undef,k2,aj];exact ae (s3.ovr hb2 _) h
  have hbI:¬(4000:Int)<(l.length:Nat):=by omega
  have hlw:∀ w∈ls,w.length<=1000000:=fun w hw=>by have:=hlw w hw;omega
  have hmI:¬(40:Int)<(n0:Nat):=by omega
  have hcx:eC l=some (iQ ls n0):=by unfold eC;rw[hls,if_pos (by omega)];rw[hn]
  simp(disch:=omega)[hbI,hmI];refine mR _ _ ?_;intro x6 M6 o6;unfold cQ;obtain⟨M1,o1,s1,n1⟩:=dp s3 o6;have hfx:=aT o6.rd;have k2':=o6.sub _ _ k2;have k5':=o6.sub _ _ k5;simp(disch:=omega);intro b6 hb6;have n26:b2≠b6:=by rintro rfl;rw[k2']at hb6;cases hb6
  have n56:b5≠b6:=by rintro rfl;rw[k5']at hb6;cases hb6
  have m6:M b6=none:=bA (s3.trans o6.sub) hb6;have q2:(M6.put b6 (.cells true [str [97,98,97,97,98],str [65,65],x6] 3)) b2=some (.cells true [str [],str [],.slice none 0 0] 3):=by rw[ai _ _ n26];exact k2'
  have q5:(M6.put b6 (.cells true [str [97,98,97,97,98],str [65,65],x6] 3)) b5=some (.cells true (strs L) c5):=by rw[ai _ _ n56];exact k5'
  have q6:=ag M6 b6 (.cells true [str [97,98,97,97,98],str [65,65],x6] 3);have sq:=s1.putN hb6 (.cells true [str [97,98,97,97,98],str [65,65],x6] 3);have z2:=n1 _ _ hb2 k2;have z6:M1 b6=none:=bA s1 hb6;simp(disch:=omega)[hfx,aj,aW];generalize M6.put b6 (.cells true [str [97,98,97,97,98],str [65,65],x6] 3)=N6 at *;refine aP aR (rlA [7,8,9,10] 35 25) (fun x:Nat×Value=>[(8,.int .i64 (x.1:Nat)),(7,str (iQ ls x.1).2)]) (fun x N=>x.1<=n0/\Vr M N b2 b5 b6 x.2 (iQ ls x.1).1 L c5) (fun x=>n0-x.1) (0,x6) (by kernel_rfl) (by simp(disch:=omega)[vH]) ⟨lZe _,⟨M1,o1,sq,z6,z2,q6,q2,q5⟩⟩ ?_
  rintro⟨i,u⟩ N g ⟨hi,hJ⟩
  simp only at hi hJ;obtain⟨M1,o1,s1,z6,z2,q6,q2,q5⟩:=hJ;have hok:=pB ls i (by omega);have hlen:=tV ls hlw i (by omega);have hfu:=aT o1.rd;have hlen2:(iQ ls i).2.length<=50000000:=Nat.le_trans hlen (Nat.le_trans (Nat.mul_le_mul_right 1100001 (show i<=40 by omega)) (by decide));clear hlen;by_cases hlt:i<n0
  ·have hltI:(i:Int)<(n0:Nat):=by omega
   have gi:=hget i hlt;rw[show ls.getD i []=ls[i]'(by omega) from by rw[gDe,gEl (by omega)];rfl]at gi;have hst:=ph ls (i:=i) (by omega);have hwl:=hlw ls[i] (getElem_mem (by omega));generalize ls[i]=w at *;have gi2:N.get? b5 i=some (str w):=by rw[al q5];rw[al k5]at gi;exact gi
   generalize iQ ls i=S at *;by_cases hw:w=[]
   ·unfold cf at hst;rw[if_pos hw]at hst;subst hw;simp(disch:=omega)[hltI,gi2];exact rndA (i+1,u) (by simp(disch:=omega)[hst]) ⟨by simp only;omega,by simp only;rw[hst];exact⟨M1,o1,s1,z6,z2,q6,q2,q5⟩⟩
   ·unfold cf at hst;rw[if_neg hw]at hst;have hrl:=po hok (l:=w) (by omega);have hwl2:w.length<=1500000:=by omega
    simp(disch:=omega)[hltI,gi2,bNe.2 hw];refine plyS (ak [0,1,2,3,4] (.alt 5 1 (ak [6,7,8] (.one 9 1 (.one 10 2 (ak [11] .fin)))) (.one 9 1 (.one 5 1 (ak [6,7,8] (.one 10 2 (ak [11] .fin))))))) ?_;simp(disch:=omega)[jz,gi2,aq q6];refine⟨?_,?_⟩
    ·refine ff S.1 u w _ _ hok (o1.rd.sub s1) hwl2 ?_;intro v7 M7 o7;obtain⟨M8,o8,s8,n8⟩:=dp (((o1.sub).trans s1)) o7;have e6:=n8 _ _ m6 q6;have e2:=n8 _ _ hb2 q2;have hf7:=aT o7.rd;have r6:=o7.sub _ _ q6;have r2:=o7.sub _ _ q2;have r5:=o7.sub _ _ q5;have sN7:=o7.sub;generalize eL S.1 w=RR at *;unfold dkV;simp(disch:=omega);refine⟨sN7,?_⟩;intro b9 hb9;have n69:b6≠b9:=by rintro rfl;rw[r6]at hb9;cases hb9
     have n29:b2≠b9:=by rintro rfl;rw[r2]at hb9;cases hb9
     have n59:b5≠b9:=by rintro rfl;rw[r5]at hb9;cases hb9
     simp(disch:=omega)[hf7,aj,aW,r6];refine⟨(Sub.refl M7).put hb9 _,?_⟩;refine rndA (i+1,v7) (by simp(disch:=omega)[hst]) ⟨by simp only;omega,?_⟩;simp only;rw[hst];exact⟨M8,o8,(s8.putN hb9 _).ovr e6 _,e6,e2,ag _ _ _,by rw[ai _ _ n26,ai _ _ n29];exact r2,by rw[ai _ _ n56,ai _ _ n59];exact r5⟩
    ·intro b9 hb9;have n69:b6≠b9:=by rintro rfl;rw[q6]at hb9;cases hb9
     have n29:b2≠b9:=by rintro rfl;rw[q2]at hb9;cases hb9
     have n59:b5≠b9:=by rintro rfl;rw[q5]at hb9;cases hb9
     have m9:M b9=none:=bA ((o1.sub).trans s1) hb9;have sP:=((o1.sub).trans s1).putN hb9 (.cells true [str [],str [],.slice none 0 0] 3);have w6:(N.put b9 (.cells true [str [],str [],.slice none 0 0] 3)) b6=some (.cells true [str S.1.w,str S.1.p,u] 3):=by rw[ai _ _ n69];exact q6
     have w2:(N.put b9 (.cells true [str [],str [],.slice none 0 0] 3)) b2=some (.cells true [str [],str [],.slice none 0 0] 3):=by rw[ai _ _ n29];exact q2
     have w5:(N.put b9 (.cells true [str [],str [],.slice none 0 0] 3)) b5=some (.cells true (strs L) c5):=by rw[ai _ _ n59];exact q5
     have w9:(N.put b9 (.cells true [str [],str [],.slice none 0 0] 3)) b9=some (.cells true [str [],str [],.slice none 0 0] 3):=ag _ _ _;have ru:=(o1.rd.sub s1).sub ((Sub.refl N).put hb9 (.cells true [str [],str [],.slice none 0 0] 3));simp(disch:=omega);refine⟨(Sub.refl N).put hb9 _,?_⟩;generalize N.put b9 (.cells true [str [],str [],.slice none 0 0] 3)=P at *;refine ff S.1 u w _ _ hok ru hwl2 ?_;intro v7 M7 o7;obtain⟨M8,o8,s8,n8⟩:=dp sP o7;have e6:=n8 _ _ m6 w6;have e2:=n8 _ _ hb2 w2;have e9:=n8 _ _ m9 w9;have hf7:=aT o7.rd;have r6:=o7.sub _ _ w6;have r2:=o7.sub _ _ w2;have r5:=o7.sub _ _ w5;have r9:=o7.sub _ _ w9;have sN7:=o7.sub;have r6q:∀ X,(M7.put b9 X) b6=some (.cells true [str S.1.w,str S.1.p,u] 3):=fun X=>by rw[ai _ _ n69];exact r6
     generalize eL S.1 w=RR at *;unfold dkV;simp(disch:=omega)[hf7,aj,r6,r9];refine⟨sN7,?_⟩;refine rndA (i+1,v7) (by simp(disch:=omega)[hst]) ⟨by simp only;omega,?_⟩;simp only;rw[hst];exact⟨M8,o8,(s8.ovr e9 _).ovr e6 _,e6,e2,ag _ _ _,by rw[ai _ _ n26,ai _ _ n29];exact r2,by rw[ai _ _ n56,ai _ _ n59];exact r5⟩
  ·have hie:i=n0:=by omega
   have hltI:¬(i:Int)<(n0:Nat):=by omega
   rw[<-hie]at hcx;have h:=h1 (iQ ls i).1 (iQ ls i).2 u M1 hcx o1;unfold dkV at h;simp(disch:=omega)[hltI,aq q6,q2,aj,hfu];exact ae (s1.ovr z2 _) h
def R4:List Code->Code->Code
 | [],z=>z
 | c::cs,z=>.seq c (R4 cs z)
def vcL(P:Program)(T:Tab)(n:Nat):List Code->(Env->Mem->Prop)->(Exit->Env->Mem->Prop)->Env->Mem->Prop
 | [],K,Q,env,M=>K env M
 | c::cs,K,Q,env,M=>vc P T n c (mu (vcL P T n cs K Q) Q) env M
section
variable {P:Program} {T:Tab} {n:Nat} {ro:Option Nat} {k:Nat} {ds:List Deferred} {K:Env->Mem->Prop} {Q:Exit->Env->Mem->Prop} {env:Env} {M:Mem}
@[simp] theorem XS:vcL P T n [] K Q env M=K env M:=nr rfl
@[simp] theorem WR(c:Code)(cs:List Code):vcL P T n (c::cs) K Q env M=vc P T n c (mu (vcL P T n cs K Q) Q) env M:=nr rfl
theorem I7(hT:bX P T)(z:Code){Q':Exit->Act->World->Prop}{M0:Mem}{w0:World}(hq:∀ e a w,e≠.normal->Ux ds n M0 w0 Q e a w->Q' e a w)
  (hz:∀ env M a w,fL ds n env a->Rep M w->Ext M0 w0 M w->K env M->z.wpIn (iE ro) k P Q' a w) :
  ∀(cs:List Code) (env:Env) (M:Mem) (a:Act) (w:World),cs.all (fun c=>ek n c&&pX c)=true->vcL P T n cs K Q env M->fL ds n env a->Rep M w->Ext M0 w0 M w->(R4 cs z).wpIn (iE ro) k P Q' a w
 | [],env,M,a,w,_,h,h1,h2,h3=>hz env M a w h1 h2 h3 h
 | c::cs,env,M,a,w,hc,h,h1,h2,h3=>by
  simp only[all_cons,Bool.and_eq_true]at hc;refine wpIn_seq (wpIn_mono (Lf (ro:=ro) (k:=k) (ds:=ds) T hT c _ env M hc.1.1 hc.1.2 h M0 w0 a w h1 h2 h3) ?_)
  rintro e a' w' ⟨env',M',a1,a2,a3,a4⟩
  cases e with
  | normal=>exact I7 hT z hq hz cs env' M' a' w' (by simpa using hc.2) a4 a1 a2 a3
  | exit id=>exact hq _ _ _ (by simp) ⟨_,_,a1,a2,a3,a4⟩
  | goto id=>exact hq _ _ _ (by simp) ⟨_,_,a1,a2,a3,a4⟩
  | ret=>exact hq _ _ _ (by simp) ⟨_,_,a1,a2,a3,a4⟩
  | panic c=>exact hq _ _ _ (by simp) ⟨_,_,a1,a2,a3,a4⟩
  | outgrown=>exact hq _ _ _ (by simp) ⟨_,_,a1,a2,a3,a4⟩
theorem jo(hT:bX P T)(ops l2:List Oper){Q':Exit->Act->World->Prop}{M0:Mem}{w0:World}(hz:∀ env M a w,fL ds n env a->Rep M w->Ext M0 w0 M w->K env M->wpListIn (iE ro) k P ops.toArray Q' l2 a w) :
  ∀(l:List Oper) (env:Env) (M:Mem) (a:Act) (w:World),l.all (fun o=>ki n o&&iT o&&o.guard.isNone)=true->lx P T ops (fun _=>K) l env M->fL ds n env a->Rep M w->Ext M0 w0 M w->wpListIn (iE ro) k P ops.toArray Q' (l++l2) a w
 | [],env,M,a,w,_,h,h1,h2,h3=>hz env M a w h1 h2 h3 h
 | o::rest,env,M,a,w,hd,h,h1,h2,h3=>by
  simp only[all_cons,Bool.and_eq_true]at hd;unfold lx at h;rw[cons_append];unfold wpListIn;split at h
  ·rename_i hg;rw[if_pos (by simp[Region.wanted,hg])];refine oW hd.1.1.2 (rr T hT o.op h o a w _ _ rfl h1.ev h2 fun v M' w' a1 a2 a3=>?_);exact jo hT ops l2 hz rest _ _ _ _ (by simpa using hd.2) a3 (h1.put (cw hd.1.1.1) v) a1 (h3.trans a2)
  ·rename_i j b hg;rw[hg]at hd;cases hd.1.2
theorem IC(hT:bX P T)(ops:List Oper){Q':Exit->Act->World->Prop}{M0:Mem}{w0:World}(hz:∀ env M a w,fL ds n env a->Rep M w->Ext M0 w0 M w->K env M->Q' .normal a w)
  (l:List Oper) (env:Env) (M:Mem) (a:Act) (w:World) (hd:l.all (fun o=>ki n o&&iT o&&o.guard.isNone)=true) (h:lx P T ops (fun _=>K) l env M) (h1:fL ds n env a) (h2:Rep M w) (h3:Ext M0 w0 M w):wpListIn (iE ro) k P ops.toArray Q' l a w:=by
 have:=jo (ro:=ro) (k:=k) hT ops [] (fun env M a w a1 a2 a3 a4=>wpListIn_nil (hz env M a w a1 a2 a3 a4)) l env M a w hd h h1 h2 h3;rwa[append_nil]at this
theorem uM{o:Oper}{x:Operand}{args:Array Operand}{ts:Array TypeId}(ho:o.op=.call ⟨.value x,args,ts⟩){g:FuncId}(hx:ev env x=.func (.func g) #[] #[])(hb:tS P g){a:Act}{w:World}(ha:a.eval=ev env){next:Act->World->Prop}{Q':Exit->Act->World->Prop}
  (h:Calls P g (args.toList.map (ev env)).toArray w fun e w'=>∃ v,e=.returned v/\next (a.put o.dst v) w'):o.wpIn (iE ro) k P a w next Q':=by
 refine oW (by unfold iT;rw[ho]) ?_;obtain⟨fn,h1,h2,h3⟩:=hb;have hr:(execOp a.eval o).run P w=.ok (.enter g (args.toList.map (ev env)).toArray) w:=by
  rw[ha];simp only[execOp,ho,resolve,hx,Deferred.ofValue,Sem.run_bind,Sem.run_pure,Result.andThen_ok,invoke,callFunc,run_program,h1,h2,h3,Bool.false_eq_true,if_false]
  congr 2
  apply Array.ext';simp
 rw[hr];refine h.mono ?_
 rintro e w' ⟨v,rfl,hn⟩
 exact hn
end
theorem AW(v:Value)(zs:List B8)(M:Mem)(R:VP)(h1:1<=zs.length)(hv:Rd M v (strs zs))(hl:zs.length<=1000)(h:∀ v' M',Own M v' (strs zs) M'->R v' M'):ar prog 58 [v] M R:=by
 refine fnS func58 rfl ntmps58 results58 ?_;have hne:1<=(strs zs).length:=by rw[ah];exact h1
 have hsrc:=rX hv hne;obtain⟨a,c,rfl,ha⟩:=hv.opened;rw[ah]at ha hsrc ⊢;rcases ha with h0|⟨b,o,rfl,ha⟩
 ·rw[ah]at hne;omega
 simp(disch:=omega);intro b6 hb6;have o0:=Own.new (M:=M) (xs:=strs []) (n:=0) (c:=0) hb6 rfl (lRf 0);have hs1:=np hsrc ((Sub.refl M).put hb6 (.cells true [] 0));dsimp only;have e0:strs []=[]:=rfl;rw[e0]at o0;generalize M.put b6 (.cells true [] 0)=N at *;generalize Value.slice (some ⟨b6,0,none⟩) 0 0=e at *;simp(disch:=omega);refine aN o0 (Sub.refl _) hs1 rfl rfl (by omega) (dB zs) (by rw[ah];simp only[length_nil];omega) ?_;intro v' M'' N'' o' hs';simp(disch:=omega);exact ae hs' (h _ _ o')
theorem B6(d:Dk)(v:Value)(M:Mem)(R:VP)(hm:aY d.ms=true)(hv:Rd M v (strs d.ms))(h:∀ v' M',Own M v' (strs d.ms) M'->R (dkV d v') M'):ar prog 30 [dkV d v] M R:=by
 have hf:=aT hv;have hm5:=aV hm;unfold dkV at h ⊢;refine fnS func30 rfl ntmps30 results30 ?_;simp(disch:=omega);intro b1 hb1;have h1:Sub M (M.put b1 (.cells true [str d.w,str d.p,v] 3)):=(Sub.refl M).put hb1 _;simp(disch:=omega);intro b2 hb2;have h2:=hb2;rw[aA]at h2;have sN:=h1.putN hb2 (.cells true [str [],str [],.slice none 0 0] 3);have k1:((M.put b1 (.cells true [str d.w,str d.p,v] 3)).put b2 (.cells true [str [],str [],.slice none 0 0] 3)) b1=some (.cells true [str d.w,str d.p,v] 3):=by rw[ai _ _ (Ne.symm h2.1)];exact ag _ _ _
 have k2:((M.put b1 (.cells true [str d.w,str d.p,v] 3)).put b2 (.cells true [str [],str [],.slice none 0 0] 3)) b2=some (.cells true [str [],str [],.slice none 0 0] 3):=ag _ _ _;generalize (M.put b1 (.cells true [str d.w,str d.p,v] 3)).put b2 (.cells true [str [],str [],.slice none 0 0] 3)=N at *;have hvN:=hv.sub sN;simp(disch:=omega)[al k1];refine AW v d.ms _ _ (by omega) hvN (by omega) ?_;intro v' N'' o';have q1:=o'.sub _ _ k1;have q2:=o'.sub _ _ k2;have hf':=aT o'.rd;obtain⟨M',o4,s4,n4⟩:=dp sN o';have m1:=n4 _ _ hb1 k1;have m2:=n4 _ _ h2.2 k2;have q2':(N''.put b1 (.cells true [str d.w,str d.p,v'] 3)) b2=some (.cells true [str [],str [],.slice none 0 0] 3):=by rw[ai _ _ h2.1];exact q2
 have h:=h v' M' o4;simp(disch:=omega)[q1,q2,aj,hf'];exact ae ((s4.ovr m1 _).ovr m2 _) h
end Go.Proofs.YtapimhjbilkfpaaGreatDoor
namespace Go.Proofs.YtapimhjbilkfpaaGreatDoor
open Go Go.Proofs.Tryz Go.RowKit List
set_option maxRecDepth 4000
def i6:Code:=(Code.region 6 #[{ dst:=(some 8),op:=(Op.assign (Operand.tmp 18)),type:=9,pos:= "l11_console.go:327",after:=#[],guard:=none }] false)
def T5:Code:=(Code.seq (Code.region 7 #[{ dst:=(some 19),op:=(Op.load 3 (Operand.tmp 6)),type:=3,pos:= "l11_console.go:328",after:=#[],guard:=none },{ dst:=(some 20),op:=(Op.binOp BinOp.add 3 (Operand.tmp 19) (Operand.const (Value.int IntKind.i64 1)) 3),type:=3,pos:= "l11_console.go:328",after:=#[{ on:=0,ground:=Ground.data }],guard:=none },{ dst:=none,op:=(Op.store 3 (Operand.tmp 6) (Operand.tmp 20)),type:=0,pos:= "l11_console.go:328",after:=#[{ on:=1,ground:=Ground.data },{ on:=0,ground:=Ground.phase },{ on:=1,ground:=Ground.phase }],guard:=none }] false) (Code.seq (Code.region 8 #[{ dst:=(some 21),op:=(Op.load 3 (Operand.tmp 6)),type:=3,pos:= "l11_console.go:328",after:=#[],guard:=none },{ dst:=(some 22),op:=(Op.binOp BinOp.gtr 3 (Operand.tmp 21) (Operand.const (Value.int IntKind.i64 40)) 3),type:=4,pos:= "l11_console.go:328",after:=#[{ on:=0,ground:=Ground.data }],guard:=none }] false) (Code.cond (Operand.tmp 22) (Code.seq (Code.region 9 #[{ dst:=(some 23),op:=(Op.build 28 #[]),type:=28,pos:= "l11_console.go:329",after:=#[],guard:=none },{ dst:=none,op:=(Op.store 28 (Operand.tmp 2) (Operand.tmp 23)),type:=0,pos:= "l11_console.go:329",after:=#[{ on:=0,ground:=Ground.data },{ on:=0,ground:=Ground.phase }],guard:=none },{ dst:=none,op:=(Op.store 9 (Operand.tmp 3) (Operand.const (Value.string { data:=#[] }))),type:=0,pos:= "l11_console.go:329",after:=#[{ on:=1,ground:=Ground.chain },{ on:=0,ground:=Ground.phase },{ on:=1,ground:=Ground.phase }],guard:=none },{ dst:=none,op:=(Op.store 4 (Operand.tmp 4) (Operand.const (Value.bool false))),type:=0,pos:= "l11_console.go:329",after:=#[{ on:=2,ground:=Ground.chain },{ on:=0,ground:=Ground.phase },{ on:=1,ground:=Ground.phase },{ on:=2,ground:=Ground.phase }],guard:=none }] false) Code.ret) Code.skip)))
def Ir:Code:=(Code.region 10 #[{ dst:=(some 24),op:=(Op.move (Operand.tmp 8)),type:=9,pos:= "l11_console.go:331",after:=#[],guard:=none },{ dst:=(some 25),op:=(Op.call { callee:=(Callee.value (Operand.func 54)),args:=#[(Operand.tmp 24),(Operand.const (Value.string { data:=#[10] }))],argTypes:=#[9,9] }),type:=9,pos:= "l11_console.go:331",after:=#[{ on:=0,ground:=Ground.data }],guard:=none },{ dst:=(some 8),op:=(Op.assign (Operand.tmp 25)),type:=9,pos:= "l11_console.go:331",after:=#[{ on:=1,ground:=Ground.data },{ on:=1,ground:=Ground.chain },{ on:=0,ground:=Ground.phase },{ on:=1,ground:=Ground.phase }],guard:=none }] false)
def TZ:Code:=(Code.seq (Code.region 11 #[{ dst:=(some 26),op:=(Op.move (Operand.tmp 8)),type:=9,pos:= "l11_console.go:332",after:=#[],guard:=none },{ dst:=(some 27),op:=(Op.binOp BinOp.eql 9 (Operand.tmp 26) (Operand.const (Value.string { data:=#[] })) 9),type:=4,pos:= "l11_console.go:332",after:=#[{ on:=0,ground:=Ground.data }],guard:=none }] false) (Code.cond (Operand.tmp 27) (Code.exit 1) Code.skip))
def Jg:Code:=(Code.region 12 #[{ dst:=(some 29),op:=(Op.load 28 (Operand.tmp 5)),type:=28,pos:= "l11_console.go:335",after:=#[],guard:=none },{ dst:=(some 30),op:=(Op.move (Operand.tmp 8)),type:=9,pos:= "l11_console.go:335",after:=#[],guard:=none },{ dst:=(some 31),op:=(Op.call { callee:=(Callee.value (Operand.func 29)),args:=#[(Operand.tmp 29),(Operand.tmp 30)],argTypes:=#[28,9] }),type:=33,pos:= "l11_console.go:335",after:=#[{ on:=0,ground:=Ground.data },{ on:=1,ground:=Ground.data }],guard:=none },{ dst:=(some 28),op:=(Op.move (Operand.tmp 31)),type:=33,pos:= "l11_console.go:335",after:=#[{ on:=2,ground:=Ground.data }],guard:=none },{ dst:=(some 32),op:=(Op.extract (Operand.tmp 28) 0),type:=28,pos:= "l11_console.go:335",after:=#[{ on:=3,ground:=Ground.data }],guard:=none },{ dst:=(some 33),op:=(Op.extract (Operand.tmp 28) 1),type:=9,pos:= "l11_console.go:335",after:=#[{ on:=3,ground:=Ground.data },{ on:=7,ground:=(Ground.gcOnly Departure.lateStores) }],guard:=none },{ dst:=(some 9),op:=(Op.alloc 28),type:=0,pos:= "l11_console.go:335",after:=#[],guard:=none },{ dst:=none,op:=(Op.store 28 (Operand.tmp 9) (Operand.tmp 32)),type:=0,pos:= "l11_console.go:335",after:=#[{ on:=6,ground:=Ground.data },{ on:=4,ground:=Ground.data },{ on:=2,ground:=Ground.chain },{ on:=0,ground:=Ground.phase },{ on:=1,ground:=Ground.phase },{ on:=2,ground:=Ground.phase },{ on:=3,ground:=Ground.phase },{ on:=4,ground:=Ground.phase },{ on:=5,ground:=(Ground.textOnly Departure.lateStores) },{ on:=6,ground:=Ground.phase }],guard:=none },{ dst:=(some 10),op:=(Op.assign (Operand.tmp 33)),type:=9,pos:= "l11_console.go:335",after:=#[{ on:=5,ground:=Ground.data },{ on:=7,ground:=Ground.chain },{ on:=0,ground:=Ground.phase },{ on:=1,ground:=Ground.phase },{ on:=2,ground:=Ground.phase },{ on:=3,ground:=Ground.phase },{ on:=4,ground:=Ground.phase },{ on:=5,ground:=Ground.phase },{ on:=6,ground:=Ground.phase },{ on:=7,ground:=Ground.phase }],guard:=none }] false)
def IM:Code:=(Code.region 13 #[{ dst:=(some 34),op:=(Op.load 28 (Operand.tmp 9)),type:=28,pos:= "l11_console.go:336",after:=#[],guard:=none },{ dst:=none,op:=(Op.store 28 (Operand.tmp 5) (Operand.tmp 34)),type:=0,pos:= "l11_console.go:336",after:=#[{ on:=0,ground:=Ground.data },{ on:=0,ground:=Ground.phase }],guard:=none }] false)
def LH:Oper:={ dst:=(some 35),op:=(Op.move (Operand.tmp 10)),type:=9,pos:= "l11_console.go:337",after:=#[],guard:=none }
def LD:Oper:={ dst:=(some 36),op:=(Op.binOp BinOp.add 9 (Operand.tmp 35) (Operand.const (Value.string { data:=#[10] })) 9),type:=9,pos:= "l11_console.go:337",after:=#[{ on:=0,ground:=Ground.data }],guard:=none }
def Qn:Oper:={ dst:=(some 37),op:=(Op.call { callee:=(Callee.value (Operand.func 55)),args:=#[(Operand.tmp 7),(Operand.tmp 36)],argTypes:=#[71,9] }),type:=78,pos:= "l11_console.go:337",after:=#[{ on:=1,ground:=Ground.data }],guard:=none }
def Jw:Code:=.region 14 #[LH,LD,Qn] false
def xS:Code:=.block 1 (R4 [T5,Ir,TZ,Jg,IM] Jw)
def cF(N N':Mem):Prop:=∀ b B,N b=none->N' b=some B->B.own=true
theorem cF.refl(N:Mem):cF N N:=fun b B h1 h2=>by rw[h1]at h2;cases h2
theorem cF.put{N N':Mem}(h:cF N N')(b:Nat)(B:Blk)(hB:B.own=true):cF N (N'.put b B):=by
 intro i X h1 h2;unfold Mem.put at h2;split at h2
 ·cases h2;exact hB
 ·exact h i X h1 h2
theorem cF.own{N N' N'':Mem}{v:Value}{xs:List Value}(h:cF N N')(o:Own N' v xs N''):cF N N'':=by
 rcases o with ⟨_,_,rfl⟩|⟨b,c,_,_,_,rfl⟩
 ·exact h
 ·exact h.put _ _ rfl
theorem cF.gv{N N' N'':Mem}{v v':Value}{d d':Dk}(h:cF N N')(g:Gv N' v d v' d' N''):cF N N'':=by
 rcases g with ⟨_,_,rfl⟩|o
 ·exact h
 ·exact h.own o
structure CR(b2 b3 b4 b5 b6:Nat):Prop where
 n23:b2≠b3
 n24:b2≠b4
 n25:b2≠b5
 n26:b2≠b6
 n34:b3≠b4
 n35:b3≠b5
 n36:b3≠b6
 n45:b4≠b5
 n46:b4≠b6
 n56:b5≠b6
structure CN(M0:Mem)(b2 b3 b4 b5 b6:Nat)(i:Nat)(d:Dk)(N:Mem):Prop where
 im:∃ u M1,Own M0 u (strs d.ms) M1/\Sub M1 N/\N b5=some (.cells true [str d.w,str d.p,u] 3)/\M1 b2=none/\M1 b3=none/\M1 b4=none/\M1 b5=none/\M1 b6=none
 k2:N b2=some (.cells true [str [],str [],.slice none 0 0] 3)
 k3:N b3=some (.cells true [str []] 1)
 k4:N b4=some (.cells true [.bool false] 1)
 k6:N b6=some (.cells true [.int .i64 i] 1)
def SH(M0:Mem)(b2 b3 b4 b5 b6:Nat)(i:Nat)(d:Dk)(ln:B8)(N:Mem):Exit->Env->Mem->Prop
 | .exit id,_,N'=>id=1/\i+1<=40/\ln=[]/\CN M0 b2 b3 b4 b5 b6 (i+1) d N'/\cF N N'
 | .ret,_,N'=>40<i+1/\Sub M0 N'/\N' b2=some (.cells true [str [],str [],.slice none 0 0] 3)/\N' b3=some (.cells true [str []] 1)/\N' b4=some (.cells true [.bool false] 1)/\cF N N'
 | _,_,_=>False
def SN(M0:Mem)(b2 b3 b4 b5 b6 b7:Nat)(i:Nat)(d:Dk)(ln:B8)(N:Mem)(env:Env)(N':Mem):Prop:=
 i+1<=40/\ln≠[]/\env 7=.pointer (some ⟨b7,0,none⟩)/\env 10=str (eL d ln).2/\CN M0 b2 b3 b4 b5 b6 (i+1) (eL d ln).1 N'/\cF N N'
theorem gC{M:Mem}{b:Nat}{B:Blk}(h:M b=some B):M.put b B=M:=by
 funext i;unfold Mem.put;split
 ·rename_i e;subst e;exact h.symm
 ·rfl
theorem Mw(pc:B8)(M:Mem)(R:VP)(hl:pc.length<=1000000)(h:R (str (Lib.trimSuffix pc [10])) M):ar prog 54 [str pc,str [10]] M R:=
 dt _ ⟨_,func54,by kernel_rfl,by kernel_rfl⟩ (fun w _=>(Tryz.strings_TrimSuffix ⟨pc.toArray⟩ ⟨#[10]⟩ w (by show pc.toArray.size<=_;rw[size_toArray];omega)).mono (by rintro e w' ⟨rfl,rfl⟩;exact⟨rfl,Below.refl _ _⟩)) h
theorem FJ(pc:B8):(Lib.trimSuffix pc [10]).length<=pc.length:=by
 unfold Lib.trimSuffix;split
 ·rw[lTa];omega
 ·exact lRf _
theorem Ty{M0 M1 M':Mem}{u v':Value}{d d':Dk}(o:Own M0 u (strs d.ms) M1)(g:Gv M1 u d v' d' M'):∃ M8,Own M0 v' (strs d'.ms) M8/\Sub M8 M':=by
 rcases g with ⟨rfl,h,rfl⟩|o'
 ·rw[h];exact⟨_,o,Sub.refl _⟩
 ·obtain⟨M8,h1,h2,_⟩:=dp o.sub o';exact⟨M8,h1,h2⟩
set_option maxHeartbeats 4000000 in
theorem RZ(M0:Mem)(b2 b3 b4 b5 b6 b7 i:Nat)(d:Dk)(pc:B8)(N:Mem)(env:Env)(hap:CR b2 b3 b4 b5 b6)(hi:i<=40)(hok:d.ok)(hpc:pc.length<=1000000)(hvar:bW M0)(hN:CN M0 b2 b3 b4 b5 b6 i d N)
  (e2:env 2=.pointer (some ⟨b2,0,none⟩)) (e3:env 3=.pointer (some ⟨b3,0,none⟩)) (e4:env 4=.pointer (some ⟨b4,0,none⟩)) (e5:env 5=.pointer (some ⟨b5,0,none⟩)) (e6:env 6=.pointer (some ⟨b6,0,none⟩)) (e7:env 7=.pointer (some ⟨b7,0,none⟩)) (e8:env 8=str pc) :
  vcL prog tab 41 [T5,Ir,TZ,Jg,IM] (SN M0 b2 b3 b4 b5 b6 b7 i d (Lib.trimSuffix pc [10]) N) (SH M0 b2 b3 b4 b5 b6 i d (Lib.trimSuffix pc [10]) N) env N:=by
 obtain⟨⟨u,M1,o1,s1,k5,m2,m3,m4,m5,m6⟩,k2,k3,k4,k6⟩:=hN;have hfu:=aT o1.rd;have hS0:Sub M0 N:=o1.sub.trans s1;unfold T5 Ir TZ Jg IM;have hi1:(i:Int)+1=((i+1:Nat):Int):=by omega
 have s6:Sub M1 (N.put b6 (.cells true [.int .i64 (i+1:Nat)] 1)):=s1.put m6 _;have q2:(N.put b6 (.cells true [.int .i64 (i+1:Nat)] 1)) b2=_:=(ai _ _ hap.n26).trans k2;have q3:(N.put b6 (.cells true [.int .i64 (i+1:Nat)] 1)) b3=_:=(ai _ _ hap.n36).trans k3;have q4:(N.put b6 (.cells true [.int .i64 (i+1:Nat)] 1)) b4=_:=(ai _ _ hap.n46).trans k4;have q5:(N.put b6 (.cells true [.int .i64 (i+1:Nat)] 1)) b5=_:=(ai _ _ hap.n56).trans k5;have q6:(N.put b6 (.cells true [.int .i64 (i+1:Nat)] 1)) b6=some (.cells true [.int .i64 (i+1:Nat)] 1):=ag _ _ _;have w6:cF N (N.put b6 (.cells true [.int .i64 (i+1:Nat)] 1)):=(cF.refl N).put _ _ rfl;obtain⟨i1,hi2⟩:∃ i1,i1=i+1:=⟨_,rfl⟩;unfold SN SH;rw[<-hi2]at hi1 s6 q2 q3 q4 q5 q6 w6 ⊢;simp(disch:=omega)[e6,al k6,k6,aj,hi1];have hs06:Sub M0 (N.put b6 (.cells true [.int .i64 i1] 1)):=o1.sub.trans s6;generalize N.put b6 (.cells true [.int .i64 i1] 1)=N6 at *;by_cases hgt:40<i1
 ·have hgI:(40:Int)<(i1:Nat):=by omega
  have p2:N6.put b2 (.cells true [str [],str [],.slice none 0 0] 3)=N6:=gC q2;have p3:N6.put b3 (.cells true [str []] 1)=N6:=gC q3;have p4:N6.put b4 (.cells true [.bool false] 1)=N6:=gC q4;simp(disch:=omega)[hgI,e2,e3,e4,q2,aj,p2,q3,p3,q4,p4];exact⟨hgt,hs06,w6⟩
 have hgI:¬(40:Int)<(i1:Nat):=by omega
 have htl:=FJ pc;simp(disch:=omega)[hgI,e8];refine Mw pc _ _ hpc ?_;generalize Lib.trimSuffix pc [10]=ln at *;by_cases hln:ln=[]
 ·subst hln;simp(disch:=omega);exact⟨by omega,⟨⟨u,M1,o1,s6,q5,m2,m3,m4,m5,m6⟩,q2,q3,q4,q6⟩,w6⟩
 ·simp(disch:=omega)[bNe.2 hln,e5,aq q5];refine H5 d u ln _ _ hok (hvar.sub hs06) (o1.rd.sub s6) (by omega) ?_;intro d' v' t M7 g7 hrun;have w7:=w6.gv g7;have hf7:=aT (Qo (o1.rd.sub s6) g7);obtain⟨M',g',t1,n1⟩:=Eh s6 g7;have r2:=cU g7 _ _ q2;have r3:=cU g7 _ _ q3;have r4:=cU g7 _ _ q4;have r5:=cU g7 _ _ q5;have r6:=cU g7 _ _ q6;obtain⟨M8,o8,t8⟩:=Ty o1 g';have z2:=bA t8 (n1 _ _ m2 q2);have z3:=bA t8 (n1 _ _ m3 q3);have z4:=bA t8 (n1 _ _ m4 q4);have z5:=bA t8 (n1 _ _ m5 q5);have z6:=bA t8 (n1 _ _ m6 q6);have s8:Sub M8 M7:=t8.trans t1;clear g' t1 n1 t8;unfold dkV;simp(disch:=omega);intro b9 hb9;have n29:b2≠b9:=by rintro rfl;rw[r2]at hb9;cases hb9
  have n39:b3≠b9:=by rintro rfl;rw[r3]at hb9;cases hb9
  have n49:b4≠b9:=by rintro rfl;rw[r4]at hb9;cases hb9
  have n59:b5≠b9:=by rintro rfl;rw[r5]at hb9;cases hb9
  have n69:b6≠b9:=by rintro rfl;rw[r6]at hb9;cases hb9
  simp(disch:=omega)[hf7,aj,aW,r5,e5];rw[hrun];exact⟨by omega,hln,e7,rfl,⟨⟨v',M8,o8,(s8.putN hb9 _).ovr z5 _,ag _ _ _,z2,z3,z4,z5,z6⟩,by rw[ai _ _ hap.n25,ai _ _ n29];exact r2,by rw[ai _ _ hap.n35,ai _ _ n39];exact r3,by rw[ai _ _ hap.n45,ai _ _ n49];exact r4,by rw[ai _ _ (Ne.symm hap.n56),ai _ _ n69];exact r6⟩,(w7.put _ _ rfl).put _ _ rfl⟩
end Go.Proofs.YtapimhjbilkfpaaGreatDoor
