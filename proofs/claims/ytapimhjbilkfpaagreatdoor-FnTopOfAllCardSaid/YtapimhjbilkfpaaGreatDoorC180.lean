/- The law FnTopOfAll: the console joins the outputs of its lines, from a new desk on. -/
import Derived.Test.YtapimhjbilkfpaaGreatDoorC177
import Derived.Test.YtapimhjbilkfpaaGreatDoorZ00
import Derived.Test.YtapimhjbilkfpaaGreatDoorZ32
import Derived.Test.YtapimhjbilkfpaaGreatDoorZ16
import Derived.Test.YtapimhjbilkfpaaGreatDoorZ03
namespace Go.Proofs.YtapimhjbilkfpaaGreatDoor
open Go.Proofs.Tryz
open List
open Go Go.RowKit
theorem zk(w w' p p':B8)(v v':Value)(xs ys:List B8)(M:Mem)(R:VP)(hx:Rd M v (strs xs))(hy:Rd M v' (strs ys))(hl:xs.length<=1099511627776)(hl':ys.length<=1099511627776)
  (h:R (.bool ((w==w')&&((p==p')&&(xs==ys)))) M):ar prog 12 [cQ w p v,cQ w' p' v'] M R:=by
 unfold cQ;obtain⟨a,c,rfl,ha⟩:=hx.opened;obtain⟨a',c',rfl,ha'⟩:=hy.opened;rw[ah]at hx hy ⊢;rw[ah];refine fnS func12 rfl ntmps12 results12 ?_;simp(disch:=omega);intro b1 hb1;simp(disch:=omega);intro b2 hb2;have h2:=hb2;rw[aA]at h2;have hs:Sub M ((M.put b1 (.cells true [str w,str p,.slice a xs.length c] 3)).put b2 (.cells true [str w',str p',.slice a' ys.length c'] 3)):=((Sub.refl _).put hb1 _).putN hb2 _;cases e1:(w==w')
 ·rw[e1]at h;simp(disch:=omega)[e1,undef];exact ae hs h
 ·rw[e1]at h;cases e2:(p==p')
  ·rw[e2]at h;simp(disch:=omega)[e1,e2,undef];exact ae hs h
  ·rw[e2]at h;simp(disch:=omega)[e1,e2];refine Hg _ _ xs ys _ _ ((hx.put hb1 _).put hb2 _) ((hy.put hb1 _).put hb2 _) hl hl' ?_;cases e3:(xs==ys)
   ·rw[e3]at h;simp(disch:=omega);exact ae hs h
   ·rw[e3]at h;simp(disch:=omega);exact ae hs h
def Yz(l:B8)(P:Dk×B8)(M0:Mem)(c:Nat)(x:(Nat×Nat)×(Dk×B8)×Value)(N:Mem):Prop:=
 x.2.1.1.ok/\x.2.1.2.length<=x.1.2*1100001/\N c=some (.cells true [str x.2.1.1.w,str x.2.1.1.p,x.2.2] 3)/\Rd N x.2.2 (strs x.2.1.1.ms)/\Sub M0 N /\
  ((x.1.1<=l.length/\x.1.2<=x.1.1/\(∀ u∈(l.take x.1.1).drop x.1.2,u≠10)/\(spR 10 (l.drop x.1.2)).foldl cf x.2.1=P)\/(x.1.1=l.length+1/\x.1.2<=l.length+1/\x.2.1=P))
theorem Vj{d:Dk}(h:d.ok)(l:B8):rlD d l=(eL d l).1/\rlT d l=(eL d l).2:=by
 have e:gS d.w d.p d.ms=true:=by
  obtain⟨h1,h2,h3⟩:=h;unfold gS;rw[h1,h2,h3];rfl
 unfold rlD rlT;rw[if_pos e,if_pos e];exact⟨rfl,rfl⟩
theorem RB{S:Dk×B8}{w:B8}{b i:Nat}(hok:S.1.ok)(hw:w≠[])(hwl:w.length<=1000000)(hlen:S.2.length<=b*1100001)(hb:b<i+1):(cf S w).2.length<=(i+1)*1100001/\(cf S w).1.ok:=by
 have hr:=po hok hwl;have hst:cf S w=((eL S.1 w).1,S.2++(eL S.1 w).2++[10]):=by unfold cf;rw[if_neg hw]
 rw[hst];refine⟨?_,uZ hok w⟩;show (S.2++(eL S.1 w).2++[10]).length<=_;rw[lAp,lAp,length_singleton,Nat.succ_mul];have:=Nat.mul_le_mul_right 1100001 (show b<=i by omega);omega
theorem DE{l:B8}{p:Dk×B8}(h:eC l=some p):daD l=p.1/\daB l=true/\kx l=p.2:=by
 unfold daD daB kx;rw[h];exact⟨rfl,rfl,rfl⟩
theorem Sv{l:B8}(h:eC l=none):daD l=zDk/\daB l=false/\kx l=[]:=by
 unfold daD daB kx;rw[h];exact⟨rfl,rfl,rfl⟩
set_option maxHeartbeats 4000000 in
theorem wR(l:B8)(cut:Int)(M:Mem)(hvar:bW M)(hcut : -9223372036854775808<=cut/\cut<=9223372036854775807):ar prog 4 [str l,.int .i64 cut] M (fun v _=>v=.bool true):=by
 refine fnS func4 rfl ntmps4 results4 ?_;by_cases hbig:1048576<l.length
 ·have hbI:(1048576:Int)<(l.length:Nat):=by omega
  simp(disch:=omega)[hbI];exact ad rfl
 have hbI:¬(1048576:Int)<(l.length:Nat):=by omega
 simp(disch:=omega)[hbI];refine fQ l _ _ (by omega) hvar ?_;simp(disch:=omega);refine iK l _ _ (by omega) hvar ?_;intro v1 M1 o1;have hf1:=aT o1.rd;have hvar1:=hvar.sub o1.sub;unfold dkV;simp(disch:=omega);intro b6 hb6;have s1:=(Sub.refl M1).put hb6 (.cells true [str (daD l).w,str (daD l).p,v1] 3);have k6:=ag M1 b6 (.cells true [str (daD l).w,str (daD l).p,v1] 3);have r1:=o1.rd.sub s1;have hvar2:=hvar1.sub s1;simp(disch:=omega)[hf1,aj,aW];generalize M1.put b6 (.cells true [str (daD l).w,str (daD l).p,v1] 3)=P1 at *;refine iL l _ _ (by omega) ?_;intro v2 M2 o2;have hf2:=aT o2.rd;unfold dkV;simp(disch:=omega);intro b8 hb8;have k6a:=o2.sub _ _ k6;have n68:b6≠b8:=by rintro rfl;rw[k6a]at hb8;cases hb8
 have s2:=(Sub.refl M2).put hb8 (.cells true [str (daD l).w,str (daD l).p,v2] 3);have k8:=ag M2 b8 (.cells true [str (daD l).w,str (daD l).p,v2] 3);have k6b:=s2 _ _ k6a;have r1b:=(r1.sub o2.sub).sub s2;have r2b:=o2.rd.sub s2;have hvar3:=(hvar2.sub o2.sub).sub s2;simp(disch:=omega)[hf2,aj,aW];generalize M2.put b8 (.cells true [str (daD l).w,str (daD l).p,v2] 3)=P2 at *;refine sf l _ _ (by omega) ?_;cases hcx:eC l with
 | none=>
  obtain⟨e1,e2,e3⟩:=Sv hcx;simp(disch:=omega)[e2,e3,undef];exact ad rfl
 | some P=>
  obtain⟨e1,e2,e3⟩:=DE hcx;obtain⟨c1,c2,c3⟩:=Cb hcx;have hsm:(daD l).ms.length<=1099511627776:=by have:=Cx l;omega
  simp(disch:=omega)[e2,aq k6b,aq k8];refine zk _ _ _ _ _ _ _ _ _ _ r1b r2b hsm hsm ?_;simp(disch:=omega);have hPl:P.2.length<=50000000:=by
   have h:=tV (bR l) (fun w hw=>by have:=HL l w hw;omega) (bR l).length (lRf _);rw[zE,c3]at h;exact Nat.le_trans h (Nat.le_trans (Nat.mul_le_mul_right 1100001 c2) (by decide))
  rw[e3];have five:cut<0\/∃ k:Nat,cut=k/\(l.length<k\/(k<=l.length/\k=0)\/(1<=k/\k<=l.length/\l[k-1]?=some 10)\/(1<=k/\k<=l.length/\∃ u:UInt8,l[k-1]?=some u/\u≠10)):=by
   by_cases h0:cut<0
   ·exact .inl h0
   ·refine .inr ⟨cut.toNat,by omega,?_⟩;generalize cut.toNat=k;by_cases h1:l.length<k
    ·exact .inl h1
    ·by_cases h2:k=0
     ·exact .inr (.inl ⟨by omega,h2⟩)
     ·have hx:l[k-1]?=some (l[k-1]'(by omega)):=gEl (by omega);by_cases h3:l[k-1]'(by omega)=10
      ·exact .inr (.inr (.inl ⟨by omega,by omega,by rw[hx,h3]⟩))
      ·exact .inr (.inr (.inr ⟨by omega,by omega,_,hx,h3⟩))
  rcases five with ha|⟨k,rfl,hb|⟨hc,rfl⟩|⟨hd1,hd2,hdx⟩|⟨he1,he2,u,hex,hu⟩⟩
  all_goals first
   | (
     have q1:¬(0:Int)<=cut:=by omega
     simp(disch:=omega)[q1,undef])
   | (
     have q2:¬(k:Int)<=(l.length:Nat):=by omega
     simp(disch:=omega)[q2,undef])
   | (
     have hc':=hc;obtain⟨q,hq1,hq2⟩:=Gj (k:=0) (lZe _) (.inl rfl) hcx;rw[take_zero]at hq1;have hpl:=hq2.length_le;have hpI:¬((P.2.length:Nat):Int)<(q.2.length:Nat):=by omega
     have htk:P.2.take q.2.length=q.2:=(List.prefix_iff_eq_take.1 hq2).symm;simp(disch:=omega)[undef];refine fQ [] _ _ (lZe _) hvar3 ?_;rw[(DE hq1).2.2];simp(disch:=omega)[hpI,htk])
   | (
     have q2:(k:Int)<=(l.length:Nat):=by omega
     have q3:¬(k:Int)=0:=by omega
     have q4:((k:Int)-1).toNat=k-1:=by omega
     have q5:l[k-1]'(by omega)=10:=by rw[gEl (by omega)]at hdx;injection hdx
     obtain⟨q,hq1,hq2⟩:=Gj hd2 (.inr hdx) hcx;have hpl:=hq2.length_le;have hpI:¬((P.2.length:Nat):Int)<(q.2.length:Nat):=by omega
     have htk:P.2.take q.2.length=q.2:=(List.prefix_iff_eq_take.1 hq2).symm;simp(disch:=omega)[q2,q4,q5];refine fQ (l.take k) _ _ (by rw[lTa];omega) hvar3 ?_;rw[(DE hq1).2.2];simp(disch:=omega)[hpI,htk])
   | (
     have q2:(k:Int)<=(l.length:Nat):=by omega
     have q3:¬(k:Int)=0:=by omega
     have q4:((k:Int)-1).toNat=k-1:=by omega
     have q5:l[k-1]'(by omega)=u:=by rw[gEl (by omega)]at hex;injection hex
     have q6:((u.toNat:Int)==10)=false:=by
      rw[bNe];intro e;exact hu (UInt8.toNat_inj.1 (by show u.toNat=10;omega))
     have q7:decide (k=0)=false:=decide_eq_false (by omega);simp(disch:=omega)[q2,q4,q5,q6,q7])
  all_goals
   refine fV _ _ ?_;intro v9 M9 o9;unfold cQ;have hf9:=aT o9.rd;simp(disch:=omega);intro b11 hb11;simp(disch:=omega)[hf9,aj,aW];have hvar4:=hvar3.sub o9.sub;have hr9:=o9.rd.put hb11 (.cells true [str [97,98,97,97,98],str [65,65],v9] 3);have s9:=(Sub.refl M9).put hb11 (.cells true [str [97,98,97,97,98],str [65,65],v9] 3);have k11:=ag M9 b11 (.cells true [str [97,98,97,97,98],str [65,65],v9] 3);have k69:=o9.sub _ _ k6b;have n611:b6≠b11:=by rintro rfl;rw[k69]at hb11;cases hb11
   have rl9:=r1b.sub o9.sub;generalize M9.put b11 (.cells true [str [97,98,97,97,98],str [65,65],v9] 3)=P3 at *;refine aP aR (rlA [12,13,14,15,16] 91 35) (fun x:(Nat×Nat)×(Dk×B8)×Value=>[(14,.int .i64 (x.1.1:Nat)),(13,.int .i64 (x.1.2:Nat)),(12,str x.2.1.2)]) (fun x N=>Yz l P M9 b11 x N) (fun x=>l.length+1-x.1.1) ((0,0),(dW,[]),v9) (by kernel_rfl) (by simp(disch:=omega))
    ⟨sZ,lZe _,k11,hr9,s9,.inl ⟨lZe _,lRf _,by simp,by rw[drop_zero,<-Re];exact c3⟩⟩ ?_
   rintro⟨⟨i,b⟩,S,v⟩ N g hJ
   obtain⟨hok,hlen,kb,hr,hs,hcase⟩:=hJ;simp only at hok hlen kb hr hs hcase;rcases hcase with ⟨hi,hbi,hnn,hfold⟩|⟨hi,hb1,hS⟩
   ·have hle:(i:Int)<=(l.length:Nat):=by omega
    by_cases hno:∃ u:UInt8,l[i]?=some u/\u≠10
    ·obtain⟨u,hx,hu⟩:=hno;have hlt:i<l.length:=by
      rcases Nat.lt_or_ge i l.length with h|h
      ·exact h
      ·rw[getElem?_eq_none h]at hx;cases hx
     have hltI:(i:Int)<(l.length:Nat):=by omega
     have hg5:l[i]=u:=by rw[gEl hlt]at hx;injection hx
     have q6:((u.toNat:Int) != 10)=true:=by
      rw[bne_iff_ne];intro e;exact hu (UInt8.toNat_inj.1 (by show u.toNat=10;omega))
     simp(disch:=omega)[hle,hltI,hg5,q6];exact rndS ((i+1,b),S,v) ⟨hok,hlen,kb,hr,hs,.inl ⟨hlt,by simp only;omega,NO hbi hx hu hnn,hfold⟩⟩
    ·have hstop:(i<l.length/\l[i]?=some 10)\/i=l.length:=by
      rcases Nat.lt_or_ge i l.length with h|h
      ·refine .inl ⟨h,?_⟩;by_cases h3:l[i]=10
       ·rw[gEl h,h3]
       ·exact absurd ⟨_,gEl h,h3⟩ hno
      ·exact .inr (by omega)
     have hnext:((i+1<=l.length/\i+1<=i+1/\(∀ u∈(l.take (i+1)).drop (i+1),u≠10)/\(spR 10 (l.drop (i+1))).foldl cf (cf S ((l.take i).drop b))=P)\/(i+1=l.length+1/\i+1<=l.length+1/\cf S ((l.take i).drop b)=P)):=by
      rcases hstop with ⟨h,hx⟩|h
      ·refine .inl ⟨h,lRf _,?_,Ou hbi hx hnn hfold⟩;rw[drop_eq_nil_of_le (by rw[lTa];omega)];intro u hu;cases hu
      ·exact .inr ⟨by omega,by omega,by rw[h]at hnn ⊢;exact NF hnn hfold⟩
     have hwl:((l.take i).drop b).length=i-b:=by rw[length_drop,lTa];omega
     by_cases hgt:b<i
     ·have hgI:(b:Int)<(i:Nat):=by omega
      have hbI:(b:Int)<=(i:Nat):=by omega
      have hw60:=au hok.1;have hp8:=(bJ hok.2.1).2.1;have hfi:cP S.1.ms:=fun w hw=>by have:=(bL hok.2.2 hw).1;omega
      have hm5:=(aV hok.2.2).2;rcases hstop with ⟨hh,hx⟩|hh
      all_goals first
       | (
         have hltI:(i:Int)<(l.length:Nat):=by omega
         have hg5:l[i]=10:=by rw[gEl hh]at hx;injection hx
         simp(disch:=omega)[hle,hltI,hg5,hgI])
       | (
         have hltI:¬(i:Int)<(l.length:Nat):=by omega
         simp(disch:=omega)[hle,hltI,undef,hgI])
      all_goals
       refine plyS (ak [0,1,2,3,4] (.alt 5 1 (ak [6,7,8] (.one 9 1 (.one 10 2 (ak [11] .fin)))) (.one 9 1 (.one 5 1 (ak [6,7,8] (.one 10 2 (ak [11] .fin))))))) ?_;simp(disch:=omega)[aq kb,jz];have hwne:(l.take i).drop b≠[]:=by
        intro e;rw[e]at hwl;have:(0:Nat)=i-b:=hwl;omega
       have hwlen:((l.take i).drop b).length<=1000000:=by omega
       obtain⟨ht1,ht2⟩:=RB hok hwne hwlen hlen (i:=i) (by omega);obtain⟨hd1,hd2⟩:=Vj hok ((l.take i).drop b);have hst:cf S ((l.take i).drop b)=((eL S.1 ((l.take i).drop b)).1,S.2++(eL S.1 ((l.take i).drop b)).2++[10]):=by unfold cf;rw[if_neg hwne]
       have hrl:=po hok hwlen;have hSl:S.2.length<=2000000000000:=Nat.le_trans hlen (Nat.le_trans (Nat.mul_le_mul_right 1100001 (show b<=1100000 by omega)) (by decide));have hl15:((l.take i).drop b).length<=1500000:=by omega
       clear hlen hwl;generalize (l.take i).drop b=w at *;have m9:∀ c,M9 c=none->∀ X,Sub M9 (N.put c X):=fun c hc X=>(hs.ovr hc X);refine⟨?_,?_⟩
       ·refine fR S.1 v w _ _ (by omega) (by omega) hfi (by omega) (hvar4.sub hs) hr hl15 ?_;rw[hd1,hd2];intro v7 M7 o7;have hf7:=aT o7.rd;have kb7:=o7.sub _ _ kb;unfold dkV;simp(disch:=omega);refine⟨o7.sub,?_⟩;intro b15 hb15;have nb:b11≠b15:=by rintro rfl;rw[kb7]at hb15;cases hb15
        generalize eL S.1 w=RR at *;simp(disch:=omega)[hf7,aj,aW,kb7];refine⟨(Sub.refl M7).put hb15 _,?_⟩;refine rndA ((i+1,i+1),cf S w,v7) (by simp(disch:=omega)[hst]) ⟨ht2,ht1,?_,?_,((hs.trans o7.sub).putN hb15 _).ovr hb11 _,hnext⟩
        ·simp only;rw[hst];exact ag _ _ _
        ·simp only;rw[hst];exact((o7.push hb15 _).other (by rw[ai _ _ nb];exact kb) _).rd
       ·intro b15 hb15;have nb:b11≠b15:=by rintro rfl;rw[kb]at hb15;cases hb15
        have sq:=(Sub.refl N).put hb15 (.cells true [str [],str [],.slice none 0 0] 3);have z15:=ag N b15 (.cells true [str [],str [],.slice none 0 0] 3);have z11:=sq _ _ kb;simp(disch:=omega);refine⟨sq,?_⟩;generalize N.put b15 (.cells true [str [],str [],.slice none 0 0] 3)=Q at *;refine fR S.1 v w _ _ (by omega) (by omega) hfi (by omega) ((hvar4.sub hs).sub sq) (hr.sub sq) hl15 ?_;rw[hd1,hd2];intro v7 M7 o7;have hf7:=aT o7.rd;have kb7:=o7.sub _ _ z11;have k157:=o7.sub _ _ z15;unfold dkV;generalize eL S.1 w=RR at *;simp(disch:=omega)[hf7,aj,kb7,k157];refine⟨o7.sub,?_⟩;refine rndA ((i+1,i+1),cf S w,v7) (by simp(disch:=omega)[hst]) ⟨ht2,ht1,?_,?_,(((hs.trans sq).trans o7.sub).ovr (bA hs hb15) _).ovr hb11 _,hnext⟩
        ·simp only;rw[hst];exact ag _ _ _
        ·simp only;rw[hst];exact((o7.other z15 _).other (by rw[ai _ _ nb];exact z11) _).rd
     ·have hgI:¬(b:Int)<(i:Nat):=by omega
      obtain rfl:b=i:=by omega
      have hw0:(l.take b).drop b=[]:=drop_eq_nil_of_le (by rw[lTa];omega);rw[hw0,Cy]at hnext;have hlen':S.2.length<=(b+1)*1100001:=Nat.le_trans hlen (Nat.mul_le_mul_right 1100001 (by omega));rcases hstop with ⟨hh,hx⟩|hh
      all_goals first
       | (
         have hltI:(b:Int)<(l.length:Nat):=by omega
         have hg5:l[b]=10:=by rw[gEl hh]at hx;injection hx
         simp(disch:=omega)[hle,hltI,hg5])
       | (
         have hltI:¬(b:Int)<(l.length:Nat):=by omega
         simp(disch:=omega)[hle,hltI,undef])
      all_goals
       exact rndS ((b+1,b+1),S,v) ⟨hok,hlen',kb,hr,hs,hnext⟩
   ·have hle:¬(i:Int)<=(l.length:Nat):=by omega
    subst hS;simp(disch:=omega)[hle,aq kb,aq (hs _ _ k69)];rw[e1]at rl9 hsm ⊢;refine zk _ _ _ _ _ _ _ _ _ _ hr (rl9.sub hs) hsm hsm ?_;simp(disch:=omega);exact ad rfl
end Go.Proofs.YtapimhjbilkfpaaGreatDoor
