/- Lemmas for FnExactDeskAfter, part 29 of 33. -/
import Derived.Test.YtapimhjbilkfpaaGreatDoorZ27
set_option linter.unusedVariables false
set_option linter.unusedSimpArgs false
namespace Go.Proofs.YtapimhjbilkfpaaGreatDoor
open Go Go.Proofs.Tryz List
theorem tr{M N M4:Mem}{v v':Value}{d d':Dk}(hs:Sub M N){b:Nat}(hb:M b=none){B:Blk}(k:N b=some B)(g:Gv N v d v' d' M4)(X:Blk):∃ M',Gv M v d v' d' M'/\Sub M' (M4.put b X)/\M4 b=some B:=by
 rcases g with ⟨h1,h2,rfl⟩|o
 ·exact⟨M,.inl ⟨h1,h2,rfl⟩,hs.ovr hb X,k⟩
 ·rcases o with ⟨h1,h2,rfl⟩|⟨b',c,h1,h2,h3,rfl⟩
  ·refine⟨M,.inr ?_,hs.ovr hb X,k⟩;rw[h1,h2];exact Own.nil M
  ·have hne:b≠b':=by rintro rfl;rw[k]at h2;cases h2
   refine⟨M.put b' (.cells true (strs d'.ms) c),.inr (.inr ⟨b',c,h1,bA hs h2,h3,rfl⟩),(hs.both b' _).ovr (by rw[ai _ _ hne];exact hb) X,by rw[ai _ _ hne];exact k⟩
theorem eD{M M':Mem}{v v':Value}{d d':Dk}(hf:bH v=true)(g:Gv M v d v' d' M'):bH v'=true:=by
 rcases g with ⟨rfl,_,_⟩|o
 ·exact hf
 ·exact aT o.rd
theorem O0(c:B8):tU c=decide (c∈[[119,111,114,100],[97,100,100],[112,97,116,116,101,114,110],[109,111,114,112,104,105,115,109]]):=by
 unfold tU;simp only[mem_cons,not_mem_nil,or_false,Bool.decide_or]
theorem mZ(l:List B8){i:Nat}(h:i<l.length):eM (l.take (i+1))=eM (l.take i)++[((cj l[i]:Nat):Int)]:=by
 unfold eM;rw[aw l h,map_append];rfl
theorem Fq(v:Value)(l:List B8)(x:B8)(M:Mem)(R:VP)(hv:Rd M v (strs l))(hl:l.length<=100000)(h:∀ n:Int,(0<=n↔x∈l)->R (.int .i64 n) M):ar prog 212 [v,str x] M R:=by
 refine fnS func212 rfl ntmps212 results212 ?_;obtain⟨a,c,rfl,ha⟩:=hv.opened;rw[ah]at ha ⊢;simp(disch:=omega);refine lupS (rlA [4,5] 8 11) (fun i:Nat=>[(8,.int .i64 (i:Nat))]) (fun i N=>M=N/\i<=l.length/\∀ j (hj:j<l.length),j<i->l[j]≠x) (fun i=>l.length-i) 0 ⟨rfl,lZe _,fun j _ h=>by omega⟩ ?_
 rintro i N g ⟨rfl,hi,hno⟩
 by_cases hlt:i<l.length
 ·have hltI:(i:Int)<(l.length:Nat):=by omega
  rcases ha with hz|⟨b,o,rfl,ha⟩
  ·omega
  have hg:=ha i hlt;rw[ba,gEl hlt,Option.map_some]at hg;have hm:l[i]∈l:=getElem_mem hlt;have hno':l[i]≠x->∀ j (hj:j<l.length),j<i+1->l[j]≠x:=fun h0 j hj hji=>by
   by_cases e:j=i
   ·subst e;exact h0
   ·exact hno j hj (by omega)
  generalize l[i]=y at *;by_cases he:x=y
  ·have h0:=h i ⟨fun _=>he▸hm,fun _=>by omega⟩;simp(disch:=omega)[hltI,hg,he];exact ad h0
  ·have he2:=hno' (Ne.symm he);simp(disch:=omega)[hltI,hg,bNe.2 he];exact rndS (i+1) ⟨rfl,by omega,he2⟩
 ·have hltI:¬(i:Int)<(l.length:Nat):=by omega
  have h0:=h (-1) ⟨fun q=>by omega,fun q=>by
   obtain⟨j,hj,e⟩:=getElem_of_mem q;exact absurd e (hno j hj (by omega))⟩
  simp(disch:=omega)[hltI];exact ad h0
theorem nT(c:B8)(M:Mem)(R:VP)(h:R (.bool (tU c)) M):ar prog 98 [str c] M R:=by
 refine fnS func98 rfl ntmps98 results98 ?_;simp(disch:=omega);intro b hb;simp(disch:=omega);have sN:=(Sub.refl M).put hb (.cells true (strs [[119,111,114,100],[97,100,100],[112,97,116,116,101,114,110],[109,111,114,112,104,105,115,109]]) 4);have hr:Rd (M.put b (.cells true (strs [[119,111,114,100],[97,100,100],[112,97,116,116,101,114,110],[109,111,114,112,104,105,115,109]]) 4)) (.slice (some ⟨b,0,none⟩) 4 4) (strs [[119,111,114,100],[97,100,100],[112,97,116,116,101,114,110],[109,111,114,112,104,105,115,109]]):=Rd.new rfl (lRf 4);refine fnS func147 rfl ntmps147 results147 ?_;simp(disch:=omega);refine Fq _ _ c _ _ hr (by decide) ?_;intro n hn;rw[O0]at h;have hd:decide (c∈[[119,111,114,100],[97,100,100],[112,97,116,116,101,114,110],[109,111,114,112,104,105,115,109]])=decide (0<=n):=by
  rw[decide_eq_decide];exact hn.symm
 rw[hd]at h;simp(disch:=omega);refine ad ?_;simp(disch:=omega);exact ae sN h
set_option maxHeartbeats 1000000 in
theorem nF(v:Value)(l:List B8)(M:Mem)(R:VP)(hvar:bW M)(hv:Rd M v (strs l))(hl:l.length<=2000000)(hf:∀ w∈l,w.length<=2000000)
  (h1:l.all bS=true->∀ v' M',Own M v' (ints (eM l)) M'->R (.tuple #[v',.bool true]) M') (h0:l.all bS=false->R (.tuple #[.slice none 0 0,.bool false]) M):ar prog 102 [v] M R:=by
 refine fnS func102 rfl ntmps102 results102 ?_;obtain⟨a,c,rfl,ha⟩:=hv.opened;rw[ah]at ha ⊢;simp(disch:=omega);refine lupS (rlA [2,3,4,6,7,8] 11 31) (fun x:Nat×Value=>[(11,.int .i64 (x.1:Nat)),(4,x.2)]) (fun x N=>x.1<=l.length/\(∀ w∈l.take x.1,bS w=true)/\Own M x.2 (ints (eM (l.take x.1))) N) (fun x=>l.length-x.1) (0,.slice none 0 0) ⟨lZe _,(by intro w hw;simp at hw),(by simp only[take_zero];exact Own.nil M)⟩ ?_
 rintro⟨i,u⟩ N g ⟨hi,hall,ho⟩
 simp only at hi hall ho;by_cases hlt:i<l.length
 ·have hltI:(i:Int)<(l.length:Nat):=by omega
  rcases ha with hz|⟨b,o,rfl,ha⟩
  ·omega
  have hg:=ha i hlt;rw[ba,gEl hlt,Option.map_some]at hg;have hg2:=jK hg ho.sub;have hm:l[i]∈l:=getElem_mem hlt;have hns:=mZ l hlt;have hnl:(eM (l.take i)).length=i:=by unfold eM;rw[length_map,lTa];omega
  have hts:=aw l hlt;have hwl:=hf _ hm;have hvN:=hvar.sub ho.sub;have hbad:bS l[i]=false->R (.tuple #[.slice none 0 0,.bool false]) M:=fun e=>h0 (by
   rw[all_eq_false];exact⟨_,hm,by rw[e];decide⟩)
  generalize l[i]=w at *;simp(disch:=omega)[hltI,hg2];refine Bw w _ _ hvN (by omega) (fun n hp=>?_) (fun hp n tp p=>?_)
  ·by_cases hn0:n<0
   ·have hb:=hbad (by
     cases hb:bS w with
     | false=>rfl
     | true=>rw[um hb]at hp;injection hp with hp;omega)
    simp(disch:=omega)[hn0,undef];exact ae ho.sub hb
   ·by_cases h9:(9:Int)<w.length
    ·have hb:=hbad (by
      cases hb:bS w with
      | false=>rfl
      | true=>have:=(Aq hb).2;omega)
     simp(disch:=omega)[hn0,h9,undef];exact ae ho.sub hb
    ·have hn1:=Qg hp;simp(disch:=omega)[hn0,h9];refine dR n _ _ hvN (by omega) hn1 ?_;by_cases he:Lib.itoa n=w
     ·obtain⟨q1,q2⟩:=Rr hp (by omega) (by omega) he;rw[q2]at hns;simp(disch:=omega)[he];intro b' hb';simp(disch:=omega);refine aN ho ((Sub.refl _).put hb' _) (by simp(disch:=omega);rfl) rfl rfl (by first|omega|(simp(disch:=omega)<;>omega)) (by simp(disch:=omega)) (by simp(disch:=omega)[hnl];omega) ?_;intro v' M'' N'' ho' hs';rw[cv,<-hns]at ho';simp(disch:=omega);refine rndM M'' (i+1,v') hs' ⟨by omega,fun y hy=>?_,ho'⟩;rw[hts]at hy;rcases List.mem_append.1 hy with hy|hy
      ·exact hall y hy
      ·rw[List.mem_singleton.1 hy];exact q1
     ·have hb:=hbad (by
       cases hb:bS w with
       | false=>rfl
       | true=>
        rw[um hb]at hp;injection hp with hp
        rw[<-hp,Qj hb]at he;exact absurd rfl he)
      simp(disch:=omega)[bNe.2 he];exact ae ho.sub hb
  ·have hb:=hbad (by
    cases hb:bS w with
    | false=>rfl
    | true=>exact absurd (um hb) (hp _))
   simp(disch:=omega)[undef];exact ae ho.sub hb
 ·have hltI:¬(i:Int)<(l.length:Nat):=by omega
  have hie:i=l.length:=by omega
  rw[hie,take_length]at ho hall;simp(disch:=omega)[hltI];exact ad (h1 (List.all_eq_true.2 hall) _ _ ho)
set_option maxHeartbeats 1000000 in
theorem I6(d:Dk)(v:Value)(c w:B8)(M:Mem)(R:VP)(hd:d.ok)(hvar:bW M)(hv:Rd M v (strs d.ms))(hc:c.length<=2000000)(hwl:w.length<=2000000)
  (h:∀ d' t k,Got (if bS w then bec d (gI c (cj w:Nat)) (iH c (cj w:Nat)) else none) d' t k->d'.ms=d.ms->R (bh d' v t k) M):ar prog 101 [dkV d v,str c,str w] M R:=by
 obtain⟨hw,hp,hm⟩:=hd;have hw60:=au hw;have hp8:=(bJ hp).2.1;have hfi:cP d.ms:=fun w hw=>by have:=(bL hm hw).1;omega
 have hm5:=(aV hm).2;have hf:=aT hv;unfold dkV;refine fnS func101 rfl ntmps101 results101 ?_;simp(disch:=omega);intro b1 hb1;have h1:Sub M (M.put b1 (.cells true [str d.w,str d.p,v] 3)):=(Sub.refl M).put hb1 _;simp(disch:=omega);intro b2 hb2;have h2:=hb2;rw[aA]at h2;have sN:=h1.putN hb2 (.cells true [str [],str [],.slice none 0 0,str [],.int .i64 0] 5);have k1:((M.put b1 (.cells true [str d.w,str d.p,v] 3)).put b2 (.cells true [str [],str [],.slice none 0 0,str [],.int .i64 0] 5)) b1=some (.cells true [str d.w,str d.p,v] 3):=by rw[ai _ _ (Ne.symm h2.1)];exact ag _ _ _
 have k2:((M.put b1 (.cells true [str d.w,str d.p,v] 3)).put b2 (.cells true [str [],str [],.slice none 0 0,str [],.int .i64 0] 5)) b2=some (.cells true [str [],str [],.slice none 0 0,str [],.int .i64 0] 5):=ag _ _ _;generalize (M.put b1 (.cells true [str d.w,str d.p,v] 3)).put b2 (.cells true [str [],str [],.slice none 0 0,str [],.int .i64 0] 5)=N at *;have hvN:=hv.sub sN;have hvar2:=hvar.sub sN;simp(disch:=omega);intro b3 hb3;simp(disch:=omega);have s3:=sN.putN hb3 (.cells true [str w] 1);have n13:b1≠b3:=by rintro rfl;rw[k1]at hb3;cases hb3
 have n23:b2≠b3:=by rintro rfl;rw[k2]at hb3;cases hb3
 have k1':(N.put b3 (.cells true [str w] 1)) b1=some (.cells true [str d.w,str d.p,v] 3):=by rw[ai _ _ n13];exact k1
 have k2':(N.put b3 (.cells true [str w] 1)) b2=some (.cells true [str [],str [],.slice none 0 0,str [],.int .i64 0] 5):=by rw[ai _ _ n23];exact k2
 have r3:Rd (N.put b3 (.cells true [str w] 1)) (.slice (some ⟨b3,0,none⟩) 1 1) (strs [w]):=Rd.new (xs:=strs [w]) rfl (lRf 1);have hvar3:=hvar.sub s3;generalize N.put b3 (.cells true [str w] 1)=N3 at *;clear k1 k2;have hall:[w].all bS=bS w:=by simp
 refine nF _ [w] _ _ hvar3 r3 (by simp) (by intro x hx;rw[List.mem_singleton.1 hx];exact hwl) (fun hn v' M' o=>?_) (fun hn=>?_)
 ·rw[hall]at hn;rw[hn,if_pos rfl]at h;have hnm:eM [w]=[((cj w:Nat):Int)]:=rfl;rw[hnm]at o;have s4:=s3.trans o.sub;have k1:=o.sub _ _ k1';have k2:=o.sub _ _ k2';have hro:=o.rd;obtain⟨a,q,hv',ha⟩:=hro.opened;have e1:(ints [((cj w:Nat):Int)]).length=1:=rfl;rw[e1]at hv' ha;subst hv';rcases ha with hz|⟨b4,o4,rfl,ha⟩
  ·cases hz
  have g4:M'.get? b4 o4=some (.int .i64 (cj w:Nat)):=by
   have:=ha 0 (by decide);rw[Nat.add_zero]at this;exact this
  clear ha hro;simp(disch:=omega);refine plyS (ak [0,1,2,3,4] (.one 5 1 (ak [6,7] (.one 8 1 (.one 9 2 .fin))))) ?_;simp(disch:=omega)[aq k1,g4];refine zW c _ _ _ (by omega) ?_;unfold aE;simp(disch:=omega);refine bP d v hf _ _ _ _ (by have:=yn c (cj w:Nat);omega) ?_;have h:=h ⟨gI c (cj w:Nat),d.p,d.ms⟩ _ _ rfl rfl;unfold bh at h ⊢;simp(disch:=omega)[k2,aj,hf];exact ae (s4.ovr h2.2 _) h
 ·rw[hall]at hn;rw[hn,if_neg (by decide)]at h;simp(disch:=omega)[aq k1'];refine cy d v hf _ _ ?_;have h:=h d [] 6 rfl rfl;unfold bh at h ⊢;simp(disch:=omega)[k2',aj,hf];exact ae (s3.ovr h2.2 _) h
set_option maxHeartbeats 1000000 in
theorem IV(d:Dk)(v:Value)(c u:B8)(M:Mem)(R:VP)(hd:d.ok)(hvar:bW M)(hv:Rd M v (strs d.ms))(hu:u.length<=2000000)
  (h:∀ d' v' t k M',Gv M v d v' d' M'->Got (dX d c u) d' t k->R (bh d' v' t k) M'):ar prog 99 [dkV d v,str c,str u] M R:=by
 obtain⟨hw,hp,hm⟩:=hd;have hw60:=au hw;have hp8:=(bJ hp).2.1;have hfi:cP d.ms:=fun w hw=>by have:=(bL hm hw).1;omega
 have hm5:=(aV hm).2;have hf:=aT hv;unfold dkV;refine fnS func99 rfl ntmps99 results99 ?_;simp(disch:=omega);intro b1 hb1;have h1:Sub M (M.put b1 (.cells true [str d.w,str d.p,v] 3)):=(Sub.refl M).put hb1 _;simp(disch:=omega);intro b2 hb2;have h2:=hb2;rw[aA]at h2;have sN:=h1.putN hb2 (.cells true [str [],str [],.slice none 0 0,str [],.int .i64 0] 5);have k1:((M.put b1 (.cells true [str d.w,str d.p,v] 3)).put b2 (.cells true [str [],str [],.slice none 0 0,str [],.int .i64 0] 5)) b1=some (.cells true [str d.w,str d.p,v] 3):=by rw[ai _ _ (Ne.symm h2.1)];exact ag _ _ _
 have k2:((M.put b1 (.cells true [str d.w,str d.p,v] 3)).put b2 (.cells true [str [],str [],.slice none 0 0,str [],.int .i64 0] 5)) b2=some (.cells true [str [],str [],.slice none 0 0,str [],.int .i64 0] 5):=ag _ _ _;generalize (M.put b1 (.cells true [str d.w,str d.p,v] 3)).put b2 (.cells true [str [],str [],.slice none 0 0,str [],.int .i64 0] 5)=N at *;have hvN:=hv.sub sN;have hvar2:=hvar.sub sN;by_cases c0:c=[119,111,114,100]
 ·subst c0;have e:dX d [119,111,114,100] u=if isWord u then bec d u 0 else none:=by simp[dX]
  rw[e]at h;simp(disch:=omega);refine fG u _ _ (by omega) ?_;cases hq:isWord u
  ·rw[hq,if_neg (by decide)]at h;simp(disch:=omega)[aq k1];refine cy d v hf _ _ ?_;have h:=h d v [] 6 M (.inl ⟨rfl,rfl,rfl⟩) rfl;unfold bh at h ⊢;simp(disch:=omega)[k2,aj,hf];exact ae (sN.ovr h2.2 _) h
  ·rw[hq,if_pos rfl]at h;simp(disch:=omega)[aq k1];refine bP d v hf _ _ _ _ (by omega) ?_;have h:=h ⟨u,d.p,d.ms⟩ v _ _ M (.inl ⟨rfl,rfl,rfl⟩) rfl;unfold bh at h ⊢;simp(disch:=omega)[k2,aj,hf];exact ae (sN.ovr h2.2 _) h
 by_cases c1:c=[97,100,100]
 ·subst c1;have e:dX d [97,100,100] u=bec d (mv d.w u) (nP d.w u):=by simp[dX]
  rw[e]at h;simp(disch:=omega);refine plyS (ak [0,1,2,3] (.one 4 1 (ak [5,6] (.one 7 1 (.one 8 2 .fin))))) ?_;simp(disch:=omega)[aq k1,al k1];refine bq (Ab d.w u _ _ (by omega) (by omega) fun M3 s3=>⟨s3,?_⟩);unfold aE;simp(disch:=omega);refine bP d v hf _ _ _ _ (by have:=Ez d.w u;omega) ?_;have h:=h ⟨mv d.w u,d.p,d.ms⟩ v _ _ M (.inl ⟨rfl,rfl,rfl⟩) rfl;unfold bh at h ⊢;simp(disch:=omega)[k2,aj,hf];exact ae (sN.ovr h2.2 _) h
 by_cases c2:c=[112,97,116,116,101,114,110]
 ·subst c2;have e:dX d [112,97,116,116,101,114,110] u=if a7 u then bw ⟨d.w,u,d.ms⟩ (qt u) 0 else none:=by simp[dX]
  rw[e]at h;simp(disch:=omega);refine fW u _ _ (by omega) ?_;cases hq:a7 u
  ·rw[hq,if_neg (by decide)]at h;simp(disch:=omega)[aq k1];refine cy d v hf _ _ ?_;have h:=h d v [] 6 M (.inl ⟨rfl,rfl,rfl⟩) rfl;unfold bh at h ⊢;simp(disch:=omega)[k2,aj,hf];exact ae (sN.ovr h2.2 _) h
  ·rw[hq,if_pos rfl]at h;simp(disch:=omega)[k1,aj];refine eO ⟨d.w,u,d.ms⟩ v hf _ _ _ _ (by omega) ?_;have h:=h ⟨d.w,u,d.ms⟩ v _ _ M (.inl ⟨rfl,rfl,rfl⟩) rfl;have k2':(N.put b1 (.cells true [str d.w,str u,v] 3)) b2=some (.cells true [str [],str [],.slice none 0 0,str [],.int .i64 0] 5):=by rw[ai _ _ (Ne.symm (Ne.symm h2.1))];exact k2
   unfold bh at h ⊢;simp(disch:=omega)[k2,aj,hf];exact ae ((sN.ovr hb1 _).ovr h2.2 _) h
 have e:dX d c u=bw ⟨d.w,d.p,pmL u⟩ (qt u) (pmC u):=by simp[dX,c0,c1,c2]
 rw[e]at h;simp(disch:=omega)[bNe.2 c0,bNe.2 c1,bNe.2 c2];refine rf u _ _ (by omega) ?_;intro v3 M3 o3;have k1':=o3.sub _ _ k1;have k2':=o3.sub _ _ k2;have hf3:=aT o3.rd;have r3:=o3.rd;simp(disch:=omega);intro b4 hb4;have n14:b1≠b4:=by rintro rfl;rw[k1']at hb4;cases hb4
 have n24:b2≠b4:=by rintro rfl;rw[k2']at hb4;cases hb4
 obtain⟨M4,g4,s4,m1,m2⟩:∃ M4,Own M v3 (strs (pmL u)) M4/\Sub M4 M3/\M4 b1=none/\M4 b2=none:=by
  rcases o3 with ⟨e1,e2,rfl⟩|⟨b5,c5,e1,hb5,hc5,rfl⟩
  ·refine⟨M,?_,sN,hb1,h2.2⟩;rw[e1,e2];exact Own.nil M
  ·have n15:b1≠b5:=by rintro rfl;rw[k1]at hb5;cases hb5
   have n25:b2≠b5:=by rintro rfl;rw[k2]at hb5;cases hb5
   exact⟨M.put b5 (.cells true (strs (pmL u)) c5),.inr ⟨b5,c5,e1,bA sN hb5,hc5,rfl⟩,sN.both b5 _,by rw[ai _ _ n15];exact hb1,by rw[ai _ _ n25];exact h2.2⟩
 by_cases hk:pmC u=0
 ·have hm3:=(Kf hk).1;have r4:Rd ((M3.put b4 (.cells true [v3] 1)).put b1 (.cells true [str d.w,str d.p,v3] 3)) v3 (strs (pmL u)):=by
   refine g4.rd.sub ?_;exact(s4.putN hb4 _).ovr m1 _
  have k2q:((M3.put b4 (.cells true [v3] 1)).put b1 (.cells true [str d.w,str d.p,v3] 3)) b2=some (.cells true [str [],str [],.slice none 0 0,str [],.int .i64 0] 5):=by
   rw[ai _ _ (Ne.symm (Ne.symm h2.1)),ai _ _ n24];exact k2'
  have s5:=fun X=>((s4.putN hb4 (.cells true [v3] 1)).ovr m1 (.cells true [str d.w,str d.p,v3] 3)).ovr m2 X;have h:=h ⟨d.w,d.p,pmL u⟩ v3 (qt u) (pmC u) M4 (.inr g4) rfl;rw[hk]at h;have e3:=(KZ hk).1;have e4:=(KZ hk).2;simp(disch:=omega)[hf3,hk,k1',aj,aW];refine pY ⟨d.w,d.p,pmL u⟩ v3 hf3 _ _ r4 hm3 ?_;rw[e3,e4];generalize (M3.put b4 (.cells true [v3] 1)).put b1 (.cells true [str d.w,str d.p,v3] 3)=M5 at *;unfold bh at h ⊢;simp(disch:=omega)[k2q,aj,hf3];exact ae (s5 _) h
 ·have h:=h d v [] 6 M (.inl ⟨rfl,rfl,rfl⟩) (by unfold Got bw;rw[if_neg hk];rfl);have k1q:((M3.put b4 (.cells true [v3] 1))) b1=some (.cells true [str d.w,str d.p,v] 3):=by rw[ai _ _ n14];exact k1'
  have k2q:((M3.put b4 (.cells true [v3] 1))) b2=some (.cells true [str [],str [],.slice none 0 0,str [],.int .i64 0] 5):=by rw[ai _ _ n24];exact k2'
  have s5:=fun X=>((sN.trans o3.sub).putN hb4 (.cells true [v3] 1)).ovr h2.2 X;simp(disch:=omega)[hf3,aq k1',aj,aW];refine cy d v hf _ _ ?_;generalize M3.put b4 (.cells true [v3] 1)=M5 at *;unfold bh at h ⊢;simp(disch:=omega)[k2q,aj,hf];exact ae (s5 _) h
set_option maxHeartbeats 2000000 in
theorem Ak(d:Dk)(v:Value)(c u:B8)(M:Mem)(R:VP)(hd:d.ok)(hv:Rd M v (strs d.ms))(hu:u.length<=2000000)
  (h1:tU c=true->∀ d' v' t k M',Gv M v d v' d' M'->Got (dX d c u) d' t k->R (.tuple #[dkV d' v',str t,.int .i64 k,.bool true]) M')
  (h0:tU c=false->R (.tuple #[dkV d v,str [],.int .i64 6,.bool false]) M):ar prog 60 [dkV d v,str c,str u] M R:=by
 obtain⟨hw,hp,hm⟩:=hd;have hw60:=au hw;have hp8:=(bJ hp).2.1;have hfi:cP d.ms:=fun w hw=>by have:=(bL hm hw).1;omega
 have hm5:=(aV hm).2;have hf:=aT hv;unfold dkV;refine fnS func60 rfl ntmps60 results60 ?_;simp(disch:=omega);intro b1 hb1;have s1:Sub M (M.put b1 (.cells true [str d.w,str d.p,v] 3)):=(Sub.refl M).put hb1 _;simp(disch:=omega);intro b2 hb2;have h2:=hb2;rw[aA]at h2;have sN:=s1.putN hb2 (.cells true [str [],str [],.slice none 0 0] 3);have k1:((M.put b1 (.cells true [str d.w,str d.p,v] 3)).put b2 (.cells true [str [],str [],.slice none 0 0] 3)) b1=some (.cells true [str d.w,str d.p,v] 3):=by rw[ai _ _ (Ne.symm h2.1)];exact ag _ _ _
 have k2:((M.put b1 (.cells true [str d.w,str d.p,v] 3)).put b2 (.cells true [str [],str [],.slice none 0 0] 3)) b2=some (.cells true [str [],str [],.slice none 0 0] 3):=ag _ _ _;generalize (M.put b1 (.cells true [str d.w,str d.p,v] 3)).put b2 (.cells true [str [],str [],.slice none 0 0] 3)=N at *;have hvN:=hv.sub sN;by_cases c0:c=[119,111,114,100]
 ·subst c0;have e:dX d [119,111,114,100] u=if isWord u then bec d u 0 else none:=by simp[dX]
  rw[e]at h1;simp(disch:=omega);refine bg u _ _ (by omega) ?_;cases hq:isWord u
  ·rw[hq,if_neg (by decide)]at h1;have h:=h1 rfl d v [] 6 M (.inl ⟨rfl,rfl,rfl⟩) rfl;unfold dkV at h;simp(disch:=omega)[aq k1,k2,aj,hf];exact ae (sN.ovr h2.2 _) h
  rw[hq,if_pos rfl]at h1;simp(disch:=omega)[aq k1];refine bQ d v _ _ _ _ hf (by omega) ?_;intro d2 t2 q2 hms hg;have h:=h1 rfl d2 v t2 q2 M (.inl ⟨rfl,hms,rfl⟩) hg;unfold dkV at h ⊢;simp(disch:=omega);intro b3 hb3;have n13:b1≠b3:=by rintro rfl;rw[k1]at hb3;cases hb3
  have n23:b2≠b3:=by rintro rfl;rw[k2]at hb3;cases hb3
  simp(disch:=omega)[hf,k2,aj,aW];exact ae ((sN.putN hb3 _).ovr h2.2 _) h
 by_cases c1:c=[97,100,100]
 ·subst c1;have e:dX d [97,100,100] u=bec d (mv d.w u) (nP d.w u):=by simp[dX]
  rw[e]at h1;simp(disch:=omega)[al k1];refine zw d.w u _ _ (by omega) (by omega) ?_;unfold aE;simp(disch:=omega)[aq k1];refine bQ d v _ _ _ _ hf (by have:=Ez d.w u;omega) ?_;intro d2 t2 q2 hms hg;have h:=h1 rfl d2 v t2 q2 M (.inl ⟨rfl,hms,rfl⟩) hg;unfold dkV at h ⊢;simp(disch:=omega);intro b3 hb3;have n13:b1≠b3:=by rintro rfl;rw[k1]at hb3;cases hb3
  have n23:b2≠b3:=by rintro rfl;rw[k2]at hb3;cases hb3
  simp(disch:=omega)[hf,k2,aj,aW];exact ae ((sN.putN hb3 _).ovr h2.2 _) h
 by_cases c2:c=[112,97,116,116,101,114,110]
 ·subst c2;have e:dX d [112,97,116,116,101,114,110] u=if a7 u then bw ⟨d.w,u,d.ms⟩ (qt u) 0 else none:=by simp[dX]
  rw[e]at h1;simp(disch:=omega);refine gp u _ _ (by omega) ?_;cases hq:a7 u
  ·rw[hq,if_neg (by decide)]at h1;have h:=h1 rfl d v [] 6 M (.inl ⟨rfl,rfl,rfl⟩) rfl;unfold dkV at h;simp(disch:=omega)[aq k1,k2,aj,hf];exact ae (sN.ovr h2.2 _) h
  rw[hq,if_pos rfl]at h1;simp(disch:=omega)[k1,aj];have k1':=ag N b1 (.cells true [str d.w,str u,v] 3);have k2':(N.put b1 (.cells true [str d.w,str u,v] 3)) b2=some (.cells true [str [],str [],.slice none 0 0] 3):=by rw[ai _ _ h2.1];exact k2
  have s3:=sN.ovr hb1 (.cells true [str d.w,str u,v] 3);generalize N.put b1 (.cells true [str d.w,str u,v] 3)=N3 at *;refine plyS (ak [0,1] (.one 2 1 (.one 3 2 (ak [4,5,6] .fin)))) ?_;simp(disch:=omega)[aq k1'];refine bN u _ _ (by omega) ?_;have h:=h1 rfl ⟨d.w,u,d.ms⟩ v _ _ M (.inl ⟨rfl,rfl,rfl⟩) rfl;unfold dkV at h;simp(disch:=omega)[k2',aj,hf];exact ae (s3.ovr h2.2 _) h
 by_cases c3:c=[109,111,114,112,104,105,115,109]
 ·subst c3;have e:dX d [109,111,114,112,104,105,115,109] u=bw ⟨d.w,d.p,pmL u⟩ (qt u) (pmC u):=by simp[dX]
  rw[e]at h1;simp(disch:=omega);refine qF u _ _ (by omega) ?_;intro v3 M3 o3;have k1':=o3.sub _ _ k1;have k2':=o3.sub _ _ k2;have hf3:=aT o3.rd;simp(disch:=omega);intro b4 hb4;have n14:b1≠b4:=by rintro rfl;rw[k1']at hb4;cases hb4
  have n24:b2≠b4:=by rintro rfl;rw[k2']at hb4;cases hb4
  obtain⟨M4,g4,s4,m1,m2⟩:∃ M4,Own M v3 (strs (pmL u)) M4/\Sub M4 M3/\M4 b1=none/\M4 b2=none:=by
   rcases o3 with ⟨e1,e2,rfl⟩|⟨b5,c5,e1,hb5,hc5,rfl⟩
   ·refine⟨M,?_,sN,hb1,h2.2⟩;rw[e1,e2];exact Own.nil M
   ·have n15:b1≠b5:=by rintro rfl;rw[k1]at hb5;cases hb5
    have n25:b2≠b5:=by rintro rfl;rw[k2]at hb5;cases hb5
    exact⟨M.put b5 (.cells true (strs (pmL u)) c5),.inr ⟨b5,c5,e1,bA sN hb5,hc5,rfl⟩,sN.both b5 _,by rw[ai _ _ n15];exact hb1,by rw[ai _ _ n25];exact h2.2⟩
  by_cases hk:pmC u=0
  ·have k1q:=ag (M3.put b4 (.cells true [v3] 1)) b1 (.cells true [str d.w,str d.p,v3] 3);have k2q:((M3.put b4 (.cells true [v3] 1)).put b1 (.cells true [str d.w,str d.p,v3] 3)) b2=some (.cells true [str [],str [],.slice none 0 0] 3):=by rw[ai _ _ h2.1,ai _ _ n24];exact k2'
   have s5:=fun X=>((s4.putN hb4 (.cells true [v3] 1)).ovr m1 (.cells true [str d.w,str d.p,v3] 3)).ovr m2 X;have h:=h1 rfl ⟨d.w,d.p,pmL u⟩ v3 (qt u) (pmC u) M4 (.inr g4) rfl;rw[hk]at h;simp(disch:=omega)[hf3,hk,k1',aj,aW];generalize (M3.put b4 (.cells true [v3] 1)).put b1 (.cells true [str d.w,str d.p,v3] 3)=M5 at *;refine plyS (ak [0,1,3] (.one 2 1 (.one 4 2 (ak [5,6,7] .fin)))) ?_;simp(disch:=omega)[aq k1q];refine bN u _ _ (by omega) ?_;unfold dkV at h;simp(disch:=omega)[k2q,aj,hf3];exact ae (s5 _) h
  ·have k1q:(M3.put b4 (.cells true [v3] 1)) b1=some (.cells true [str d.w,str d.p,v] 3):=by rw[ai _ _ n14];exact k1'
   have k2q:(M3.put b4 (.cells true [v3] 1)) b2=some (.cells true [str [],str [],.slice none 0 0] 3):=by rw[ai _ _ n24];exact k2'
   have s5:=fun X=>((sN.trans o3.sub).putN hb4 (.cells true [v3] 1)).ovr h2.2 X;have h:=h1 rfl d v (qt u) (pmC u) M (.inl ⟨rfl,rfl,rfl⟩) (by unfold Got bw;rw[if_neg hk,if_neg hk]);simp(disch:=omega)[hf3,aj,aW];generalize M3.put b4 (.cells true [v3] 1)=M5 at *;refine plyS (ak [0,1,3] (.one 2 1 (.one 4 2 (ak [5,6,7] .fin)))) ?_;simp(disch:=omega)[aq k1q];refine bN u _ _ (by omega) ?_;unfold dkV at h;simp(disch:=omega)[k2q,aj,hf];exact ae (s5 _) h
 have ht:tU c=false:=by simp[tU,c0,c1,c2,c3]
 have h:=h0 ht;unfold dkV at h;simp(disch:=omega)[aq k1,k2,aj,hf,bNe.2 c0,bNe.2 c1,bNe.2 c2,bNe.2 c3];exact ae (sN.ovr h2.2 _) h
theorem Ru{M:Mem}{b c:Nat}{x:B8}{r:List B8}{own:Bool}(h:M b=some (.cells own (strs (x::r)) c))(hc:r.length+1<=c):Rd M (.slice (some ⟨b,dZ 0 1 c 1,none⟩) r.length (c-1)) (strs r):=by
 have hl:(strs r).length=r.length:=ah r;by_cases h0:r=[]
 ·subst h0;exact .inl ⟨_,_,rfl,rfl⟩
 ·have h1:1<=r.length:=List.length_pos_iff.2 h0;refine .inr ⟨b,dZ 0 1 c 1,c-1,by rw[hl],?_,by rw[hl];omega⟩;have e:dZ 0 1 c 1=1:=by unfold dZ;rw[if_neg (by omega)]
  have hl2:(strs (x::r)).length=r.length+1:=by rw[ah];rfl
  rw[e,hl];unfold Mem.sub?;rw[h];simp only;rw[hl2,if_pos (by omega)];show some ((strs r).take r.length)=some (strs r);rw[take_of_length_le (by rw[hl];exact lRf _)]
theorem cU{N M4:Mem}{v v':Value}{d d':Dk}(g:Gv N v d v' d' M4):Sub N M4:=by
 rcases g with ⟨_,_,rfl⟩|o
 ·exact Sub.refl _
 ·exact o.sub
theorem gX(r:List B8):(eM r).length=r.length:=by unfold eM;rw[length_map]
theorem pf(d:Dk)(zs:List Int):ij d [115,116,97,110,100,97,114,100] zs=bec d (qC zs) (sK zs):=by simp[ij]
theorem zx(d:Dk)(c:B8)(h:c≠[115,116,97,110,100,97,114,100]):ij d c []=aM d c:=by simp[ij,h]
theorem KY(d:Dk)(c:B8)(x y:Int)(h:c≠[115,116,97,110,100,97,114,100]):ij d c [x,y]=gw d c x y:=by simp[ij,h]
theorem rR(d:Dk)(x:Int):ij d [116,117,114,110] [x]=bec d (xe d.w x) (Bq d.w x):=by simp[ij]
theorem xN(d:Dk)(x:Int):ij d [122,105,109,105,110] [x]=bec d (wQ x) (Bu x):=by simp[ij]
theorem xD(d:Dk)(c:B8)(x:Int)(h:c≠[115,116,97,110,100,97,114,100])(h1:c≠[116,117,114,110])(h2:c≠[122,105,109,105,110]):ij d c [x]=none:=by simp[ij,h,h1,h2]
theorem ze(d:Dk)(c:B8)(zs:List Int)(h:c≠[115,116,97,110,100,97,114,100])(h0:zs.length≠0)(h1:zs.length≠1)(h2:zs.length≠2):ij d c zs=none:=by
 unfold ij;rw[if_neg h]
 match zs,h0,h1,h2 with
 | [],q,_,_=>exact absurd rfl q
 | [_],_,q,_=>exact absurd rfl q
 | [_,_],_,_,q=>exact absurd rfl q
 | _::_::_::_,_,_,_=>rfl
theorem rh(l:B8):∃ c r,spR 32 l=c::r/\c.length<=l.length/\(∀ w∈r,w.length<=l.length)/\r.length<=l.length:=by
 have hne:=fo 32 l;have hf:=nY 32 l;have hn:=pg 32 l;have hc:l.count 32<=l.length:=count_le_length;cases hs:spR 32 l with
 | nil=>exact absurd hs hne
 | cons c r=>
  rw[hs]at hf hn;exact⟨c,r,rfl,hf c (mem_cons_self ..),fun w hw=>hf w (mem_cons_of_mem _ hw),by rw[length_cons]at hn;omega⟩
theorem EF(d:Dk){l c:B8}{r:List B8}(h:spR 32 l=c::r):rU d l=iq d c r:=by unfold rU;rw[h];rfl
theorem vG{r:List B8}(h:r.all bS=true):∀ z∈eM r,0<=z/\z<=1000000000:=fun z hz=>by
 unfold eM at hz;obtain⟨w,hw,rfl⟩:=List.mem_map.1 hz;have:=fu (List.all_eq_true.1 h w hw);omega
set_option maxHeartbeats 4000000 in
set_option maxRecDepth 4000 in
theorem Ek(d:Dk)(v:Value)(l:B8)(M:Mem)(R:VP)(hd:d.ok)(hvar:bW M)(hv:Rd M v (strs d.ms))(hl:l.length<=1500000)
  (h:∀ d' v' t k M',Gv M v d v' d' M'->Got (rU d l) d' t k->R (bh d' v' t k) M'):ar prog 57 [dkV d v,str l] M R:=by
 have hok:=hd;obtain⟨hw,hp,hm⟩:=hd;have hw60:=au hw;have hfi:cP d.ms:=fun w hw=>by have:=(bL hm hw).1;omega
 have hm5:=(aV hm).2;have hf:=aT hv;unfold dkV;refine fnS func57 rfl ntmps57 results57 ?_;simp(disch:=omega);intro b1 hb1;have h1:Sub M (M.put b1 (.cells true [str d.w,str d.p,v] 3)):=(Sub.refl M).put hb1 _;simp(disch:=omega);intro b2 hb2;have h2:=hb2;rw[aA]at h2;have sN:=h1.putN hb2 (.cells true [str [],str [],.slice none 0 0,str [],.int .i64 0] 5);have k1:((M.put b1 (.cells true [str d.w,str d.p,v] 3)).put b2 (.cells true [str [],str [],.slice none 0 0,str [],.int .i64 0] 5)) b1=some (.cells true [str d.w,str d.p,v] 3):=by rw[ai _ _ (Ne.symm h2.1)];exact ag _ _ _
 have k2:((M.put b1 (.cells true [str d.w,str d.p,v] 3)).put b2 (.cells true [str [],str [],.slice none 0 0,str [],.int .i64 0] 5)) b2=some (.cells true [str [],str [],.slice none 0 0,str [],.int .i64 0] 5):=ag _ _ _;generalize (M.put b1 (.cells true [str d.w,str d.p,v] 3)).put b2 (.cells true [str [],str [],.slice none 0 0,str [],.int .i64 0] 5)=N at *;simp(disch:=omega);refine vV l 32 _ _ (by omega) ?_;intro v5 M3 o5;obtain⟨c,r,hs,hcl,hrl,hrn⟩:=rh l;rw[EF d hs]at h;rw[hs]at o5;rcases o5 with ⟨_,e,_⟩|⟨b5,c5,rfl,hb5,hc5,hM3⟩
 ·cases e
 have n15:b1≠b5:=by rintro rfl;rw[k1]at hb5;cases hb5
 have n25:b2≠b5:=by rintro rfl;rw[k2]at hb5;cases hb5
 have k5:M3 b5=some (.cells true (strs (c::r)) c5):=by rw[hM3];exact ag _ _ _
 have s3:Sub M M3:=by rw[hM3];exact sN.putN hb5 _
 have k1:M3 b1=some (.cells true [str d.w,str d.p,v] 3):=by rw[hM3,ai _ _ n15];exact k1
 have k2:M3 b2=some (.cells true [str [],str [],.slice none 0 0,str [],.int .i64 0] 5):=by rw[hM3,ai _ _ n25];exact k2
 clear hM3;have hln:(strs (c::r)).length=r.length+1:=by rw[ah];rfl
 rw[hln]at hc5 ⊢;have g0:M3.get? b5 0=some (str c):=by rw[al k5];rfl
 have rt:=Ru k5 hc5;have hvar3:=hvar.sub s3;have hv3:=hv.sub s3;have hn1:(1:Int)<=(r.length:Nat)+1:=by omega
 simp(disch:=omega);refine plyS (ak [0,1,2,3,4,5,6] .fin) ?_;simp(disch:=omega)[g0];refine nT c _ _ ?_;cases ht:tU c
 ·have hpX:iq d c r=if c=[110,97,109,101]/\r.length=2 then (if bS (r.getD 1 []) then bec d (gI (r.getD 0 []) (cj (r.getD 1 []):Nat)) (iH (r.getD 0 []) (cj (r.getD 1 []):Nat)) else none) else if r.all bS then ij d c (eM r) else none:=by
   unfold iq;rw[ht,if_neg (by decide)]
  rw[hpX]at h;simp(disch:=omega)[undef];refine nT c _ _ ?_;rw[ht];by_cases hnm:c=[110,97,109,101]/\r.length=2
  ·rw[if_pos hnm]at h;obtain⟨x,y,rfl⟩:∃ x y,r=[x,y]:=by
    match r,hnm.2 with
    | [x,y],_=>exact⟨x,y,rfl⟩
   have e1:dZ 0 1 c5 1=1:=by unfold dZ;rw[if_neg (by simp only[length_cons,length_nil]at hc5;omega)]
   have g1:M3.get? b5 1=some (str x):=by rw[al k5];rfl
   have g2:M3.get? b5 2=some (str y):=by rw[al k5];rfl
   have hx:=hrl x (by simp);have hy:=hrl y (by simp);simp(disch:=omega)[hnm.1];refine plyS (ak [0,1,2,3,4,5,6] (.one 7 1 (.one 8 2 .fin))) ?_;simp(disch:=omega)[aq k1,g1,g2];refine I6 d v x y _ _ hok hvar3 hv3 (by omega) (by omega) ?_;intro d' t' k hg hms;have h:=h d' v t' k M (.inl ⟨rfl,hms,rfl⟩) hg;unfold bh at h ⊢;simp(disch:=omega)[k2,aj,hf];exact ae (s3.ovr h2.2 _) h
  ·rw[if_neg hnm]at h;have hstep:(c==[110,97,109,101])=false\/((c==[110,97,109,101])=true/\¬((r.length:Nat):Int)=2):=by
    by_cases e:c=[110,97,109,101]
    ·refine .inr ⟨by rw[e];rfl,fun e2=>hnm ⟨e,by omega⟩⟩
    ·exact .inl (bNe.2 e)
   have main:ar prog 102 [.slice (some ⟨b5,dZ 0 1 c5 1,none⟩) r.length (c5-1)] M3 (fun v' M'=>Sub M3 M'/\((r.all bS=true/\∃ u,v'=.tuple #[u,.bool true]/\Own M3 u (ints (eM r)) M')\/(r.all bS=false/\v'=.tuple #[.slice none 0 0,.bool false]))):=
    nF _ r _ _ hvar3 rt (by omega) (fun w hw=>by have:=hrl w hw;omega) (fun hn u M' o=>⟨o.sub,.inl ⟨hn,u,rfl,o⟩⟩) (fun hn=>⟨Sub.refl _,.inr ⟨hn,rfl⟩⟩)
   rcases hstep with e0|⟨e0,e1⟩
   ·simp(disch:=omega)[e0,undef];refine main.mono ?_
    rintro w1 M4 ⟨s4,hcase⟩
    have k1:=s4 _ _ k1;have k2:=s4 _ _ k2;have s3:=s3.trans s4;have hvar4:=hvar3.sub s4;have hv4:=hv3.sub s4;rcases hcase with ⟨hall,u,rfl,o4⟩|⟨hall,rfl⟩
    ·rw[if_pos hall]at h;have ru:=o4.rd;have hz:=vG hall;have hzl:=gX r;clear o4;generalize eM r=zs at *;obtain⟨ua,uc,rfl,hua⟩:=ru.opened;rw[az]at hua ⊢;have ru2:=ru;rw[az]at ru2;by_cases cs:c=[115,116,97,110,100,97,114,100]
     ·subst cs;rw[pf]at h;simp(disch:=omega);refine plyS (ak [0,1] (.one 2 1 (ak [3,4] (.one 5 1 (.one 6 2 .fin))))) ?_;simp(disch:=omega)[aq k1];refine jU _ zs _ _ ru2 (by omega) ?_;unfold aE;simp(disch:=omega);refine bP d v hf _ _ _ _ (by have:=qy zs;omega) ?_;have h:=h ⟨qC zs,d.p,d.ms⟩ v _ _ M (.inl ⟨rfl,rfl,rfl⟩) rfl;unfold bh at h ⊢;simp(disch:=omega)[k2,aj,hf];exact ae (s3.ovr h2.2 _) h
     by_cases hz0:zs.length=0
     ·obtain rfl:zs=[]:=List.length_eq_zero_iff.1 hz0;rw[zx d c cs]at h;simp(disch:=omega)[aq k1,bNe.2 cs];refine An d v c _ _ hok hvar4 hv4 ?_;intro d' v' t' k M5 hgv hg;obtain⟨M',g',s',k4⟩:=tr s3 h2.2 k2 hgv (.cells true [str d'.w,str d'.p,v',str t',.int .i64 k] 5);have hf':=eD hf hgv;have h:=h d' v' t' k M' g' hg;unfold bh at h ⊢;simp(disch:=omega)[k4,aj,hf'];exact ae s' h
     by_cases hz1:zs.length=1
     ·obtain⟨x,rfl⟩:∃ x,zs=[x]:=by
       match zs,hz1 with
       | [x],_=>exact⟨x,rfl⟩
      have hx:=hz x (by simp);rcases hua with hq|⟨bu,ou,rfl,hua⟩
      ·cases hq
      have gx:M4.get? bu ou=some (.int .i64 x):=by have:=hua 0 (by simp);rw[Nat.add_zero]at this;exact this
      clear hua;by_cases ct:c=[116,117,114,110]
      ·subst ct;rw[rR]at h;simp(disch:=omega);refine plyS (ak [0,1,2,3,4,5] (.one 6 1 (ak [7,8] (.one 9 1 (.one 10 2 .fin))))) ?_;simp(disch:=omega)[aq k1,al k1,gx];refine bq (qb d.w x _ _ (by omega) fun M6 s6=>⟨s6,?_⟩);unfold aE;simp(disch:=omega);refine bP d v hf _ _ _ _ (by have:=x8 d.w x;omega) ?_;have h:=h ⟨xe d.w x,d.p,d.ms⟩ v _ _ M (.inl ⟨rfl,rfl,rfl⟩) rfl;unfold bh at h ⊢;simp(disch:=omega)[k2,aj,hf];exact ae (s3.ovr h2.2 _) h
      by_cases cz:c=[122,105,109,105,110]
      ·subst cz;rw[xN]at h;simp(disch:=omega);refine plyS (ak [0,1,2,3] (.one 4 1 (ak [5,6] (.one 7 1 (.one 8 2 .fin))))) ?_;simp(disch:=omega)[aq k1,gx];refine nJ x _ _ ?_;unfold aE;simp(disch:=omega);refine bP d v hf _ _ _ _ (by have:=yO x;omega) ?_;have h:=h ⟨wQ x,d.p,d.ms⟩ v _ _ M (.inl ⟨rfl,rfl,rfl⟩) rfl;unfold bh at h ⊢;simp(disch:=omega)[k2,aj,hf];exact ae (s3.ovr h2.2 _) h
      rw[xD d c x cs ct cz]at h;simp(disch:=omega)[aq k1,bNe.2 cs,bNe.2 ct,bNe.2 cz];refine cy d v hf _ _ ?_;have h:=h d v [] 6 M (.inl ⟨rfl,rfl,rfl⟩) rfl;unfold bh at h ⊢;simp(disch:=omega)[k2,aj,hf];exact ae (s3.ovr h2.2 _) h
     by_cases hz2:zs.length=2
     ·obtain⟨x,y,rfl⟩:∃ x y,zs=[x,y]:=by
       match zs,hz2 with
       | [x,y],_=>exact⟨x,y,rfl⟩
      have hx:=hz x (by simp);have hy:=hz y (by simp);rw[KY d c x y cs]at h;rcases hua with hq|⟨bu,ou,rfl,hua⟩
      ·cases hq
      have gx:M4.get? bu ou=some (.int .i64 x):=by have:=hua 0 (by simp);rw[Nat.add_zero]at this;exact this
      have gy:M4.get? bu (ou+1)=some (.int .i64 y):=hua 1 (by simp);clear hua;simp(disch:=omega)[bNe.2 cs];refine plyS (ak [0,1,2,3,4,5,6,7] (.one 8 1 (.one 9 2 .fin))) ?_;simp(disch:=omega)[aq k1,gx,gy];refine PV d v c x y _ _ hok hvar4 hv4 hx hy ?_;intro d' v' t' k M5 hgv hg;obtain⟨M',g',s',k4⟩:=tr s3 h2.2 k2 hgv (.cells true [str d'.w,str d'.p,v',str t',.int .i64 k] 5);have hf':=eD hf hgv;have h:=h d' v' t' k M' g' hg;unfold bh at h ⊢;simp(disch:=omega)[k4,aj,hf'];exact⟨cU hgv,ae s' h⟩
     rw[ze d c zs cs hz0 hz1 hz2]at h;have i0:¬((zs.length:Nat):Int)=0:=by omega
     have i1:¬((zs.length:Nat):Int)=1:=by omega
     have i2:¬((zs.length:Nat):Int)=2:=by omega
     simp(disch:=omega)[aq k1,undef,bNe.2 cs,bNe.2 i0,bNe.2 i1,bNe.2 i2];refine cy d v hf _ _ ?_;have h:=h d v [] 6 M (.inl ⟨rfl,rfl,rfl⟩) rfl;unfold bh at h ⊢;simp(disch:=omega)[k2,aj,hf];exact ae (s3.ovr h2.2 _) h
    ·rw[hall,if_neg (by decide)]at h;simp(disch:=omega)[aq k1];refine cy d v hf _ _ ?_;have h:=h d v [] 6 M (.inl ⟨rfl,rfl,rfl⟩) rfl;unfold bh at h ⊢;simp(disch:=omega)[k2,aj,hf];exact ae (s3.ovr h2.2 _) h
   ·simp(disch:=omega)[e0,bNe.2 e1];refine main.mono ?_
    rintro w1 M4 ⟨s4,hcase⟩
    have k1:=s4 _ _ k1;have k2:=s4 _ _ k2;have s3:=s3.trans s4;have hvar4:=hvar3.sub s4;have hv4:=hv3.sub s4;rcases hcase with ⟨hall,u,rfl,o4⟩|⟨hall,rfl⟩
    ·rw[if_pos hall]at h;have ru:=o4.rd;have hz:=vG hall;have hzl:=gX r;clear o4;generalize eM r=zs at *;obtain⟨ua,uc,rfl,hua⟩:=ru.opened;rw[az]at hua ⊢;have ru2:=ru;rw[az]at ru2;by_cases cs:c=[115,116,97,110,100,97,114,100]
     ·subst cs;rw[pf]at h;simp(disch:=omega);refine plyS (ak [0,1] (.one 2 1 (ak [3,4] (.one 5 1 (.one 6 2 .fin))))) ?_;simp(disch:=omega)[aq k1];refine jU _ zs _ _ ru2 (by omega) ?_;unfold aE;simp(disch:=omega);refine bP d v hf _ _ _ _ (by have:=qy zs;omega) ?_;have h:=h ⟨qC zs,d.p,d.ms⟩ v _ _ M (.inl ⟨rfl,rfl,rfl⟩) rfl;unfold bh at h ⊢;simp(disch:=omega)[k2,aj,hf];exact ae (s3.ovr h2.2 _) h
     by_cases hz0:zs.length=0
     ·obtain rfl:zs=[]:=List.length_eq_zero_iff.1 hz0;rw[zx d c cs]at h;simp(disch:=omega)[aq k1,bNe.2 cs];refine An d v c _ _ hok hvar4 hv4 ?_;intro d' v' t' k M5 hgv hg;obtain⟨M',g',s',k4⟩:=tr s3 h2.2 k2 hgv (.cells true [str d'.w,str d'.p,v',str t',.int .i64 k] 5);have hf':=eD hf hgv;have h:=h d' v' t' k M' g' hg;unfold bh at h ⊢;simp(disch:=omega)[k4,aj,hf'];exact ae s' h
     by_cases hz1:zs.length=1
     ·obtain⟨x,rfl⟩:∃ x,zs=[x]:=by
       match zs,hz1 with
       | [x],_=>exact⟨x,rfl⟩
      have hx:=hz x (by simp);rcases hua with hq|⟨bu,ou,rfl,hua⟩
      ·cases hq
      have gx:M4.get? bu ou=some (.int .i64 x):=by have:=hua 0 (by simp);rw[Nat.add_zero]at this;exact this
      clear hua;by_cases ct:c=[116,117,114,110]
      ·subst ct;rw[rR]at h;simp(disch:=omega);refine plyS (ak [0,1,2,3,4,5] (.one 6 1 (ak [7,8] (.one 9 1 (.one 10 2 .fin))))) ?_;simp(disch:=omega)[aq k1,al k1,gx];refine bq (qb d.w x _ _ (by omega) fun M6 s6=>⟨s6,?_⟩);unfold aE;simp(disch:=omega);refine bP d v hf _ _ _ _ (by have:=x8 d.w x;omega) ?_;have h:=h ⟨xe d.w x,d.p,d.ms⟩ v _ _ M (.inl ⟨rfl,rfl,rfl⟩) rfl;unfold bh at h ⊢;simp(disch:=omega)[k2,aj,hf];exact ae (s3.ovr h2.2 _) h
      by_cases cz:c=[122,105,109,105,110]
      ·subst cz;rw[xN]at h;simp(disch:=omega);refine plyS (ak [0,1,2,3] (.one 4 1 (ak [5,6] (.one 7 1 (.one 8 2 .fin))))) ?_;simp(disch:=omega)[aq k1,gx];refine nJ x _ _ ?_;unfold aE;simp(disch:=omega);refine bP d v hf _ _ _ _ (by have:=yO x;omega) ?_;have h:=h ⟨wQ x,d.p,d.ms⟩ v _ _ M (.inl ⟨rfl,rfl,rfl⟩) rfl;unfold bh at h ⊢;simp(disch:=omega)[k2,aj,hf];exact ae (s3.ovr h2.2 _) h
      rw[xD d c x cs ct cz]at h;simp(disch:=omega)[aq k1,bNe.2 cs,bNe.2 ct,bNe.2 cz];refine cy d v hf _ _ ?_;have h:=h d v [] 6 M (.inl ⟨rfl,rfl,rfl⟩) rfl;unfold bh at h ⊢;simp(disch:=omega)[k2,aj,hf];exact ae (s3.ovr h2.2 _) h
     by_cases hz2:zs.length=2
     ·omega
     rw[ze d c zs cs hz0 hz1 hz2]at h;have i0:¬((zs.length:Nat):Int)=0:=by omega
     have i1:¬((zs.length:Nat):Int)=1:=by omega
     have i2:¬((zs.length:Nat):Int)=2:=by omega
     simp(disch:=omega)[aq k1,undef,bNe.2 cs,bNe.2 i0,bNe.2 i1,bNe.2 i2];refine cy d v hf _ _ ?_;have h:=h d v [] 6 M (.inl ⟨rfl,rfl,rfl⟩) rfl;unfold bh at h ⊢;simp(disch:=omega)[k2,aj,hf];exact ae (s3.ovr h2.2 _) h
    ·rw[hall,if_neg (by decide)]at h;simp(disch:=omega)[aq k1];refine cy d v hf _ _ ?_;have h:=h d v [] 6 M (.inl ⟨rfl,rfl,rfl⟩) rfl;unfold bh at h ⊢;simp(disch:=omega)[k2,aj,hf];exact ae (s3.ovr h2.2 _) h
 ·by_cases hr:r.length=1
  ·obtain⟨x,rfl⟩:∃ x,r=[x]:=by
    match r,hr with
    | [x],_=>exact⟨x,rfl⟩
   have hpX:iq d c [x]=dX d c x:=by unfold iq;rw[ht,if_pos rfl]
   rw[hpX]at h;have e1:dZ 0 1 c5 1=1:=by unfold dZ;rw[if_neg (by simp only[length_cons,length_nil]at hc5;omega)]
   have g1:M3.get? b5 1=some (str x):=by rw[al k5];rfl
   have hx:=hrl x (by simp);simp(disch:=omega);refine plyS (ak [0,1,2,3,4] (.one 5 1 (.one 6 2 .fin))) ?_;simp(disch:=omega)[aq k1,g1];refine IV d v c x _ _ hok hvar3 hv3 (by omega) ?_;intro d' v' t' k M4 hgv hg;obtain⟨M',g',s',k4⟩:=tr s3 h2.2 k2 hgv (.cells true [str d'.w,str d'.p,v',str t',.int .i64 k] 5);have hf':=eD hf hgv;have h:=h d' v' t' k M' g' hg;unfold bh at h ⊢;simp(disch:=omega)[k4,aj,hf'];exact⟨cU hgv,ae s' h⟩
  ·have hpX:iq d c r=none:=by
    unfold iq;rw[ht,if_pos rfl]
    match r,hr with
    | [],_=>rfl
    | [_],q=>exact absurd rfl q
    | _::_::_,_=>rfl
   rw[hpX]at h;have hrI:¬((r.length:Nat):Int)=1:=by omega
   simp(disch:=omega)[bNe.2 hrI];refine nT c _ _ ?_;rw[ht];simp(disch:=omega)[aq k1];refine cy d v hf _ _ ?_;have h:=h d v [] 6 M (.inl ⟨rfl,rfl,rfl⟩) rfl;unfold bh at h ⊢;simp(disch:=omega)[k2,aj,hf];exact ae (s3.ovr h2.2 _) h
theorem TB{M N M4:Mem}{v v':Value}{d d':Dk}(hs:Sub M N){b:Nat}(hb:M b=none){B:Blk}(k:N b=some B)(g:Gv N v d v' d' M4):∃ M',Gv M v d v' d' M'/\Sub M' M4/\M' b=none:=by
 rcases g with ⟨h1,h2,rfl⟩|o
 ·exact⟨M,.inl ⟨h1,h2,rfl⟩,hs,hb⟩
 ·rcases o with ⟨h1,h2,rfl⟩|⟨b',c,h1,h2,h3,rfl⟩
  ·refine⟨M,.inr ?_,hs,hb⟩;rw[h1,h2];exact Own.nil M
  ·have hne:b≠b':=by rintro rfl;rw[k]at h2;cases h2
   exact⟨M.put b' (.cells true (strs d'.ms) c),.inr (.inr ⟨b',c,h1,bA hs h2,h3,rfl⟩),hs.both b' _,by rw[ai _ _ hne];exact hb⟩
theorem KF{d d':Dk}{l t:B8}{k:Int}(h:Got (rU d l) d' t k)(hk:k=0):eL d l=(d',t):=by
 unfold Got bw at h;rw[if_pos hk]at h;unfold eL;rw[h];rfl
theorem LG{d d':Dk}{l t:B8}{k:Int}(h:Got (rU d l) d' t k)(hk:¬ k=0):eL d l=(d,[101,114,114,111,114]):=by
 unfold Got bw at h;rw[if_neg hk]at h;unfold eL;rw[h];rfl
set_option maxHeartbeats 1000000 in
theorem H5(d:Dk)(v:Value)(l:B8)(M:Mem)(R:VP)(hd:d.ok)(hvar:bW M)(hv:Rd M v (strs d.ms))(hl:l.length<=1500000)
  (h:∀ d' v' t M',Gv M v d v' d' M'->eL d l=(d',t)->R (.tuple #[dkV d' v',str t]) M'):ar prog 29 [dkV d v,str l] M R:=by
 have hf:=aT hv;unfold dkV;refine fnS func29 rfl ntmps29 results29 ?_;simp(disch:=omega);intro b1 hb1;have h1:Sub M (M.put b1 (.cells true [str d.w,str d.p,v] 3)):=(Sub.refl M).put hb1 _;simp(disch:=omega);intro b2 hb2;have h2:=hb2;rw[aA]at h2;have sN:=h1.putN hb2 (.cells true [str [],str [],.slice none 0 0] 3);have k1:((M.put b1 (.cells true [str d.w,str d.p,v] 3)).put b2 (.cells true [str [],str [],.slice none 0 0] 3)) b1=some (.cells true [str d.w,str d.p,v] 3):=by rw[ai _ _ (Ne.symm h2.1)];exact ag _ _ _
 have k2:((M.put b1 (.cells true [str d.w,str d.p,v] 3)).put b2 (.cells true [str [],str [],.slice none 0 0] 3)) b2=some (.cells true [str [],str [],.slice none 0 0] 3):=ag _ _ _;generalize (M.put b1 (.cells true [str d.w,str d.p,v] 3)).put b2 (.cells true [str [],str [],.slice none 0 0] 3)=N at *;simp(disch:=omega)[aq k1];refine Ek d v l _ _ hd (hvar.sub sN) (hv.sub sN) hl ?_;intro d' v' t k M4 hgv hg;have hf':=eD hf hgv;have k1':=cU hgv _ _ k1;have k2':=cU hgv _ _ k2;unfold bh;simp(disch:=omega);intro b3 hb3;have n13:b1≠b3:=by rintro rfl;rw[k1']at hb3;cases hb3
 have n23:b2≠b3:=by rintro rfl;rw[k2']at hb3;cases hb3
 by_cases hk:k=0
 ·have hr:=KF hg hk;obtain⟨M',g',s',hm2⟩:=TB sN h2.2 k2 hgv;have h:=h d' v' t M' g' hr;have k3q:=ag M4 b3 (.cells true [str d'.w,str d'.p,v',str t,.int .i64 k] 5);have k2q:(M4.put b3 (.cells true [str d'.w,str d'.p,v',str t,.int .i64 k] 5)) b2=some (.cells true [str [],str [],.slice none 0 0] 3):=by rw[ai _ _ n23];exact k2'
  have s5:=fun X=>(s'.putN hb3 (.cells true [str d'.w,str d'.p,v',str t,.int .i64 k] 5)).ovr hm2 X;simp(disch:=omega)[hf',aj,aW];have hkb:(k != 0)=false:=by rw[hk];rfl
  simp(disch:=omega)[hkb];generalize M4.put b3 (.cells true [str d'.w,str d'.p,v',str t,.int .i64 k] 5)=M5 at *;refine plyS (ak [0,1,2] (.alt 3 1 (.one 4 2 (ak [5] .fin)) (.one 4 2 (.one 3 1 (ak [5] .fin))))) ?_;unfold dkV at h;have k3r:∀ X,(M5.put b2 X) b3=some (.cells true [str d'.w,str d'.p,v',str t,.int .i64 k] 5):=fun X=>by rw[ai _ _ (Ne.symm n23)];exact k3q
  simp(disch:=omega)[aq k3q,al k3q,k2q,aj,hf',jz];exact ae (s5 _) h
 ·have hr:=LG hg hk;have h:=h d v _ M (.inl ⟨rfl,rfl,rfl⟩) hr;unfold dkV at h;simp(disch:=omega)[hf',hf,aq k1',k2',aj,aW];exact ae (((sN.trans (cU hgv)).putN hb3 _).ovr h2.2 _) h
end Go.Proofs.YtapimhjbilkfpaaGreatDoor
