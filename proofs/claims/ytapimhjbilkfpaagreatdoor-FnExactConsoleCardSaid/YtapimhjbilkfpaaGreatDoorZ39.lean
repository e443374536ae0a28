/- Lemmas for FnExactConsole, part 40 of 46. -/
import Derived.Test.YtapimhjbilkfpaaGreatDoorZ38
import Derived.Test.YtapimhjbilkfpaaGreatDoorZ12
import Derived.Test.YtapimhjbilkfpaaGreatDoorZ04
import Derived.Test.YtapimhjbilkfpaaGreatDoorZ37
set_option linter.unusedVariables false
set_option linter.unusedSimpArgs false
namespace Go.Proofs.YtapimhjbilkfpaaGreatDoor
open Go Go.Proofs.Tryz List
theorem su{M N M4:Mem}{v v':Value}{d d':Dk}(hs:Sub M N){b:Nat}(hb:M b=none){B:Blk}(k:N b=some B)(g:Gv N v d v' d' M4)(X:Blk):∃ M',Gv M v d v' d' M'/\Sub M' (M4.put b X)/\M4 b=some B:=by
 rcases g with ⟨h1,h2,rfl⟩|o
 ·exact⟨M,.inl ⟨h1,h2,rfl⟩,hs.ovr hb X,k⟩
 ·rcases o with ⟨h1,h2,rfl⟩|⟨b',c,h1,h2,h3,rfl⟩
  ·refine⟨M,.inr ?_,hs.ovr hb X,k⟩;rw[h1,h2];exact Own.nil M
  ·have hne:b≠b':=by rintro rfl;rw[k]at h2;cases h2
   refine⟨M.put b' (.cells true (strs d'.ms) c),.inr (.inr ⟨b',c,h1,bM hs h2,h3,rfl⟩),(hs.both b' _).ovr (by rw[ai _ _ hne];exact hb) X,by rw[ai _ _ hne];exact k⟩
theorem eF{M M':Mem}{v v':Value}{d d':Dk}(hf:bF v=true)(g:Gv M v d v' d' M'):bF v'=true:=by
 rcases g with ⟨rfl,_,_⟩|o
 ·exact hf
 ·exact aZ o.rd
theorem NI(c:List UInt8):sy c=decide (c∈[[119,111,114,100],[97,100,100],[112,97,116,116,101,114,110],[109,111,114,112,104,105,115,109]]):=by
 unfold sy;simp only[mem_cons,not_mem_nil,or_false,Bool.decide_or]
theorem mI(l:List (List UInt8)){i:Nat}(h:i<l.length):eJ (l.take (i+1))=eJ (l.take i)++[((cd l[i]:Nat):Int)]:=by
 unfold eJ;rw[az l h,map_append];rfl
theorem D0(v:Value)(l:List (List UInt8))(x:List UInt8)(M:Mem)(R:VP)(hv:Rd M v (strs l))(hl:l.length<=100000)(h:∀ n:Int,(0<=n↔x∈l)->R (.int .i64 n) M):ar prog 212 [v,str x] M R:=by
 refine fnS func212 rfl ntmps212 results212 ?_;obtain⟨a,c,rfl,ha⟩:=hv.opened;rw[ah]at ha ⊢;simp(disch:=omega);refine lupS [4,5,8,9,10,11,12,13,14,15,16,17,18] (fun i:Nat=>[(8,.int .i64 (i:Nat))]) (fun i N=>M=N/\i<=l.length/\∀ j (hj:j<l.length),j<i->l[j]≠x) (fun i=>l.length-i) 0 ⟨rfl,Nat.zero_le _,fun j _ h=>by omega⟩ ?_
 rintro i N g ⟨rfl,hi,hno⟩
 by_cases hlt:i<l.length
 ·have hltI:(i:Int)<(l.length:Nat):=by omega
  rcases ha with hz|⟨b,o,rfl,ha⟩
  ·omega
  have hg:=ha i hlt;rw[bg,getElem?_eq_getElem hlt,Option.map_some]at hg;have hm:l[i]∈l:=getElem_mem hlt;have hno':l[i]≠x->∀ j (hj:j<l.length),j<i+1->l[j]≠x:=fun h0 j hj hji=>by
   by_cases e:j=i
   ·subst e;exact h0
   ·exact hno j hj (by omega)
  generalize l[i]=y at *;by_cases he:x=y
  ·have h0:=h i ⟨fun _=>he▸hm,fun _=>by omega⟩;simp(disch:=omega)[hltI,hg,he];exact ad h0
  ·have he2:=hno' (Ne.symm he);simp(disch:=omega)[hltI,hg,beq_eq_false_iff_ne.2 he];exact rndS (i+1) ⟨rfl,by omega,he2⟩
 ·have hltI:¬(i:Int)<(l.length:Nat):=by omega
  have h0:=h (-1) ⟨fun q=>by omega,fun q=>by
   obtain⟨j,hj,e⟩:=getElem_of_mem q;exact absurd e (hno j hj (by omega))⟩
  simp(disch:=omega)[hltI];exact ad h0
theorem nk(c:List UInt8)(M:Mem)(R:VP)(h:R (.bool (sy c)) M):ar prog 98 [str c] M R:=by
 refine fnS func98 rfl ntmps98 results98 ?_;simp(disch:=omega);intro b hb;simp(disch:=omega);have sN:=(Sub.refl M).put hb (.cells true (strs [[119,111,114,100],[97,100,100],[112,97,116,116,101,114,110],[109,111,114,112,104,105,115,109]]) 4);have hr:Rd (M.put b (.cells true (strs [[119,111,114,100],[97,100,100],[112,97,116,116,101,114,110],[109,111,114,112,104,105,115,109]]) 4)) (.slice (some ⟨b,0,none⟩) 4 4) (strs [[119,111,114,100],[97,100,100],[112,97,116,116,101,114,110],[109,111,114,112,104,105,115,109]]):=Rd.new rfl (Nat.le_refl 4);refine fnS func147 rfl ntmps147 results147 ?_;simp(disch:=omega);refine D0 _ _ c _ _ hr (by decide) ?_;intro n hn;rw[NI]at h;have hd:decide (c∈[[119,111,114,100],[97,100,100],[112,97,116,116,101,114,110],[109,111,114,112,104,105,115,109]])=decide (0<=n):=by
  rw[decide_eq_decide];exact hn.symm
 rw[hd]at h;simp(disch:=omega);refine ad ?_;simp(disch:=omega);exact ae sN h
set_option maxHeartbeats 1000000 in
theorem mR(v:Value)(l:List (List UInt8))(M:Mem)(R:VP)(hvar:ch M)(hv:Rd M v (strs l))(hl:l.length<=2000000)(hf:∀ w∈l,w.length<=2000000)
  (h1:l.all bQ=true->∀ v' M',Own M v' (ints (eJ l)) M'->R (.tuple #[v',.bool true]) M') (h0:l.all bQ=false->R (.tuple #[.slice none 0 0,.bool false]) M):ar prog 102 [v] M R:=by
 refine fnS func102 rfl ntmps102 results102 ?_;obtain⟨a,c,rfl,ha⟩:=hv.opened;rw[ah]at ha ⊢;simp(disch:=omega);refine lupS [2,3,4,6,7,8,11,12,13,14,15,16,17,18,19,20,21,22,23,24,25,26,27,28,29,30,31,32,33,34,35,36,37,38,39,40,41] (fun x:Nat×Value=>[(11,.int .i64 (x.1:Nat)),(4,x.2)]) (fun x N=>x.1<=l.length/\(∀ w∈l.take x.1,bQ w=true)/\Own M x.2 (ints (eJ (l.take x.1))) N) (fun x=>l.length-x.1) (0,.slice none 0 0) ⟨Nat.zero_le _,(by intro w hw;simp at hw),(by simp only[take_zero];exact Own.nil M)⟩ ?_
 rintro⟨i,u⟩ N g ⟨hi,hall,ho⟩
 simp only at hi hall ho;by_cases hlt:i<l.length
 ·have hltI:(i:Int)<(l.length:Nat):=by omega
  rcases ha with hz|⟨b,o,rfl,ha⟩
  ·omega
  have hg:=ha i hlt;rw[bg,getElem?_eq_getElem hlt,Option.map_some]at hg;have hg2:=jj hg ho.sub;have hm:l[i]∈l:=getElem_mem hlt;have hns:=mI l hlt;have hnl:(eJ (l.take i)).length=i:=by unfold eJ;rw[length_map,length_take];omega
  have hts:=az l hlt;have hwl:=hf _ hm;have hvN:=hvar.sub ho.sub;have hbad:bQ l[i]=false->R (.tuple #[.slice none 0 0,.bool false]) M:=fun e=>h0 (by
   rw[all_eq_false];exact⟨_,hm,by rw[e];decide⟩)
  generalize l[i]=w at *;simp(disch:=omega)[hltI,hg2];refine Av w _ _ hvN (by omega) (fun n hp=>?_) (fun hp n tp p=>?_)
  ·by_cases hn0:n<0
   ·have hb:=hbad (by
     cases hb:bQ w with
     | false=>rfl
     | true=>rw[uf hb]at hp;injection hp with hp;omega)
    simp(disch:=omega)[hn0,undef];exact ae ho.sub hb
   ·by_cases h9:(9:Int)<w.length
    ·have hb:=hbad (by
      cases hb:bQ w with
      | false=>rfl
      | true=>have:=(zG hb).2;omega)
     simp(disch:=omega)[hn0,h9,undef];exact ae ho.sub hb
    ·have hn1:=MU hp;simp(disch:=omega)[hn0,h9];refine dM n _ _ hvN (by omega) hn1 ?_;by_cases he:Lib.itoa n=w
     ·obtain⟨q1,q2⟩:=QC hp (by omega) (by omega) he;rw[q2]at hns;simp(disch:=omega)[he];intro b' hb';simp(disch:=omega);refine aN ho ((Sub.refl _).put hb' _) (by simp(disch:=omega);rfl) rfl rfl (by first|omega|(simp(disch:=omega)<;>omega)) (by simp(disch:=omega)) (by simp(disch:=omega)[hnl];omega) ?_;intro v' M'' N'' ho' hs';rw[cw,<-hns]at ho';simp(disch:=omega);refine rndM M'' (i+1,v') hs' ⟨by omega,fun y hy=>?_,ho'⟩;rw[hts]at hy;rcases List.mem_append.1 hy with hy|hy
      ·exact hall y hy
      ·rw[List.mem_singleton.1 hy];exact q1
     ·have hb:=hbad (by
       cases hb:bQ w with
       | false=>rfl
       | true=>
        rw[uf hb]at hp;injection hp with hp
        rw[<-hp,NW hb]at he;exact absurd rfl he)
      simp(disch:=omega)[beq_eq_false_iff_ne.2 he];exact ae ho.sub hb
  ·have hb:=hbad (by
    cases hb:bQ w with
    | false=>rfl
    | true=>exact absurd (uf hb) (hp _))
   simp(disch:=omega)[undef];exact ae ho.sub hb
 ·have hltI:¬(i:Int)<(l.length:Nat):=by omega
  have hie:i=l.length:=by omega
  rw[hie,take_length]at ho hall;simp(disch:=omega)[hltI];exact ad (h1 (List.all_eq_true.2 hall) _ _ ho)
set_option maxHeartbeats 1000000 in
theorem I2(d:Dk)(v:Value)(c w:List UInt8)(M:Mem)(R:VP)(hd:d.ok)(hvar:ch M)(hv:Rd M v (strs d.ms))(hc:c.length<=2000000)(hwl:w.length<=2000000)
  (h:∀ d' t k,Got (if bQ w then bec d (fS c (cd w:Nat)) (ia c (cd w:Nat)) else none) d' t k->d'.ms=d.ms->R (a8 d' v t k) M):ar prog 101 [dkV d v,str c,str w] M R:=by
 obtain⟨hw,hp,hm⟩:=hd;have hw60:=au hw;have hp8:=(bK hp).2.1;have hfi:df d.ms:=fun w hw=>by have:=(bL hm hw).1;omega
 have hm5:=(aX hm).2;have hf:=aZ hv;unfold dkV;refine fnS func101 rfl ntmps101 results101 ?_;simp(disch:=omega);intro b1 hb1;have h1:Sub M (M.put b1 (.cells true [str d.w,str d.p,v] 3)):=(Sub.refl M).put hb1 _;simp(disch:=omega);intro b2 hb2;have h2:=hb2;rw[aF]at h2;have sN:=h1.putN hb2 (.cells true [str [],str [],.slice none 0 0,str [],.int .i64 0] 5);have k1:((M.put b1 (.cells true [str d.w,str d.p,v] 3)).put b2 (.cells true [str [],str [],.slice none 0 0,str [],.int .i64 0] 5)) b1=some (.cells true [str d.w,str d.p,v] 3):=by rw[ai _ _ (Ne.symm h2.1)];exact ag _ _ _
 have k2:((M.put b1 (.cells true [str d.w,str d.p,v] 3)).put b2 (.cells true [str [],str [],.slice none 0 0,str [],.int .i64 0] 5)) b2=some (.cells true [str [],str [],.slice none 0 0,str [],.int .i64 0] 5):=ag _ _ _;generalize (M.put b1 (.cells true [str d.w,str d.p,v] 3)).put b2 (.cells true [str [],str [],.slice none 0 0,str [],.int .i64 0] 5)=N at *;have hvN:=hv.sub sN;have hvar2:=hvar.sub sN;simp(disch:=omega);intro b3 hb3;simp(disch:=omega);have s3:=sN.putN hb3 (.cells true [str w] 1);have n13:b1≠b3:=by rintro rfl;rw[k1]at hb3;cases hb3
 have n23:b2≠b3:=by rintro rfl;rw[k2]at hb3;cases hb3
 have k1':(N.put b3 (.cells true [str w] 1)) b1=some (.cells true [str d.w,str d.p,v] 3):=by rw[ai _ _ n13];exact k1
 have k2':(N.put b3 (.cells true [str w] 1)) b2=some (.cells true [str [],str [],.slice none 0 0,str [],.int .i64 0] 5):=by rw[ai _ _ n23];exact k2
 have r3:Rd (N.put b3 (.cells true [str w] 1)) (.slice (some ⟨b3,0,none⟩) 1 1) (strs [w]):=Rd.new (xs:=strs [w]) rfl (Nat.le_refl 1);have hvar3:=hvar.sub s3;generalize N.put b3 (.cells true [str w] 1)=N3 at *;clear k1 k2;have hall:[w].all bQ=bQ w:=by simp
 refine mR _ [w] _ _ hvar3 r3 (by simp) (by intro x hx;rw[List.mem_singleton.1 hx];exact hwl) (fun hn v' M' o=>?_) (fun hn=>?_)
 ·rw[hall]at hn;rw[hn,if_pos rfl]at h;have hnm:eJ [w]=[((cd w:Nat):Int)]:=rfl;rw[hnm]at o;have s4:=s3.trans o.sub;have k1:=o.sub _ _ k1';have k2:=o.sub _ _ k2';have hro:=o.rd;obtain⟨a,q,hv',ha⟩:=hro.opened;have e1:(ints [((cd w:Nat):Int)]).length=1:=rfl;rw[e1]at hv' ha;subst hv';rcases ha with hz|⟨b4,o4,rfl,ha⟩
  ·cases hz
  have g4:M'.get? b4 o4=some (.int .i64 (cd w:Nat)):=by
   have:=ha 0 (by decide);rw[Nat.add_zero]at this;exact this
  clear ha hro;simp(disch:=omega);refine plyS (ak [0,1,2,3,4] (.one 5 1 (ak [6,7] (.one 8 1 (.one 9 2 .fin))))) ?_;simp(disch:=omega)[aq k1,g4];refine yJ c _ _ _ (by omega) ?_;unfold aD;simp(disch:=omega);refine bN d v hf _ _ _ _ (by have:=x9 c (cd w:Nat);omega) ?_;have h:=h ⟨fS c (cd w:Nat),d.p,d.ms⟩ _ _ rfl rfl;unfold a8 at h ⊢;simp(disch:=omega)[k2,al,hf];exact ae (s4.ovr h2.2 _) h
 ·rw[hall]at hn;rw[hn,if_neg (by decide)]at h;simp(disch:=omega)[aq k1'];refine cq d v hf _ _ ?_;have h:=h d [] 6 rfl rfl;unfold a8 at h ⊢;simp(disch:=omega)[k2',al,hf];exact ae (s3.ovr h2.2 _) h
set_option maxHeartbeats 1000000 in
theorem H4(d:Dk)(v:Value)(c u:List UInt8)(M:Mem)(R:VP)(hd:d.ok)(hvar:ch M)(hv:Rd M v (strs d.ms))(hu:u.length<=2000000)
  (h:∀ d' v' t k M',Gv M v d v' d' M'->Got (dQ d c u) d' t k->R (a8 d' v' t k) M'):ar prog 99 [dkV d v,str c,str u] M R:=by
 obtain⟨hw,hp,hm⟩:=hd;have hw60:=au hw;have hp8:=(bK hp).2.1;have hfi:df d.ms:=fun w hw=>by have:=(bL hm hw).1;omega
 have hm5:=(aX hm).2;have hf:=aZ hv;unfold dkV;refine fnS func99 rfl ntmps99 results99 ?_;simp(disch:=omega);intro b1 hb1;have h1:Sub M (M.put b1 (.cells true [str d.w,str d.p,v] 3)):=(Sub.refl M).put hb1 _;simp(disch:=omega);intro b2 hb2;have h2:=hb2;rw[aF]at h2;have sN:=h1.putN hb2 (.cells true [str [],str [],.slice none 0 0,str [],.int .i64 0] 5);have k1:((M.put b1 (.cells true [str d.w,str d.p,v] 3)).put b2 (.cells true [str [],str [],.slice none 0 0,str [],.int .i64 0] 5)) b1=some (.cells true [str d.w,str d.p,v] 3):=by rw[ai _ _ (Ne.symm h2.1)];exact ag _ _ _
 have k2:((M.put b1 (.cells true [str d.w,str d.p,v] 3)).put b2 (.cells true [str [],str [],.slice none 0 0,str [],.int .i64 0] 5)) b2=some (.cells true [str [],str [],.slice none 0 0,str [],.int .i64 0] 5):=ag _ _ _;generalize (M.put b1 (.cells true [str d.w,str d.p,v] 3)).put b2 (.cells true [str [],str [],.slice none 0 0,str [],.int .i64 0] 5)=N at *;have hvN:=hv.sub sN;have hvar2:=hvar.sub sN;by_cases c0:c=[119,111,114,100]
 ·subst c0;have e:dQ d [119,111,114,100] u=if isWord u then bec d u 0 else none:=by simp[dQ]
  rw[e]at h;simp(disch:=omega);refine gI u _ _ (by omega) ?_;cases hq:isWord u
  ·rw[hq,if_neg (by decide)]at h;simp(disch:=omega)[aq k1];refine cq d v hf _ _ ?_;have h:=h d v [] 6 M (.inl ⟨rfl,rfl,rfl⟩) rfl;unfold a8 at h ⊢;simp(disch:=omega)[k2,al,hf];exact ae (sN.ovr h2.2 _) h
  ·rw[hq,if_pos rfl]at h;simp(disch:=omega)[aq k1];refine bN d v hf _ _ _ _ (by omega) ?_;have h:=h ⟨u,d.p,d.ms⟩ v _ _ M (.inl ⟨rfl,rfl,rfl⟩) rfl;unfold a8 at h ⊢;simp(disch:=omega)[k2,al,hf];exact ae (sN.ovr h2.2 _) h
 by_cases c1:c=[97,100,100]
 ·subst c1;have e:dQ d [97,100,100] u=bec d (lU d.w u) (mh d.w u):=by simp[dQ]
  rw[e]at h;simp(disch:=omega);refine plyS (ak [0,1,2,3] (.one 4 1 (ak [5,6] (.one 7 1 (.one 8 2 .fin))))) ?_;simp(disch:=omega)[aq k1,aj k1];refine bh (zB d.w u _ _ (by omega) (by omega) fun M3 s3=>⟨s3,?_⟩);unfold aD;simp(disch:=omega);refine bN d v hf _ _ _ _ (by have:=Cq d.w u;omega) ?_;have h:=h ⟨lU d.w u,d.p,d.ms⟩ v _ _ M (.inl ⟨rfl,rfl,rfl⟩) rfl;unfold a8 at h ⊢;simp(disch:=omega)[k2,al,hf];exact ae (sN.ovr h2.2 _) h
 by_cases c2:c=[112,97,116,116,101,114,110]
 ·subst c2;have e:dQ d [112,97,116,116,101,114,110] u=if aY u then bt ⟨d.w,u,d.ms⟩ (qt u) 0 else none:=by simp[dQ]
  rw[e]at h;simp(disch:=omega);refine jd u _ _ (by omega) ?_;cases hq:aY u
  ·rw[hq,if_neg (by decide)]at h;simp(disch:=omega)[aq k1];refine cq d v hf _ _ ?_;have h:=h d v [] 6 M (.inl ⟨rfl,rfl,rfl⟩) rfl;unfold a8 at h ⊢;simp(disch:=omega)[k2,al,hf];exact ae (sN.ovr h2.2 _) h
  ·rw[hq,if_pos rfl]at h;simp(disch:=omega)[k1,al];refine eD ⟨d.w,u,d.ms⟩ v hf _ _ _ _ (by omega) ?_;have h:=h ⟨d.w,u,d.ms⟩ v _ _ M (.inl ⟨rfl,rfl,rfl⟩) rfl;have k2':(N.put b1 (.cells true [str d.w,str u,v] 3)) b2=some (.cells true [str [],str [],.slice none 0 0,str [],.int .i64 0] 5):=by rw[ai _ _ (Ne.symm (Ne.symm h2.1))];exact k2
   unfold a8 at h ⊢;simp(disch:=omega)[k2,al,hf];exact ae ((sN.ovr hb1 _).ovr h2.2 _) h
 have e:dQ d c u=bt ⟨d.w,d.p,pmL u⟩ (qt u) (pmC u):=by simp[dQ,c0,c1,c2]
 rw[e]at h;simp(disch:=omega)[beq_eq_false_iff_ne.2 c0,beq_eq_false_iff_ne.2 c1,beq_eq_false_iff_ne.2 c2];refine pH u _ _ (by omega) ?_;intro v3 M3 o3;have k1':=o3.sub _ _ k1;have k2':=o3.sub _ _ k2;have hf3:=aZ o3.rd;have r3:=o3.rd;simp(disch:=omega);intro b4 hb4;have n14:b1≠b4:=by rintro rfl;rw[k1']at hb4;cases hb4
 have n24:b2≠b4:=by rintro rfl;rw[k2']at hb4;cases hb4
 obtain⟨M4,g4,s4,m1,m2⟩:∃ M4,Own M v3 (strs (pmL u)) M4/\Sub M4 M3/\M4 b1=none/\M4 b2=none:=by
  rcases o3 with ⟨e1,e2,rfl⟩|⟨b5,c5,e1,hb5,hc5,rfl⟩
  ·refine⟨M,?_,sN,hb1,h2.2⟩;rw[e1,e2];exact Own.nil M
  ·have n15:b1≠b5:=by rintro rfl;rw[k1]at hb5;cases hb5
   have n25:b2≠b5:=by rintro rfl;rw[k2]at hb5;cases hb5
   exact⟨M.put b5 (.cells true (strs (pmL u)) c5),.inr ⟨b5,c5,e1,bM sN hb5,hc5,rfl⟩,sN.both b5 _,by rw[ai _ _ n15];exact hb1,by rw[ai _ _ n25];exact h2.2⟩
 by_cases hk:pmC u=0
 ·have hm3:=(H3 hk).1;have r4:Rd ((M3.put b4 (.cells true [v3] 1)).put b1 (.cells true [str d.w,str d.p,v3] 3)) v3 (strs (pmL u)):=by
   refine g4.rd.sub ?_;exact(s4.putN hb4 _).ovr m1 _
  have k2q:((M3.put b4 (.cells true [v3] 1)).put b1 (.cells true [str d.w,str d.p,v3] 3)) b2=some (.cells true [str [],str [],.slice none 0 0,str [],.int .i64 0] 5):=by
   rw[ai _ _ (Ne.symm (Ne.symm h2.1)),ai _ _ n24];exact k2'
  have s5:=fun X=>((s4.putN hb4 (.cells true [v3] 1)).ovr m1 (.cells true [str d.w,str d.p,v3] 3)).ovr m2 X;have h:=h ⟨d.w,d.p,pmL u⟩ v3 (qt u) (pmC u) M4 (.inr g4) rfl;rw[hk]at h;have e3:=(J5 hk).1;have e4:=(J5 hk).2;simp(disch:=omega)[hf3,hk,k1',al,a7];refine pF ⟨d.w,d.p,pmL u⟩ v3 hf3 _ _ r4 hm3 ?_;rw[e3,e4];generalize (M3.put b4 (.cells true [v3] 1)).put b1 (.cells true [str d.w,str d.p,v3] 3)=M5 at *;unfold a8 at h ⊢;simp(disch:=omega)[k2q,al,hf3];exact ae (s5 _) h
 ·have h:=h d v [] 6 M (.inl ⟨rfl,rfl,rfl⟩) (by unfold Got bt;rw[if_neg hk];rfl);have k1q:((M3.put b4 (.cells true [v3] 1))) b1=some (.cells true [str d.w,str d.p,v] 3):=by rw[ai _ _ n14];exact k1'
  have k2q:((M3.put b4 (.cells true [v3] 1))) b2=some (.cells true [str [],str [],.slice none 0 0,str [],.int .i64 0] 5):=by rw[ai _ _ n24];exact k2'
  have s5:=fun X=>((sN.trans o3.sub).putN hb4 (.cells true [v3] 1)).ovr h2.2 X;simp(disch:=omega)[hf3,aq k1',al,a7];refine cq d v hf _ _ ?_;generalize M3.put b4 (.cells true [v3] 1)=M5 at *;unfold a8 at h ⊢;simp(disch:=omega)[k2q,al,hf];exact ae (s5 _) h
set_option maxHeartbeats 2000000 in
theorem xL(d:Dk)(v:Value)(c u:List UInt8)(M:Mem)(R:VP)(hd:d.ok)(hv:Rd M v (strs d.ms))(hu:u.length<=2000000)
  (h1:sy c=true->∀ d' v' t k M',Gv M v d v' d' M'->Got (dQ d c u) d' t k->R (.tuple #[dkV d' v',str t,.int .i64 k,.bool true]) M')
  (h0:sy c=false->R (.tuple #[dkV d v,str [],.int .i64 6,.bool false]) M):ar prog 60 [dkV d v,str c,str u] M R:=by
 obtain⟨hw,hp,hm⟩:=hd;have hw60:=au hw;have hp8:=(bK hp).2.1;have hfi:df d.ms:=fun w hw=>by have:=(bL hm hw).1;omega
 have hm5:=(aX hm).2;have hf:=aZ hv;unfold dkV;refine fnS func60 rfl ntmps60 results60 ?_;simp(disch:=omega);intro b1 hb1;have s1:Sub M (M.put b1 (.cells true [str d.w,str d.p,v] 3)):=(Sub.refl M).put hb1 _;simp(disch:=omega);intro b2 hb2;have h2:=hb2;rw[aF]at h2;have sN:=s1.putN hb2 (.cells true [str [],str [],.slice none 0 0] 3);have k1:((M.put b1 (.cells true [str d.w,str d.p,v] 3)).put b2 (.cells true [str [],str [],.slice none 0 0] 3)) b1=some (.cells true [str d.w,str d.p,v] 3):=by rw[ai _ _ (Ne.symm h2.1)];exact ag _ _ _
 have k2:((M.put b1 (.cells true [str d.w,str d.p,v] 3)).put b2 (.cells true [str [],str [],.slice none 0 0] 3)) b2=some (.cells true [str [],str [],.slice none 0 0] 3):=ag _ _ _;generalize (M.put b1 (.cells true [str d.w,str d.p,v] 3)).put b2 (.cells true [str [],str [],.slice none 0 0] 3)=N at *;have hvN:=hv.sub sN;by_cases c0:c=[119,111,114,100]
 ·subst c0;have e:dQ d [119,111,114,100] u=if isWord u then bec d u 0 else none:=by simp[dQ]
  rw[e]at h1;simp(disch:=omega);refine ba u _ _ (by omega) ?_;cases hq:isWord u
  ·rw[hq,if_neg (by decide)]at h1;have h:=h1 rfl d v [] 6 M (.inl ⟨rfl,rfl,rfl⟩) rfl;unfold dkV at h;simp(disch:=omega)[aq k1,k2,al,hf];exact ae (sN.ovr h2.2 _) h
  rw[hq,if_pos rfl]at h1;simp(disch:=omega)[aq k1];refine bP d v _ _ _ _ hf (by omega) ?_;intro d2 t2 q2 hms hg;have h:=h1 rfl d2 v t2 q2 M (.inl ⟨rfl,hms,rfl⟩) hg;unfold dkV at h ⊢;simp(disch:=omega);intro b3 hb3;have n13:b1≠b3:=by rintro rfl;rw[k1]at hb3;cases hb3
  have n23:b2≠b3:=by rintro rfl;rw[k2]at hb3;cases hb3
  simp(disch:=omega)[hf,k2,al,a7];exact ae ((sN.putN hb3 _).ovr h2.2 _) h
 by_cases c1:c=[97,100,100]
 ·subst c1;have e:dQ d [97,100,100] u=bec d (lU d.w u) (mh d.w u):=by simp[dQ]
  rw[e]at h1;simp(disch:=omega)[aj k1];refine yu d.w u _ _ (by omega) (by omega) ?_;unfold aD;simp(disch:=omega)[aq k1];refine bP d v _ _ _ _ hf (by have:=Cq d.w u;omega) ?_;intro d2 t2 q2 hms hg;have h:=h1 rfl d2 v t2 q2 M (.inl ⟨rfl,hms,rfl⟩) hg;unfold dkV at h ⊢;simp(disch:=omega);intro b3 hb3;have n13:b1≠b3:=by rintro rfl;rw[k1]at hb3;cases hb3
  have n23:b2≠b3:=by rintro rfl;rw[k2]at hb3;cases hb3
  simp(disch:=omega)[hf,k2,al,a7];exact ae ((sN.putN hb3 _).ovr h2.2 _) h
 by_cases c2:c=[112,97,116,116,101,114,110]
 ·subst c2;have e:dQ d [112,97,116,116,101,114,110] u=if aY u then bt ⟨d.w,u,d.ms⟩ (qt u) 0 else none:=by simp[dQ]
  rw[e]at h1;simp(disch:=omega);refine iU u _ _ (by omega) ?_;cases hq:aY u
  ·rw[hq,if_neg (by decide)]at h1;have h:=h1 rfl d v [] 6 M (.inl ⟨rfl,rfl,rfl⟩) rfl;unfold dkV at h;simp(disch:=omega)[aq k1,k2,al,hf];exact ae (sN.ovr h2.2 _) h
  rw[hq,if_pos rfl]at h1;simp(disch:=omega)[k1,al];have k1':=ag N b1 (.cells true [str d.w,str u,v] 3);have k2':(N.put b1 (.cells true [str d.w,str u,v] 3)) b2=some (.cells true [str [],str [],.slice none 0 0] 3):=by rw[ai _ _ h2.1];exact k2
  have s3:=sN.ovr hb1 (.cells true [str d.w,str u,v] 3);generalize N.put b1 (.cells true [str d.w,str u,v] 3)=N3 at *;refine plyS (ak [0,1] (.one 2 1 (.one 3 2 (ak [4,5,6] .fin)))) ?_;simp(disch:=omega)[aq k1'];refine bI u _ _ (by omega) ?_;have h:=h1 rfl ⟨d.w,u,d.ms⟩ v _ _ M (.inl ⟨rfl,rfl,rfl⟩) rfl;unfold dkV at h;simp(disch:=omega)[k2',al,hf];exact ae (s3.ovr h2.2 _) h
 by_cases c3:c=[109,111,114,112,104,105,115,109]
 ·subst c3;have e:dQ d [109,111,114,112,104,105,115,109] u=bt ⟨d.w,d.p,pmL u⟩ (qt u) (pmC u):=by simp[dQ]
  rw[e]at h1;simp(disch:=omega);refine ql u _ _ (by omega) ?_;intro v3 M3 o3;have k1':=o3.sub _ _ k1;have k2':=o3.sub _ _ k2;have hf3:=aZ o3.rd;simp(disch:=omega);intro b4 hb4;have n14:b1≠b4:=by rintro rfl;rw[k1']at hb4;cases hb4
  have n24:b2≠b4:=by rintro rfl;rw[k2']at hb4;cases hb4
  obtain⟨M4,g4,s4,m1,m2⟩:∃ M4,Own M v3 (strs (pmL u)) M4/\Sub M4 M3/\M4 b1=none/\M4 b2=none:=by
   rcases o3 with ⟨e1,e2,rfl⟩|⟨b5,c5,e1,hb5,hc5,rfl⟩
   ·refine⟨M,?_,sN,hb1,h2.2⟩;rw[e1,e2];exact Own.nil M
   ·have n15:b1≠b5:=by rintro rfl;rw[k1]at hb5;cases hb5
    have n25:b2≠b5:=by rintro rfl;rw[k2]at hb5;cases hb5
    exact⟨M.put b5 (.cells true (strs (pmL u)) c5),.inr ⟨b5,c5,e1,bM sN hb5,hc5,rfl⟩,sN.both b5 _,by rw[ai _ _ n15];exact hb1,by rw[ai _ _ n25];exact h2.2⟩
  by_cases hk:pmC u=0
  ·have k1q:=ag (M3.put b4 (.cells true [v3] 1)) b1 (.cells true [str d.w,str d.p,v3] 3);have k2q:((M3.put b4 (.cells true [v3] 1)).put b1 (.cells true [str d.w,str d.p,v3] 3)) b2=some (.cells true [str [],str [],.slice none 0 0] 3):=by rw[ai _ _ h2.1,ai _ _ n24];exact k2'
   have s5:=fun X=>((s4.putN hb4 (.cells true [v3] 1)).ovr m1 (.cells true [str d.w,str d.p,v3] 3)).ovr m2 X;have h:=h1 rfl ⟨d.w,d.p,pmL u⟩ v3 (qt u) (pmC u) M4 (.inr g4) rfl;rw[hk]at h;simp(disch:=omega)[hf3,hk,k1',al,a7];generalize (M3.put b4 (.cells true [v3] 1)).put b1 (.cells true [str d.w,str d.p,v3] 3)=M5 at *;refine plyS (ak [0,1,3] (.one 2 1 (.one 4 2 (ak [5,6,7] .fin)))) ?_;simp(disch:=omega)[aq k1q];refine bI u _ _ (by omega) ?_;unfold dkV at h;simp(disch:=omega)[k2q,al,hf3];exact ae (s5 _) h
  ·have k1q:(M3.put b4 (.cells true [v3] 1)) b1=some (.cells true [str d.w,str d.p,v] 3):=by rw[ai _ _ n14];exact k1'
   have k2q:(M3.put b4 (.cells true [v3] 1)) b2=some (.cells true [str [],str [],.slice none 0 0] 3):=by rw[ai _ _ n24];exact k2'
   have s5:=fun X=>((sN.trans o3.sub).putN hb4 (.cells true [v3] 1)).ovr h2.2 X;have h:=h1 rfl d v (qt u) (pmC u) M (.inl ⟨rfl,rfl,rfl⟩) (by unfold Got bt;rw[if_neg hk,if_neg hk]);simp(disch:=omega)[hf3,al,a7];generalize M3.put b4 (.cells true [v3] 1)=M5 at *;refine plyS (ak [0,1,3] (.one 2 1 (.one 4 2 (ak [5,6,7] .fin)))) ?_;simp(disch:=omega)[aq k1q];refine bI u _ _ (by omega) ?_;unfold dkV at h;simp(disch:=omega)[k2q,al,hf];exact ae (s5 _) h
 have ht:sy c=false:=by simp[sy,c0,c1,c2,c3]
 have h:=h0 ht;unfold dkV at h;simp(disch:=omega)[aq k1,k2,al,hf,beq_eq_false_iff_ne.2 c0,beq_eq_false_iff_ne.2 c1,beq_eq_false_iff_ne.2 c2,beq_eq_false_iff_ne.2 c3];exact ae (sN.ovr h2.2 _) h
end Go.Proofs.YtapimhjbilkfpaaGreatDoor
