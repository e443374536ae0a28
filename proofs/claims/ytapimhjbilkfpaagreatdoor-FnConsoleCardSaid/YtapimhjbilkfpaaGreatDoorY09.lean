/- Lemmas, part 10. -/
import Derived.Test.YtapimhjbilkfpaaGreatDoorY08
set_option linter.unusedVariables false
set_option linter.unusedSimpArgs false
set_option maxHeartbeats 8000000
namespace Go.Proofs.YtapimhjbilkfpaaGreatDoor
open Go Go.Proofs.Tryz List
theorem zi(d:Dk)(v:Value)(c u:B8)(M:Mem)(R:VP)(hd:d.ok)(hv:Rd M v (strs d.ms))(hu:u.length<=2000000)
  (h1:tA c=true->∀ d' v' t k M',Gv M v d v' d' M'->Got (dW d c u) d' t k->R (.tuple #[dkV d' v',str t,.int .i64 k,.bool true]) M')
  (h0:tA c=false->R (.tuple #[dkV d v,str [],.int .i64 6,.bool false]) M):ar prog 60 [dkV d v,str c,str u] M R:=by
 obtain⟨hw,hp,hm⟩:=hd;have hw60:=au hw;have hp8:=(bC hp).2.1;have hfi:cS d.ms:=fun w hw=>by have:=(bH hm hw).1;omega
 have hm5:=(aW hm).2;have hf:=aD hv;unfold dkV;refine fnT func60 rfl ntmps60 results60 ?_;intro b1 hb1;have s1:=(Sub.refl M).put hb1 (.cells true [str d.w,str d.p,v] 3);refine sS ?_;intro b2 hb2;have h2:=hb2;rw[aG]at h2;have sN:=s1.putN hb2 (.cells true [str [],str [],.slice none 0 0] 3);have k1:=pOne h2.1 M (.cells true [str d.w,str d.p,v] 3) (.cells true [str [],str [],.slice none 0 0] 3);have k2:=ae (M.put b1 (.cells true [str d.w,str d.p,v] 3)) b2 (.cells true [str [],str [],.slice none 0 0] 3);generalize (M.put b1 (.cells true [str d.w,str d.p,v] 3)).put b2 (.cells true [str [],str [],.slice none 0 0] 3)=N at *;have hvN:=hv.sub sN;by_cases c0:c=[119,111,114,100]
 .subst c0;have e:dW d [119,111,114,100] u=if isWord u then bec d u 0 else none:=by simp[dW]
  rw[e]at h1;refine sS ?_;refine bg u _ _ (by omega) ?_;cases hq:isWord u
  .rw[hq,if_neg (by decide)]at h1;have h:=h1 rfl d v [] 6 M (.inl ⟨rfl,rfl,rfl⟩) rfl;unfold dkV at h;simp(disch:=omega)[aq k1,k2,aj,hf];exact ag (sN.ovr h2.2 _) h
  rw[hq,if_pos rfl]at h1;simp(disch:=omega)[aq k1];refine bS d v _ _ _ _ hf (by omega) ?_;intro d2 t2 q2 hms hg;have h:=h1 rfl d2 v t2 q2 M (.inl ⟨rfl,hms,rfl⟩) hg;unfold dkV at h ⊢;refine sS ?_;intro b3 hb3;have n13:b1≠b3:=by rintro rfl;rw[k1]at hb3;cases hb3
  have n23:b2≠b3:=by rintro rfl;rw[k2]at hb3;cases hb3
  simp(disch:=omega)[hf,k2,aj,aN];exact ag ((sN.putN hb3 _).ovr h2.2 _) h
 by_cases c1:c=[97,100,100]
 .subst c1;have e:dW d [97,100,100] u=bec d (mW d.w u) (oW d.w u):=by simp[dW]
  rw[e]at h1;simp(disch:=omega)[ak k1];refine yU d.w u _ _ (by omega) (by omega) ?_;unfold aF;simp(disch:=omega)[aq k1];refine bS d v _ _ _ _ hf (by have:=E7 d.w u;omega) ?_;intro d2 t2 q2 hms hg;have h:=h1 rfl d2 v t2 q2 M (.inl ⟨rfl,hms,rfl⟩) hg;unfold dkV at h ⊢;refine sS ?_;intro b3 hb3;have n13:b1≠b3:=by rintro rfl;rw[k1]at hb3;cases hb3
  have n23:b2≠b3:=by rintro rfl;rw[k2]at hb3;cases hb3
  simp(disch:=omega)[hf,k2,aj,aN];exact ag ((sN.putN hb3 _).ovr h2.2 _) h
 by_cases c2:c=[112,97,116,116,101,114,110]
 .subst c2;have e:dW d [112,97,116,116,101,114,110] u=if a8 u then bt ⟨d.w,u,d.ms⟩ (qt u) 0 else none:=by simp[dW]
  rw[e]at h1;refine sS ?_;refine gU u _ _ (by omega) ?_;cases hq:a8 u
  .rw[hq,if_neg (by decide)]at h1;have h:=h1 rfl d v [] 6 M (.inl ⟨rfl,rfl,rfl⟩) rfl;unfold dkV at h;simp(disch:=omega)[aq k1,k2,aj,hf];exact ag (sN.ovr h2.2 _) h
  rw[hq,if_pos rfl]at h1;simp(disch:=omega)[k1,aj];have k1':=ae N b1 (.cells true [str d.w,str u,v] 3);have k2':(N.put b1 (.cells true [str d.w,str u,v] 3)) b2=some (.cells true [str [],str [],.slice none 0 0] 3):=by rw[al _ _ h2.1];exact k2
  have s3:=sN.ovr hb1 (.cells true [str d.w,str u,v] 3);generalize N.put b1 (.cells true [str d.w,str u,v] 3)=N3 at *;refine plyS (ai [0,1] (.one 2 1 (.one 3 2 (ai [4,5,6] .fin)))) ?_;simp(disch:=omega)[aq k1'];refine bN u _ _ (by omega) ?_;have h:=h1 rfl ⟨d.w,u,d.ms⟩ v _ _ M (.inl ⟨rfl,rfl,rfl⟩) rfl;unfold dkV at h;simp(disch:=omega)[k2',aj,hf];exact ag (s3.ovr h2.2 _) h
 by_cases c3:c=[109,111,114,112,104,105,115,109]
 .subst c3;have e:dW d [109,111,114,112,104,105,115,109] u=bt ⟨d.w,d.p,pmL u⟩ (qt u) (pmC u):=by simp[dW]
  rw[e]at h1;refine sS ?_;refine qN u _ _ (by omega) ?_;intro v3 M3 o3;have k1':=o3.sub _ _ k1;have k2':=o3.sub _ _ k2;have hf3:=aD o3.rd;refine sS ?_;intro b4 hb4;have n14:b1≠b4:=by rintro rfl;rw[k1']at hb4;cases hb4
  have n24:b2≠b4:=by rintro rfl;rw[k2']at hb4;cases hb4
  obtain⟨M4,g4,s4,m1,m2⟩:∃ M4,Own M v3 (strs (pmL u)) M4/\Sub M4 M3/\M4 b1=none/\M4 b2=none:=by
   rcases o3 with ⟨e1,e2,rfl⟩|⟨b5,c5,e1,hb5,hc5,rfl⟩
   .refine⟨M,?_,sN,hb1,h2.2⟩;rw[e1,e2];exact Own.nil M
   .have n15:b1≠b5:=by rintro rfl;rw[k1]at hb5;cases hb5
    have n25:b2≠b5:=by rintro rfl;rw[k2]at hb5;cases hb5
    exact⟨M.put b5 (.cells true (strs (pmL u)) c5),.inr ⟨b5,c5,e1,ba sN hb5,hc5,rfl⟩,sN.both b5 _,by rw[al _ _ n15];exact hb1,by rw[al _ _ n25];exact h2.2⟩
  by_cases hk:pmC u=0
  .have k1q:=ae (M3.put b4 (.cells true [v3] 1)) b1 (.cells true [str d.w,str d.p,v3] 3);have k2q:((M3.put b4 (.cells true [v3] 1)).put b1 (.cells true [str d.w,str d.p,v3] 3)) b2=some (.cells true [str [],str [],.slice none 0 0] 3):=by rw[al _ _ h2.1,al _ _ n24];exact k2'
   have s5:=fun X=>((s4.putN hb4 (.cells true [v3] 1)).ovr m1 (.cells true [str d.w,str d.p,v3] 3)).ovr m2 X;have h:=h1 rfl ⟨d.w,d.p,pmL u⟩ v3 (qt u) (pmC u) M4 (.inr g4) rfl;rw[hk]at h;simp(disch:=omega)[hf3,hk,k1',aj,aN];generalize (M3.put b4 (.cells true [v3] 1)).put b1 (.cells true [str d.w,str d.p,v3] 3)=M5 at *;refine plyS (ai [0,1,3] (.one 2 1 (.one 4 2 (ai [5,6,7] .fin)))) ?_;simp(disch:=omega)[aq k1q];refine bN u _ _ (by omega) ?_;unfold dkV at h;simp(disch:=omega)[k2q,aj,hf3];exact ag (s5 _) h
  .have k1q:(M3.put b4 (.cells true [v3] 1)) b1=some (.cells true [str d.w,str d.p,v] 3):=by rw[al _ _ n14];exact k1'
   have k2q:(M3.put b4 (.cells true [v3] 1)) b2=some (.cells true [str [],str [],.slice none 0 0] 3):=by rw[al _ _ n24];exact k2'
   have s5:=fun X=>((sN.trans o3.sub).putN hb4 (.cells true [v3] 1)).ovr h2.2 X;have h:=h1 rfl d v (qt u) (pmC u) M (.inl ⟨rfl,rfl,rfl⟩) (by unfold Got bt;rw[if_neg hk,if_neg hk]);simp(disch:=omega)[hf3,aj,aN];generalize M3.put b4 (.cells true [v3] 1)=M5 at *;refine plyS (ai [0,1,3] (.one 2 1 (.one 4 2 (ai [5,6,7] .fin)))) ?_;simp(disch:=omega)[aq k1q];refine bN u _ _ (by omega) ?_;unfold dkV at h;simp(disch:=omega)[k2q,aj,hf];exact ag (s5 _) h
 have ht:tA c=false:=by simp[tA,c0,c1,c2,c3]
 have h:=h0 ht;unfold dkV at h;simp(disch:=omega)[aq k1,k2,aj,hf,bNe.2 c0,bNe.2 c1,bNe.2 c2,bNe.2 c3];exact ag (sN.ovr h2.2 _) h
theorem Sz{M:Mem}{b c:Nat}{x:B8}{r:List B8}{own:Bool}(h:M b=some (.cells own (strs (x::r)) c))(hc:r.length+1<=c):Rd M (.slice (some ⟨b,dQ 0 1 c 1,none⟩) r.length (c-1)) (strs r):=by
 have hl:(strs r).length=r.length:=ah r;by_cases h0:r=[]
 .subst h0;exact .inl ⟨_,_,rfl,rfl⟩
 .have h1:1<=r.length:=length_pos_iff.2 h0;refine .inr ⟨b,dQ 0 1 c 1,c-1,by rw[hl],?_,by rw[hl];omega⟩;have e:dQ 0 1 c 1=1:=by unfold dQ;rw[if_neg (by omega)]
  have hl2:(strs (x::r)).length=r.length+1:=by rw[ah];rfl
  rw[e,hl];unfold Mem.sub?;rw[h];simp only;rw[hl2,if_pos (by omega)];show some ((strs r).take r.length)=some (strs r);rw[take_of_length_le (by rw[hl];exact lRf _)]
theorem da{N M4:Mem}{v v':Value}{d d':Dk}(g:Gv N v d v' d' M4):Sub N M4:=by
 rcases g with ⟨_,_,rfl⟩|o
 .exact Sub.refl _
 .exact o.sub
theorem iw(r:List B8):(fj r).length=r.length:=by unfold fj;rw[length_map]
theorem pt(d:Dk)(zs:List Int):gJ d [115,116,97,110,100,97,114,100] zs=bec d (qW zs) (rU zs):=by simp[gJ]
theorem yB(d:Dk)(c:B8)(h:c≠[115,116,97,110,100,97,114,100]):gJ d c []=aM d c:=by simp[gJ,h]
theorem LR(d:Dk)(c:B8)(x y:Int)(h:c≠[115,116,97,110,100,97,114,100]):gJ d c [x,y]=gj d c x y:=by simp[gJ,h]
theorem sg(d:Dk)(x:Int):gJ d [116,117,114,110] [x]=bec d (xi d.w x) (A7 d.w x):=by simp[gJ]
theorem x9(d:Dk)(x:Int):gJ d [122,105,109,105,110] [x]=bec d (wV x) (Bw x):=by simp[gJ]
theorem xF(d:Dk)(c:B8)(x:Int)(h:c≠[115,116,97,110,100,97,114,100])(h1:c≠[116,117,114,110])(h2:c≠[122,105,109,105,110]):gJ d c [x]=none:=by simp[gJ,h,h1,h2]
theorem AF(d:Dk)(c:B8)(zs:List Int)(h:c≠[115,116,97,110,100,97,114,100])(h0:zs.length≠0)(h1:zs.length≠1)(h2:zs.length≠2):gJ d c zs=none:=by
 unfold gJ;rw[if_neg h]
 match zs,h0,h1,h2 with
 | [],q,_,_=>exact absurd rfl q
 | [_],_,q,_=>exact absurd rfl q
 | [_,_],_,_,q=>exact absurd rfl q
 | _::_::_::_,_,_,_=>rfl
theorem qM(l:B8):∃ c r,spR 32 l=c::r/\c.length<=l.length/\(∀ w∈r,w.length<=l.length)/\r.length<=l.length:=by
 have hne:=iV 32 l;have hf:=nU 32 l;have hn:=pF 32 l;have hc:l.count 32<=l.length:=count_le_length;cases hs:spR 32 l with
 | nil=>exact absurd hs hne
 | cons c r=>
  rw[hs]at hf hn;exact⟨c,r,rfl,hf c (mem_cons_self ..),fun w hw=>hf w (mem_cons_of_mem _ hw),by rw[lCo]at hn;omega⟩
theorem DN(d:Dk){l c:B8}{r:List B8}(h:spR 32 l=c::r):oH d l=gK d c r:=by unfold oH;rw[h];rfl
theorem vL{r:List B8}(h:r.all bT=true):∀ z∈fj r,0<=z/\z<=1000000000:=fun z hz=>by
 unfold fj at hz;obtain⟨w,hw,rfl⟩:=mem_map.1 hz;have:=fM (all_eq_true.1 h w hw);omega
set_option maxRecDepth 4000 in
theorem DL(d:Dk)(v:Value)(l:B8)(M:Mem)(R:VP)(hd:d.ok)(hvar:cj M)(hv:Rd M v (strs d.ms))(hl:l.length<=1500000)
  (h:∀ d' v' t k M',Gv M v d v' d' M'->Got (oH d l) d' t k->R (bh d' v' t k) M'):ar prog 57 [dkV d v,str l] M R:=by
 have hok:=hd;obtain⟨hw,hp,hm⟩:=hd;have hw60:=au hw;have hfi:cS d.ms:=fun w hw=>by have:=(bH hm hw).1;omega
 have hm5:=(aW hm).2;have hf:=aD hv;unfold dkV;refine fnT func57 rfl ntmps57 results57 ?_;intro b1 hb1;have h1:=(Sub.refl M).put hb1 (.cells true [str d.w,str d.p,v] 3);refine sS ?_;intro b2 hb2;have h2:=hb2;rw[aG]at h2;have sN:=h1.putN hb2 (.cells true [str [],str [],.slice none 0 0,str [],.int .i64 0] 5);have k1:=pOne h2.1 M (.cells true [str d.w,str d.p,v] 3) (.cells true [str [],str [],.slice none 0 0,str [],.int .i64 0] 5);have k2:=ae (M.put b1 (.cells true [str d.w,str d.p,v] 3)) b2 (.cells true [str [],str [],.slice none 0 0,str [],.int .i64 0] 5);generalize (M.put b1 (.cells true [str d.w,str d.p,v] 3)).put b2 (.cells true [str [],str [],.slice none 0 0,str [],.int .i64 0] 5)=N at *;refine sS ?_;refine wk l 32 _ _ (by omega) ?_;intro v5 M3 o5;obtain⟨c,r,hs,hcl,hrl,hrn⟩:=qM l;rw[DN d hs]at h;rw[hs]at o5;rcases o5 with ⟨_,e,_⟩|⟨b5,c5,rfl,hb5,hc5,hM3⟩
 .cases e
 have n15:b1≠b5:=by rintro rfl;rw[k1]at hb5;cases hb5
 have n25:b2≠b5:=by rintro rfl;rw[k2]at hb5;cases hb5
 have k5:M3 b5=some (.cells true (strs (c::r)) c5):=by rw[hM3];exact ae _ _ _
 have s3:Sub M M3:=by rw[hM3];exact sN.putN hb5 _
 have k1:M3 b1=some (.cells true [str d.w,str d.p,v] 3):=by rw[hM3,al _ _ n15];exact k1
 have k2:M3 b2=some (.cells true [str [],str [],.slice none 0 0,str [],.int .i64 0] 5):=by rw[hM3,al _ _ n25];exact k2
 clear hM3;have hln:(strs (c::r)).length=r.length+1:=by rw[ah];rfl
 rw[hln]at hc5 ⊢;have g0:M3.get? b5 0=some (str c):=by rw[ak k5];rfl
 have rt:=Sz k5 hc5;have hvar3:=hvar.sub s3;have hv3:=hv.sub s3;have hn1:(1:Int)<=(r.length:Nat)+1:=by omega
 refine sS ?_;refine plyS (ai [0,1,2,3,4,5,6] .fin) ?_;simp(disch:=omega)[g0];refine oU c _ _ ?_;cases ht:tA c
 .have hpX:gK d c r=if c=[110,97,109,101]/\r.length=2 then (if bT (r.getD 1 []) then bec d (hU (r.getD 0 []) (cq (r.getD 1 []):Nat)) (iX (r.getD 0 []) (cq (r.getD 1 []):Nat)) else none) else if r.all bT then gJ d c (fj r) else none:=by
   unfold gK;rw[ht,if_neg (by decide)]
  rw[hpX]at h;simp(disch:=omega)[undef];refine oU c _ _ ?_;rw[ht];by_cases hnm:c=[110,97,109,101]/\r.length=2
  .rw[if_pos hnm]at h;obtain⟨x,y,rfl⟩:∃ x y,r=[x,y]:=by
    match r,hnm.2 with
    | [x,y],_=>exact⟨x,y,rfl⟩
   have e1:dQ 0 1 c5 1=1:=by unfold dQ;rw[if_neg (by simp only[lCo,length_nil]at hc5;omega)]
   have g1:M3.get? b5 1=some (str x):=by rw[ak k5];rfl
   have g2:M3.get? b5 2=some (str y):=by rw[ak k5];rfl
   have hx:=hrl x (by simp);have hy:=hrl y (by simp);simp(disch:=omega)[hnm.1];refine plyS (ai [0,1,2,3,4,5,6] (.one 7 1 (.one 8 2 .fin))) ?_;simp(disch:=omega)[aq k1,g1,g2];refine JH d v x y _ _ hok hvar3 hv3 (by omega) (by omega) ?_;intro d' t' k hg hms;have h:=h d' v t' k M (.inl ⟨rfl,hms,rfl⟩) hg;unfold bh at h ⊢;simp(disch:=omega)[k2,aj,hf];exact ag (s3.ovr h2.2 _) h
  .rw[if_neg hnm]at h;have hstep:(c==[110,97,109,101])=false\/((c==[110,97,109,101])=true/\¬((r.length:Nat):Int)=2):=by
    by_cases e:c=[110,97,109,101]
    .refine .inr ⟨by rw[e];rfl,fun e2=>hnm ⟨e,by omega⟩⟩
    .exact .inl (bNe.2 e)
   have main:ar prog 102 [.slice (some ⟨b5,dQ 0 1 c5 1,none⟩) r.length (c5-1)] M3 (fun v' M'=>Sub M3 M'/\((r.all bT=true/\∃ u,v'=.tuple #[u,.bool true]/\Own M3 u (ints (fj r)) M')\/(r.all bT=false/\v'=.tuple #[.slice none 0 0,.bool false]))):=
    n9 _ r _ _ hvar3 rt (by omega) (fun w hw=>by have:=hrl w hw;omega) (fun hn u M' o=>⟨o.sub,.inl ⟨hn,u,rfl,o⟩⟩) (fun hn=>⟨Sub.refl _,.inr ⟨hn,rfl⟩⟩)
   rcases hstep with e0|⟨e0,e1⟩
   .simp(disch:=omega)[e0,undef];refine main.mono ?_
    rintro w1 M4 ⟨s4,hcase⟩
    have k1:=s4 _ _ k1;have k2:=s4 _ _ k2;have s3:=s3.trans s4;have hvar4:=hvar3.sub s4;have hv4:=hv3.sub s4;rcases hcase with ⟨hall,u,rfl,o4⟩|⟨hall,rfl⟩
    .rw[if_pos hall]at h;have ru:=o4.rd;have hz:=vL hall;have hzl:=iw r;clear o4;generalize fj r=zs at *;obtain⟨ua,uc,rfl,hua⟩:=ru.opened;rw[az]at hua ⊢;have ru2:=ru;rw[az]at ru2;by_cases cs:c=[115,116,97,110,100,97,114,100]
     .subst cs;rw[pt]at h;refine sS ?_;refine plyS (ai [0,1] (.one 2 1 (ai [3,4] (.one 5 1 (.one 6 2 .fin))))) ?_;simp(disch:=omega)[aq k1];refine kz _ zs _ _ ru2 (by omega) ?_;unfold aF;refine sS ?_;refine bR d v hf _ _ _ _ (by have:=qH zs;omega) ?_;have h:=h ⟨qW zs,d.p,d.ms⟩ v _ _ M (.inl ⟨rfl,rfl,rfl⟩) rfl;unfold bh at h ⊢;simp(disch:=omega)[k2,aj,hf];exact ag (s3.ovr h2.2 _) h
     by_cases hz0:zs.length=0
     .obtain rfl:zs=[]:=length_eq_zero_iff.1 hz0;rw[yB d c cs]at h;simp(disch:=omega)[aq k1,bNe.2 cs];refine Aq d v c _ _ hok hvar4 hv4 ?_;intro d' v' t' k M5 hgv hg;obtain⟨M',g',s',k4⟩:=sU s3 h2.2 k2 hgv (.cells true [str d'.w,str d'.p,v',str t',.int .i64 k] 5);have hf':=eS hf hgv;have h:=h d' v' t' k M' g' hg;unfold bh at h ⊢;simp(disch:=omega)[k4,aj,hf'];exact ag s' h
     by_cases hz1:zs.length=1
     .obtain⟨x,rfl⟩:∃ x,zs=[x]:=by
       match zs,hz1 with
       | [x],_=>exact⟨x,rfl⟩
      have hx:=hz x (by simp);rcases hua with hq|⟨bu,ou,rfl,hua⟩
      .cases hq
      have gx:M4.get? bu ou=some (.int .i64 x):=by have:=hua 0 (by simp);rw[Nat.add_zero]at this;exact this
      clear hua;by_cases ct:c=[116,117,114,110]
      .subst ct;rw[sg]at h;refine sS ?_;refine plyS (ai [0,1,2,3,4,5] (.one 6 1 (ai [7,8] (.one 9 1 (.one 10 2 .fin))))) ?_;simp(disch:=omega)[aq k1,ak k1,gx];refine bq (qc d.w x _ _ (by omega) fun M6 s6=>⟨s6,?_⟩);unfold aF;refine sS ?_;refine bR d v hf _ _ _ _ (by have:=yz d.w x;omega) ?_;have h:=h ⟨xi d.w x,d.p,d.ms⟩ v _ _ M (.inl ⟨rfl,rfl,rfl⟩) rfl;unfold bh at h ⊢;simp(disch:=omega)[k2,aj,hf];exact ag (s3.ovr h2.2 _) h
      by_cases cz:c=[122,105,109,105,110]
      .subst cz;rw[x9]at h;refine sS ?_;refine plyS (ai [0,1,2,3] (.one 4 1 (ai [5,6] (.one 7 1 (.one 8 2 .fin))))) ?_;simp(disch:=omega)[aq k1,gx];refine nG x _ _ ?_;unfold aF;refine sS ?_;refine bR d v hf _ _ _ _ (by have:=Av x;omega) ?_;have h:=h ⟨wV x,d.p,d.ms⟩ v _ _ M (.inl ⟨rfl,rfl,rfl⟩) rfl;unfold bh at h ⊢;simp(disch:=omega)[k2,aj,hf];exact ag (s3.ovr h2.2 _) h
      rw[xF d c x cs ct cz]at h;simp(disch:=omega)[aq k1,bNe.2 cs,bNe.2 ct,bNe.2 cz];refine cG d v hf _ _ ?_;have h:=h d v [] 6 M (.inl ⟨rfl,rfl,rfl⟩) rfl;unfold bh at h ⊢;simp(disch:=omega)[k2,aj,hf];exact ag (s3.ovr h2.2 _) h
     by_cases hz2:zs.length=2
     .obtain⟨x,y,rfl⟩:∃ x y,zs=[x,y]:=by
       match zs,hz2 with
       | [x,y],_=>exact⟨x,y,rfl⟩
      have hx:=hz x (by simp);have hy:=hz y (by simp);rw[LR d c x y cs]at h;rcases hua with hq|⟨bu,ou,rfl,hua⟩
      .cases hq
      have gx:M4.get? bu ou=some (.int .i64 x):=by have:=hua 0 (by simp);rw[Nat.add_zero]at this;exact this
      have gy:M4.get? bu (ou+1)=some (.int .i64 y):=hua 1 (by simp);clear hua;simp(disch:=omega)[bNe.2 cs];refine plyS (ai [0,1,2,3,4,5,6,7] (.one 8 1 (.one 9 2 .fin))) ?_;simp(disch:=omega)[aq k1,gx,gy];refine Qe d v c x y _ _ hok hvar4 hv4 hx hy ?_;intro d' v' t' k M5 hgv hg;obtain⟨M',g',s',k4⟩:=sU s3 h2.2 k2 hgv (.cells true [str d'.w,str d'.p,v',str t',.int .i64 k] 5);have hf':=eS hf hgv;have h:=h d' v' t' k M' g' hg;unfold bh at h ⊢;simp(disch:=omega)[k4,aj,hf'];exact⟨da hgv,ag s' h⟩
     rw[AF d c zs cs hz0 hz1 hz2]at h;have i0:¬((zs.length:Nat):Int)=0:=by omega
     have i1:¬((zs.length:Nat):Int)=1:=by omega
     have i2:¬((zs.length:Nat):Int)=2:=by omega
     simp(disch:=omega)[aq k1,undef,bNe.2 cs,bNe.2 i0,bNe.2 i1,bNe.2 i2];refine cG d v hf _ _ ?_;have h:=h d v [] 6 M (.inl ⟨rfl,rfl,rfl⟩) rfl;unfold bh at h ⊢;simp(disch:=omega)[k2,aj,hf];exact ag (s3.ovr h2.2 _) h
    .rw[hall,if_neg (by decide)]at h;simp(disch:=omega)[aq k1];refine cG d v hf _ _ ?_;have h:=h d v [] 6 M (.inl ⟨rfl,rfl,rfl⟩) rfl;unfold bh at h ⊢;simp(disch:=omega)[k2,aj,hf];exact ag (s3.ovr h2.2 _) h
   .simp(disch:=omega)[e0,bNe.2 e1];refine main.mono ?_
    rintro w1 M4 ⟨s4,hcase⟩
    have k1:=s4 _ _ k1;have k2:=s4 _ _ k2;have s3:=s3.trans s4;have hvar4:=hvar3.sub s4;have hv4:=hv3.sub s4;rcases hcase with ⟨hall,u,rfl,o4⟩|⟨hall,rfl⟩
    .rw[if_pos hall]at h;have ru:=o4.rd;have hz:=vL hall;have hzl:=iw r;clear o4;generalize fj r=zs at *;obtain⟨ua,uc,rfl,hua⟩:=ru.opened;rw[az]at hua ⊢;have ru2:=ru;rw[az]at ru2;by_cases cs:c=[115,116,97,110,100,97,114,100]
     .subst cs;rw[pt]at h;refine sS ?_;refine plyS (ai [0,1] (.one 2 1 (ai [3,4] (.one 5 1 (.one 6 2 .fin))))) ?_;simp(disch:=omega)[aq k1];refine kz _ zs _ _ ru2 (by omega) ?_;unfold aF;refine sS ?_;refine bR d v hf _ _ _ _ (by have:=qH zs;omega) ?_;have h:=h ⟨qW zs,d.p,d.ms⟩ v _ _ M (.inl ⟨rfl,rfl,rfl⟩) rfl;unfold bh at h ⊢;simp(disch:=omega)[k2,aj,hf];exact ag (s3.ovr h2.2 _) h
     by_cases hz0:zs.length=0
     .obtain rfl:zs=[]:=length_eq_zero_iff.1 hz0;rw[yB d c cs]at h;simp(disch:=omega)[aq k1,bNe.2 cs];refine Aq d v c _ _ hok hvar4 hv4 ?_;intro d' v' t' k M5 hgv hg;obtain⟨M',g',s',k4⟩:=sU s3 h2.2 k2 hgv (.cells true [str d'.w,str d'.p,v',str t',.int .i64 k] 5);have hf':=eS hf hgv;have h:=h d' v' t' k M' g' hg;unfold bh at h ⊢;simp(disch:=omega)[k4,aj,hf'];exact ag s' h
     by_cases hz1:zs.length=1
     .obtain⟨x,rfl⟩:∃ x,zs=[x]:=by
       match zs,hz1 with
       | [x],_=>exact⟨x,rfl⟩
      have hx:=hz x (by simp);rcases hua with hq|⟨bu,ou,rfl,hua⟩
      .cases hq
      have gx:M4.get? bu ou=some (.int .i64 x):=by have:=hua 0 (by simp);rw[Nat.add_zero]at this;exact this
      clear hua;by_cases ct:c=[116,117,114,110]
      .subst ct;rw[sg]at h;refine sS ?_;refine plyS (ai [0,1,2,3,4,5] (.one 6 1 (ai [7,8] (.one 9 1 (.one 10 2 .fin))))) ?_;simp(disch:=omega)[aq k1,ak k1,gx];refine bq (qc d.w x _ _ (by omega) fun M6 s6=>⟨s6,?_⟩);unfold aF;refine sS ?_;refine bR d v hf _ _ _ _ (by have:=yz d.w x;omega) ?_;have h:=h ⟨xi d.w x,d.p,d.ms⟩ v _ _ M (.inl ⟨rfl,rfl,rfl⟩) rfl;unfold bh at h ⊢;simp(disch:=omega)[k2,aj,hf];exact ag (s3.ovr h2.2 _) h
      by_cases cz:c=[122,105,109,105,110]
      .subst cz;rw[x9]at h;refine sS ?_;refine plyS (ai [0,1,2,3] (.one 4 1 (ai [5,6] (.one 7 1 (.one 8 2 .fin))))) ?_;simp(disch:=omega)[aq k1,gx];refine nG x _ _ ?_;unfold aF;refine sS ?_;refine bR d v hf _ _ _ _ (by have:=Av x;omega) ?_;have h:=h ⟨wV x,d.p,d.ms⟩ v _ _ M (.inl ⟨rfl,rfl,rfl⟩) rfl;unfold bh at h ⊢;simp(disch:=omega)[k2,aj,hf];exact ag (s3.ovr h2.2 _) h
      rw[xF d c x cs ct cz]at h;simp(disch:=omega)[aq k1,bNe.2 cs,bNe.2 ct,bNe.2 cz];refine cG d v hf _ _ ?_;have h:=h d v [] 6 M (.inl ⟨rfl,rfl,rfl⟩) rfl;unfold bh at h ⊢;simp(disch:=omega)[k2,aj,hf];exact ag (s3.ovr h2.2 _) h
     by_cases hz2:zs.length=2
     .omega
     rw[AF d c zs cs hz0 hz1 hz2]at h;have i0:¬((zs.length:Nat):Int)=0:=by omega
     have i1:¬((zs.length:Nat):Int)=1:=by omega
     have i2:¬((zs.length:Nat):Int)=2:=by omega
     simp(disch:=omega)[aq k1,undef,bNe.2 cs,bNe.2 i0,bNe.2 i1,bNe.2 i2];refine cG d v hf _ _ ?_;have h:=h d v [] 6 M (.inl ⟨rfl,rfl,rfl⟩) rfl;unfold bh at h ⊢;simp(disch:=omega)[k2,aj,hf];exact ag (s3.ovr h2.2 _) h
    .rw[hall,if_neg (by decide)]at h;simp(disch:=omega)[aq k1];refine cG d v hf _ _ ?_;have h:=h d v [] 6 M (.inl ⟨rfl,rfl,rfl⟩) rfl;unfold bh at h ⊢;simp(disch:=omega)[k2,aj,hf];exact ag (s3.ovr h2.2 _) h
 .by_cases hr:r.length=1
  .obtain⟨x,rfl⟩:∃ x,r=[x]:=by
    match r,hr with
    | [x],_=>exact⟨x,rfl⟩
   have hpX:gK d c [x]=dW d c x:=by unfold gK;rw[ht,if_pos rfl]
   rw[hpX]at h;have e1:dQ 0 1 c5 1=1:=by unfold dQ;rw[if_neg (by simp only[lCo,length_nil]at hc5;omega)]
   have g1:M3.get? b5 1=some (str x):=by rw[ak k5];rfl
   have hx:=hrl x (by simp);refine sS ?_;refine plyS (ai [0,1,2,3,4] (.one 5 1 (.one 6 2 .fin))) ?_;simp(disch:=omega)[aq k1,g1];refine KP d v c x _ _ hok hvar3 hv3 (by omega) ?_;intro d' v' t' k M4 hgv hg;obtain⟨M',g',s',k4⟩:=sU s3 h2.2 k2 hgv (.cells true [str d'.w,str d'.p,v',str t',.int .i64 k] 5);have hf':=eS hf hgv;have h:=h d' v' t' k M' g' hg;unfold bh at h ⊢;simp(disch:=omega)[k4,aj,hf'];exact⟨da hgv,ag s' h⟩
  .have hpX:gK d c r=none:=by
    unfold gK;rw[ht,if_pos rfl]
    match r,hr with
    | [],_=>rfl
    | [_],q=>exact absurd rfl q
    | _::_::_,_=>rfl
   rw[hpX]at h;have hrI:¬((r.length:Nat):Int)=1:=by omega
   simp(disch:=omega)[bNe.2 hrI];refine oU c _ _ ?_;rw[ht];simp(disch:=omega)[aq k1];refine cG d v hf _ _ ?_;have h:=h d v [] 6 M (.inl ⟨rfl,rfl,rfl⟩) rfl;unfold bh at h ⊢;simp(disch:=omega)[k2,aj,hf];exact ag (s3.ovr h2.2 _) h
theorem UM{M N M4:Mem}{v v':Value}{d d':Dk}(hs:Sub M N){b:Nat}(hb:M b=none){B:Blk}(k:N b=some B)(g:Gv N v d v' d' M4):∃ M',Gv M v d v' d' M'/\Sub M' M4/\M' b=none:=by
 rcases g with ⟨h1,h2,rfl⟩|o
 .exact⟨M,.inl ⟨h1,h2,rfl⟩,hs,hb⟩
 .rcases o with ⟨h1,h2,rfl⟩|⟨b',c,h1,h2,h3,rfl⟩
  .refine⟨M,.inr ?_,hs,hb⟩;rw[h1,h2];exact Own.nil M
  .have hne:b≠b':=by rintro rfl;rw[k]at h2;cases h2
   exact⟨M.put b' (.cells true (strs d'.ms) c),.inr (.inr ⟨b',c,h1,ba hs h2,h3,rfl⟩),hs.both b' _,by rw[al _ _ hne];exact hb⟩
theorem Lh{d d':Dk}{l t:B8}{k:Int}(h:Got (oH d l) d' t k)(hk:k=0):dr d l=(d',t):=by
 unfold Got bt at h;rw[if_pos hk]at h;unfold dr;rw[h];rfl
theorem Lv{d d':Dk}{l t:B8}{k:Int}(h:Got (oH d l) d' t k)(hk:¬ k=0):dr d l=(d,[101,114,114,111,114]):=by
 unfold Got bt at h;rw[if_neg hk]at h;unfold dr;rw[h];rfl
theorem HC(d:Dk)(v:Value)(l:B8)(M:Mem)(R:VP)(hd:d.ok)(hvar:cj M)(hv:Rd M v (strs d.ms))(hl:l.length<=1500000)
  (h:∀ d' v' t M',Gv M v d v' d' M'->dr d l=(d',t)->R (.tuple #[dkV d' v',str t]) M'):ar prog 29 [dkV d v,str l] M R:=by
 have hf:=aD hv;unfold dkV;refine fnT func29 rfl ntmps29 results29 ?_;intro b1 hb1;have h1:=(Sub.refl M).put hb1 (.cells true [str d.w,str d.p,v] 3);refine sS ?_;intro b2 hb2;have h2:=hb2;rw[aG]at h2;have sN:=h1.putN hb2 (.cells true [str [],str [],.slice none 0 0] 3);have k1:=pOne h2.1 M (.cells true [str d.w,str d.p,v] 3) (.cells true [str [],str [],.slice none 0 0] 3);have k2:=ae (M.put b1 (.cells true [str d.w,str d.p,v] 3)) b2 (.cells true [str [],str [],.slice none 0 0] 3);generalize (M.put b1 (.cells true [str d.w,str d.p,v] 3)).put b2 (.cells true [str [],str [],.slice none 0 0] 3)=N at *;simp(disch:=omega)[aq k1];refine DL d v l _ _ hd (hvar.sub sN) (hv.sub sN) hl ?_;intro d' v' t k M4 hgv hg;have hf':=eS hf hgv;have k1':=da hgv _ _ k1;have k2':=da hgv _ _ k2;unfold bh;refine sS ?_;intro b3 hb3;have n13:b1≠b3:=by rintro rfl;rw[k1']at hb3;cases hb3
 have n23:b2≠b3:=by rintro rfl;rw[k2']at hb3;cases hb3
 by_cases hk:k=0
 .have hr:=Lh hg hk;obtain⟨M',g',s',hm2⟩:=UM sN h2.2 k2 hgv;have h:=h d' v' t M' g' hr;have k3q:=ae M4 b3 (.cells true [str d'.w,str d'.p,v',str t,.int .i64 k] 5);have k2q:(M4.put b3 (.cells true [str d'.w,str d'.p,v',str t,.int .i64 k] 5)) b2=some (.cells true [str [],str [],.slice none 0 0] 3):=by rw[al _ _ n23];exact k2'
  have s5:=fun X=>(s'.putN hb3 (.cells true [str d'.w,str d'.p,v',str t,.int .i64 k] 5)).ovr hm2 X;simp(disch:=omega)[hf',aj,aN];have hkb:(k != 0)=false:=by rw[hk];rfl
  simp(disch:=omega)[hkb];generalize M4.put b3 (.cells true [str d'.w,str d'.p,v',str t,.int .i64 k] 5)=M5 at *;refine plyS (ai [0,1,2] (.alt 3 1 (.one 4 2 (ai [5] .fin)) (.one 4 2 (.one 3 1 (ai [5] .fin))))) ?_;unfold dkV at h;have k3r:∀ X,(M5.put b2 X) b3=some (.cells true [str d'.w,str d'.p,v',str t,.int .i64 k] 5):=fun X=>by rw[al _ _ (Ne.symm n23)];exact k3q
  simp(disch:=omega)[aq k3q,ak k3q,k2q,aj,hf',cd];exact ag (s5 _) h
 .have hr:=Lv hg hk;have h:=h d v _ M (.inl ⟨rfl,rfl,rfl⟩) hr;unfold dkV at h;simp(disch:=omega)[hf',hf,aq k1',k2',aj,aN];exact ag (((sN.trans (da hgv)).putN hb3 _).ovr h2.2 _) h
theorem lu{l:B8}(h:bT l=false):Nf l = -1:=oq (by rw[h];decide)
theorem Dj{l:B8}{i:Nat}(h:i<l.length):cq (l.take (i+1))=cq (l.take i)*10+(l[i].toNat-48):=by
 rw[aw l h,lq]
theorem gn(l:B8)(M:Mem)(R:VP)(hl:l.length<=2000000)(h:R (.int .i64 (Nf l)) M):ar prog 61 [str l] M R:=by
 refine fnS func61 rfl ntmps61 results61 ?_;by_cases h0:l.length=0
 .have hn:bT l=false:=by
   cases hq:bT l with
   | false=>rfl
   | true=>have:=(zt hq).1;omega
  rw[lu hn]at h;have h0I:((l.length:Nat):Int)=0:=by omega
  simp(disch:=omega)[h0,undef];exact ad h
 have h0I:¬((l.length:Nat):Int)=0:=by omega
 by_cases h9:9<l.length
 .have hn:bT l=false:=by
   cases hq:bT l with
   | false=>rfl
   | true=>have:=(zt hq).2;omega
  rw[lu hn]at h;have h9I:(9:Int)<(l.length:Nat):=by omega
  simp(disch:=omega)[bNe.2 h0I,h9I,undef];exact ad h
 have h9I:¬(9:Int)<(l.length:Nat):=by omega
 obtain⟨u,hu⟩:∃ u,l[0]?=some u:=⟨l[0],gEl (by omega)⟩;have hhd:l.headD 0=u:=by
  cases l with
  | nil=>cases hu
  | cons x r=>injection hu
 have hgd:l.getD 0 0=u:=by rw[gDe,hu];rfl
 by_cases hz:1<l.length/\u=48
 .have hn:bT l=false:=by
   cases hq:bT l with
   | false=>rfl
   | true=>
    have:=(eo.1 hq).1.head;rw[hhd]at this;rcases this with q|q
    .omega
    .exact absurd hz.2 q
  rw[lu hn]at h;have h1I:(1:Int)<(l.length:Nat):=by omega
  have hl0:(0:Int)<(l.length:Nat):=by omega
  have hu48:u=48:=hz.2;subst hu48;simp(disch:=omega)[bNe.2 h0I,h9I,h1I,l0 hu];exact ad h
 have hcond:(¬ 1<l.length)\/(1<l.length/\¬((u.toNat:Nat):Int)=48):=by
  by_cases q:1<l.length
  .refine .inr ⟨q,fun e=>hz ⟨q,UInt8.toNat_inj.1 ?_⟩⟩;have:(48:UInt8).toNat=48:=rfl;omega
  .exact .inl q
 have main:∀ j,j<=l.length->(∀ b∈l.take j,kV b=true)->cq (l.take j)<1000000000/\cq (l.take j)<10 ^ j:=fun j hj hd=>by
  have h1:=Ef (l.take j).length (l.take j) rfl hd;have e:(l.take j).length=j:=by rw[lTa];omega
  rw[e]at h1;have h2:10 ^ j<=10 ^ 9:=Nat.pow_le_pow_right (by decide) (by omega);have h3:(10:Nat) ^ 9=1000000000:=by decide
  exact⟨by omega,h1⟩
 rcases id hcond with q|⟨q1,q2⟩
 .have h1I:¬(1:Int)<(l.length:Nat):=by omega
  simp(disch:=omega)[bNe.2 h0I,h9I,h1I,undef];refine aR aU (rlA [2,3,4] 23 24) (fun i:Nat=>[(4,.int .i64 (i:Nat)),(3,.int .i64 (cq (l.take i):Nat))]) (fun i N=>M=N/\i<=l.length/\∀ b∈l.take i,kV b=true) (fun i=>l.length-i) 0 (by kernel_rfl) (by simp(disch:=omega)[cq]) ⟨rfl,lZe _,(by intro b hb;simp at hb)⟩ ?_
  rintro i N g ⟨rfl,hi,hd⟩
  obtain⟨m1,_⟩:=main i hi hd;by_cases hlt:i<l.length
  .have hltI:(i:Int)<(l.length:Nat):=by omega
   have hx:l[i]?=some l[i]:=gEl hlt;have htk:=aw l hlt;have hnt:=Dj hlt;have hmem:l[i]∈l:=gMe hlt;have hbadd:kV l[i]=false->bT l=false:=fun e=>by
    cases hq:bT l with
    | false=>rfl
    | true=>have:=(eo.1 hq).1.dig _ hmem;rw[e]at this;cases this
   generalize cq (l.take i)=V at *;generalize hV2:cq (l.take (i+1))=V2 at *;generalize l[i]=y at *;by_cases hy:48<=y.toNat/\y.toNat<=57
   .obtain⟨z,hzE⟩:∃ z,y.toNat=48+z:=⟨y.toNat-48,by omega⟩;have hdy:kV y=true:=by unfold kV;rw[bAn,dTe,dTe];exact hy
    have h48:¬((y.toNat:Nat):Int)<48:=by omega
    have h57:¬(57:Int)<((y.toNat:Nat):Int):=by omega
    have hzI:((y.toNat:Nat):Int)-48=(z:Nat):=by omega
    have hV:(V:Int)*10+(z:Nat)=(V2:Nat):=by omega
    have hz9:z<=9:=by omega
    simp(disch:=omega)[hltI,l0 hx,h48,h57,hzI,hV];exact rndA (i+1) (by simp(disch:=omega)[hV2]) ⟨rfl,by omega,fun w hw=>by
     rw[htk]at hw;rcases mem_append.1 hw with hw|hw
     .exact hd w hw
     .rw[mem_singleton.1 hw];exact hdy⟩
   .have hdy:kV y=false:=by
     cases hq:kV y with
     | false=>rfl
     | true=>exact absurd (lX hq) hy
    rw[lu (hbadd hdy)]at h;by_cases h48:y.toNat<48
    .have h48I:((y.toNat:Nat):Int)<48:=by omega
     simp(disch:=omega)[hltI,l0 hx,h48I,undef];exact ad h
    .have h48I:¬((y.toNat:Nat):Int)<48:=by omega
     have h57:(57:Int)<((y.toNat:Nat):Int):=by omega
     simp(disch:=omega)[hltI,l0 hx,h48I,h57];exact ad h
  .have hie:i=l.length:=by omega
   have hltI:¬(i:Int)<(l.length:Nat):=by omega
   have hB:bT l=true:=by
    rw[hie,take_length]at hd;refine eo.2 ⟨⟨fun e=>h0 (by rw[e];rfl),hd,?_⟩,by omega⟩;rw[hhd];rcases hcond with q|⟨q1,q2⟩
    .exact .inl (by omega)
    .exact .inr (fun e=>q2 (by rw[e];rfl))
   rw[mi hB]at h;rw[hie,take_length];refine sS ?_;exact ad h
 .have h1I:(1:Int)<(l.length:Nat):=by omega
  have hl0:(0:Int)<(l.length:Nat):=by omega
  simp(disch:=omega)[bNe.2 h0I,h9I,h1I,l0 hu,bNe.2 q2];refine aR aU (rlA [2,3,4] 23 24) (fun i:Nat=>[(4,.int .i64 (i:Nat)),(3,.int .i64 (cq (l.take i):Nat))]) (fun i N=>M=N/\i<=l.length/\∀ b∈l.take i,kV b=true) (fun i=>l.length-i) 0 (by kernel_rfl) (by simp(disch:=omega)[cq]) ⟨rfl,lZe _,(by intro b hb;simp at hb)⟩ ?_
  rintro i N g ⟨rfl,hi,hd⟩
  obtain⟨m1,_⟩:=main i hi hd;by_cases hlt:i<l.length
  .have hltI:(i:Int)<(l.length:Nat):=by omega
   have hx:l[i]?=some l[i]:=gEl hlt;have htk:=aw l hlt;have hnt:=Dj hlt;have hmem:l[i]∈l:=gMe hlt;have hbadd:kV l[i]=false->bT l=false:=fun e=>by
    cases hq:bT l with
    | false=>rfl
    | true=>have:=(eo.1 hq).1.dig _ hmem;rw[e]at this;cases this
   generalize cq (l.take i)=V at *;generalize hV2:cq (l.take (i+1))=V2 at *;generalize l[i]=y at *;by_cases hy:48<=y.toNat/\y.toNat<=57
   .obtain⟨z,hzE⟩:∃ z,y.toNat=48+z:=⟨y.toNat-48,by omega⟩;have hdy:kV y=true:=by unfold kV;rw[bAn,dTe,dTe];exact hy
    have h48:¬((y.toNat:Nat):Int)<48:=by omega
    have h57:¬(57:Int)<((y.toNat:Nat):Int):=by omega
    have hzI:((y.toNat:Nat):Int)-48=(z:Nat):=by omega
    have hV:(V:Int)*10+(z:Nat)=(V2:Nat):=by omega
    have hz9:z<=9:=by omega
    simp(disch:=omega)[hltI,l0 hx,h48,h57,hzI,hV];exact rndA (i+1) (by simp(disch:=omega)[hV2]) ⟨rfl,by omega,fun w hw=>by
     rw[htk]at hw;rcases mem_append.1 hw with hw|hw
     .exact hd w hw
     .rw[mem_singleton.1 hw];exact hdy⟩
   .have hdy:kV y=false:=by
     cases hq:kV y with
     | false=>rfl
     | true=>exact absurd (lX hq) hy
    rw[lu (hbadd hdy)]at h;by_cases h48:y.toNat<48
    .have h48I:((y.toNat:Nat):Int)<48:=by omega
     simp(disch:=omega)[hltI,l0 hx,h48I,undef];exact ad h
    .have h48I:¬((y.toNat:Nat):Int)<48:=by omega
     have h57:(57:Int)<((y.toNat:Nat):Int):=by omega
     simp(disch:=omega)[hltI,l0 hx,h48I,h57];exact ad h
  .have hie:i=l.length:=by omega
   have hltI:¬(i:Int)<(l.length:Nat):=by omega
   have hB:bT l=true:=by
    rw[hie,take_length]at hd;refine eo.2 ⟨⟨fun e=>h0 (by rw[e];rfl),hd,?_⟩,by omega⟩;rw[hhd];rcases hcond with q|⟨q1,q2⟩
    .exact .inl (by omega)
    .exact .inr (fun e=>q2 (by rw[e];rfl))
   rw[mi hB]at h;rw[hie,take_length];refine sS ?_;exact ad h
theorem Eh{M N M4:Mem}{v v':Value}{d d':Dk}(hs:Sub M N)(g:Gv N v d v' d' M4):∃ M',Gv M v d v' d' M'/\Sub M' M4/\∀ b B,M b=none->N b=some B->M' b=none:=by
 rcases g with ⟨h1,h2,rfl⟩|o
 .exact⟨M,.inl ⟨h1,h2,rfl⟩,hs,fun b B hb _=>hb⟩
 .rcases o with ⟨h1,h2,rfl⟩|⟨b',c,h1,h2,h3,rfl⟩
  .refine⟨M,.inr ?_,hs,fun b B hb _=>hb⟩;rw[h1,h2];exact Own.nil M
  .refine⟨M.put b' (.cells true (strs d'.ms) c),.inr (.inr ⟨b',c,h1,ba hs h2,h3,rfl⟩),hs.both b' _,fun b B hb k=>?_⟩;have hne:b≠b':=by rintro rfl;rw[k]at h2;cases h2
   rw[al _ _ hne];exact hb
theorem U0(d:Dk)(c:B8)(zs:List Int)(h:tA c=true):gJ d c zs=none:=by
 unfold tA at h;simp only[Bool.or_eq_true,dTe]at h;rcases h with rfl|rfl|rfl|rfl
 all_goals
  match zs with
  | []=>simp[gJ,aM,bM,dS]
  | [_]=>simp[gJ]
  | [_,_]=>simp[gJ,gj]
  | _::_::_::_=>simp[gJ]
theorem uK(d:Dk)(c:B8)(r:List B8)(h:tA c=false\/r.length≠1)(hnm:¬(c=[110,97,109,101]/\r.length=2)):gK d c r=if r.all bT then gJ d c (fj r) else none:=by
 unfold gK;cases ht:tA c
 .rw[if_neg (by decide),if_neg hnm]
 .rw[if_pos rfl,U0 d c _ ht];rcases h with h|h
  .rw[ht]at h;cases h
  .match r,h with
   | [],_=>simp
   | [_],q=>exact absurd rfl q
   | _::_::_,_=>simp
theorem Oy(d:Dk)(x y:B8):gK d [110,97,109,101] [x,y]=if bT y then bec d (hU x (cq y:Nat)) (iX x (cq y:Nat)) else none:=by
 unfold gK;rw[if_neg (by decide),if_pos ⟨rfl,rfl⟩];rfl
theorem Cy(d:Dk)(c x:B8)(h:tA c=true):gK d c [x]=dW d c x:=by unfold gK;rw[h,if_pos rfl]
set_option maxRecDepth 4000 in
theorem Kn(d:Dk)(v:Value)(l:B8)(M:Mem)(R:VP)(hd:d.ok)(hv:Rd M v (strs d.ms))(hl:l.length<=1500000)
  (h:∀ d' v' t k M',Gv M v d v' d' M'->Got (oH d l) d' t k->R (.tuple #[dkV d' v',str t,.int .i64 k]) M'):ar prog 32 [dkV d v,str l] M R:=by
 have hok:=hd;obtain⟨hw,hp,hm⟩:=hd;have hw60:=au hw;have hfi:cS d.ms:=fun w hw=>by have:=(bH hm hw).1;omega
 have hm5:=(aW hm).2;have hf:=aD hv;unfold dkV;refine fnT func32 rfl ntmps32 results32 ?_;intro b1 hb1;have h1:=(Sub.refl M).put hb1 (.cells true [str d.w,str d.p,v] 3);refine sS ?_;intro b2 hb2;have h2:=hb2;rw[aG]at h2;have sN:=h1.putN hb2 (.cells true [str [],str [],.slice none 0 0] 3);have k1:=pOne h2.1 M (.cells true [str d.w,str d.p,v] 3) (.cells true [str [],str [],.slice none 0 0] 3);have k2:=ae (M.put b1 (.cells true [str d.w,str d.p,v] 3)) b2 (.cells true [str [],str [],.slice none 0 0] 3);generalize (M.put b1 (.cells true [str d.w,str d.p,v] 3)).put b2 (.cells true [str [],str [],.slice none 0 0] 3)=N at *;refine sS ?_;refine ma l 32 _ _ (by omega) ?_;intro v5 M3 o5;rw[td]at o5;obtain⟨c,r,hs,hcl,hrl,hrn⟩:=qM l;rw[DN d hs]at h;rw[hs]at o5;rcases o5 with ⟨_,e,_⟩|⟨b5,c5,rfl,hb5,hc5,hM3⟩
 .cases e
 have n15:b1≠b5:=by rintro rfl;rw[k1]at hb5;cases hb5
 have n25:b2≠b5:=by rintro rfl;rw[k2]at hb5;cases hb5
 have k5:M3 b5=some (.cells true (strs (c::r)) c5):=by rw[hM3];exact ae _ _ _
 have s3:Sub M M3:=by rw[hM3];exact sN.putN hb5 _
 have k1:M3 b1=some (.cells true [str d.w,str d.p,v] 3):=by rw[hM3,al _ _ n15];exact k1
 have k2:M3 b2=some (.cells true [str [],str [],.slice none 0 0] 3):=by rw[hM3,al _ _ n25];exact k2
 clear hM3;have hln:(strs (c::r)).length=r.length+1:=by rw[ah];rfl
 rw[hln]at hc5 ⊢;have g0:M3.get? b5 0=some (str c):=by rw[ak k5];rfl
 have hv3:=hv.sub s3;have hl0:(0:Int)<(r.length:Nat)+1:=by omega
 by_cases hr1:r.length=1
 .obtain⟨x,hrx⟩:∃ x,r=[x]:=by
   match r,hr1 with
   | [x],_=>exact⟨x,rfl⟩
  have g1:M3.get? b5 1=some (str x):=by rw[ak k5,hrx];rfl
  have hx:=hrl x (by rw[hrx];simp);have hr1I:((r.length:Nat):Int)=1:=by omega
  simp(disch:=omega)[g0,hr1];refine plyS (ai [0,1,2,3,4] (.alt 5 1 (ai [6,7,8,9,10] (.one 11 1 (.one 12 2 (ai [13,14,15] .fin)))) (.one 11 1 (.one 5 1 (ai [6,7,8,9,10] (.one 12 2 (ai [13,14,15] .fin))))))) ?_;simp(disch:=omega)[cd,aq k1,g1];refine⟨?_,?_⟩
  .refine zi d v c x _ _ hok hv3 (by omega) ?_ ?_
   .intro ht d' v' t k M4 hgv hg;have hf':=eS hf hgv;have k2':=da hgv _ _ k2;obtain⟨M',g',s',hm2⟩:=Eh s3 hgv;have hm2:=hm2 _ _ h2.2 k2;have h:=h d' v' t k M' g' (by rw[hrx,Cy d c x ht];exact hg);unfold dkV at h ⊢;refine sS ?_;refine⟨da hgv,?_⟩;intro b6 hb6;have n26:b2≠b6:=by rintro rfl;rw[k2']at hb6;cases hb6
    simp(disch:=omega)[hf',aj,aN,k2'];refine⟨(Sub.refl M4).put hb6 _,?_⟩;exact ag ((s'.putN hb6 _).ovr hm2 _) h
   .intro ht;have hpX:=uK d c r (.inl ht) (fun q=>by omega);rw[hpX]at h;unfold dkV;refine sS ?_;intro b6 hb6;have n16:b1≠b6:=by rintro rfl;rw[k1]at hb6;cases hb6
    have n26:b2≠b6:=by rintro rfl;rw[k2]at hb6;cases hb6
    have n56:b5≠b6:=by rintro rfl;rw[k5]at hb6;cases hb6
    simp(disch:=omega)[hf,aj,aN,undef];refine⟨(Sub.refl M3).put hb6 _,?_⟩;have k1:(M3.put b6 (.cells true [str d.w,str d.p,v] 3)) b1=some (.cells true [str d.w,str d.p,v] 3):=by rw[al _ _ n16];exact k1
    have k2:(M3.put b6 (.cells true [str d.w,str d.p,v] 3)) b2=some (.cells true [str [],str [],.slice none 0 0] 3):=by rw[al _ _ n26];exact k2
    have k5:(M3.put b6 (.cells true [str d.w,str d.p,v] 3)) b5=some (.cells true (strs (c::r)) c5):=by rw[al _ _ n56];exact k5
    have s3:=s3.putN hb6 (.cells true [str d.w,str d.p,v] 3);have hv3:=hv.sub s3;generalize M3.put b6 (.cells true [str d.w,str d.p,v] 3)=M3 at *;clear g1;intro b7 hb7;have n17:b1≠b7:=by rintro rfl;rw[k1]at hb7;cases hb7
    have o7:Own M3 (.slice (some ⟨b7,0,none⟩) 0 0) (ints (fj [])) (M3.put b7 (.cells true [] 0)):=Own.new hb7 rfl (lRf 0);refine sS ?_;generalize M3.put b7 (.cells true [] 0)=N7 at *;generalize Value.slice (some ⟨b7,0,none⟩) 0 0=v7 at *;refine lupS (rlA [5,6,16,17,18] 82 22) (fun x:Nat×Value=>[(17,.int .i64 ((x.1:Int)+1)),(16,x.2)]) (fun x N=>x.1<=r.length/\(∀ w∈r.take x.1,bT w=true)/\Own M3 x.2 (ints (fj (r.take x.1))) N) (fun x=>r.length-x.1) (0,v7) ⟨lZe _,(by intro w hw;simp at hw),(by simp only[take_zero];exact o7)⟩ ?_
    rintro⟨j,u⟩ N8 g8 ⟨hj,hall,ho⟩
    simp only at hj hall ho;by_cases hlt:j<r.length
    .have hltI:(j:Int)+1<(r.length:Nat)+1:=by omega
     obtain⟨q,hq⟩:∃ q:Nat,q=j+1:=⟨_,rfl⟩;have hqI:(j:Int)+1=(q:Nat):=by omega
     have gq:M3.get? b5 q=some (str r[j]):=by
      rw[ak k5,hq];show (strs r)[j]?=_;rw[a7,gEl hlt];rfl
     have gq2:=jE gq ho.sub;have hm:r[j]∈r:=gMe hlt;have hwl:=hrl _ hm;have hns:=nY r hlt;have hnl:(fj (r.take j)).length=j:=by rw[iw,lTa];omega
     have hts:=aw r hlt;have k1:=ho.sub _ _ k1;have k2:=ho.sub _ _ k2;have hbadd:bT r[j]=false->r.all bT=false:=fun e=>by
      rw[all_eq_false];exact⟨_,hm,by rw[e];decide⟩
     have hqn:(q:Int)<(r.length:Nat)+1:=by omega
     generalize r[j]=w at *;rw[hqI];simp(disch:=omega)[gq2];refine gn w _ _ (by omega) ?_;by_cases hb:bT w=true
     .rw[mi hb];have hs:=fM hb;have c1:¬((cq w:Nat):Int)<0:=by omega
      have c2:¬(999999999:Int)<(cq w:Nat):=by omega
      simp(disch:=omega)[c1,c2];intro b' hb';refine sS ?_;refine ca ho ((Sub.refl _).put hb' _) (by simp(disch:=omega);rfl) rfl rfl (by first|omega|(simp(disch:=omega)<;>omega)) (by simp(disch:=omega)) (by simp(disch:=omega)[hnl];omega) ?_;intro v' M'' N'' ho' hs';rw[cM,<-hns]at ho';refine sS ?_;refine rndB M'' (j+1,v') hs' (by simp(disch:=omega);omega) ⟨by omega,fun y hy=>?_,ho'⟩;rw[hts]at hy;rcases mem_append.1 hy with hy|hy
      .exact hall y hy
      .rw[mem_singleton.1 hy];exact hb
     .rw[oq hb];have hn:bT w=false:=by cases hq2:bT w with
       | false=>rfl
       | true=>exact absurd hq2 hb
      rw[hbadd hn,if_neg (by decide)]at h;have s3:=s3.trans ho.sub;have h:=h d v [] 6 M (.inl ⟨rfl,rfl,rfl⟩) rfl;unfold dkV at h;simp(disch:=omega)[aq k1,k2,aj,hf,undef];exact ag (s3.ovr h2.2 _) h
    .have hje:j=r.length:=by omega
     have hltI:¬(j:Int)+1<(r.length:Nat)+1:=by omega
     rw[hje,take_length]at ho hall;have hallB:r.all bT=true:=all_eq_true.2 hall;rw[if_pos hallB]at h;have k1:=ho.sub _ _ k1;have k2:=ho.sub _ _ k2;have s3:=s3.trans ho.sub;have hv4:=hv3.sub ho.sub;have ru:=ho.rd;have hz:=vL hallB;have hzl:=iw r;clear ho;generalize fj r=zs at *;generalize N8=M4 at *;refine sS ?_;obtain⟨ua,uc,rfl,hua⟩:=ru.opened;rw[az]at hua ⊢;have ru2:=ru;rw[az]at ru2;by_cases cs:c=[115,116,97,110,100,97,114,100]
     .subst cs;rw[pt]at h;refine sS ?_;refine eT _ zs _ _ ru2 (by omega) ?_;unfold aF;simp(disch:=omega)[aq k1];refine bS d v _ _ _ _ hf (by have:=qH zs;omega) ?_;intro d2 t2 q2 hms hg;have h:=h d2 v t2 q2 M (.inl ⟨rfl,hms,rfl⟩) hg;unfold dkV at h ⊢;simp(disch:=omega)[k2,aj,hf];exact ag (s3.ovr h2.2 _) h
     by_cases hz0:zs.length=0
     .omega
     by_cases hz1:zs.length=1
     .obtain⟨x,rfl⟩:∃ x,zs=[x]:=by
       match zs,hz1 with
       | [x],_=>exact⟨x,rfl⟩
      have hx:=hz x (by simp);rcases hua with hq|⟨bu,ou,rfl,hua⟩
      .cases hq
      have gx:M4.get? bu ou=some (.int .i64 x):=by have:=hua 0 (by simp);rw[Nat.add_zero]at this;exact this
      clear hua;by_cases ct:c=[116,117,114,110]
      .subst ct;rw[sg]at h;refine sS ?_;refine plyS (ai [0,1,2,3,4] (.one 5 1 (ai [6,7,8,9,10] .fin))) ?_;simp(disch:=omega)[ak k1,gx];refine qs d.w x _ _ (by omega) ?_;unfold aF;simp(disch:=omega)[aq k1];refine bS d v _ _ _ _ hf (by have:=yz d.w x;omega) ?_;intro d2 t2 q2 hms hg;have h:=h d2 v t2 q2 M (.inl ⟨rfl,hms,rfl⟩) hg;unfold dkV at h ⊢;simp(disch:=omega)[k2,aj,hf];exact ag (s3.ovr h2.2 _) h
      by_cases cz:c=[122,105,109,105,110]
      .subst cz;rw[x9]at h;simp(disch:=omega)[gx];refine nu x _ _ ?_;unfold aF;simp(disch:=omega)[aq k1];refine bS d v _ _ _ _ hf (by have:=Av x;omega) ?_;intro d2 t2 q2 hms hg;have h:=h d2 v t2 q2 M (.inl ⟨rfl,hms,rfl⟩) hg;unfold dkV at h ⊢;simp(disch:=omega)[k2,aj,hf];exact ag (s3.ovr h2.2 _) h
      rw[xF d c x cs ct cz]at h;have h:=h d v [] 6 M (.inl ⟨rfl,rfl,rfl⟩) rfl;unfold dkV at h;simp(disch:=omega)[aq k1,k2,aj,hf,undef,bNe.2 cs,bNe.2 ct,bNe.2 cz];exact ag (s3.ovr h2.2 _) h
     omega
  .intro b6 hb6;have n16:b1≠b6:=by rintro rfl;rw[k1]at hb6;cases hb6
   have n26:b2≠b6:=by rintro rfl;rw[k2]at hb6;cases hb6
   have n56:b5≠b6:=by rintro rfl;rw[k5]at hb6;cases hb6
   refine sS ?_;refine⟨(Sub.refl M3).put hb6 _,?_⟩;have sb:=s3.putN hb6 (.cells true [str [],str [],.slice none 0 0] 3);have kb1:(M3.put b6 (.cells true [str [],str [],.slice none 0 0] 3)) b1=some (.cells true [str d.w,str d.p,v] 3):=by rw[al _ _ n16];exact k1
   have kb2:(M3.put b6 (.cells true [str [],str [],.slice none 0 0] 3)) b2=some (.cells true [str [],str [],.slice none 0 0] 3):=by rw[al _ _ n26];exact k2
   have kb6:=ae M3 b6 (.cells true [str [],str [],.slice none 0 0] 3);refine zi d v c x _ _ hok (hv.sub sb) (by omega) ?_ ?_
   .intro ht d' v' t k M4 hgv hg;have hf':=eS hf hgv;have k2':=da hgv _ _ kb2;have k6':=da hgv _ _ kb6;obtain⟨M',g',s',hm2⟩:=Eh sb hgv;have hm6:=hm2 _ _ (ba s3 hb6) kb6;have hm2:=hm2 _ _ h2.2 kb2;have h:=h d' v' t k M' g' (by rw[hrx,Cy d c x ht];exact hg);unfold dkV at h ⊢;simp(disch:=omega)[hf',aj,k2',k6'];refine⟨da hgv,?_⟩;exact ag ((s'.ovr hm6 _).ovr hm2 _) h
   .intro ht;have hpX:=uK d c r (.inl ht) (fun q=>by omega);rw[hpX]at h;unfold dkV;simp(disch:=omega)[hf,aj,aN,undef];have k1:(M3.put b6 (.cells true [str d.w,str d.p,v] 3)) b1=some (.cells true [str d.w,str d.p,v] 3):=by rw[al _ _ n16];exact k1
    have k2:(M3.put b6 (.cells true [str d.w,str d.p,v] 3)) b2=some (.cells true [str [],str [],.slice none 0 0] 3):=by rw[al _ _ n26];exact k2
    have k5:(M3.put b6 (.cells true [str d.w,str d.p,v] 3)) b5=some (.cells true (strs (c::r)) c5):=by rw[al _ _ n56];exact k5
    have s3:=s3.putN hb6 (.cells true [str d.w,str d.p,v] 3);have hv3:=hv.sub s3;generalize M3.put b6 (.cells true [str d.w,str d.p,v] 3)=M3 at *;clear g1;intro b7 hb7;have n17:b1≠b7:=by rintro rfl;rw[k1]at hb7;cases hb7
    have o7:Own M3 (.slice (some ⟨b7,0,none⟩) 0 0) (ints (fj [])) (M3.put b7 (.cells true [] 0)):=Own.new hb7 rfl (lRf 0);refine sS ?_;generalize M3.put b7 (.cells true [] 0)=N7 at *;generalize Value.slice (some ⟨b7,0,none⟩) 0 0=v7 at *;refine lupS (rlA [5,6,16,17,18] 82 22) (fun x:Nat×Value=>[(17,.int .i64 ((x.1:Int)+1)),(16,x.2)]) (fun x N=>x.1<=r.length/\(∀ w∈r.take x.1,bT w=true)/\Own M3 x.2 (ints (fj (r.take x.1))) N) (fun x=>r.length-x.1) (0,v7) ⟨lZe _,(by intro w hw;simp at hw),(by simp only[take_zero];exact o7)⟩ ?_
    rintro⟨j,u⟩ N8 g8 ⟨hj,hall,ho⟩
    simp only at hj hall ho;by_cases hlt:j<r.length
    .have hltI:(j:Int)+1<(r.length:Nat)+1:=by omega
     obtain⟨q,hq⟩:∃ q:Nat,q=j+1:=⟨_,rfl⟩;have hqI:(j:Int)+1=(q:Nat):=by omega
     have gq:M3.get? b5 q=some (str r[j]):=by
      rw[ak k5,hq];show (strs r)[j]?=_;rw[a7,gEl hlt];rfl
     have gq2:=jE gq ho.sub;have hm:r[j]∈r:=gMe hlt;have hwl:=hrl _ hm;have hns:=nY r hlt;have hnl:(fj (r.take j)).length=j:=by rw[iw,lTa];omega
     have hts:=aw r hlt;have k1:=ho.sub _ _ k1;have k2:=ho.sub _ _ k2;have hbadd:bT r[j]=false->r.all bT=false:=fun e=>by
      rw[all_eq_false];exact⟨_,hm,by rw[e];decide⟩
     have hqn:(q:Int)<(r.length:Nat)+1:=by omega
     generalize r[j]=w at *;rw[hqI];simp(disch:=omega)[gq2];refine gn w _ _ (by omega) ?_;by_cases hb:bT w=true
     .rw[mi hb];have hs:=fM hb;have c1:¬((cq w:Nat):Int)<0:=by omega
      have c2:¬(999999999:Int)<(cq w:Nat):=by omega
      simp(disch:=omega)[c1,c2];intro b' hb';refine sS ?_;refine ca ho ((Sub.refl _).put hb' _) (by simp(disch:=omega);rfl) rfl rfl (by first|omega|(simp(disch:=omega)<;>omega)) (by simp(disch:=omega)) (by simp(disch:=omega)[hnl];omega) ?_;intro v' M'' N'' ho' hs';rw[cM,<-hns]at ho';refine sS ?_;refine rndB M'' (j+1,v') hs' (by simp(disch:=omega);omega) ⟨by omega,fun y hy=>?_,ho'⟩;rw[hts]at hy;rcases mem_append.1 hy with hy|hy
      .exact hall y hy
      .rw[mem_singleton.1 hy];exact hb
     .rw[oq hb];have hn:bT w=false:=by cases hq2:bT w with
       | false=>rfl
       | true=>exact absurd hq2 hb
      rw[hbadd hn,if_neg (by decide)]at h;have s3:=s3.trans ho.sub;have h:=h d v [] 6 M (.inl ⟨rfl,rfl,rfl⟩) rfl;unfold dkV at h;simp(disch:=omega)[aq k1,k2,aj,hf,undef];exact ag (s3.ovr h2.2 _) h
    .have hje:j=r.length:=by omega
     have hltI:¬(j:Int)+1<(r.length:Nat)+1:=by omega
     rw[hje,take_length]at ho hall;have hallB:r.all bT=true:=all_eq_true.2 hall;rw[if_pos hallB]at h;have k1:=ho.sub _ _ k1;have k2:=ho.sub _ _ k2;have s3:=s3.trans ho.sub;have hv4:=hv3.sub ho.sub;have ru:=ho.rd;have hz:=vL hallB;have hzl:=iw r;clear ho;generalize fj r=zs at *;generalize N8=M4 at *;refine sS ?_;obtain⟨ua,uc,rfl,hua⟩:=ru.opened;rw[az]at hua ⊢;have ru2:=ru;rw[az]at ru2;by_cases cs:c=[115,116,97,110,100,97,114,100]
     .subst cs;rw[pt]at h;refine sS ?_;refine eT _ zs _ _ ru2 (by omega) ?_;unfold aF;simp(disch:=omega)[aq k1];refine bS d v _ _ _ _ hf (by have:=qH zs;omega) ?_;intro d2 t2 q2 hms hg;have h:=h d2 v t2 q2 M (.inl ⟨rfl,hms,rfl⟩) hg;unfold dkV at h ⊢;simp(disch:=omega)[k2,aj,hf];exact ag (s3.ovr h2.2 _) h
     by_cases hz0:zs.length=0
     .omega
     by_cases hz1:zs.length=1
     .obtain⟨x,rfl⟩:∃ x,zs=[x]:=by
       match zs,hz1 with
       | [x],_=>exact⟨x,rfl⟩
      have hx:=hz x (by simp);rcases hua with hq|⟨bu,ou,rfl,hua⟩
      .cases hq
      have gx:M4.get? bu ou=some (.int .i64 x):=by have:=hua 0 (by simp);rw[Nat.add_zero]at this;exact this
      clear hua;by_cases ct:c=[116,117,114,110]
      .subst ct;rw[sg]at h;refine sS ?_;refine plyS (ai [0,1,2,3,4] (.one 5 1 (ai [6,7,8,9,10] .fin))) ?_;simp(disch:=omega)[ak k1,gx];refine qs d.w x _ _ (by omega) ?_;unfold aF;simp(disch:=omega)[aq k1];refine bS d v _ _ _ _ hf (by have:=yz d.w x;omega) ?_;intro d2 t2 q2 hms hg;have h:=h d2 v t2 q2 M (.inl ⟨rfl,hms,rfl⟩) hg;unfold dkV at h ⊢;simp(disch:=omega)[k2,aj,hf];exact ag (s3.ovr h2.2 _) h
      by_cases cz:c=[122,105,109,105,110]
      .subst cz;rw[x9]at h;simp(disch:=omega)[gx];refine nu x _ _ ?_;unfold aF;simp(disch:=omega)[aq k1];refine bS d v _ _ _ _ hf (by have:=Av x;omega) ?_;intro d2 t2 q2 hms hg;have h:=h d2 v t2 q2 M (.inl ⟨rfl,hms,rfl⟩) hg;unfold dkV at h ⊢;simp(disch:=omega)[k2,aj,hf];exact ag (s3.ovr h2.2 _) h
      rw[xF d c x cs ct cz]at h;have h:=h d v [] 6 M (.inl ⟨rfl,rfl,rfl⟩) rfl;unfold dkV at h;simp(disch:=omega)[aq k1,k2,aj,hf,undef,bNe.2 cs,bNe.2 ct,bNe.2 cz];exact ag (s3.ovr h2.2 _) h
     omega
 .have hr1I:¬((r.length:Nat):Int)=1:=by omega
  by_cases hnm:c=[110,97,109,101]/\r.length=2
  .obtain⟨hc,hr2⟩:=hnm;obtain⟨x,y,hrx⟩:∃ x y,r=[x,y]:=by
    match r,hr2 with
    | [x,y],_=>exact⟨x,y,rfl⟩
   have g1:M3.get? b5 1=some (str x):=by rw[ak k5,hrx];rfl
   have g2:M3.get? b5 2=some (str y):=by rw[ak k5,hrx];rfl
   have hx:=hrl x (by rw[hrx];simp);have hy:=hrl y (by rw[hrx];simp);rw[hrx,hc,Oy]at h;simp(disch:=omega)[g0,hr2,hc,g2];refine gn y _ _ (by omega) ?_;cases hb:bT y
   .rw[lu hb];rw[hb,if_neg (by decide)]at h;have h:=h d v [] 6 M (.inl ⟨rfl,rfl,rfl⟩) rfl;unfold dkV at h;simp(disch:=omega)[aq k1,k2,aj,hf,undef];exact ag (s3.ovr h2.2 _) h
   .rw[mi hb];rw[hb,if_pos rfl]at h;have hs:=fM hb;have c1:¬((cq y:Nat):Int)<0:=by omega
    have c2:¬(999999999:Int)<(cq y:Nat):=by omega
    simp(disch:=omega)[c1,c2,g1];refine zT x _ _ _ (by omega) ?_;unfold aF;simp(disch:=omega)[aq k1];refine bS d v _ _ _ _ hf (by have:=yh x (cq y:Nat);omega) ?_;intro d2 t2 q2 hms hg;have h:=h d2 v t2 q2 M (.inl ⟨rfl,hms,rfl⟩) hg;unfold dkV at h ⊢;simp(disch:=omega)[k2,aj,hf];exact ag (s3.ovr h2.2 _) h
  .have hpX:=uK d c r (.inr hr1) hnm;rw[hpX]at h;have hnm2:(¬ r.length=2)\/(r.length=2/\(c==[110,97,109,101])=false):=by
    by_cases e:r.length=2
    .exact .inr ⟨e,bNe.2 (fun q=>hnm ⟨q,e⟩)⟩
    .exact .inl e
   rcases hnm2 with e2|⟨e2,e3⟩
   .have e2I:¬((r.length:Nat):Int)+1=3:=by omega
    have e1I:¬((r.length:Nat):Int)+1=2:=by omega
    simp(disch:=omega)[g0,hl0,bNe.2 e2I,bNe.2 e1I,undef];intro b7 hb7;have n17:b1≠b7:=by rintro rfl;rw[k1]at hb7;cases hb7
    have o7:Own M3 (.slice (some ⟨b7,0,none⟩) 0 0) (ints (fj [])) (M3.put b7 (.cells true [] 0)):=Own.new hb7 rfl (lRf 0);refine sS ?_;generalize M3.put b7 (.cells true [] 0)=N7 at *;generalize Value.slice (some ⟨b7,0,none⟩) 0 0=v7 at *;refine lupS (rlA [5,6,16,17,18] 82 22) (fun x:Nat×Value=>[(17,.int .i64 ((x.1:Int)+1)),(16,x.2)]) (fun x N=>x.1<=r.length/\(∀ w∈r.take x.1,bT w=true)/\Own M3 x.2 (ints (fj (r.take x.1))) N) (fun x=>r.length-x.1) (0,v7) ⟨lZe _,(by intro w hw;simp at hw),(by simp only[take_zero];exact o7)⟩ ?_
    rintro⟨j,u⟩ N8 g8 ⟨hj,hall,ho⟩
    simp only at hj hall ho;by_cases hlt:j<r.length
    .have hltI:(j:Int)+1<(r.length:Nat)+1:=by omega
     obtain⟨q,hq⟩:∃ q:Nat,q=j+1:=⟨_,rfl⟩;have hqI:(j:Int)+1=(q:Nat):=by omega
     have gq:M3.get? b5 q=some (str r[j]):=by
      rw[ak k5,hq];show (strs r)[j]?=_;rw[a7,gEl hlt];rfl
     have gq2:=jE gq ho.sub;have hm:r[j]∈r:=gMe hlt;have hwl:=hrl _ hm;have hns:=nY r hlt;have hnl:(fj (r.take j)).length=j:=by rw[iw,lTa];omega
     have hts:=aw r hlt;have k1:=ho.sub _ _ k1;have k2:=ho.sub _ _ k2;have hbadd:bT r[j]=false->r.all bT=false:=fun e=>by
      rw[all_eq_false];exact⟨_,hm,by rw[e];decide⟩
     have hqn:(q:Int)<(r.length:Nat)+1:=by omega
     generalize r[j]=w at *;rw[hqI];simp(disch:=omega)[hqn,gq2];refine gn w _ _ (by omega) ?_;by_cases hb:bT w=true
     .rw[mi hb];have hs:=fM hb;have c1:¬((cq w:Nat):Int)<0:=by omega
      have c2:¬(999999999:Int)<(cq w:Nat):=by omega
      simp(disch:=omega)[c1,c2];intro b' hb';refine sS ?_;refine ca ho ((Sub.refl _).put hb' _) (by simp(disch:=omega);rfl) rfl rfl (by first|omega|(simp(disch:=omega)<;>omega)) (by simp(disch:=omega)) (by simp(disch:=omega)[hnl];omega) ?_;intro v' M'' N'' ho' hs';rw[cM,<-hns]at ho';refine sS ?_;refine rndB M'' (j+1,v') hs' (by simp(disch:=omega);omega) ⟨by omega,fun y hy=>?_,ho'⟩;rw[hts]at hy;rcases mem_append.1 hy with hy|hy
      .exact hall y hy
      .rw[mem_singleton.1 hy];exact hb
     .rw[oq hb];have hn:bT w=false:=by cases hq2:bT w with
       | false=>rfl
       | true=>exact absurd hq2 hb
      rw[hbadd hn,if_neg (by decide)]at h;have s3:=s3.trans ho.sub;have h:=h d v [] 6 M (.inl ⟨rfl,rfl,rfl⟩) rfl;unfold dkV at h;simp(disch:=omega)[aq k1,k2,aj,hf,undef];exact ag (s3.ovr h2.2 _) h
    .have hje:j=r.length:=by omega
     have hltI:¬(j:Int)+1<(r.length:Nat)+1:=by omega
     rw[hje,take_length]at ho hall;have hallB:r.all bT=true:=all_eq_true.2 hall;rw[if_pos hallB]at h;have k1:=ho.sub _ _ k1;have k2:=ho.sub _ _ k2;have s3:=s3.trans ho.sub;have hv4:=hv3.sub ho.sub;have ru:=ho.rd;have hz:=vL hallB;have hzl:=iw r;clear ho;generalize fj r=zs at *;generalize N8=M4 at *;simp(disch:=omega)[hltI];obtain⟨ua,uc,rfl,hua⟩:=ru.opened;rw[az]at hua ⊢;have ru2:=ru;rw[az]at ru2;by_cases cs:c=[115,116,97,110,100,97,114,100]
     .subst cs;rw[pt]at h;refine sS ?_;refine eT _ zs _ _ ru2 (by omega) ?_;unfold aF;simp(disch:=omega)[aq k1];refine bS d v _ _ _ _ hf (by have:=qH zs;omega) ?_;intro d2 t2 q2 hms hg;have h:=h d2 v t2 q2 M (.inl ⟨rfl,hms,rfl⟩) hg;unfold dkV at h ⊢;simp(disch:=omega)[k2,aj,hf];exact ag (s3.ovr h2.2 _) h
     by_cases hz0:zs.length=0
     .obtain rfl:zs=[]:=length_eq_zero_iff.1 hz0;rw[yB d c cs]at h;simp(disch:=omega)[aq k1,bNe.2 cs];refine G5 d v c _ _ hok hv4 ?_;intro d' v' t' k M5 hgv hg;obtain⟨M',g',s',k4⟩:=sU s3 h2.2 k2 hgv (.cells true [str d'.w,str d'.p,v'] 3);have hf':=eS hf hgv;have h:=h d' v' t' k M' g' hg;unfold dkV at h ⊢;simp(disch:=omega)[k4,aj,hf'];exact ag s' h
     by_cases hz1:zs.length=1
     .omega
     by_cases hz2:zs.length=2
     .omega
     rw[AF d c zs cs hz0 hz1 hz2]at h;have i0:¬((zs.length:Nat):Int)=0:=by omega
     have i1:¬((zs.length:Nat):Int)=1:=by omega
     have i2:¬((zs.length:Nat):Int)=2:=by omega
     have tt:(c==[116,117,114,110])=true\/(c==[116,117,114,110])=false:=by cases (c==[116,117,114,110])<;>simp
     have zz:(c==[122,105,109,105,110])=true\/(c==[122,105,109,105,110])=false:=by cases (c==[122,105,109,105,110])<;>simp
     rcases tt with tt|tt
     .rcases zz with zz|zz
      .have h:=h d v [] 6 M (.inl ⟨rfl,rfl,rfl⟩) rfl;unfold dkV at h;simp(disch:=omega)[aq k1,k2,aj,hf,undef,tt,zz,bNe.2 cs,bNe.2 i0,bNe.2 i1,bNe.2 i2];exact ag (s3.ovr h2.2 _) h
      .have h:=h d v [] 6 M (.inl ⟨rfl,rfl,rfl⟩) rfl;unfold dkV at h;simp(disch:=omega)[aq k1,k2,aj,hf,undef,tt,zz,bNe.2 cs,bNe.2 i0,bNe.2 i1,bNe.2 i2];exact ag (s3.ovr h2.2 _) h
     .rcases zz with zz|zz
      .have h:=h d v [] 6 M (.inl ⟨rfl,rfl,rfl⟩) rfl;unfold dkV at h;simp(disch:=omega)[aq k1,k2,aj,hf,undef,tt,zz,bNe.2 cs,bNe.2 i0,bNe.2 i1,bNe.2 i2];exact ag (s3.ovr h2.2 _) h
      .have h:=h d v [] 6 M (.inl ⟨rfl,rfl,rfl⟩) rfl;unfold dkV at h;simp(disch:=omega)[aq k1,k2,aj,hf,undef,tt,zz,bNe.2 cs,bNe.2 i0,bNe.2 i2];exact ag (s3.ovr h2.2 _) h
   .simp(disch:=omega)[g0,e2,e3];intro b7 hb7;have n17:b1≠b7:=by rintro rfl;rw[k1]at hb7;cases hb7
    have o7:Own M3 (.slice (some ⟨b7,0,none⟩) 0 0) (ints (fj [])) (M3.put b7 (.cells true [] 0)):=Own.new hb7 rfl (lRf 0);refine sS ?_;generalize M3.put b7 (.cells true [] 0)=N7 at *;generalize Value.slice (some ⟨b7,0,none⟩) 0 0=v7 at *;refine lupS (rlA [5,6,16,17,18] 82 22) (fun x:Nat×Value=>[(17,.int .i64 ((x.1:Int)+1)),(16,x.2)]) (fun x N=>x.1<=r.length/\(∀ w∈r.take x.1,bT w=true)/\Own M3 x.2 (ints (fj (r.take x.1))) N) (fun x=>r.length-x.1) (0,v7) ⟨lZe _,(by intro w hw;simp at hw),(by simp only[take_zero];exact o7)⟩ ?_
    rintro⟨j,u⟩ N8 g8 ⟨hj,hall,ho⟩
    simp only at hj hall ho;by_cases hlt:j<r.length
    .have hltI:(j:Int)+1<(r.length:Nat)+1:=by omega
     obtain⟨q,hq⟩:∃ q:Nat,q=j+1:=⟨_,rfl⟩;have hqI:(j:Int)+1=(q:Nat):=by omega
     have gq:M3.get? b5 q=some (str r[j]):=by
      rw[ak k5,hq];show (strs r)[j]?=_;rw[a7,gEl hlt];rfl
     have gq2:=jE gq ho.sub;have hm:r[j]∈r:=gMe hlt;have hwl:=hrl _ hm;have hns:=nY r hlt;have hnl:(fj (r.take j)).length=j:=by rw[iw,lTa];omega
     have hts:=aw r hlt;have k1:=ho.sub _ _ k1;have k2:=ho.sub _ _ k2;have hbadd:bT r[j]=false->r.all bT=false:=fun e=>by
      rw[all_eq_false];exact⟨_,hm,by rw[e];decide⟩
     have hqn:(q:Int)<(r.length:Nat)+1:=by omega
     generalize r[j]=w at *;rw[hqI];simp(disch:=omega)[gq2];refine gn w _ _ (by omega) ?_;by_cases hb:bT w=true
     .rw[mi hb];have hs:=fM hb;have c1:¬((cq w:Nat):Int)<0:=by omega
      have c2:¬(999999999:Int)<(cq w:Nat):=by omega
      simp(disch:=omega)[c1,c2];intro b' hb';refine sS ?_;refine ca ho ((Sub.refl _).put hb' _) (by simp(disch:=omega);rfl) rfl rfl (by first|omega|(simp(disch:=omega)<;>omega)) (by simp(disch:=omega)) (by simp(disch:=omega)[hnl];omega) ?_;intro v' M'' N'' ho' hs';rw[cM,<-hns]at ho';refine sS ?_;refine rndB M'' (j+1,v') hs' (by simp(disch:=omega);omega) ⟨by omega,fun y hy=>?_,ho'⟩;rw[hts]at hy;rcases mem_append.1 hy with hy|hy
      .exact hall y hy
      .rw[mem_singleton.1 hy];exact hb
     .rw[oq hb];have hn:bT w=false:=by cases hq2:bT w with
       | false=>rfl
       | true=>exact absurd hq2 hb
      rw[hbadd hn,if_neg (by decide)]at h;have s3:=s3.trans ho.sub;have h:=h d v [] 6 M (.inl ⟨rfl,rfl,rfl⟩) rfl;unfold dkV at h;simp(disch:=omega)[aq k1,k2,aj,hf,undef];exact ag (s3.ovr h2.2 _) h
    .have hje:j=r.length:=by omega
     have hltI:¬(j:Int)+1<(r.length:Nat)+1:=by omega
     rw[hje,take_length]at ho hall;have hallB:r.all bT=true:=all_eq_true.2 hall;rw[if_pos hallB]at h;have k1:=ho.sub _ _ k1;have k2:=ho.sub _ _ k2;have s3:=s3.trans ho.sub;have hv4:=hv3.sub ho.sub;have ru:=ho.rd;have hz:=vL hallB;have hzl:=iw r;clear ho;generalize fj r=zs at *;generalize N8=M4 at *;refine sS ?_;obtain⟨ua,uc,rfl,hua⟩:=ru.opened;rw[az]at hua ⊢;have ru2:=ru;rw[az]at ru2;by_cases cs:c=[115,116,97,110,100,97,114,100]
     .subst cs;rw[pt]at h;refine sS ?_;refine eT _ zs _ _ ru2 (by omega) ?_;unfold aF;simp(disch:=omega)[aq k1];refine bS d v _ _ _ _ hf (by have:=qH zs;omega) ?_;intro d2 t2 q2 hms hg;have h:=h d2 v t2 q2 M (.inl ⟨rfl,hms,rfl⟩) hg;unfold dkV at h ⊢;simp(disch:=omega)[k2,aj,hf];exact ag (s3.ovr h2.2 _) h
     by_cases hz0:zs.length=0
     .omega
     by_cases hz1:zs.length=1
     .omega
     by_cases hz2:zs.length=2
     .obtain⟨x,y,rfl⟩:∃ x y,zs=[x,y]:=by
       match zs,hz2 with
       | [x,y],_=>exact⟨x,y,rfl⟩
      have hx:=hz x (by simp);have hy:=hz y (by simp);rw[LR d c x y cs]at h;rcases hua with hq|⟨bu,ou,rfl,hua⟩
      .cases hq
      have gx:M4.get? bu ou=some (.int .i64 x):=by have:=hua 0 (by simp);rw[Nat.add_zero]at this;exact this
      have gy:M4.get? bu (ou+1)=some (.int .i64 y):=hua 1 (by simp);clear hua;have tt:(c==[116,117,114,110])=true\/(c==[116,117,114,110])=false:=by cases (c==[116,117,114,110])<;>simp
      have zz:(c==[122,105,109,105,110])=true\/(c==[122,105,109,105,110])=false:=by cases (c==[122,105,109,105,110])<;>simp
      rcases tt with tt|tt
      .rcases zz with zz|zz
       .simp(disch:=omega)[tt,zz,bNe.2 cs];refine plyS (ai [0,1,2,3,4,5,6,7] (.one 8 1 (ai [9,10,11] (.one 12 2 (ai [13,14] .fin))))) ?_;simp(disch:=omega)[aq k1,gx,gy];refine pk d v c x y _ _ hok hv4 hx hy ?_;intro d' v' t' k M5 hgv hg;obtain⟨M',g',s',k4⟩:=sU s3 h2.2 k2 hgv (.cells true [str d'.w,str d'.p,v'] 3);have hf':=eS hf hgv;have h:=h d' v' t' k M' g' hg;unfold dkV at h ⊢;simp(disch:=omega)[k4,aj,hf'];exact⟨da hgv,ag s' h⟩
       .simp(disch:=omega)[tt,zz,undef,bNe.2 cs];refine plyS (ai [0,1,2,3,4,5,6,7] (.one 8 1 (ai [9,10,11] (.one 12 2 (ai [13,14] .fin))))) ?_;simp(disch:=omega)[aq k1,gx,gy];refine pk d v c x y _ _ hok hv4 hx hy ?_;intro d' v' t' k M5 hgv hg;obtain⟨M',g',s',k4⟩:=sU s3 h2.2 k2 hgv (.cells true [str d'.w,str d'.p,v'] 3);have hf':=eS hf hgv;have h:=h d' v' t' k M' g' hg;unfold dkV at h ⊢;simp(disch:=omega)[k4,aj,hf'];exact⟨da hgv,ag s' h⟩
      .rcases zz with zz|zz
       .simp(disch:=omega)[tt,zz,undef,bNe.2 cs];refine plyS (ai [0,1,2,3,4,5,6,7] (.one 8 1 (ai [9,10,11] (.one 12 2 (ai [13,14] .fin))))) ?_;simp(disch:=omega)[aq k1,gx,gy];refine pk d v c x y _ _ hok hv4 hx hy ?_;intro d' v' t' k M5 hgv hg;obtain⟨M',g',s',k4⟩:=sU s3 h2.2 k2 hgv (.cells true [str d'.w,str d'.p,v'] 3);have hf':=eS hf hgv;have h:=h d' v' t' k M' g' hg;unfold dkV at h ⊢;simp(disch:=omega)[k4,aj,hf'];exact⟨da hgv,ag s' h⟩
       .simp(disch:=omega)[tt,zz,undef,bNe.2 cs];refine plyS (ai [0,1,2,3,4,5,6,7] (.one 8 1 (ai [9,10,11] (.one 12 2 (ai [13,14] .fin))))) ?_;simp(disch:=omega)[aq k1,gx,gy];refine pk d v c x y _ _ hok hv4 hx hy ?_;intro d' v' t' k M5 hgv hg;obtain⟨M',g',s',k4⟩:=sU s3 h2.2 k2 hgv (.cells true [str d'.w,str d'.p,v'] 3);have hf':=eS hf hgv;have h:=h d' v' t' k M' g' hg;unfold dkV at h ⊢;simp(disch:=omega)[k4,aj,hf'];exact⟨da hgv,ag s' h⟩
     omega
theorem bO{d d':Dk}{t t':B8}{c:Int}{n:Nat}(hl:t.length<=n)(h:bt d t c=some (d',t')):t'.length<=n:=by
 obtain⟨_,_,rfl⟩:=uR h;exact hl
theorem eR{d d':Dk}{t t':B8}{c:Int}(hl:t.length<=1000000)(h:bec d t c=some (d',t')):t'.length<=1100000:=by
 unfold bec at h;exact bO (by rw[dU];omega) h
theorem pe(q:Bool):(gH q).length<=3:=by unfold gH;split<;>decide
theorem nN{n:Int}(h:IOk n):(Lib.itoa n).length<=21:=bX n h.1 h.2
theorem MN{d d':Dk}{c t:B8}(hd:d.ok)(h:aM d c=some (d',t)):t.length<=1100000:=by
 unfold aM at h;refine aE h (fun _ h=>eR (by have:=IS d.w;omega) h) (fun _ h=>?_);refine aE h (fun _ h=>eR (by have:=EE d.w;omega) h) (fun _ h=>?_);refine aE h (fun _ h=>eR (by have:=DF d.ms d.w 1;omega) h) (fun _ h=>?_);refine aE h (fun _ h=>eR (by have:=EM d.ms d.w;omega) h) (fun _ h=>?_);refine aE h (fun _ h=>bO (by rw[dU];have:=au hd.1;omega) h) (fun _ h=>?_);refine aE h (fun _ h=>bO (by rw[dU];have:=(bC hd.2.1).2.1;omega) h) (fun _ h=>?_);refine aE h (fun _ h=>bO (by rw[dU];have:=Dz d.ms;omega) h) (fun _ h=>?_);refine aE h (fun _ h=>bO (by have h1:=nN (AW d.w).1;have h2:=nN (AW d.w).2;rw[lAp,lCo];omega) h) (fun _ h=>?_);refine aE h (fun _ h=>bO (by have h1:=nN (GJ d.w d.p);have h2:=(GM d.w d.p).text;rw[lAp,lCo];omega) h) (fun _ h=>?_);refine aE h (fun _ h=>bO (by decide) h) (fun _ h=>?_);unfold bM at h;refine aE h (fun _ h=>bO (by have:=(vZ d.w).text;omega) h) (fun _ h=>?_);refine aE h (fun _ h=>bO (by have:=(Dw d.w).text;omega) h) (fun _ h=>?_);refine aE h (fun _ h=>bO (by have:=(JQ d.w).text;omega) h) (fun _ h=>?_);refine aE h (fun _ h=>bO (by have h1:=nN (sR d.w);have h2:=D3 d.w;rw[lAp,lCo,dU];omega) h) (fun _ h=>?_);refine aE h (fun _ h=>bO (by have h1:=nN (HG d.w);have h2:=Pl d.w;rw[lAp,lCo,dU];omega) h) (fun _ h=>?_);refine aE h (fun _ h=>bO (by have:=(Kb d.w).text;omega) h) (fun _ h=>?_);refine aE h (fun _ h=>bO (by have:=(Ju d.w).text;omega) h) (fun _ h=>?_);refine aE h (fun _ h=>bO (by rw[dU];have:=Ry d.w;omega) h) (fun _ h=>?_);refine aE h (fun _ h=>bO (by have:=(IU d.w).text;omega) h) (fun _ h=>?_);refine aE h (fun _ h=>bO (by have h1:=nN (IV d.w);omega) h) (fun _ h=>?_);refine aE h (fun _ h=>bO (by have h1:=nN (Hg d.w);have h2:=RH d.w;rw[lAp,lCo,dU];omega) h) (fun _ h=>?_);refine aE h (fun _ h=>bO (by have:=(JK d.w).text;omega) h) (fun _ h=>?_);refine aE h (fun _ h=>bO (by rw[dU];have:=DA d.ms;omega) h) (fun _ h=>?_);refine aE h (fun _ h=>bO (by have:=(JO d.w).text;omega) h) (fun _ h=>?_);unfold dS at h;refine aE h (fun _ h=>bO (Nat.le_trans (pe _) (by decide)) h) (fun _ h=>?_);refine aE h (fun _ h=>bO (Nat.le_trans (pe _) (by decide)) h) (fun _ h=>?_);refine aE h (fun _ h=>bO (Nat.le_trans (pe _) (by decide)) h) (fun _ h=>?_);refine aE h (fun _ h=>bO (Nat.le_trans (pe _) (by decide)) h) (fun _ h=>?_);refine aE h (fun _ h=>bO (Nat.le_trans (pe _) (by decide)) h) (fun _ h=>?_);refine aE h (fun _ h=>bO (Nat.le_trans (pe _) (by decide)) h) (fun _ h=>?_);cases h
theorem Tc{d d':Dk}{c t:B8}{a b:Int}(h:gj d c a b=some (d',t)):t.length<=1100000:=by
 unfold gj at h;refine aE h (fun _ h=>eR (by have:=Ky d.w a b;omega) h) (fun _ h=>?_);refine aE h (fun _ h=>eR (by have:=J4 a b;omega) h) (fun _ h=>?_);refine aE h (fun _ h=>eR (by have:=Pq d.ms a b;omega) h) (fun _ h=>?_);refine aE h (fun _ h=>eR (by have:=J6 a b;omega) h) (fun _ h=>?_);refine aE h (fun _ h=>bO (by have:=(y7 d.ms a b).text;omega) h) (fun _ h=>?_);refine aE h (fun _ h=>bO (by rw[dU];have:=J8 a b;omega) h) (fun _ h=>?_);refine aE h (fun _ h=>bO (by rw[dU];have:=Ao d.p a b;omega) h) (fun _ h=>?_);refine aE h (fun _ h=>bO (by have h1:=nN (Jy d.p a b);omega) h) (fun _ h=>?_);cases h
theorem PQ{d d':Dk}{c t u:B8}(h:dW d c t=some (d',u))(hl:t.length<=1000000):u.length<=1100000:=by
 unfold dW at h;refine aE h (fun _ h=>?_) (fun _ h=>?_)
 .split at h
  .exact eR hl h
  .cases h
 refine aE h (fun _ h=>eR (by have:=E7 d.w t;omega) h) (fun _ h=>?_);refine aE h (fun _ h=>?_) (fun _ h=>?_)
 .split at h
  .exact bO (by rw[dU];omega) h
  .cases h
 exact bO (by rw[dU];omega) h
theorem Sd{d d':Dk}{c u:B8}{n:List Int}(hd:d.ok)(h:gJ d c n=some (d',u)):u.length<=1100000:=by
 unfold gJ at h;refine aE h (fun _ h=>eR (by have:=qH n;omega) h) (fun _ h=>?_);split at h
 .exact MN hd h
 .refine aE h (fun _ h=>eR (Nat.le_trans (yz d.w _) (by decide)) h) (fun _ h=>?_);refine aE h (fun _ h=>eR (Nat.le_trans (Av _) (by decide)) h) (fun _ h=>?_);cases h
 .exact Tc h
 .cases h
theorem pO{d:Dk}(hd:d.ok){l:B8}(hl:l.length<=1000000):(dr d l).2.length<=1100000:=by
 unfold dr;cases hx:oH d l with
 | none=>exact of_decide_eq_true rfl
 | some r=>
  obtain⟨d',u⟩:=r;show u.length<=1100000;obtain⟨c,r,hs,hcl,hrl,hrn⟩:=qM l;rw[DN d hs]at hx;unfold gK at hx;refine aE hx (fun _ hx=>?_) (fun _ hx=>?_)
  .clear hs hrn
   match r,hrl,hx with
   | [t],hrl,hx=>exact PQ hx (by have:=hrl t (by simp);omega)
   | [],_,hx=>cases hx
   | _::_::_,_,hx=>cases hx
  refine aE hx (fun _ hx=>?_) (fun _ hx=>?_)
  .split at hx
   .exact eR (by have:=yh (r.getD 0 []) (cq (r.getD 1 []):Nat);omega) hx
   .cases hx
  .split at hx
   .exact Sd hd hx
   .cases hx
def cL(l:B8):List B8:=if (spR 10 l).getLast (iV 10 l)=[] then (spR 10 l).dropLast else spR 10 l
def cD(s:Dk×B8)(l:B8):Dk×B8:=if l=[] then s else ((dr s.1 l).1,s.2++(dr s.1 l).2++[10])
def ji(ls:List B8)(i:Nat):Dk×B8:=(ls.take i).foldl cD (dZ,[])
def fB(l:B8):Option (Dk×B8):=if l.length<=4000/\(cL l).length<=40 then some (ji (cL l) (cL l).length) else none
theorem uX(ls:List B8):ji ls 0=(dZ,[]):=rfl
theorem pf(ls:List B8){i:Nat}(h:i<ls.length):ji ls (i+1)=cD (ji ls i) ls[i]:=by
 unfold ji;rw[aw ls h,foldl_append];rfl
theorem pg(ls:List B8):∀ i,i<=ls.length->(ji ls i).1.ok
 | 0,_=>lC
 | i+1,h=>by
  rw[pf ls (by omega)];unfold cD;split
  .exact pg ls i (by omega)
  .exact fx (pg ls i (by omega)) _
theorem tN(ls:List B8)(hl:∀ w∈ls,w.length<=1000000):∀ i,i<=ls.length->(ji ls i).2.length<=i*1100001
 | 0,_=>by rw[uX];exact lZe _
 | i+1,h=>by
  have ih:=tN ls hl i (by omega);have hr:=pO (pg ls i (by omega)) (hl ls[i] (gMe (by omega)));rw[pf ls (by omega)];unfold cD;split
  .rw[Nat.succ_mul];exact Nat.le_trans ih (Nat.le_add_right _ _)
  .rw[Nat.succ_mul,lAp,lAp];have e:([10]:B8).length=1:=rfl;omega
theorem F9(l:B8):∀ w∈cL l,w.length<=l.length:=fun w hw=>by
 unfold cL at hw;split at hw
 .exact nU 10 l w ((dropLast_sublist _).subset hw)
 .exact nU 10 l w hw
theorem dI{M N M4:Mem}{v:Value}{xs:List Value}(hs:Sub M N)(o:Own N v xs M4):∃ M',Own M v xs M'/\Sub M' M4/\∀ b B,M b=none->N b=some B->M' b=none:=by
 rcases o with ⟨h1,h2,rfl⟩|⟨b',c,h1,h2,h3,rfl⟩
 .refine⟨M,?_,hs,fun b B hb _=>hb⟩;rw[h1,h2];exact Own.nil M
 .refine⟨M.put b' (.cells true xs c),.inr ⟨b',c,h1,ba hs h2,h3,rfl⟩,hs.both b' _,fun b B hb k=>?_⟩;have hne:b≠b':=by rintro rfl;rw[k]at h2;cases h2
  rw[al _ _ hne];exact hb
theorem Qc{M M':Mem}{v v':Value}{d d':Dk}(hv:Rd M v (strs d.ms))(g:Gv M v d v' d' M'):Rd M' v' (strs d'.ms):=by
 rcases g with ⟨rfl,h2,rfl⟩|o
 .rw[h2];exact hv
 .exact o.rd
theorem vu(d:Dk)(v:Value)(M:Mem)(R:VP)(hm:aY d.ms=true)(hv:Rd M v (strs d.ms))(h:∀ v' M',Own M v' (strs d.ms) M'->R (dkV d v') M'):ar prog 33 [dkV d v] M R:=by
 have hf:=aD hv;have hm5:=aW hm;unfold dkV at h ⊢;refine fnT func33 rfl ntmps33 results33 ?_;intro b1 hb1;have h1:=(Sub.refl M).put hb1 (.cells true [str d.w,str d.p,v] 3);refine sS ?_;intro b2 hb2;have h2:=hb2;rw[aG]at h2;have sN:=h1.putN hb2 (.cells true [str [],str [],.slice none 0 0] 3);have k1:=pOne h2.1 M (.cells true [str d.w,str d.p,v] 3) (.cells true [str [],str [],.slice none 0 0] 3);have k2:=ae (M.put b1 (.cells true [str d.w,str d.p,v] 3)) b2 (.cells true [str [],str [],.slice none 0 0] 3);generalize (M.put b1 (.cells true [str d.w,str d.p,v] 3)).put b2 (.cells true [str [],str [],.slice none 0 0] 3)=N at *;have hvN:=hv.sub sN;refine sS ?_;intro b3 hb3;have o3:Own N (.slice (some ⟨b3,0,none⟩) 0 0) [] (N.put b3 (.cells true [] 0)):=Own.new hb3 rfl (lRf 0);have hs1:=pr (hvN.sub o3.sub) (by rw[ah];omega);have k1':=o3.sub _ _ k1;dsimp only;generalize N.put b3 (.cells true [] 0)=N3 at *;generalize Value.slice (some ⟨b3,0,none⟩) 0 0=e3 at *;simp(disch:=omega)[ak k1'];refine ca o3 (Sub.refl _) hs1 rfl rfl (by omega) (cJ d.ms) (by rw[ah];simp only[length_nil];omega) ?_;intro v' M'' N'' o' hs';rw[nil_append]at o';have q1:=hs' _ _ (o'.sub _ _ k1);have q2:=hs' _ _ (o'.sub _ _ k2);have hf':=aD o'.rd;obtain⟨M',o4,s4,n4⟩:=dI sN o';have m1:=n4 _ _ hb1 k1;have m2:=n4 _ _ h2.2 k2;have q2':(N''.put b1 (.cells true [str d.w,str d.p,v'] 3)) b2=some (.cells true [str [],str [],.slice none 0 0] 3):=by rw[al _ _ h2.1];exact q2
 have h:=h v' M' o4;simp(disch:=omega)[q1,q2,aj,hf'];exact ag (((s4.trans hs').ovr m1 _).ovr m2 _) h
theorem EU(d:Dk)(v:Value)(M:Mem)(R:VP)(hd:d.ok)(hv:Rd M v (strs d.ms))(h:R (.bool true) M):ar prog 24 [dkV d v] M R:=by
 obtain⟨hw,hp,hm⟩:=hd;have hw60:=au hw;have hp8:=(bC hp).2.1;have hfi:cS d.ms:=fun w hw=>by have:=(bH hm hw).1;omega
 have hm5:=(aW hm).2;have hf:=aD hv;unfold dkV;refine fnT func24 rfl ntmps24 results24 ?_;intro b1 hb1;have s1:=(Sub.refl M).put hb1 (.cells true [str d.w,str d.p,v] 3);have k1:=ae M b1 (.cells true [str d.w,str d.p,v] 3);have hv1:=hv.sub s1;generalize M.put b1 (.cells true [str d.w,str d.p,v] 3)=N at *;simp(disch:=omega)[ak k1];refine bg d.w _ _ (by omega) ?_;rw[hw];simp(disch:=omega)[ak k1];refine gU d.p _ _ (by omega) ?_;rw[hp];simp(disch:=omega)[aq k1];refine fK v d.ms _ _ hv1 hfi (by omega) ?_;rw[hm];refine sS ?_;exact ag s1 h
theorem bP(d:Dk)(v:Value)(l:B8)(M:Mem)(R:VP)(hd:d.ok)(hv:Rd M v (strs d.ms))(hl:l.length<=1500000)
  (h:∀ v' M',Own M v' (strs (dr d l).1.ms) M'->R (.tuple #[dkV (dr d l).1 v',str (dr d l).2]) M'):ar prog 16 [dkV d v,str l] M R:=by
 have hf:=aD hv;have hro:=fx hd l;unfold dkV at h ⊢;refine fnT func16 rfl ntmps16 results16 ?_;intro b1 hb1;have h1:=(Sub.refl M).put hb1 (.cells true [str d.w,str d.p,v] 3);refine sS ?_;intro b2 hb2;have h2:=hb2;rw[aG]at h2;have sN:=h1.putN hb2 (.cells true [str [],str [],.slice none 0 0] 3);have k1:=pOne h2.1 M (.cells true [str d.w,str d.p,v] 3) (.cells true [str [],str [],.slice none 0 0] 3);have k2:=ae (M.put b1 (.cells true [str d.w,str d.p,v] 3)) b2 (.cells true [str [],str [],.slice none 0 0] 3);generalize (M.put b1 (.cells true [str d.w,str d.p,v] 3)).put b2 (.cells true [str [],str [],.slice none 0 0] 3)=N at *;have hvN:=hv.sub sN;simp(disch:=omega)[aq k1];refine EU d v _ _ hd hvN ?_;simp(disch:=omega)[aq k1];refine vu d v _ _ hd.2.2 hvN ?_;intro v2 M2 o2;have s2:=sN.trans o2.sub;have k1:=o2.sub _ _ k1;have k2:=o2.sub _ _ k2;have hv2:=o2.rd;have hf2:=aD hv2;unfold dkV;refine sS ?_;refine Kn d v2 l _ _ hd hv2 hl ?_;intro d' v' t k M4 hgv hg;have hf':=eS hf2 hgv;have k1':=da hgv _ _ k1;have k2':=da hgv _ _ k2;have s4:=s2.trans (da hgv);have hv4:=Qc hv2 hgv;unfold dkV;refine sS ?_;intro b6 hb6;have n16:b1≠b6:=by rintro rfl;rw[k1']at hb6;cases hb6
 have n26:b2≠b6:=by rintro rfl;rw[k2']at hb6;cases hb6
 have k1q:(M4.put b6 (.cells true [str d'.w,str d'.p,v'] 3)) b1=some (.cells true [str d.w,str d.p,v] 3):=by rw[al _ _ n16];exact k1'
 have k2q:(M4.put b6 (.cells true [str d'.w,str d'.p,v'] 3)) b2=some (.cells true [str [],str [],.slice none 0 0] 3):=by rw[al _ _ n26];exact k2'
 have k6q:=ae M4 b6 (.cells true [str d'.w,str d'.p,v'] 3);have s5:=s4.putN hb6 (.cells true [str d'.w,str d'.p,v'] 3);have hv5:=hv4.sub ((Sub.refl M4).put hb6 (.cells true [str d'.w,str d'.p,v'] 3));simp(disch:=omega)[hf',aj,aN];generalize M4.put b6 (.cells true [str d'.w,str d'.p,v'] 3)=M5 at *;by_cases hk:k=0
 .have hr:=Lh hg hk;rw[hr]at h hro;have hkb:(k != 0)=false:=by rw[hk];rfl
  simp(disch:=omega)[hkb,aq k6q];refine vu d' v' _ _ hro.2.2 hv5 ?_;intro v7 M7 o7;have q2:=o7.sub _ _ k2q;have hf7:=aD o7.rd;obtain⟨M',o8,s8,n8⟩:=dI s5 o7;have m2:=n8 _ _ h2.2 k2q;have h:=h v7 M' o8;unfold dkV;simp(disch:=omega)[q2,aj,hf7];exact ag (s8.ovr m2 _) h
 .have hr:=Lv hg hk;rw[hr]at h hro;have hvB:=hv.sub s5;simp(disch:=omega)[aq k1q];refine vu d v _ _ hd.2.2 hvB ?_;intro v7 M7 o7;have q2:=o7.sub _ _ k2q;have hf7:=aD o7.rd;obtain⟨M',o8,s8,n8⟩:=dI s5 o7;have m2:=n8 _ _ h2.2 k2q;have h:=h v7 M' o8;unfold dkV;simp(disch:=omega)[q2,aj,hf7];exact ag (s8.ovr m2 _) h
def Wd(M N:Mem)(b2 b5 b6:Nat)(u:Value)(d:Dk)(L:List B8)(c5:Nat):Prop:=
 ∃ M1,Own M u (strs d.ms) M1/\Sub M1 N/\M1 b6=none/\M1 b2=none/\N b6=some (.cells true [str d.w,str d.p,u] 3)/\N b2=some (.cells true [str [],str [],.slice none 0 0] 3)/\N b5=some (.cells true (strs L) c5)
set_option maxRecDepth 4000 in
theorem Ca(l:B8)(M:Mem)(R:VP)(hl:l.length<=1500000)(h1:∀ d t v M',fB l=some (d,t)->Own M v (strs d.ms) M'->R (.tuple #[dkV d v,str t,.bool true]) M')
  (h0:fB l=none->R (.tuple #[.agg #[str [],str [],.slice none 0 0],str [],.bool false]) M):ar prog 26 [str l] M R:=by
 refine fnT func26 rfl ntmps26 results26 ?_;intro b2 hb2;have sN:=(Sub.refl M).put hb2 (.cells true [str [],str [],.slice none 0 0] 3);have k2:=ae M b2 (.cells true [str [],str [],.slice none 0 0] 3);generalize M.put b2 (.cells true [str [],str [],.slice none 0 0] 3)=N at *;refine sS ?_;refine ma l 10 _ _ (by omega) ?_;intro v5 M3 o5;rw[td]at o5;have hne:=iV 10 l;have hlw:∀ w∈cL l,w.length<=l.length:=F9 l;have hLn:=pF 10 l;have hcl:l.count 10<=l.length:=count_le_length;obtain⟨q,hq⟩:∃ q,q=l.count 10:=⟨_,rfl⟩;rw[<-hq]at hLn hcl;have hlast:(spR 10 l)[q]?=some ((spR 10 l).getLast hne):=by
  rw[getLast_eq_getElem,gEl (by omega)]
  congr 2
  omega
 have hlsdef:cL l=if (spR 10 l).getLast hne=[] then (spR 10 l).dropLast else spR 10 l:=rfl
 generalize (spR 10 l).getLast hne=last at *;obtain⟨ls,hls⟩:∃ ls,cL l=ls:=⟨_,rfl⟩;rw[hls]at hlsdef hlw;generalize spR 10 l=L at *;obtain⟨n0,hn0⟩:∃ n0,n0=q+1:=⟨_,rfl⟩;rw[<-hn0]at hLn;rcases o5 with ⟨_,e,_⟩|⟨b5,c5,rfl,hb5,hc5,hM3⟩
 .have:=congrArg length e;rw[ah,length_nil]at this;omega
 have n25:b2≠b5:=by rintro rfl;rw[k2]at hb5;cases hb5
 have k5:M3 b5=some (.cells true (strs L) c5):=by rw[hM3];exact ae _ _ _
 have s3:Sub M M3:=by rw[hM3];exact sN.putN hb5 _
 have k2:M3 b2=some (.cells true [str [],str [],.slice none 0 0] 3):=by rw[hM3,al _ _ n25];exact k2
 clear hM3;rw[ah,hLn]at hc5 ⊢;have gl:M3.get? b5 q=some (str last):=by
  rw[ak k5];show (strs L)[q]?=_;rw[a7,hlast];rfl
 have hqI:(n0:Int)-1=(q:Nat):=by omega
 have hgL:∀ i,i<n0->(hi:i<L.length)->M3.get? b5 i=some (str L[i]):=fun i _ hi=>by
  rw[ak k5];show (strs L)[i]?=_;rw[a7,gEl hi];rfl
 by_cases hle:last=[]
 .rw[if_pos hle]at hlsdef;have hn:ls.length=q:=by rw[hlsdef,length_dropLast];omega
  have hget:∀ i,i<q->M3.get? b5 i=some (str (ls.getD i [])):=fun i hi=>by
   have hi2:i<L.length:=by omega
   have hx:ls[i]?=some L[i]:=by rw[hlsdef,getElem?_dropLast,if_pos (by omega),gEl hi2]
   rw[hgL i (by omega) hi2,gDe,hx];rfl
  subst hle;simp(disch:=omega)[hqI,gl];by_cases hbig:4000<l.length
  .have hbI:(4000:Int)<(l.length:Nat):=by omega
   have h:=h0 (by unfold fB;rw[if_neg (by omega)]);simp(disch:=omega)[hbI,undef,k2,aj];exact ag (s3.ovr hb2 _) h
  by_cases hmany:40<q
  .have hbI:¬(4000:Int)<(l.length:Nat):=by omega
   have hmI:(40:Int)<(q:Nat):=by omega
   have h:=h0 (by unfold fB;rw[hls,if_neg (by omega)]);simp(disch:=omega)[hbI,hmI,undef,k2,aj];exact ag (s3.ovr hb2 _) h
  have hbI:¬(4000:Int)<(l.length:Nat):=by omega
  have hlw:∀ w∈ls,w.length<=1000000:=fun w hw=>by have:=hlw w hw;omega
  have hmI:¬(40:Int)<(q:Nat):=by omega
  have hcx:fB l=some (ji ls q):=by unfold fB;rw[hls,if_pos (by omega)];rw[hn]
  simp(disch:=omega)[hbI,hmI];refine iz _ _ ?_;intro x6 M6 o6;unfold iC;obtain⟨M1,o1,s1,n1⟩:=dI s3 o6;have hfx:=aD o6.rd;have k2':=o6.sub _ _ k2;have k5':=o6.sub _ _ k5;refine sS ?_;intro b6 hb6;have n26:b2≠b6:=by rintro rfl;rw[k2']at hb6;cases hb6
  have n56:b5≠b6:=by rintro rfl;rw[k5']at hb6;cases hb6
  have m6:M b6=none:=ba (s3.trans o6.sub) hb6;have q2:(M6.put b6 (.cells true [str [97,98,97,97,98],str [65,65],x6] 3)) b2=some (.cells true [str [],str [],.slice none 0 0] 3):=by rw[al _ _ n26];exact k2'
  have q5:(M6.put b6 (.cells true [str [97,98,97,97,98],str [65,65],x6] 3)) b5=some (.cells true (strs L) c5):=by rw[al _ _ n56];exact k5'
  have q6:=ae M6 b6 (.cells true [str [97,98,97,97,98],str [65,65],x6] 3);have sq:=s1.putN hb6 (.cells true [str [97,98,97,97,98],str [65,65],x6] 3);have z2:=n1 _ _ hb2 k2;have z6:M1 b6=none:=ba s1 hb6;simp(disch:=omega)[hfx,aj,aN];generalize M6.put b6 (.cells true [str [97,98,97,97,98],str [65,65],x6] 3)=N6 at *;refine aR aU (rlA [7,8,9,10] 35 25) (fun x:Nat×Value=>[(8,.int .i64 (x.1:Nat)),(7,str (ji ls x.1).2)]) (fun x N=>x.1<=q/\Wd M N b2 b5 b6 x.2 (ji ls x.1).1 L c5) (fun x=>q-x.1) (0,x6) (by kernel_rfl) (by simp(disch:=omega)[uX]) ⟨lZe _,⟨M1,o1,sq,z6,z2,q6,q2,q5⟩⟩ ?_
  rintro⟨i,u⟩ N g ⟨hi,hJ⟩
  simp only at hi hJ;obtain⟨M1,o1,s1,z6,z2,q6,q2,q5⟩:=hJ;have hok:=pg ls i (by omega);have hlen:=tN ls hlw i (by omega);have hfu:=aD o1.rd;have hlen2:(ji ls i).2.length<=50000000:=Nat.le_trans hlen (Nat.le_trans (Nat.mul_le_mul_right 1100001 (show i<=40 by omega)) (by decide));clear hlen;by_cases hlt:i<q
  .have hltI:(i:Int)<(q:Nat):=by omega
   have gi:=hget i hlt;rw[show ls.getD i []=ls[i]'(by omega) from by rw[gDe,gEl (by omega)];rfl]at gi;have hst:=pf ls (i:=i) (by omega);have hwl:=hlw ls[i] (gMe (by omega));generalize ls[i]=w at *;have gi2:N.get? b5 i=some (str w):=by rw[ak q5];rw[ak k5]at gi;exact gi
   generalize ji ls i=S at *;by_cases hw:w=[]
   .unfold cD at hst;rw[if_pos hw]at hst;subst hw;simp(disch:=omega)[hltI,gi2];exact rndA (i+1,u) (by simp(disch:=omega)[hst]) ⟨by simp only;omega,by simp only;rw[hst];exact⟨M1,o1,s1,z6,z2,q6,q2,q5⟩⟩
   .unfold cD at hst;rw[if_neg hw]at hst;have hrl:=pO hok (l:=w) (by omega);have hwl2:w.length<=1500000:=by omega
    simp(disch:=omega)[hltI,gi2,bNe.2 hw];refine plyS (ai [0,1,2,3,4] (.alt 5 1 (ai [6,7,8] (.one 9 1 (.one 10 2 (ai [11] .fin)))) (.one 9 1 (.one 5 1 (ai [6,7,8] (.one 10 2 (ai [11] .fin))))))) ?_;simp(disch:=omega)[cd,gi2,aq q6];refine⟨?_,?_⟩
    .refine bP S.1 u w _ _ hok (o1.rd.sub s1) hwl2 ?_;intro v7 M7 o7;obtain⟨M8,o8,s8,n8⟩:=dI (((o1.sub).trans s1)) o7;have e6:=n8 _ _ m6 q6;have e2:=n8 _ _ hb2 q2;have hf7:=aD o7.rd;have r6:=o7.sub _ _ q6;have r2:=o7.sub _ _ q2;have r5:=o7.sub _ _ q5;have sN7:=o7.sub;generalize dr S.1 w=RR at *;unfold dkV;refine sS ?_;refine⟨sN7,?_⟩;intro b9 hb9;have n69:b6≠b9:=by rintro rfl;rw[r6]at hb9;cases hb9
     have n29:b2≠b9:=by rintro rfl;rw[r2]at hb9;cases hb9
     have n59:b5≠b9:=by rintro rfl;rw[r5]at hb9;cases hb9
     simp(disch:=omega)[hf7,aj,aN,r6];refine⟨(Sub.refl M7).put hb9 _,?_⟩;refine rndA (i+1,v7) (by simp(disch:=omega)[hst]) ⟨by simp only;omega,?_⟩;simp only;rw[hst];exact⟨M8,o8,(s8.putN hb9 _).ovr e6 _,e6,e2,ae _ _ _,by rw[al _ _ n26,al _ _ n29];exact r2,by rw[al _ _ n56,al _ _ n59];exact r5⟩
    .intro b9 hb9;have n69:b6≠b9:=by rintro rfl;rw[q6]at hb9;cases hb9
     have n29:b2≠b9:=by rintro rfl;rw[q2]at hb9;cases hb9
     have n59:b5≠b9:=by rintro rfl;rw[q5]at hb9;cases hb9
     have m9:M b9=none:=ba ((o1.sub).trans s1) hb9;have sP:=((o1.sub).trans s1).putN hb9 (.cells true [str [],str [],.slice none 0 0] 3);have w6:(N.put b9 (.cells true [str [],str [],.slice none 0 0] 3)) b6=some (.cells true [str S.1.w,str S.1.p,u] 3):=by rw[al _ _ n69];exact q6
     have w2:(N.put b9 (.cells true [str [],str [],.slice none 0 0] 3)) b2=some (.cells true [str [],str [],.slice none 0 0] 3):=by rw[al _ _ n29];exact q2
     have w5:(N.put b9 (.cells true [str [],str [],.slice none 0 0] 3)) b5=some (.cells true (strs L) c5):=by rw[al _ _ n59];exact q5
     have w9:=ae N b9 (.cells true [str [],str [],.slice none 0 0] 3);have ru:=(o1.rd.sub s1).sub ((Sub.refl N).put hb9 (.cells true [str [],str [],.slice none 0 0] 3));refine sS ?_;refine⟨(Sub.refl N).put hb9 _,?_⟩;generalize N.put b9 (.cells true [str [],str [],.slice none 0 0] 3)=P at *;refine bP S.1 u w _ _ hok ru hwl2 ?_;intro v7 M7 o7;obtain⟨M8,o8,s8,n8⟩:=dI sP o7;have e6:=n8 _ _ m6 w6;have e2:=n8 _ _ hb2 w2;have e9:=n8 _ _ m9 w9;have hf7:=aD o7.rd;have r6:=o7.sub _ _ w6;have r2:=o7.sub _ _ w2;have r5:=o7.sub _ _ w5;have r9:=o7.sub _ _ w9;have sN7:=o7.sub;have r6q:∀ X,(M7.put b9 X) b6=some (.cells true [str S.1.w,str S.1.p,u] 3):=fun X=>by rw[al _ _ n69];exact r6
     generalize dr S.1 w=RR at *;unfold dkV;simp(disch:=omega)[hf7,aj,r6,r9];refine⟨sN7,?_⟩;refine rndA (i+1,v7) (by simp(disch:=omega)[hst]) ⟨by simp only;omega,?_⟩;simp only;rw[hst];exact⟨M8,o8,(s8.ovr e9 _).ovr e6 _,e6,e2,ae _ _ _,by rw[al _ _ n26,al _ _ n29];exact r2,by rw[al _ _ n56,al _ _ n59];exact r5⟩
  .have hie:i=q:=by omega
   have hltI:¬(i:Int)<(q:Nat):=by omega
   rw[<-hie]at hcx;have h:=h1 (ji ls i).1 (ji ls i).2 u M1 hcx o1;unfold dkV at h;simp(disch:=omega)[hltI,aq q6,q2,aj,hfu];exact ag (s1.ovr z2 _) h
 .rw[if_neg hle]at hlsdef;have hn:ls.length=n0:=by rw[hlsdef];exact hLn
  have hget:∀ i,i<n0->M3.get? b5 i=some (str (ls.getD i [])):=fun i hi=>by
   have hi2:i<L.length:=by omega
   have hx:ls[i]?=some L[i]:=by rw[hlsdef,gEl hi2]
   rw[hgL i (by omega) hi2,gDe,hx];rfl
  simp(disch:=omega)[hqI,gl,bNe.2 hle];by_cases hbig:4000<l.length
  .have hbI:(4000:Int)<(l.length:Nat):=by omega
   have h:=h0 (by unfold fB;rw[if_neg (by omega)]);simp(disch:=omega)[hbI,undef,k2,aj];exact ag (s3.ovr hb2 _) h
  by_cases hmany:40<n0
  .have hbI:¬(4000:Int)<(l.length:Nat):=by omega
   have hmI:(40:Int)<(n0:Nat):=by omega
   have h:=h0 (by unfold fB;rw[hls,if_neg (by omega)]);simp(disch:=omega)[hbI,hmI,undef,k2,aj];exact ag (s3.ovr hb2 _) h
  have hbI:¬(4000:Int)<(l.length:Nat):=by omega
  have hlw:∀ w∈ls,w.length<=1000000:=fun w hw=>by have:=hlw w hw;omega
  have hmI:¬(40:Int)<(n0:Nat):=by omega
  have hcx:fB l=some (ji ls n0):=by unfold fB;rw[hls,if_pos (by omega)];rw[hn]
  simp(disch:=omega)[hbI,hmI];refine iz _ _ ?_;intro x6 M6 o6;unfold iC;obtain⟨M1,o1,s1,n1⟩:=dI s3 o6;have hfx:=aD o6.rd;have k2':=o6.sub _ _ k2;have k5':=o6.sub _ _ k5;refine sS ?_;intro b6 hb6;have n26:b2≠b6:=by rintro rfl;rw[k2']at hb6;cases hb6
  have n56:b5≠b6:=by rintro rfl;rw[k5']at hb6;cases hb6
  have m6:M b6=none:=ba (s3.trans o6.sub) hb6;have q2:(M6.put b6 (.cells true [str [97,98,97,97,98],str [65,65],x6] 3)) b2=some (.cells true [str [],str [],.slice none 0 0] 3):=by rw[al _ _ n26];exact k2'
  have q5:(M6.put b6 (.cells true [str [97,98,97,97,98],str [65,65],x6] 3)) b5=some (.cells true (strs L) c5):=by rw[al _ _ n56];exact k5'
  have q6:=ae M6 b6 (.cells true [str [97,98,97,97,98],str [65,65],x6] 3);have sq:=s1.putN hb6 (.cells true [str [97,98,97,97,98],str [65,65],x6] 3);have z2:=n1 _ _ hb2 k2;have z6:M1 b6=none:=ba s1 hb6;simp(disch:=omega)[hfx,aj,aN];generalize M6.put b6 (.cells true [str [97,98,97,97,98],str [65,65],x6] 3)=N6 at *;refine aR aU (rlA [7,8,9,10] 35 25) (fun x:Nat×Value=>[(8,.int .i64 (x.1:Nat)),(7,str (ji ls x.1).2)]) (fun x N=>x.1<=n0/\Wd M N b2 b5 b6 x.2 (ji ls x.1).1 L c5) (fun x=>n0-x.1) (0,x6) (by kernel_rfl) (by simp(disch:=omega)[uX]) ⟨lZe _,⟨M1,o1,sq,z6,z2,q6,q2,q5⟩⟩ ?_
  rintro⟨i,u⟩ N g ⟨hi,hJ⟩
  simp only at hi hJ;obtain⟨M1,o1,s1,z6,z2,q6,q2,q5⟩:=hJ;have hok:=pg ls i (by omega);have hlen:=tN ls hlw i (by omega);have hfu:=aD o1.rd;have hlen2:(ji ls i).2.length<=50000000:=Nat.le_trans hlen (Nat.le_trans (Nat.mul_le_mul_right 1100001 (show i<=40 by omega)) (by decide));clear hlen;by_cases hlt:i<n0
  .have hltI:(i:Int)<(n0:Nat):=by omega
   have gi:=hget i hlt;rw[show ls.getD i []=ls[i]'(by omega) from by rw[gDe,gEl (by omega)];rfl]at gi;have hst:=pf ls (i:=i) (by omega);have hwl:=hlw ls[i] (gMe (by omega));generalize ls[i]=w at *;have gi2:N.get? b5 i=some (str w):=by rw[ak q5];rw[ak k5]at gi;exact gi
   generalize ji ls i=S at *;by_cases hw:w=[]
   .unfold cD at hst;rw[if_pos hw]at hst;subst hw;simp(disch:=omega)[hltI,gi2];exact rndA (i+1,u) (by simp(disch:=omega)[hst]) ⟨by simp only;omega,by simp only;rw[hst];exact⟨M1,o1,s1,z6,z2,q6,q2,q5⟩⟩
   .unfold cD at hst;rw[if_neg hw]at hst;have hrl:=pO hok (l:=w) (by omega);have hwl2:w.length<=1500000:=by omega
    simp(disch:=omega)[hltI,gi2,bNe.2 hw];refine plyS (ai [0,1,2,3,4] (.alt 5 1 (ai [6,7,8] (.one 9 1 (.one 10 2 (ai [11] .fin)))) (.one 9 1 (.one 5 1 (ai [6,7,8] (.one 10 2 (ai [11] .fin))))))) ?_;simp(disch:=omega)[cd,gi2,aq q6];refine⟨?_,?_⟩
    .refine bP S.1 u w _ _ hok (o1.rd.sub s1) hwl2 ?_;intro v7 M7 o7;obtain⟨M8,o8,s8,n8⟩:=dI (((o1.sub).trans s1)) o7;have e6:=n8 _ _ m6 q6;have e2:=n8 _ _ hb2 q2;have hf7:=aD o7.rd;have r6:=o7.sub _ _ q6;have r2:=o7.sub _ _ q2;have r5:=o7.sub _ _ q5;have sN7:=o7.sub;generalize dr S.1 w=RR at *;unfold dkV;refine sS ?_;refine⟨sN7,?_⟩;intro b9 hb9;have n69:b6≠b9:=by rintro rfl;rw[r6]at hb9;cases hb9
     have n29:b2≠b9:=by rintro rfl;rw[r2]at hb9;cases hb9
     have n59:b5≠b9:=by rintro rfl;rw[r5]at hb9;cases hb9
     simp(disch:=omega)[hf7,aj,aN,r6];refine⟨(Sub.refl M7).put hb9 _,?_⟩;refine rndA (i+1,v7) (by simp(disch:=omega)[hst]) ⟨by simp only;omega,?_⟩;simp only;rw[hst];exact⟨M8,o8,(s8.putN hb9 _).ovr e6 _,e6,e2,ae _ _ _,by rw[al _ _ n26,al _ _ n29];exact r2,by rw[al _ _ n56,al _ _ n59];exact r5⟩
    .intro b9 hb9;have n69:b6≠b9:=by rintro rfl;rw[q6]at hb9;cases hb9
     have n29:b2≠b9:=by rintro rfl;rw[q2]at hb9;cases hb9
     have n59:b5≠b9:=by rintro rfl;rw[q5]at hb9;cases hb9
     have m9:M b9=none:=ba ((o1.sub).trans s1) hb9;have sP:=((o1.sub).trans s1).putN hb9 (.cells true [str [],str [],.slice none 0 0] 3);have w6:(N.put b9 (.cells true [str [],str [],.slice none 0 0] 3)) b6=some (.cells true [str S.1.w,str S.1.p,u] 3):=by rw[al _ _ n69];exact q6
     have w2:(N.put b9 (.cells true [str [],str [],.slice none 0 0] 3)) b2=some (.cells true [str [],str [],.slice none 0 0] 3):=by rw[al _ _ n29];exact q2
     have w5:(N.put b9 (.cells true [str [],str [],.slice none 0 0] 3)) b5=some (.cells true (strs L) c5):=by rw[al _ _ n59];exact q5
     have w9:=ae N b9 (.cells true [str [],str [],.slice none 0 0] 3);have ru:=(o1.rd.sub s1).sub ((Sub.refl N).put hb9 (.cells true [str [],str [],.slice none 0 0] 3));refine sS ?_;refine⟨(Sub.refl N).put hb9 _,?_⟩;generalize N.put b9 (.cells true [str [],str [],.slice none 0 0] 3)=P at *;refine bP S.1 u w _ _ hok ru hwl2 ?_;intro v7 M7 o7;obtain⟨M8,o8,s8,n8⟩:=dI sP o7;have e6:=n8 _ _ m6 w6;have e2:=n8 _ _ hb2 w2;have e9:=n8 _ _ m9 w9;have hf7:=aD o7.rd;have r6:=o7.sub _ _ w6;have r2:=o7.sub _ _ w2;have r5:=o7.sub _ _ w5;have r9:=o7.sub _ _ w9;have sN7:=o7.sub;have r6q:∀ X,(M7.put b9 X) b6=some (.cells true [str S.1.w,str S.1.p,u] 3):=fun X=>by rw[al _ _ n69];exact r6
     generalize dr S.1 w=RR at *;unfold dkV;simp(disch:=omega)[hf7,aj,r6,r9];refine⟨sN7,?_⟩;refine rndA (i+1,v7) (by simp(disch:=omega)[hst]) ⟨by simp only;omega,?_⟩;simp only;rw[hst];exact⟨M8,o8,(s8.ovr e9 _).ovr e6 _,e6,e2,ae _ _ _,by rw[al _ _ n26,al _ _ n29];exact r2,by rw[al _ _ n56,al _ _ n59];exact r5⟩
  .have hie:i=n0:=by omega
   have hltI:¬(i:Int)<(n0:Nat):=by omega
   rw[<-hie]at hcx;have h:=h1 (ji ls i).1 (ji ls i).2 u M1 hcx o1;unfold dkV at h;simp(disch:=omega)[hltI,aq q6,q2,aj,hfu];exact ag (s1.ovr z2 _) h
def SI:List Code->Code->Code
 | [],z=>z
 | c::cs,z=>.seq c (SI cs z)
def vcL(P:Program)(T:Tab)(n:Nat):List Code->(Env->Mem->Prop)->(Exit->Env->Mem->Prop)->Env->Mem->Prop
 | [],K,Q,env,M=>K env M
 | c::cs,K,Q,env,M=>vc P T n c (mR (vcL P T n cs K Q) Q) env M
section
variable {P:Program} {T:Tab} {n:Nat} {ro:Option Nat} {k:Nat} {ds:List Deferred} {K:Env->Mem->Prop} {Q:Exit->Env->Mem->Prop} {env:Env} {M:Mem}
@[simp] theorem Yk:vcL P T n [] K Q env M=K env M:=nr rfl
@[simp] theorem X0(c:Code)(cs:List Code):vcL P T n (c::cs) K Q env M=vc P T n c (mR (vcL P T n cs K Q) Q) env M:=nr rfl
theorem KN(hT:bY P T)(z:Code){Q':Exit->Act->World->Prop}{M0:Mem}{w0:World}(hq:∀ e a w,e≠.normal->UR ds n M0 w0 Q e a w->Q' e a w)
  (hz:∀ env M a w,fX ds n env a->Rep M w->Ext M0 w0 M w->K env M->z.wpIn (iT ro) k P Q' a w) :
  ∀(cs:List Code) (env:Env) (M:Mem) (a:Act) (w:World),cs.all (fun c=>eu n c&&qe c)=true->vcL P T n cs K Q env M->fX ds n env a->Rep M w->Ext M0 w0 M w->(SI cs z).wpIn (iT ro) k P Q' a w
 | [],env,M,a,w,_,h,h1,h2,h3=>hz env M a w h1 h2 h3 h
 | c::cs,env,M,a,w,hc,h,h1,h2,h3=>by
  simp only[all_cons,bAn]at hc;refine wpIn_seq (wpIn_mono (LL (ro:=ro) (k:=k) (ds:=ds) T hT c _ env M hc.1.1 hc.1.2 h M0 w0 a w h1 h2 h3) ?_)
  rintro e a' w' ⟨env',M',a1,a2,a3,a4⟩
  cases e with
  | normal=>exact KN hT z hq hz cs env' M' a' w' (by simpa using hc.2) a4 a1 a2 a3
  | exit id=>exact hq _ _ _ (by simp) ⟨_,_,a1,a2,a3,a4⟩
  | goto id=>exact hq _ _ _ (by simp) ⟨_,_,a1,a2,a3,a4⟩
  | ret=>exact hq _ _ _ (by simp) ⟨_,_,a1,a2,a3,a4⟩
  | panic c=>exact hq _ _ _ (by simp) ⟨_,_,a1,a2,a3,a4⟩
  | outgrown=>exact hq _ _ _ (by simp) ⟨_,_,a1,a2,a3,a4⟩
theorem jy(hT:bY P T)(ops l2:List Oper){Q':Exit->Act->World->Prop}{M0:Mem}{w0:World}(hz:∀ env M a w,fX ds n env a->Rep M w->Ext M0 w0 M w->K env M->wpListIn (iT ro) k P ops.toArray Q' l2 a w) :
  ∀(l:List Oper) (env:Env) (M:Mem) (a:Act) (w:World),l.all (fun o=>kP n o&&ja o&&o.guard.isNone)=true->ly P T ops (fun _=>K) l env M->fX ds n env a->Rep M w->Ext M0 w0 M w->wpListIn (iT ro) k P ops.toArray Q' (l++l2) a w
 | [],env,M,a,w,_,h,h1,h2,h3=>hz env M a w h1 h2 h3 h
 | o::rest,env,M,a,w,hd,h,h1,h2,h3=>by
  simp only[all_cons,bAn]at hd;unfold ly at h;rw[cons_append];unfold wpListIn;split at h
  .rename_i hg;rw[if_pos (by simp[Region.wanted,hg])];refine pd hd.1.1.2 (qD T hT o.op h o a w _ _ rfl h1.ev h2 fun v M' w' a1 a2 a3=>?_);exact jy hT ops l2 hz rest _ _ _ _ (by simpa using hd.2) a3 (h1.put (cF hd.1.1.1) v) a1 (h3.trans a2)
  .rename_i j b hg;rw[hg]at hd;cases hd.1.2
theorem Km(hT:bY P T)(ops:List Oper){Q':Exit->Act->World->Prop}{M0:Mem}{w0:World}(hz:∀ env M a w,fX ds n env a->Rep M w->Ext M0 w0 M w->K env M->Q' .normal a w)
  (l:List Oper) (env:Env) (M:Mem) (a:Act) (w:World) (hd:l.all (fun o=>kP n o&&ja o&&o.guard.isNone)=true) (h:ly P T ops (fun _=>K) l env M) (h1:fX ds n env a) (h2:Rep M w) (h3:Ext M0 w0 M w):wpListIn (iT ro) k P ops.toArray Q' l a w:=by
 have:=jy (ro:=ro) (k:=k) hT ops [] (fun env M a w a1 a2 a3 a4=>wpListIn_nil (hz env M a w a1 a2 a3 a4)) l env M a w hd h h1 h2 h3;rwa[append_nil]at this
theorem vD{o:Oper}{x:Operand}{args:Array Operand}{ts:Array TypeId}(ho:o.op=.call ⟨.value x,args,ts⟩){g:FuncId}(hx:ev env x=.func (.func g) #[] #[])(hb:sf P g){a:Act}{w:World}(ha:a.eval=ev env){next:Act->World->Prop}{Q':Exit->Act->World->Prop}
  (h:Calls P g (args.toList.map (ev env)).toArray w fun e w'=>∃ v,e=.returned v/\next (a.put o.dst v) w'):o.wpIn (iT ro) k P a w next Q':=by
 refine pd (by unfold ja;rw[ho]) ?_;obtain⟨fn,h1,h2,h3⟩:=hb;have hr:(execOp a.eval o).run P w=.ok (.enter g (args.toList.map (ev env)).toArray) w:=by
  rw[ha];simp only[execOp,ho,resolve,hx,Deferred.ofValue,Sem.run_bind,Sem.run_pure,Result.andThen_ok,invoke,callFunc,run_program,h1,h2,h3,Bool.false_eq_true,if_false]
  congr 2
  apply Array.ext';simp
 rw[hr];refine h.mono ?_
 rintro e w' ⟨v,rfl,hn⟩
 exact hn
end
theorem BL(v:Value)(zs:List B8)(M:Mem)(R:VP)(h1:1<=zs.length)(hv:Rd M v (strs zs))(hl:zs.length<=1000)(h:∀ v' M',Own M v' (strs zs) M'->R v' M'):ar prog 58 [v] M R:=by
 refine fnS func58 rfl ntmps58 results58 ?_;have hne:1<=(strs zs).length:=by rw[ah];exact h1
 have hsrc:=pr hv hne;obtain⟨a,c,rfl,ha⟩:=hv.opened;rw[ah]at ha hsrc ⊢;rcases ha with h0|⟨b,o,rfl,ha⟩
 .rw[ah]at hne;omega
 refine sS ?_;intro b6 hb6;have o0:=Own.new (M:=M) (xs:=strs []) (n:=0) (c:=0) hb6 rfl (lRf 0);have hs1:=oe hsrc ((Sub.refl M).put hb6 (.cells true [] 0));dsimp only;have e0:strs []=[]:=rfl;rw[e0]at o0;generalize M.put b6 (.cells true [] 0)=N at *;generalize Value.slice (some ⟨b6,0,none⟩) 0 0=e at *;refine sS ?_;refine ca o0 (Sub.refl _) hs1 rfl rfl (by omega) (cJ zs) (by rw[ah];simp only[length_nil];omega) ?_;intro v' M'' N'' o' hs';refine sS ?_;exact ag hs' (h _ _ o')
theorem C4(d:Dk)(v:Value)(M:Mem)(R:VP)(hm:aY d.ms=true)(hv:Rd M v (strs d.ms))(h:∀ v' M',Own M v' (strs d.ms) M'->R (dkV d v') M'):ar prog 30 [dkV d v] M R:=by
 have hf:=aD hv;have hm5:=aW hm;unfold dkV at h ⊢;refine fnT func30 rfl ntmps30 results30 ?_;intro b1 hb1;have h1:=(Sub.refl M).put hb1 (.cells true [str d.w,str d.p,v] 3);refine sS ?_;intro b2 hb2;have h2:=hb2;rw[aG]at h2;have sN:=h1.putN hb2 (.cells true [str [],str [],.slice none 0 0] 3);have k1:=pOne h2.1 M (.cells true [str d.w,str d.p,v] 3) (.cells true [str [],str [],.slice none 0 0] 3);have k2:=ae (M.put b1 (.cells true [str d.w,str d.p,v] 3)) b2 (.cells true [str [],str [],.slice none 0 0] 3);generalize (M.put b1 (.cells true [str d.w,str d.p,v] 3)).put b2 (.cells true [str [],str [],.slice none 0 0] 3)=N at *;have hvN:=hv.sub sN;simp(disch:=omega)[ak k1];refine BL v d.ms _ _ (by omega) hvN (by omega) ?_;intro v' N'' o';have q1:=o'.sub _ _ k1;have q2:=o'.sub _ _ k2;have hf':=aD o'.rd;obtain⟨M',o4,s4,n4⟩:=dI sN o';have m1:=n4 _ _ hb1 k1;have m2:=n4 _ _ h2.2 k2;have q2':(N''.put b1 (.cells true [str d.w,str d.p,v'] 3)) b2=some (.cells true [str [],str [],.slice none 0 0] 3):=by rw[al _ _ h2.1];exact q2
 have h:=h v' M' o4;simp(disch:=omega)[q1,q2,aj,hf'];exact ag ((s4.ovr m1 _).ovr m2 _) h
end Go.Proofs.YtapimhjbilkfpaaGreatDoor
namespace Go.Proofs.YtapimhjbilkfpaaGreatDoor
open Go Go.Proofs.Tryz Go.RowKit List
set_option maxRecDepth 4000
def js:Code:=(Code.region 6 #[{ dst:=(some 8),op:=(Op.assign (Operand.tmp 18)),type:=9,pos:= "l11_console.go:327",after:=#[],guard:=none }] false)
def Vc:Code:=(Code.seq (Code.region 7 #[{ dst:=(some 19),op:=(Op.load 3 (Operand.tmp 6)),type:=3,pos:= "l11_console.go:328",after:=#[],guard:=none },{ dst:=(some 20),op:=(Op.binOp BinOp.add 3 (Operand.tmp 19) (Operand.const (Value.int IntKind.i64 1)) 3),type:=3,pos:= "l11_console.go:328",after:=#[{ on:=0,ground:=Ground.data }],guard:=none },{ dst:=none,op:=(Op.store 3 (Operand.tmp 6) (Operand.tmp 20)),type:=0,pos:= "l11_console.go:328",after:=#[{ on:=1,ground:=Ground.data },{ on:=0,ground:=Ground.phase },{ on:=1,ground:=Ground.phase }],guard:=none }] false) (Code.seq (Code.region 8 #[{ dst:=(some 21),op:=(Op.load 3 (Operand.tmp 6)),type:=3,pos:= "l11_console.go:328",after:=#[],guard:=none },{ dst:=(some 22),op:=(Op.binOp BinOp.gtr 3 (Operand.tmp 21) (Operand.const (Value.int IntKind.i64 40)) 3),type:=4,pos:= "l11_console.go:328",after:=#[{ on:=0,ground:=Ground.data }],guard:=none }] false) (Code.cond (Operand.tmp 22) (Code.seq (Code.region 9 #[{ dst:=(some 23),op:=(Op.build 28 #[]),type:=28,pos:= "l11_console.go:329",after:=#[],guard:=none },{ dst:=none,op:=(Op.store 28 (Operand.tmp 2) (Operand.tmp 23)),type:=0,pos:= "l11_console.go:329",after:=#[{ on:=0,ground:=Ground.data },{ on:=0,ground:=Ground.phase }],guard:=none },{ dst:=none,op:=(Op.store 9 (Operand.tmp 3) (Operand.const (Value.string { data:=#[] }))),type:=0,pos:= "l11_console.go:329",after:=#[{ on:=1,ground:=Ground.chain },{ on:=0,ground:=Ground.phase },{ on:=1,ground:=Ground.phase }],guard:=none },{ dst:=none,op:=(Op.store 4 (Operand.tmp 4) (Operand.const (Value.bool false))),type:=0,pos:= "l11_console.go:329",after:=#[{ on:=2,ground:=Ground.chain },{ on:=0,ground:=Ground.phase },{ on:=1,ground:=Ground.phase },{ on:=2,ground:=Ground.phase }],guard:=none }] false) Code.ret) Code.skip)))
def JP:Code:=(Code.region 10 #[{ dst:=(some 24),op:=(Op.move (Operand.tmp 8)),type:=9,pos:= "l11_console.go:331",after:=#[],guard:=none },{ dst:=(some 25),op:=(Op.call { callee:=(Callee.value (Operand.func 54)),args:=#[(Operand.tmp 24),(Operand.const (Value.string { data:=#[10] }))],argTypes:=#[9,9] }),type:=9,pos:= "l11_console.go:331",after:=#[{ on:=0,ground:=Ground.data }],guard:=none },{ dst:=(some 8),op:=(Op.assign (Operand.tmp 25)),type:=9,pos:= "l11_console.go:331",after:=#[{ on:=1,ground:=Ground.data },{ on:=1,ground:=Ground.chain },{ on:=0,ground:=Ground.phase },{ on:=1,ground:=Ground.phase }],guard:=none }] false)
def T4:Code:=(Code.seq (Code.region 11 #[{ dst:=(some 26),op:=(Op.move (Operand.tmp 8)),type:=9,pos:= "l11_console.go:332",after:=#[],guard:=none },{ dst:=(some 27),op:=(Op.binOp BinOp.eql 9 (Operand.tmp 26) (Operand.const (Value.string { data:=#[] })) 9),type:=4,pos:= "l11_console.go:332",after:=#[{ on:=0,ground:=Ground.data }],guard:=none }] false) (Code.cond (Operand.tmp 27) (Code.exit 1) Code.skip))
def KZ:Code:=(Code.region 12 #[{ dst:=(some 29),op:=(Op.load 28 (Operand.tmp 5)),type:=28,pos:= "l11_console.go:335",after:=#[],guard:=none },{ dst:=(some 30),op:=(Op.move (Operand.tmp 8)),type:=9,pos:= "l11_console.go:335",after:=#[],guard:=none },{ dst:=(some 31),op:=(Op.call { callee:=(Callee.value (Operand.func 29)),args:=#[(Operand.tmp 29),(Operand.tmp 30)],argTypes:=#[28,9] }),type:=33,pos:= "l11_console.go:335",after:=#[{ on:=0,ground:=Ground.data },{ on:=1,ground:=Ground.data }],guard:=none },{ dst:=(some 28),op:=(Op.move (Operand.tmp 31)),type:=33,pos:= "l11_console.go:335",after:=#[{ on:=2,ground:=Ground.data }],guard:=none },{ dst:=(some 32),op:=(Op.extract (Operand.tmp 28) 0),type:=28,pos:= "l11_console.go:335",after:=#[{ on:=3,ground:=Ground.data }],guard:=none },{ dst:=(some 33),op:=(Op.extract (Operand.tmp 28) 1),type:=9,pos:= "l11_console.go:335",after:=#[{ on:=3,ground:=Ground.data },{ on:=7,ground:=(Ground.gcOnly Departure.lateStores) }],guard:=none },{ dst:=(some 9),op:=(Op.alloc 28),type:=0,pos:= "l11_console.go:335",after:=#[],guard:=none },{ dst:=none,op:=(Op.store 28 (Operand.tmp 9) (Operand.tmp 32)),type:=0,pos:= "l11_console.go:335",after:=#[{ on:=6,ground:=Ground.data },{ on:=4,ground:=Ground.data },{ on:=2,ground:=Ground.chain },{ on:=0,ground:=Ground.phase },{ on:=1,ground:=Ground.phase },{ on:=2,ground:=Ground.phase },{ on:=3,ground:=Ground.phase },{ on:=4,ground:=Ground.phase },{ on:=5,ground:=(Ground.textOnly Departure.lateStores) },{ on:=6,ground:=Ground.phase }],guard:=none },{ dst:=(some 10),op:=(Op.assign (Operand.tmp 33)),type:=9,pos:= "l11_console.go:335",after:=#[{ on:=5,ground:=Ground.data },{ on:=7,ground:=Ground.chain },{ on:=0,ground:=Ground.phase },{ on:=1,ground:=Ground.phase },{ on:=2,ground:=Ground.phase },{ on:=3,ground:=Ground.phase },{ on:=4,ground:=Ground.phase },{ on:=5,ground:=Ground.phase },{ on:=6,ground:=Ground.phase },{ on:=7,ground:=Ground.phase }],guard:=none }] false)
def I1:Code:=(Code.region 13 #[{ dst:=(some 34),op:=(Op.load 28 (Operand.tmp 9)),type:=28,pos:= "l11_console.go:336",after:=#[],guard:=none },{ dst:=none,op:=(Op.store 28 (Operand.tmp 5) (Operand.tmp 34)),type:=0,pos:= "l11_console.go:336",after:=#[{ on:=0,ground:=Ground.data },{ on:=0,ground:=Ground.phase }],guard:=none }] false)
def Mr:Oper:={ dst:=(some 35),op:=(Op.move (Operand.tmp 10)),type:=9,pos:= "l11_console.go:337",after:=#[],guard:=none }
def K5:Oper:={ dst:=(some 36),op:=(Op.binOp BinOp.add 9 (Operand.tmp 35) (Operand.const (Value.string { data:=#[10] })) 9),type:=9,pos:= "l11_console.go:337",after:=#[{ on:=0,ground:=Ground.data }],guard:=none }
def PT:Oper:={ dst:=(some 37),op:=(Op.call { callee:=(Callee.value (Operand.func 55)),args:=#[(Operand.tmp 7),(Operand.tmp 36)],argTypes:=#[71,9] }),type:=78,pos:= "l11_console.go:337",after:=#[{ on:=1,ground:=Ground.data }],guard:=none }
def Jp:Code:=.region 14 #[Mr,K5,PT] false
def xN:Code:=.block 1 (SI [Vc,JP,T4,KZ,I1] Jp)
def cP(N N':Mem):Prop:=∀ b B,N b=none->N' b=some B->B.own=true
theorem cP.refl(N:Mem):cP N N:=fun b B h1 h2=>by rw[h1]at h2;cases h2
theorem cP.put{N N':Mem}(h:cP N N')(b:Nat)(B:Blk)(hB:B.own=true):cP N (N'.put b B):=by
 intro i X h1 h2;unfold Mem.put at h2;split at h2
 .cases h2;exact hB
 .exact h i X h1 h2
theorem cP.own{N N' N'':Mem}{v:Value}{xs:List Value}(h:cP N N')(o:Own N' v xs N''):cP N N'':=by
 rcases o with ⟨_,_,rfl⟩|⟨b,c,_,_,_,rfl⟩
 .exact h
 .exact h.put _ _ rfl
theorem cP.gv{N N' N'':Mem}{v v':Value}{d d':Dk}(h:cP N N')(g:Gv N' v d v' d' N''):cP N N'':=by
 rcases g with ⟨_,_,rfl⟩|o
 .exact h
 .exact h.own o
structure Da(b2 b3 b4 b5 b6:Nat):Prop where
 n23:b2≠b3
 n24:b2≠b4
 n25:b2≠b5
 n26:b2≠b6
 n34:b3≠b4
 n35:b3≠b5
 n36:b3≠b6
 n45:b4≠b5
 n46:b4≠b6
 n56:b5≠b6
structure CN(M0:Mem)(b2 b3 b4 b5 b6:Nat)(i:Nat)(d:Dk)(N:Mem):Prop where
 im:∃ u M1,Own M0 u (strs d.ms) M1/\Sub M1 N/\N b5=some (.cells true [str d.w,str d.p,u] 3)/\M1 b2=none/\M1 b3=none/\M1 b4=none/\M1 b5=none/\M1 b6=none
 k2:N b2=some (.cells true [str [],str [],.slice none 0 0] 3)
 k3:N b3=some (.cells true [str []] 1)
 k4:N b4=some (.cells true [.bool false] 1)
 k6:N b6=some (.cells true [.int .i64 i] 1)
def Tr(M0:Mem)(b2 b3 b4 b5 b6:Nat)(i:Nat)(d:Dk)(ln:B8)(N:Mem):Exit->Env->Mem->Prop
 | .exit id,_,N'=>id=1/\i+1<=40/\ln=[]/\CN M0 b2 b3 b4 b5 b6 (i+1) d N'/\cP N N'
 | .ret,_,N'=>40<i+1/\Sub M0 N'/\N' b2=some (.cells true [str [],str [],.slice none 0 0] 3)/\N' b3=some (.cells true [str []] 1)/\N' b4=some (.cells true [.bool false] 1)/\cP N N'
 | _,_,_=>False
def TC(M0:Mem)(b2 b3 b4 b5 b6 b7:Nat)(i:Nat)(d:Dk)(ln:B8)(N:Mem)(env:Env)(N':Mem):Prop:=
 i+1<=40/\ln≠[]/\env 7=.pointer (some ⟨b7,0,none⟩)/\env 10=str (dr d ln).2/\CN M0 b2 b3 b4 b5 b6 (i+1) (dr d ln).1 N'/\cP N N'
theorem ig{M:Mem}{b:Nat}{B:Blk}(h:M b=some B):M.put b B=M:=by
 funext i;unfold Mem.put;split
 .rename_i e;subst e;exact h.symm
 .rfl
theorem MQ(pc:B8)(M:Mem)(R:VP)(hl:pc.length<=1000000)(h:R (str (Lib.trimSuffix pc [10])) M):ar prog 54 [str pc,str [10]] M R:=
 dK _ ⟨_,func54,by kernel_rfl,by kernel_rfl⟩ (fun w _=>(Tryz.strings_TrimSuffix ⟨pc.toArray⟩ ⟨#[10]⟩ w (by show pc.toArray.size<=_;rw[size_toArray];omega)).mono (by rintro e w' ⟨rfl,rfl⟩;exact⟨rfl,Below.refl _ _⟩)) h
theorem HF(pc:B8):(Lib.trimSuffix pc [10]).length<=pc.length:=by
 unfold Lib.trimSuffix;split
 .rw[lTa];omega
 .exact lRf _
theorem UG{M0 M1 M':Mem}{u v':Value}{d d':Dk}(o:Own M0 u (strs d.ms) M1)(g:Gv M1 u d v' d' M'):∃ M8,Own M0 v' (strs d'.ms) M8/\Sub M8 M':=by
 rcases g with ⟨rfl,h,rfl⟩|o'
 .rw[h];exact⟨_,o,Sub.refl _⟩
 .obtain⟨M8,h1,h2,_⟩:=dI o.sub o';exact⟨M8,h1,h2⟩
theorem Te(M0:Mem)(b2 b3 b4 b5 b6 b7 i:Nat)(d:Dk)(pc:B8)(N:Mem)(env:Env)(hap:Da b2 b3 b4 b5 b6)(hi:i<=40)(hok:d.ok)(hpc:pc.length<=1000000)(hvar:cj M0)(hN:CN M0 b2 b3 b4 b5 b6 i d N)
  (e2:env 2=.pointer (some ⟨b2,0,none⟩)) (e3:env 3=.pointer (some ⟨b3,0,none⟩)) (e4:env 4=.pointer (some ⟨b4,0,none⟩)) (e5:env 5=.pointer (some ⟨b5,0,none⟩)) (e6:env 6=.pointer (some ⟨b6,0,none⟩)) (e7:env 7=.pointer (some ⟨b7,0,none⟩)) (e8:env 8=str pc) :
  vcL prog tab 41 [Vc,JP,T4,KZ,I1] (TC M0 b2 b3 b4 b5 b6 b7 i d (Lib.trimSuffix pc [10]) N) (Tr M0 b2 b3 b4 b5 b6 i d (Lib.trimSuffix pc [10]) N) env N:=by
 obtain⟨⟨u,M1,o1,s1,k5,m2,m3,m4,m5,m6⟩,k2,k3,k4,k6⟩:=hN;have hfu:=aD o1.rd;have hS0:Sub M0 N:=o1.sub.trans s1;unfold Vc JP T4 KZ I1;have hi1:(i:Int)+1=((i+1:Nat):Int):=by omega
 have s6:Sub M1 (N.put b6 (.cells true [.int .i64 (i+1:Nat)] 1)):=s1.put m6 _;have q2:(N.put b6 (.cells true [.int .i64 (i+1:Nat)] 1)) b2=_:=(al _ _ hap.n26).trans k2;have q3:(N.put b6 (.cells true [.int .i64 (i+1:Nat)] 1)) b3=_:=(al _ _ hap.n36).trans k3;have q4:(N.put b6 (.cells true [.int .i64 (i+1:Nat)] 1)) b4=_:=(al _ _ hap.n46).trans k4;have q5:(N.put b6 (.cells true [.int .i64 (i+1:Nat)] 1)) b5=_:=(al _ _ hap.n56).trans k5;have q6:=ae N b6 (.cells true [.int .i64 (i+1:Nat)] 1);have w6:cP N (N.put b6 (.cells true [.int .i64 (i+1:Nat)] 1)):=(cP.refl N).put _ _ rfl;obtain⟨i1,hi2⟩:∃ i1,i1=i+1:=⟨_,rfl⟩;unfold TC Tr;rw[<-hi2]at hi1 s6 q2 q3 q4 q5 q6 w6 ⊢;simp(disch:=omega)[e6,ak k6,k6,aj,hi1];have hs06:Sub M0 (N.put b6 (.cells true [.int .i64 i1] 1)):=o1.sub.trans s6;generalize N.put b6 (.cells true [.int .i64 i1] 1)=N6 at *;by_cases hgt:40<i1
 .have hgI:(40:Int)<(i1:Nat):=by omega
  have p2:N6.put b2 (.cells true [str [],str [],.slice none 0 0] 3)=N6:=ig q2;have p3:N6.put b3 (.cells true [str []] 1)=N6:=ig q3;have p4:N6.put b4 (.cells true [.bool false] 1)=N6:=ig q4;simp(disch:=omega)[hgI,e2,e3,e4,q2,aj,p2,q3,p3,q4,p4];exact⟨hgt,hs06,w6⟩
 have hgI:¬(40:Int)<(i1:Nat):=by omega
 have htl:=HF pc;simp(disch:=omega)[hgI,e8];refine MQ pc _ _ hpc ?_;generalize Lib.trimSuffix pc [10]=ln at *;by_cases hln:ln=[]
 .subst hln;refine sS ?_;exact⟨by omega,⟨⟨u,M1,o1,s6,q5,m2,m3,m4,m5,m6⟩,q2,q3,q4,q6⟩,w6⟩
 .simp(disch:=omega)[bNe.2 hln,e5,aq q5];refine HC d u ln _ _ hok (hvar.sub hs06) (o1.rd.sub s6) (by omega) ?_;intro d' v' t M7 g7 hrun;have w7:=w6.gv g7;have hf7:=aD (Qc (o1.rd.sub s6) g7);obtain⟨M',g',t1,n1⟩:=Eh s6 g7;have r2:=da g7 _ _ q2;have r3:=da g7 _ _ q3;have r4:=da g7 _ _ q4;have r5:=da g7 _ _ q5;have r6:=da g7 _ _ q6;obtain⟨M8,o8,t8⟩:=UG o1 g';have z2:=ba t8 (n1 _ _ m2 q2);have z3:=ba t8 (n1 _ _ m3 q3);have z4:=ba t8 (n1 _ _ m4 q4);have z5:=ba t8 (n1 _ _ m5 q5);have z6:=ba t8 (n1 _ _ m6 q6);have s8:Sub M8 M7:=t8.trans t1;clear g' t1 n1 t8;unfold dkV;refine sS ?_;intro b9 hb9;have n29:b2≠b9:=by rintro rfl;rw[r2]at hb9;cases hb9
  have n39:b3≠b9:=by rintro rfl;rw[r3]at hb9;cases hb9
  have n49:b4≠b9:=by rintro rfl;rw[r4]at hb9;cases hb9
  have n59:b5≠b9:=by rintro rfl;rw[r5]at hb9;cases hb9
  have n69:b6≠b9:=by rintro rfl;rw[r6]at hb9;cases hb9
  simp(disch:=omega)[hf7,aj,aN,r5,e5];rw[hrun];exact⟨by omega,hln,e7,rfl,⟨⟨v',M8,o8,(s8.putN hb9 _).ovr z5 _,ae _ _ _,z2,z3,z4,z5,z6⟩,by rw[al _ _ hap.n25,al _ _ n29];exact r2,by rw[al _ _ hap.n35,al _ _ n39];exact r3,by rw[al _ _ hap.n45,al _ _ n49];exact r4,by rw[al _ _ (Ne.symm hap.n56),al _ _ n69];exact r6⟩,(w7.put _ _ rfl).put _ _ rfl⟩
set_option maxRecDepth 4000
def goX:Nat->B8->Nat->Dk×B8->Option (Dk×B8)
 | 0,_,_,s=>some s
 | f+1,r,i,s=>if r=[] then some s else if 40<i+1 then none else goX f (fp r) (i+1) (cD s (Lib.trimSuffix (iK r) [10]))
theorem Cx{N:Mem}{b:Nat}(h:N b=none):¬ owns N b:=fun ⟨B,h1,_⟩=>by rw[h]at h1;cases h1
theorem aQ{w:World}{b:Nat}{o:Obj}(h:w.heap[b]?=some o):b<w.heap.size:=(Array.getElem?_eq_some_iff.1 h).1
theorem cf{N N':Mem}{w w':World}(x:Ext N w N' w'){b:Nat}{o:Obj}(hb:w.heap[b]?=some o)(hn:N b=none):w'.heap[b]?=some o:=(x.block b (aQ hb) (Cx hn)).trans hb
theorem dC{N N':Mem}{w w':World}(x:Ext N w N' w')(hnew:cP N N'){b:Nat}(hb:b<w.heap.size)(hn:N b=none):N' b=none:=by
 cases h:N' b with
 | none=>rfl
 | some B=>exact((x.own b ⟨B,h,hnew b B hn h⟩).elim (fun h'=>absurd h' (Cx hn)) (fun h'=>by omega))
theorem jq{N:Mem}{w w':World}{X:Nat}{row:Option Nat}(h:Rep N w)(ht:eO X row w w')(hX:N X=none)(hrow:∀ g,row=some g->N g=none):Rep N w':=fun b B hB=>
 Blk.holds_of (ht.block b (kO h hB) (by rintro rfl;rw[hX]at hB;cases hB) (fun e=>by rw[hrow b e]at hB;cases hB)) (h b B hB)
theorem jm{M0 N:Mem}{w0 w w':World}{X:Nat}{row:Option Nat}(h:Ext M0 w0 N w)(ht:eO X row w w')(hX:w0.heap.size<=X)(hrow:∀ g,row=some g->w0.heap.size<=g):Ext M0 w0 N w':=
 ⟨ht.os.trans h.os,ht.tape.trans h.tape,ht.output.trans h.output,Nat.le_trans h.size ht.size,fun b hb ho=>(ht.block b (Nat.lt_of_lt_of_le hb h.size) (by omega) (fun e=>by have:=hrow b e;omega)).trans (h.block b hb ho),h.own⟩
theorem fm(w:World)(X:Nat)(o:Obj):eO X none w (w.putObj X o):=⟨rfl,rfl,rfl,by simp,fun k _ hk _=>World.putObj_heap_other hk⟩
theorem rJ{w w':World}{base:Nat}{e:TypeId}{size:Nat}{v:Value}{n:Nat}{xs:List Value}(h:w.ownsRowF base e size v n xs)(hs:∀ g o,v.ownBlock=some g->w.heap[g]?=some o->w'.heap[g]?=some o):w'.ownsRowF base e size v n xs:=by
 refine⟨h.1,?_⟩;rcases h.2 with h|⟨g,cap,cur,fz,rfl,h1,h2,h3⟩
 .exact .inl h
 .exact .inr ⟨g,cap,cur,fz,rfl,h1,hs g _ rfl h2,h3⟩
structure Core(M0:Mem)(w0:World)(b7:Nat)(N:Mem)(W:World)(out:B8):Prop where
 rep:Rep N W
 ext:Ext M0 w0 N W
 n7:N b7=none
 bd:∃ p v,(p=.pointer none\/p=.pointer (some ⟨b7,0,none⟩))/\W.heap[b7]?=some (.cells #[p,v] 71 (0,0))/\W.ownsRowF w0.heap.size 5 1 v (av out).length (av out)/\v.ownBlock≠some b7/\(∀ g,v.ownBlock=some g->N g=none)/\(out=[]->v=.slice none 0 0)
theorem jr{w:World}{base:Nat}{e:TypeId}{size:Nat}{v:Value}{n:Nat}{xs:List Value}(h:w.ownsRowF base e size v n xs){g:Nat}(hg:v.ownBlock=some g):base<=g/\∃ c fz,w.heap[g]?=some (.cells c e fz):=by
 rcases h.2 with ⟨rfl,_⟩|⟨g',cap,cur,fz,rfl,h1,h2,h3⟩
 .cases hg
 .cases hg;exact⟨h1,_,_,h2⟩
theorem Core.turns{M0:Mem}{w0:World}{b7:Nat}{N:Mem}{W W':World}{out:B8}{X:Nat}(h:Core M0 w0 b7 N W out)(ht:eO X none W W')(hN:N X=none)(hX:w0.heap.size<=X)(h1:∀ c fz,W.heap[X]?≠some (.cells c 5 fz))(h2:∀ c fz,W.heap[X]?≠some (.cells c 71 fz)):Core M0 w0 b7 N W' out:=by
 obtain⟨p,v,hp,hb,ho,hne,hg,hz⟩:=h.bd;refine⟨jq h.rep ht hN (fun g e=>by cases e),jm h.ext ht hX (fun g e=>by cases e),h.n7,p,v,hp,?_,?_,hne,hg,hz⟩
 .exact(ht.block b7 (aQ hb) (by rintro rfl;exact h2 _ _ hb) (fun e=>by cases e)).trans hb
 .exact rJ ho fun g o hgo hgh=>by
   obtain⟨_,c,fz,hh⟩:=jr ho hgo;exact(ht.block g (aQ hgh) (by rintro rfl;exact h1 _ _ hh) (fun e=>by cases e)).trans hgh
theorem Core.step{M0:Mem}{w0:World}{b7:Nat}{N N':Mem}{W W':World}{out:B8}(h:Core M0 w0 b7 N W out)(x:Ext N W N' W')(hr:Rep N' W')(hnew:cP N N'):Core M0 w0 b7 N' W' out:=by
 obtain⟨p,v,hp,hb,ho,hne,hg,hz⟩:=h.bd;refine⟨hr,h.ext.trans x,dC x hnew (aQ hb) h.n7,p,v,hp,cf x hb h.n7,?_,hne,?_,hz⟩
 .exact rJ ho fun g o hgo hgh=>cf x hgh (hg g hgo)
 .intro g hgo;obtain⟨_,c,fz,hh⟩:=jr ho hgo;exact dC x hnew (aQ hh) (hg g hgo)
theorem aac(B b:Nat)(bs:List Value)(s:ByteArray)(v p:Value)(w:World)(hp:p=.pointer none\/p=.pointer (some ⟨b,0,none⟩))(hb:w.heap[b]?=some (.cells #[p,v] 71 (0,0)))
  (hown:w.ownsRowF B 5 1 v bs.length bs) (hne:v.ownBlock≠some b) (hB:B<=b) (hlen:bs.length+s.size<=140737488355328) (hBw:B<=w.heap.size) :
  Calls prog 55 #[.pointer (some ⟨b,0,none⟩),.string s] w fun e w'=>e=.returned (.tuple #[.int .i64 s.size,.nilIface])/\(∃ v',w'.heap[b]?=some (.cells #[.pointer (some ⟨b,0,none⟩),v'] 71 (0,0))/\w'.ownsRowF B 5 1 v' (bs++Lib.strCells s).length (bs++Lib.strCells s)/\v'.ownBlock≠some b/\∀ g',v'.ownBlock=some g'->v.ownBlock=some g'\/w.heap.size<=g')/\eO b v.ownBlock w w':=
 BA (ρ:=Tryz.lays156_ren) { Tryz.lays156 with } Tryz.Builder_Extra_156 B b bs s v p w hp hb hown hne hB hlen hBw
abbrev iQ(tm:Array Value)(D:Nat)(fn:FuncId)(st:LoopState)(pend:Option Code):Loop:={ state:=st,pending:=pend,fn:=fn,tmps:=tm,params:=#[18],assign:=js,body:=xN,defers:=D }
def JC(M0:Mem)(w0:World)(b2 b3 b4 b5 b6 b7 l D Bs:Nat)(tm:Array Value)(fn:FuncId)(Z:Option (Dk×B8))(r:B8)(W:World):Prop:=
 ∃ f i s N,r.length<=f/\i<=40/\s.1.ok/\s.2.length<=i*1100001/\goX f r i s=Z/\CN M0 b2 b3 b4 b5 b6 i s.1 N/\Core M0 w0 b7 N W s.2/\N l=none/\N D=none/\N Bs=none /\
  W.heap[l]?=some (.loop (iQ tm D fn .ready none))/\W.heap[D]?=some (.deferred (some []))/\∃ c,W.heap[Bs]?=some (.cells c 9 (0,0))
def JX(M0:Mem)(w0:World)(b2 b3 b4 l D:Nat)(tm:Array Value)(fn:FuncId)(Z:Option (Dk×B8))(W:World):Prop:=
 Z=none/\∃ N,Rep N W/\Ext M0 w0 N W/\Sub M0 N/\N b2=some (.cells true [str [],str [],.slice none 0 0] 3)/\N b3=some (.cells true [str []] 1)/\N b4=some (.cells true [.bool false] 1)/\N l=none/\N D=none /\
  W.heap[l]?=some (.loop (iQ tm D fn .done (some .ret)))/\W.heap[D]?=some (.deferred (some []))
theorem DX{id:Nat}{Q:Exit->Act->World->Prop}{a:Act}{w:World}:Exit.inBlock id Q (.exit id) a w=Q .normal a w:=if_pos rfl
theorem yI{id:Nat}{Q:Exit->Act->World->Prop}{a:Act}{w:World}:Exit.inBlock id Q .normal a w=Q .normal a w:=rfl
theorem OU(r:B8):(iK r).length<=r.length:=by
 unfold iK;split
 .rw[lTa];omega
 .exact lRf _
theorem Ni(M0:Mem)(w0:World)(b2 b3 b4 b5 b6 b7 l D Bs:Nat)(tm:Array Value)(fn:FuncId)(Z:Option (Dk×B8))(oM:Env)(n:Nat)(hap:Da b2 b3 b4 b5 b6)(hvar:cj M0)(hB7:w0.heap.size<=b7)(hBl:w0.heap.size<=l)(hlD:l≠D)(hlB:l≠Bs)
  (htm:tm.size=41) (hev:(⟨tm,[]⟩:Act).eval=ev oM)
  (e2:oM 2=.pointer (some ⟨b2,0,none⟩)) (e3:oM 3=.pointer (some ⟨b3,0,none⟩)) (e4:oM 4=.pointer (some ⟨b4,0,none⟩)) (e5:oM 5=.pointer (some ⟨b5,0,none⟩)) (e6:oM 6=.pointer (some ⟨b6,0,none⟩)) (e7:oM 7=.pointer (some ⟨b7,0,none⟩))
  (r:B8) (W:World) (hJ:JC M0 w0 b2 b3 b4 b5 b6 b7 l D Bs tm fn Z r W) (hr:r≠[]) (hrl:r.length<=1000000) :
  YieldAt Fence.wide n prog l #[str (iK r)] W fun e W'=>
   (e=.returned (.bool true)/\JC M0 w0 b2 b3 b4 b5 b6 b7 l D Bs tm fn Z (fp r) W'/\W'.heap[Bs]?=W.heap[Bs]?)\/(e=.returned (.bool false)/\JX M0 w0 b2 b3 b4 l D tm fn Z W'):=by
 obtain⟨f,i,s,N,hf,hi,hok,hsl,hZ,hN,hC,nl,nD,nB,hL,hD,c,hBs⟩:=hJ;have hpcl:(iK r).length<=1000000:=Nat.le_trans (OU r) hrl;have htl:=po hr;obtain⟨f',rfl⟩:∃ f',f=f'+1:=⟨f-1,by have:0<r.length:=length_pos_iff.2 hr;omega⟩;unfold goX at hZ;rw[if_neg hr]at hZ;generalize iK r=pc at *;have hlnl:(Lib.trimSuffix pc [10]).length<=1000000:=Nat.le_trans (HF pc) hpcl;refine⟨fn,tm.setIfInBounds 18 (str pc),js,xN,by simpa[iQ] using run_yield (P:=prog) (args:=#[str pc]) hL rfl,roundIn_of_wpIn trivial ?_⟩;have hfit:fX [] 41 (put oM (some 18) (str pc)) (⟨tm.setIfInBounds 18 (str pc),[]⟩:Act):=(fX.put (a:=⟨tm,[]⟩) ⟨rfl,htm,hev⟩ (d:=some 18) (fun t e=>by cases e;decide) (str pc));have hA:lh (some l) n [] prog 41 js (fun e env' N'=>e=.normal/\env'=put (put oM (some 18) (str pc)) (some 8) (str pc)/\N=N') (put oM (some 18) (str pc)) N:=LL tab aU js _ _ _ (by kernel_rfl) (by kernel_rfl) (by unfold js;simp(disch:=omega));refine wpIn_mono (hA N W _ W hfit hC.rep (Ext.refl N W)) ?_
 rintro e a1 w1 ⟨env1,N1,f1,r1,x1,rfl,rfl,rfl⟩
 have hC1:=hC.step x1 r1 (cP.refl N);have hL1:=cf x1 hL nl;have hD1:=cf x1 hD nD;have hB1:=cf x1 hBs nB;refine⟨_,run_beginRound hL1 rfl,?_⟩;have hT2:=fm w1 l (.loop (iQ tm D fn .busy none));have hC2:=hC1.turns hT2 nl hBl (fun c fz e=>by rw[hL1]at e;cases e) (fun c fz e=>by rw[hL1]at e;cases e);have hL2:(w1.putObj l (.loop (iQ tm D fn .busy none))).heap[l]?=some (.loop (iQ tm D fn .busy none)):=World.putObj_heap_same (aQ hL1);have hD2:=(World.putObj_heap_other (o:=.loop (iQ tm D fn .busy none)) (w:=w1) (Ne.symm hlD)).trans hD1;have hB2:=(World.putObj_heap_other (o:=.loop (iQ tm D fn .busy none)) (w:=w1) (Ne.symm hlB)).trans hB1;have hBsz:w1.heap[Bs]?=W.heap[Bs]?:=hB1.trans hBs.symm;generalize w1.putObj l (.loop (iQ tm D fn .busy none))=w2 at *;clear hA hT2 hC hC1;have fin:∀(a:Act) (w:World) (N':Mem) (s':Dk×B8),¬ 40<i+1->s'.1.ok->s'.2.length<=(i+1)*1100001->cD s (Lib.trimSuffix pc [10])=s'->CN M0 b2 b3 b4 b5 b6 (i+1) s'.1 N'->Core M0 w0 b7 N' w s'.2->N' l=none->N' D=none->N' Bs=none ->
   w.heap[l]?=some (.loop (iQ tm D fn .busy none))->w.heap[D]?=some (.deferred (some []))->w.heap[Bs]?=some (.cells c 9 (0,0)) ->
   roundPost prog l (fun e W'=>(e=.returned (.bool true)/\JC M0 w0 b2 b3 b4 b5 b6 b7 l D Bs tm fn Z (fp r) W'/\W'.heap[Bs]?=W.heap[Bs]?)\/(e=.returned (.bool false)/\JX M0 w0 b2 b3 b4 l D tm fn Z W')) .normal a w:=by
  intro a w N' s' h40 hok' hsl' hst hcn hcore ml mD mB gL gD gB;refine⟨_,_,run_endRound none gL,.inl ⟨rfl,?_,(World.putObj_heap_other (Ne.symm hlB)).trans (gB.trans hBs.symm)⟩⟩;have ht:=fm w l (.loop (iQ tm D fn .ready none));rw[if_neg h40,hst]at hZ;exact⟨f',i+1,s',N',by omega,by omega,hok',hsl',hZ,hcn,hcore.turns ht ml hBl (fun c fz e=>by rw[gL]at e;cases e) (fun c fz e=>by rw[gL]at e;cases e),ml,mD,mB,World.putObj_heap_same (aQ gL),(World.putObj_heap_other (Ne.symm hlD)).trans gD,c,(World.putObj_heap_other (Ne.symm hlB)).trans gB⟩
 unfold xN;refine wpIn_block ?_;refine KN (ro:=some l) (k:=n) (ds:=[]) aU Jp (M0:=N) (w0:=w2) ?hq ?hz _ _ N a1 w2 (by kernel_rfl) (Te M0 b2 b3 b4 b5 b6 b7 i s.1 pc N _ hap hi hok hpcl hvar hN (by simp[e2]) (by simp[e3]) (by simp[e4]) (by simp[e5]) (by simp[e6]) (by simp[e7]) (by simp)) f1 hC2.rep (Ext.refl N w2)
 case hq=>
  rintro e a w hne ⟨env',N',g',r',x',h'⟩
  cases e with
  | exit id=>
   obtain⟨rfl,hi40,hln,hcn,hnew⟩:=h';rw[DX];refine fin a w N' s (by omega) hok (Nat.le_trans hsl (Nat.mul_le_mul_right _ (Nat.le_succ i))) (by rw[hln];unfold cD;rw[if_pos rfl]) hcn (hC2.step x' r' hnew) (dC x' hnew (aQ hL2) nl) (dC x' hnew (aQ hD2) nD) (dC x' hnew (aQ hB2) nB) (cf x' hL2 nl) (cf x' hD2 nD) (cf x' hB2 nB)
  | ret=>
   obtain⟨h40,hs0,k2,k3,k4,hnew⟩:=h';have gL:=cf x' hL2 nl;refine⟨_,_,run_endRound (some .ret) gL,.inr ⟨rfl,?_⟩⟩;rw[if_pos h40]at hZ;have ml:=dC x' hnew (aQ hL2) nl;have ht:=fm w l (.loop (iQ tm D fn .done (some .ret)));exact⟨hZ.symm,N',jq r' ht ml (fun g e=>by cases e),jm (hC2.ext.trans x') ht hBl (fun g e=>by cases e),hs0,k2,k3,k4,ml,dC x' hnew (aQ hD2) nD,World.putObj_heap_same (aQ gL),(World.putObj_heap_other (Ne.symm hlD)).trans (cf x' hD2 nD)⟩
  | normal=>exact absurd rfl hne
  | goto id=>exact h'.elim
  | panic c=>exact h'.elim
  | outgrown=>exact h'.elim
 case hz=>
  rintro env' N' a w g' r' x' ⟨hi40,hln,e7',e10,hcn,hnew⟩
  have hC3:=hC2.step x' r' hnew;have gl:=dC x' hnew (aQ hL2) nl;have gD:=dC x' hnew (aQ hD2) nD;have gB:=dC x' hnew (aQ hB2) nB;have hL3:=cf x' hL2 nl;have hD3:=cf x' hD2 nD;have hB3:=cf x' hB2 nB;have hrl2:=pO hok hlnl;have hok2:=fx hok (Lib.trimSuffix pc [10]);have hst:cD s (Lib.trimSuffix pc [10])=((dr s.1 (Lib.trimSuffix pc [10])).1,s.2++(dr s.1 (Lib.trimSuffix pc [10])).2++[10]):=by unfold cD;rw[if_neg hln]
  generalize dr s.1 (Lib.trimSuffix pc [10])=RR at *;unfold Jp;refine wpIn_region_list ?_;refine jy (ro:=some l) (k:=n) (ds:=[]) (n:=41) (M0:=N') (w0:=w) (K:=fun env2 N2=>N'=N2/\env2 7=.pointer (some ⟨b7,0,none⟩)/\env2 36=str (RR.2++[10])) aU [Mr,K5,PT] [PT] ?_ [Mr,K5] env' N' a w (by kernel_rfl) (by unfold Mr K5;simp(disch:=omega)[e10,e7']) g' r' (Ext.refl N' w)
  rintro env2 N2 a2 w3 f3 r3 x3 ⟨hNN,h7,h36⟩
  subst hNN;refine wpListIn_plain rfl fun K hK=>?_;refine vD (env:=env2) (x:=.func 55) rfl rfl ⟨_,func55,by kernel_rfl,by kernel_rfl⟩ f3.ev ?_;have hC4:=hC3.step x3 r3 (cP.refl N');have hL4:=cf x3 hL3 gl;have hD4:=cf x3 hD3 gD;have hB4:=cf x3 hB3 gB;obtain⟨p,v,hp,hb,ho,hnb,hg,_⟩:=hC4.bd;have hargs:((#[.tmp 7,.tmp 36]:Array Operand).toList.map (ev env2)).toArray = #[.pointer (some ⟨b7,0,none⟩),.string ⟨(RR.2++[10]).toArray⟩]:=by
   show #[env2 7,env2 36]=_;rw[h7,h36];rfl
  rw[hargs];have hbl:(av s.2).length=s.2.length:=aO _;have h1s:(⟨(RR.2++[10]).toArray⟩:ByteArray).size=RR.2.length+1:=by
   show (RR.2++[10]).toArray.size=_;rw[size_toArray,lAp];rfl
  have hs2:s.2.length<=44000040:=Nat.le_trans hsl (Nat.mul_le_mul_right 1100001 hi);have hlen:(av s.2).length+(⟨(RR.2++[10]).toArray⟩:ByteArray).size<=140737488355328:=by rw[h1s,hbl];omega
  have hW:=aac w0.heap.size b7 (av s.2) ⟨(RR.2++[10]).toArray⟩ v p w3 hp hb ho hnb hB7 hlen hC4.ext.size;refine hW.mono ?_
  rintro e w4 ⟨rfl,⟨v',hb',ho',hn',hpl⟩,hT⟩
  refine⟨_,rfl,hK _ _ (wpListIn_nil ?_)⟩;rw[yI];have hout:av s.2++Lib.strCells ⟨(RR.2++[10]).toArray⟩=av (s.2++RR.2++[10]):=by
   rw[append_assoc];unfold av;rw[map_append];rfl
  rw[hout]at ho';have hgB:∀ g,v.ownBlock=some g->w0.heap.size<=g:=fun g hgo=>(jr ho hgo).1;have other:∀ {k:Nat} {o:Obj},w3.heap[k]?=some o->(∀ c fz,o≠.cells c 5 fz)->(∀ c fz,o≠.cells c 71 fz)->w4.heap[k]?=some o:=by
   intro k o hk h5 h38;refine(hT.block k (aQ hk) ?_ ?_).trans hk
   .rintro rfl;rw[hb]at hk;cases hk;exact h38 _ _ rfl
   .intro e;obtain⟨_,c',fz',hh⟩:=jr ho e;rw[hh]at hk;cases hk;exact h5 _ _ rfl
  refine fin _ w4 N' (RR.1,s.2++RR.2++[10]) (by omega) hok2 (by show (s.2++RR.2++[10]).length<=_;rw[lAp,lAp,Nat.succ_mul];have:([10]:B8).length=1:=rfl;omega) hst hcn ?_ gl gD gB (other hL4 (fun _ _ e=>by cases e) (fun _ _ e=>by cases e)) (other hD4 (fun _ _ e=>by cases e) (fun _ _ e=>by cases e)) (other hB4 (fun _ _ e=>by cases e) (fun _ _ e=>by cases e));refine⟨jq hC4.rep hT hC4.n7 hg,jm hC4.ext hT hB7 hgB,hC4.n7,_,v',.inr rfl,hb',ho',hn',?_,fun e=>absurd (congrArg length e) (by simp)⟩;intro g' hg';rcases hpl g' hg' with h|h
  .exact hg g' h
  .cases hn2:N' g' with
   | none=>rfl
   | some B=>have:=kO hC4.rep hn2;omega
end Go.Proofs.YtapimhjbilkfpaaGreatDoor
namespace Go.Proofs.YtapimhjbilkfpaaGreatDoor
open Go Go.Proofs.Tryz Go.RowKit Go.Shelf List
set_option maxRecDepth 4000
def Lj:Code:=(Code.region 0 #[{ dst:=(some 2),op:=(Op.alloc 28),type:=0,pos:= "l11_console.go:321",after:=#[],guard:=none },{ dst:=(some 3),op:=(Op.alloc 9),type:=0,pos:= "l11_console.go:321",after:=#[],guard:=none },{ dst:=(some 4),op:=(Op.alloc 4),type:=0,pos:= "l11_console.go:321",after:=#[],guard:=none }] false)
def Mm:Code:=(Code.seq (Code.region 1 #[{ dst:=(some 11),op:=(Op.move (Operand.tmp 0)),type:=9,pos:= "l11_console.go:322",after:=#[],guard:=none },{ dst:=(some 12),op:=(Op.call { callee:=(Callee.builtin Builtin.len),args:=#[(Operand.tmp 11)],argTypes:=#[9] }),type:=3,pos:= "l11_console.go:322",after:=#[{ on:=0,ground:=Ground.data }],guard:=none },{ dst:=(some 13),op:=(Op.binOp BinOp.gtr 3 (Operand.tmp 12) (Operand.const (Value.int IntKind.i64 4000)) 3),type:=4,pos:= "l11_console.go:322",after:=#[{ on:=1,ground:=Ground.data }],guard:=none }] false) (Code.cond (Operand.tmp 13) (Code.seq (Code.region 2 #[{ dst:=(some 14),op:=(Op.build 28 #[]),type:=28,pos:= "l11_console.go:323",after:=#[],guard:=none },{ dst:=none,op:=(Op.store 28 (Operand.tmp 2) (Operand.tmp 14)),type:=0,pos:= "l11_console.go:323",after:=#[{ on:=0,ground:=Ground.data },{ on:=0,ground:=Ground.phase }],guard:=none },{ dst:=none,op:=(Op.store 9 (Operand.tmp 3) (Operand.const (Value.string { data:=#[] }))),type:=0,pos:= "l11_console.go:323",after:=#[{ on:=1,ground:=Ground.chain },{ on:=0,ground:=Ground.phase },{ on:=1,ground:=Ground.phase }],guard:=none },{ dst:=none,op:=(Op.store 4 (Operand.tmp 4) (Operand.const (Value.bool false))),type:=0,pos:= "l11_console.go:323",after:=#[{ on:=2,ground:=Ground.chain },{ on:=0,ground:=Ground.phase },{ on:=1,ground:=Ground.phase },{ on:=2,ground:=Ground.phase }],guard:=none }] false) Code.ret) Code.skip))
def LZ:Code:=(Code.region 3 #[{ dst:=(some 15),op:=(Op.call { callee:=(Callee.value (Operand.func 13)),args:=#[],argTypes:=#[] }),type:=28,pos:= "l11_console.go:325",after:=#[],guard:=none },{ dst:=(some 5),op:=(Op.alloc 28),type:=0,pos:= "l11_console.go:325",after:=#[],guard:=none },{ dst:=(some 6),op:=(Op.alloc 3),type:=0,pos:= "l11_console.go:325",after:=#[],guard:=none },{ dst:=none,op:=(Op.store 28 (Operand.tmp 5) (Operand.tmp 15)),type:=0,pos:= "l11_console.go:325",after:=#[{ on:=1,ground:=Ground.data },{ on:=0,ground:=Ground.data },{ on:=0,ground:=Ground.chain },{ on:=0,ground:=Ground.phase },{ on:=1,ground:=Ground.phase },{ on:=2,ground:=Ground.phase }],guard:=none },{ dst:=none,op:=(Op.store 3 (Operand.tmp 6) (Operand.const (Value.int IntKind.i64 0))),type:=0,pos:= "l11_console.go:325",after:=#[{ on:=2,ground:=Ground.data },{ on:=3,ground:=Ground.chain },{ on:=0,ground:=Ground.phase },{ on:=1,ground:=Ground.phase },{ on:=2,ground:=Ground.phase },{ on:=3,ground:=Ground.phase }],guard:=none }] false)
def Gk:Oper:={ dst:=(some 7),op:=(Op.alloc 71),type:=0,pos:= "l11_console.go:326",after:=#[],guard:=none }
def TG:Code:=.region 4 #[Gk] false
def Ee:Oper:={ dst:=(some 16),op:=(Op.move (Operand.tmp 0)),type:=9,pos:= "l11_console.go:327",after:=#[],guard:=none }
def Ez:Oper:={ dst:=(some 17),op:=(Op.call { callee:=(Callee.value (Operand.func 53)),args:=#[(Operand.tmp 16)],argTypes:=#[9] }),type:=73,pos:= "l11_console.go:327",after:=#[{ on:=0,ground:=Ground.data }],guard:=none }
def Tx:Code:=.region 5 #[Ee,Ez] false
def zc:Code:=.block 0 (.rangeFunc (Operand.tmp 17) #[18] js xN)
def wA:Oper:={ dst:=(some 38),op:=(Op.load 28 (Operand.tmp 5)),type:=28,pos:= "l11_console.go:339",after:=#[],guard:=none }
def wO:Oper:={ dst:=(some 39),op:=(Op.call { callee:=(Callee.value (Operand.func 30)),args:=#[(Operand.tmp 38)],argTypes:=#[28] }),type:=28,pos:= "l11_console.go:339",after:=#[{ on:=0,ground:=Ground.data }],guard:=none }
def Dq:Oper:={ dst:=(some 40),op:=(Op.call { callee:=(Callee.value (Operand.func 56)),args:=#[(Operand.tmp 7)],argTypes:=#[71] }),type:=9,pos:= "l11_console.go:339",after:=#[{ on:=1,ground:=Ground.chain }],guard:=none }
def tL:Oper:={ dst:=none,op:=(Op.store 28 (Operand.tmp 2) (Operand.tmp 39)),type:=0,pos:= "l11_console.go:339",after:=#[{ on:=1,ground:=Ground.data },{ on:=2,ground:=Ground.chain },{ on:=0,ground:=Ground.phase },{ on:=1,ground:=Ground.phase },{ on:=2,ground:=(Ground.textOnly Departure.lateStoresUnsure) }],guard:=none }
def rV:Oper:={ dst:=none,op:=(Op.store 9 (Operand.tmp 3) (Operand.tmp 40)),type:=0,pos:= "l11_console.go:339",after:=#[{ on:=2,ground:=Ground.data },{ on:=3,ground:=Ground.chain },{ on:=0,ground:=Ground.phase },{ on:=1,ground:=Ground.phase },{ on:=2,ground:=Ground.phase },{ on:=3,ground:=Ground.phase }],guard:=none }
def tJ:Oper:={ dst:=none,op:=(Op.store 4 (Operand.tmp 4) (Operand.const (Value.bool true))),type:=0,pos:= "l11_console.go:339",after:=#[{ on:=4,ground:=Ground.chain },{ on:=0,ground:=Ground.phase },{ on:=1,ground:=Ground.phase },{ on:=2,ground:=Ground.phase },{ on:=3,ground:=Ground.phase },{ on:=4,ground:=Ground.phase }],guard:=none }
def Eo:Code:=.region 15 #[wA,wO,Dq,tL,rV,tJ] false
def Mp:Code:=SI [Lj,Mm,LZ] (.seq TG (.seq (.seq Tx zc) (.seq Eo .ret)))
theorem Pj:Tryz.f27.body=some Mp:=by kernel_rfl
def DZ(l:B8):Option (Dk×B8):=if l.length<=4000 then goX l.length l 0 (dZ,[]) else none
theorem BR{M0 N:Mem}{w0 w:World}(h:Ext M0 w0 N w)(o:Obj):Ext M0 w0 N (w.alloc o):=
 ⟨h.os,h.tape,h.output,Nat.le_trans h.size (by simp),fun b hb ho=>(Below.heap_alloc _ _ b (Nat.lt_of_lt_of_le hb h.size)).trans (h.block b hb ho),h.own⟩
theorem BY{N:Mem}{w:World}(h:Rep N w)(o:Obj):Rep N (w.alloc o):=fun b B hB=>Blk.holds_of (Below.heap_alloc _ _ b (kO h hB)) (h b B hB)
theorem qL{M0:Mem}{w0:World}{b7:Nat}{N:Mem}{W:World}{out:B8}(h:Core M0 w0 b7 N W out)(o:Obj):Core M0 w0 b7 N (W.alloc o) out:=by
 obtain⟨p,v,hp,hb,ho,hne,hg,hz⟩:=h.bd;exact⟨BY h.rep o,BR h.ext o,h.n7,p,v,hp,(Below.heap_alloc _ _ _ (aQ hb)).trans hb,rJ ho fun g o' hgo hgh=>(Below.heap_alloc _ _ g (aQ hgh)).trans hgh,hne,hg,hz⟩
theorem mv{N:Mem}{w:World}(h:Rep N w){b:Nat}(hb:w.heap.size<=b):N b=none:=by
 cases hn:N b with
 | none=>rfl
 | some B=>have:=kO h hn;omega
attribute [-simp] me pz in
set_option maxRecDepth 100000 in
theorem Bz(a:Act)(w:World):(execOp a.eval Gk).run prog w=.ok (.value (.pointer (some ⟨w.heap.size,0,none⟩))) (w.alloc (.cells #[.pointer none,.slice none 0 0] 71)):=by
 unfold Gk
 go_simp
attribute [-simp] me pz in
attribute [local go_sem] Oper.semAt_some in
set_option maxRecDepth 100000 in
theorem FT(l:B8)(w:World):Calls prog 53 #[.string ⟨l.toArray⟩] w fun e w'=>e=.returned (.func (.func 93) #[] #[.pointer (some ⟨w.heap.size,0,none⟩)])/\w'=w.alloc (.cells #[.string ⟨l.toArray⟩] 9):=by
 refine(callsIn_wide (n:=3)).1 ?_;refine callsIn_of_wp func53 rfl trivial ?_ rfl;simp only[ntmps53,size_toArray,lCo,length_nil,Nat.reduceAdd,Nat.reduceSub,Array.replicate_succ,Array.replicate_zero,push_toArray,append_toArray,nil_append,cons_append]
 gi_wp2
 refine bodyPost_ret (results_tmp rfl _ _ _) rfl ?_;exact⟨rfl,rfl⟩
set_option maxRecDepth 4000
theorem Co{M:Mem}{w:World}{R:VP}{k D:Nat}{env:Env}{N:Mem}{a:Act}{W:World}(hf:fX [{ target:=.collected D,args:=#[] }] 41 env a)(hr:Rep N W)(hx:Ext M w N W)(hD:W.heap[D]?=some (.deferred (some [])))(nD:N D=none)(hb:w.heap.size<=D)
  (h:oN (dA tab env N Tryz.f27.results.toList) R N):bodyPostM Fence.wide k prog Tryz.f27 (fun e w'=>∃ v M',e=.returned v/\Rep M' w'/\Ext M w M' w'/\R v M') .ret a W:=by
 unfold bodyPostM;show LeavesInM _ _ _ _ _ _ a.defers .returning W;rw[hf.defers];refine⟨by simp,.inl ⟨D,_,rfl,run_takeDeferred hD,?_⟩⟩;have ht:=fm W D (.deferred none);have hr2:=jq hr ht nD (fun g e=>by cases e);have hx2:=jm hx ht hb (fun g e=>by cases e);obtain⟨v,k1,M1,k2,k3⟩:=xT aU hf.bare hr2 h;exact⟨v,k1,v,M1,rfl,hr2.sub k2,hx2.sub k2,k3⟩
theorem Jb{M:Mem}{w:World}{R:VP}{k:Nat}{env:Env}{N:Mem}{a:Act}{W:World}(hf:fX [] 41 env a)(hr:Rep N W)(hx:Ext M w N W)
  (h:oN (dA tab env N Tryz.f27.results.toList) R N):bodyPostM Fence.wide k prog Tryz.f27 (fun e w'=>∃ v M',e=.returned v/\Rep M' w'/\Ext M w M' w'/\R v M') .ret a W:=by
 unfold bodyPostM;show LeavesInM _ _ _ _ _ _ a.defers .returning W;rw[hf.defers];obtain⟨v,k1,M1,k2,k3⟩:=xT aU hf.bare hr h;exact⟨v,k1,v,M1,rfl,hr.sub k2,hx.sub k2,k3⟩
def K1(M:Mem)(l:B8)(env:Env)(N:Mem):Prop:=∃ b2 b3 b4 b5 b6,Da b2 b3 b4 b5 b6/\env 2=.pointer (some ⟨b2,0,none⟩)/\env 3=.pointer (some ⟨b3,0,none⟩)/\env 4=.pointer (some ⟨b4,0,none⟩)/\env 5=.pointer (some ⟨b5,0,none⟩)/\env 6=.pointer (some ⟨b6,0,none⟩)/\env 0=str l /\
 CN M b2 b3 b4 b5 b6 0 dZ N/\l.length<=4000
def Q1(M:Mem)(l:B8)(R:VP):Exit->Env->Mem->Prop
 | .ret,env,N=>oN (dA tab env N Tryz.f27.results.toList) R N
 | _,_,_=>False
theorem Qb(l:B8)(M:Mem)(R:VP)(hl:l.length<=1500000)(h0:4000<l.length->R (.tuple #[.agg #[str [],str [],.slice none 0 0],str [],.bool false]) M) :
  vcL prog tab 41 [Lj,Mm,LZ] (K1 M l) (Q1 M l R) (lR [str l] 0) M:=by
 unfold Lj Mm LZ;refine sS ?_;intro b2 hb2;refine sS ?_;intro b3 hb3;refine sS ?_;intro b4 hb4;rw[aG]at hb3;rw[aG,aG]at hb4;obtain⟨n32,hb3⟩:=hb3;obtain⟨n43,n42,hb4⟩:=hb4;have sN:Sub M (((M.put b2 (.cells true [str [],str [],.slice none 0 0] 3)).put b3 (.cells true [str []] 1)).put b4 (.cells true [.bool false] 1)):=(((Sub.refl M).put hb2 _).put hb3 _).put hb4 _;have k2:(((M.put b2 (.cells true [str [],str [],.slice none 0 0] 3)).put b3 (.cells true [str []] 1)).put b4 (.cells true [.bool false] 1)) b2=some (.cells true [str [],str [],.slice none 0 0] 3):=by rw[al _ _ (Ne.symm n42),al _ _ (Ne.symm n32)];exact ae _ _ _
 have k3:(((M.put b2 (.cells true [str [],str [],.slice none 0 0] 3)).put b3 (.cells true [str []] 1)).put b4 (.cells true [.bool false] 1)) b3=some (.cells true [str []] 1):=by rw[al _ _ (Ne.symm n43)];exact ae _ _ _
 have k4:(((M.put b2 (.cells true [str [],str [],.slice none 0 0] 3)).put b3 (.cells true [str []] 1)).put b4 (.cells true [.bool false] 1)) b4=some (.cells true [.bool false] 1):=ae _ _ _;refine sS ?_;generalize ((M.put b2 (.cells true [str [],str [],.slice none 0 0] 3)).put b3 (.cells true [str []] 1)).put b4 (.cells true [.bool false] 1)=N at *;by_cases hbig:4000<l.length
 .have hbI:(4000:Int)<(l.length:Nat):=by omega
  have h:=h0 hbig;have p2:=ig k2;have p3:=ig k3;have p4:=ig k4;unfold Q1;simp(disch:=omega)[hbI,aq k2,k2,aj,p2,ak k3,k3,p3,ak k4,k4,p4];exact ag sN h
 .have hbI:¬(4000:Int)<(l.length:Nat):=by omega
  simp(disch:=omega)[hbI];refine eQ _ _ ?_;intro x6 M6 o6;unfold iC;obtain⟨M1,o1,s1,nn⟩:=dI sN o6;have hfx:=aD o6.rd;have q2:=o6.sub _ _ k2;have q3:=o6.sub _ _ k3;have q4:=o6.sub _ _ k4;have m2:=nn _ _ hb2 k2;have m3:=nn _ _ hb3 k3;have m4:=nn _ _ hb4 k4;have z5:∀ b,M6 b=none->M1 b=none:=fun b hb=>ba s1 hb;refine sS ?_;intro b5 hb5;refine sS ?_;intro b6 hb6;rw[aG]at hb6;obtain⟨n65,hb6⟩:=hb6;have n52:b2≠b5:=by rintro rfl;rw[q2]at hb5;cases hb5
  have n53:b3≠b5:=by rintro rfl;rw[q3]at hb5;cases hb5
  have n54:b4≠b5:=by rintro rfl;rw[q4]at hb5;cases hb5
  have n62:b2≠b6:=by rintro rfl;rw[q2]at hb6;cases hb6
  have n63:b3≠b6:=by rintro rfl;rw[q3]at hb6;cases hb6
  have n64:b4≠b6:=by rintro rfl;rw[q4]at hb6;cases hb6
  have hap:Da b2 b3 b4 b5 b6:=⟨Ne.symm n32,Ne.symm n42,n52,n62,Ne.symm n43,n53,n63,n54,n64,Ne.symm n65⟩;have sA:Sub M1 ((M6.put b5 (.cells true [str [],str [],.slice none 0 0] 3)).put b6 (.cells true [.int .i64 0] 1)):=(s1.putN hb5 _).trans ((Sub.refl _).put (by rw[aG];exact⟨n65,hb6⟩) _);have a2:((M6.put b5 (.cells true [str [],str [],.slice none 0 0] 3)).put b6 (.cells true [.int .i64 0] 1)) b2=_:=((al _ _ n62).trans (al _ _ n52)).trans q2;have a3:((M6.put b5 (.cells true [str [],str [],.slice none 0 0] 3)).put b6 (.cells true [.int .i64 0] 1)) b3=_:=((al _ _ n63).trans (al _ _ n53)).trans q3;have a4:((M6.put b5 (.cells true [str [],str [],.slice none 0 0] 3)).put b6 (.cells true [.int .i64 0] 1)) b4=_:=((al _ _ n64).trans (al _ _ n54)).trans q4;have a5:((M6.put b5 (.cells true [str [],str [],.slice none 0 0] 3)).put b6 (.cells true [.int .i64 0] 1)) b5=some (.cells true [str [],str [],.slice none 0 0] 3):=(al _ _ (Ne.symm n65)).trans (ae _ _ _);have a6:((M6.put b5 (.cells true [str [],str [],.slice none 0 0] 3)).put b6 (.cells true [.int .i64 0] 1)) b6=some (.cells true [.int .i64 0] 1):=ae _ _ _;have m5:=z5 _ hb5;have m6:=z5 _ hb6;have n56:=Ne.symm n65;simp(disch:=omega)[hfx,aj];generalize (M6.put b5 (.cells true [str [],str [],.slice none 0 0] 3)).put b6 (.cells true [.int .i64 0] 1)=A at *;have c6:(A.put b5 (.cells true [str [97,98,97,97,98],str [65,65],x6] 3)) b6=some (.cells true [.int .i64 0] 1):=(al _ _ n65).trans a6;rw[ig c6];exact⟨b2,b3,b4,b5,b6,hap,by simp,by simp,by simp,by simp,by simp,by simp,⟨⟨x6,M1,o1,sA.ovr m5 _,ae _ _ _,m2,m3,m4,m5,m6⟩,(al _ _ n52).trans a2,(al _ _ n53).trans a3,(al _ _ n54).trans a4,c6⟩,by omega⟩
set_option maxRecDepth 4000
abbrev Sc(M:Mem)(w:World)(R:VP):Ending->World->Prop:=fun e w'=>∃ v M',e=.returned v/\Rep M' w'/\Ext M w M' w'/\R v M'
theorem Qs(B b:Nat)(out:B8)(p v:Value)(w:World)(hb:w.heap[b]?=some (.cells #[p,v] 71 (0,0)))(ho:w.ownsRowF B 5 1 v (av out).length (av out))(hz:out=[]->v=.slice none 0 0) :
  Calls prog 56 #[.pointer (some ⟨b,0,none⟩)] w fun e w'=>e=.returned (str out)/\eO b v.ownBlock w w':=by
 by_cases h0:out=[]
 .have hv:=hz h0;subst h0;subst hv;exact tO (ρ:=Tryz.lays169_ren) Tryz.lays169 Tryz.Builder_Extra_169 b p w hb
 .have hl:(av out).length=out.length:=aO _;rw[hl]at ho;exact xe (ρ:=Tryz.lays169_ren) Tryz.lays169 Tryz.Builder_Extra_169 B b out p v w hb ho h0
structure UO(M:Mem)(b2 b3 b4 b7:Nat)(d:Dk)(N:Mem)(env2:Env)(N2:Mem):Prop where
 new:cP N N2
 e2:env2 2=.pointer (some ⟨b2,0,none⟩)
 e3:env2 3=.pointer (some ⟨b3,0,none⟩)
 e4:env2 4=.pointer (some ⟨b4,0,none⟩)
 e7:env2 7=.pointer (some ⟨b7,0,none⟩)
 im:∃ v2 M8,env2 39=dkV d v2/\bE v2=true/\Own M v2 (strs d.ms) M8/\Sub M8 N2/\M8 b2=none/\M8 b3=none/\M8 b4=none
 k2:N2 b2=some (.cells true [str [],str [],.slice none 0 0] 3)
 k3:N2 b3=some (.cells true [str []] 1)
 k4:N2 b4=some (.cells true [.bool false] 1)
theorem Td(M:Mem)(b2 b3 b4 b5 b6 b7 i:Nat)(d:Dk)(N:Mem)(env:Env)(hok:d.ok)(hN:CN M b2 b3 b4 b5 b6 i d N)
  (e2:env 2=.pointer (some ⟨b2,0,none⟩)) (e3:env 3=.pointer (some ⟨b3,0,none⟩)) (e4:env 4=.pointer (some ⟨b4,0,none⟩)) (e5:env 5=.pointer (some ⟨b5,0,none⟩)) (e7:env 7=.pointer (some ⟨b7,0,none⟩)) :
  ly prog tab [wA,wO,Dq,tL,rV,tJ] (fun _=>UO M b2 b3 b4 b7 d N) [wA,wO] env N:=by
 obtain⟨⟨u,M1,o1,s1,k5,m2,m3,m4,m5,m6⟩,k2,k3,k4,k6⟩:=hN;have hfu:=aD o1.rd;unfold wA wO;simp(disch:=omega)[e5,aq k5];refine C4 d u _ _ hok.2.2 (o1.rd.sub s1) ?_;intro v2 N2 o2;have hf2:=aD o2.rd;obtain⟨M',g',t1,n1⟩:=dI s1 o2;obtain⟨M8,o8,t8,_⟩:=dI o1.sub g';have w2:=(cP.refl N).own o2;unfold dkV;refine sS ?_;exact⟨w2,by simp[e2],by simp[e3],by simp[e4],by simp[e7],⟨v2,M8,by simp[dkV],hf2,o8,t8.trans t1,ba t8 (n1 _ _ m2 k2),ba t8 (n1 _ _ m3 k3),ba t8 (n1 _ _ m4 k4)⟩,o2.sub _ _ k2,o2.sub _ _ k3,o2.sub _ _ k4⟩
def X8(R:VP)(N':Mem)(env3:Env)(N3:Mem):Prop:=cP N' N3/\oN (dA tab env3 N3 Tryz.f27.results.toList) R N3
theorem MZ(M:Mem)(R:VP)(b2 b3 b4 b5 b6 b7:Nat)(d:Dk)(out:B8)(N N2:Mem)(env2:Env)(hap:Da b2 b3 b4 b5 b6)(h:UO M b2 b3 b4 b7 d N env2 N2)(hR:∀ v M',Own M v (strs d.ms) M'->R (.tuple #[dkV d v,str out,.bool true]) M') :
  ly prog tab [wA,wO,Dq,tL,rV,tJ] (fun _=>X8 R N2) [tL,rV,tJ] (put env2 (some 40) (str out)) N2:=by
 obtain⟨_,e2,e3,e4,_,⟨v2,M8,e39,hf2,o8,t8,m2,m3,m4⟩,k2,k3,k4⟩:=h;have h:=hR v2 M8 o8;unfold dkV at h e39;have n23:=hap.n23;have n24:=hap.n24;have n34:=hap.n34;have q3:(N2.put b2 (.cells true [str d.w,str d.p,v2] 3)) b3=some (.cells true [str []] 1):=(al _ _ (Ne.symm n23)).trans k3;have q4:((N2.put b2 (.cells true [str d.w,str d.p,v2] 3)).put b3 (.cells true [str out] 1)) b4=some (.cells true [.bool false] 1):=((al _ _ (Ne.symm n34)).trans (al _ _ (Ne.symm n24))).trans k4;unfold tL rV tJ;have n32:=Ne.symm n23;have n42:=Ne.symm n24;have n43:=Ne.symm n34;simp(disch:=omega)[e2,e3,e4,e39,hf2,k2,aj,k3,k4];have w2:cP N2 (((N2.put b2 (.cells true [str d.w,str d.p,v2] 3)).put b3 (.cells true [str out] 1)).put b4 (.cells true [.bool true] 1)):=(((cP.refl N2).put _ _ rfl).put _ _ rfl).put _ _ rfl;have r2:(((N2.put b2 (.cells true [str d.w,str d.p,v2] 3)).put b3 (.cells true [str out] 1)).put b4 (.cells true [.bool true] 1)) b2=some (.cells true [str d.w,str d.p,v2] 3):=((al _ _ n24).trans (al _ _ n23)).trans (ae _ _ _);have r3:(((N2.put b2 (.cells true [str d.w,str d.p,v2] 3)).put b3 (.cells true [str out] 1)).put b4 (.cells true [.bool true] 1)) b3=some (.cells true [str out] 1):=(al _ _ n34).trans (ae _ _ _);have r4:(((N2.put b2 (.cells true [str d.w,str d.p,v2] 3)).put b3 (.cells true [str out] 1)).put b4 (.cells true [.bool true] 1)) b4=some (.cells true [.bool true] 1):=ae _ _ _;have s3:Sub M8 (((N2.put b2 (.cells true [str d.w,str d.p,v2] 3)).put b3 (.cells true [str out] 1)).put b4 (.cells true [.bool true] 1)):=((t8.ovr m2 _).ovr m3 _).ovr m4 _;generalize ((N2.put b2 (.cells true [str d.w,str d.p,v2] 3)).put b3 (.cells true [str out] 1)).put b4 (.cells true [.bool true] 1)=N3 at *;refine⟨w2,?_⟩;have hres:Tryz.f27.results.toList=[.cell 2 28,.cell 3 9,.cell 4 4]:=by kernel_rfl
 rw[hres];simp(disch:=omega)[e2,e3,e4,aq r2,ak r3,ak r4];exact ag s3 h
end Go.Proofs.YtapimhjbilkfpaaGreatDoor
