/- Lemmas for FnExactConsole, part 41 of 46. -/
import Derived.Test.YtapimhjbilkfpaaGreatDoorZ39
import Derived.Test.YtapimhjbilkfpaaGreatDoorZ04
set_option linter.unusedVariables false
set_option linter.unusedSimpArgs false
namespace Go.Proofs.YtapimhjbilkfpaaGreatDoor
open Go Go.Proofs.Tryz List
theorem Qa{M:Mem}{b c:Nat}{x:List UInt8}{r:List (List UInt8)}{own:Bool}(h:M b=some (.cells own (strs (x::r)) c))(hc:r.length+1<=c):Rd M (.slice (some ⟨b,dN 0 1 c 1,none⟩) r.length (c-1)) (strs r):=by
 have hl:(strs r).length=r.length:=ah r;by_cases h0:r=[]
 ·subst h0;exact .inl ⟨_,_,rfl,rfl⟩
 ·have h1:1<=r.length:=List.length_pos_iff.2 h0;refine .inr ⟨b,dN 0 1 c 1,c-1,by rw[hl],?_,by rw[hl];omega⟩;have e:dN 0 1 c 1=1:=by unfold dN;rw[if_neg (by omega)]
  have hl2:(strs (x::r)).length=r.length+1:=by rw[ah];rfl
  rw[e,hl];unfold Mem.sub?;rw[h];simp only;rw[hl2,if_pos (by omega)];show some ((strs r).take r.length)=some (strs r);rw[take_of_length_le (by rw[hl];exact Nat.le_refl _)]
theorem cY{N M4:Mem}{v v':Value}{d d':Dk}(g:Gv N v d v' d' M4):Sub N M4:=by
 rcases g with ⟨_,_,rfl⟩|o
 ·exact Sub.refl _
 ·exact o.sub
theorem gz(r:List (List UInt8)):(eJ r).length=r.length:=by unfold eJ;rw[length_map]
theorem ot(d:Dk)(zs:List Int):gM d [115,116,97,110,100,97,114,100] zs=bec d (qB zs) (q8 zs):=by simp[gM]
theorem xz(d:Dk)(c:List UInt8)(h:c≠[115,116,97,110,100,97,114,100]):gM d c []=aM d c:=by simp[gM,h]
theorem JA(d:Dk)(c:List UInt8)(x y:Int)(h:c≠[115,116,97,110,100,97,114,100]):gM d c [x,y]=gn d c x y:=by simp[gM,h]
theorem rS(d:Dk)(x:Int):gM d [116,117,114,110] [x]=bec d (vM d.w x) (zM d.w x):=by simp[gM]
theorem wB(d:Dk)(x:Int):gM d [122,105,109,105,110] [x]=bec d (we x) (Ae x):=by simp[gM]
theorem wS(d:Dk)(c:List UInt8)(x:Int)(h:c≠[115,116,97,110,100,97,114,100])(h1:c≠[116,117,114,110])(h2:c≠[122,105,109,105,110]):gM d c [x]=none:=by simp[gM,h,h1,h2]
theorem zw(d:Dk)(c:List UInt8)(zs:List Int)(h:c≠[115,116,97,110,100,97,114,100])(h0:zs.length≠0)(h1:zs.length≠1)(h2:zs.length≠2):gM d c zs=none:=by
 unfold gM;rw[if_neg h]
 match zs,h0,h1,h2 with
 | [],q,_,_=>exact absurd rfl q
 | [_],_,q,_=>exact absurd rfl q
 | [_,_],_,_,q=>exact absurd rfl q
 | _::_::_::_,_,_,_=>rfl
theorem qe(l:List UInt8):∃ c r,spR 32 l=c::r/\c.length<=l.length/\(∀ w∈r,w.length<=l.length)/\r.length<=l.length:=by
 have hne:=ke 32 l;have hf:=mM 32 l;have hn:=oC 32 l;have hc:l.count 32<=l.length:=count_le_length;cases hs:spR 32 l with
 | nil=>exact absurd hs hne
 | cons c r=>
  rw[hs]at hf hn;exact⟨c,r,rfl,hf c (mem_cons_self ..),fun w hw=>hf w (mem_cons_of_mem _ hw),by rw[length_cons]at hn;omega⟩
theorem DP(d:Dk){l c:List UInt8}{r:List (List UInt8)}(h:spR 32 l=c::r):rW d l=gJ d c r:=by unfold rW;rw[h];rfl
theorem tq{r:List (List UInt8)}(h:r.all bQ=true):∀ z∈eJ r,0<=z/\z<=1000000000:=fun z hz=>by
 unfold eJ at hz;obtain⟨w,hw,rfl⟩:=List.mem_map.1 hz;have:=fc (List.all_eq_true.1 h w hw);omega
set_option maxHeartbeats 4000000 in
set_option maxRecDepth 4000 in
theorem Cm(d:Dk)(v:Value)(l:List UInt8)(M:Mem)(R:VP)(hd:d.ok)(hvar:ch M)(hv:Rd M v (strs d.ms))(hl:l.length<=1500000)
  (h:∀ d' v' t k M',Gv M v d v' d' M'->Got (rW d l) d' t k->R (a8 d' v' t k) M'):ar prog 57 [dkV d v,str l] M R:=by
 have hok:=hd;obtain⟨hw,hp,hm⟩:=hd;have hw60:=au hw;have hfi:df d.ms:=fun w hw=>by have:=(bL hm hw).1;omega
 have hm5:=(aX hm).2;have hf:=aZ hv;unfold dkV;refine fnS func57 rfl ntmps57 results57 ?_;simp(disch:=omega);intro b1 hb1;have h1:Sub M (M.put b1 (.cells true [str d.w,str d.p,v] 3)):=(Sub.refl M).put hb1 _;simp(disch:=omega);intro b2 hb2;have h2:=hb2;rw[aF]at h2;have sN:=h1.putN hb2 (.cells true [str [],str [],.slice none 0 0,str [],.int .i64 0] 5);have k1:((M.put b1 (.cells true [str d.w,str d.p,v] 3)).put b2 (.cells true [str [],str [],.slice none 0 0,str [],.int .i64 0] 5)) b1=some (.cells true [str d.w,str d.p,v] 3):=by rw[ai _ _ (Ne.symm h2.1)];exact ag _ _ _
 have k2:((M.put b1 (.cells true [str d.w,str d.p,v] 3)).put b2 (.cells true [str [],str [],.slice none 0 0,str [],.int .i64 0] 5)) b2=some (.cells true [str [],str [],.slice none 0 0,str [],.int .i64 0] 5):=ag _ _ _;generalize (M.put b1 (.cells true [str d.w,str d.p,v] 3)).put b2 (.cells true [str [],str [],.slice none 0 0,str [],.int .i64 0] 5)=N at *;simp(disch:=omega);refine vk l 32 _ _ (by omega) ?_;intro v5 M3 o5;obtain⟨c,r,hs,hcl,hrl,hrn⟩:=qe l;rw[DP d hs]at h;rw[hs]at o5;rcases o5 with ⟨_,e,_⟩|⟨b5,c5,rfl,hb5,hc5,hM3⟩
 ·cases e
 have n15:b1≠b5:=by rintro rfl;rw[k1]at hb5;cases hb5
 have n25:b2≠b5:=by rintro rfl;rw[k2]at hb5;cases hb5
 have k5:M3 b5=some (.cells true (strs (c::r)) c5):=by rw[hM3];exact ag _ _ _
 have s3:Sub M M3:=by rw[hM3];exact sN.putN hb5 _
 have k1:M3 b1=some (.cells true [str d.w,str d.p,v] 3):=by rw[hM3,ai _ _ n15];exact k1
 have k2:M3 b2=some (.cells true [str [],str [],.slice none 0 0,str [],.int .i64 0] 5):=by rw[hM3,ai _ _ n25];exact k2
 clear hM3;have hln:(strs (c::r)).length=r.length+1:=by rw[ah];rfl
 rw[hln]at hc5 ⊢;have g0:M3.get? b5 0=some (str c):=by rw[aj k5];rfl
 have rt:=Qa k5 hc5;have hvar3:=hvar.sub s3;have hv3:=hv.sub s3;have hn1:(1:Int)<=(r.length:Nat)+1:=by omega
 simp(disch:=omega);refine plyS (ak [0,1,2,3,4,5,6] .fin) ?_;simp(disch:=omega)[g0];refine nk c _ _ ?_;cases ht:sy c
 ·have hpX:gJ d c r=if c=[110,97,109,101]/\r.length=2 then (if bQ (r.getD 1 []) then bec d (fS (r.getD 0 []) (cd (r.getD 1 []):Nat)) (ia (r.getD 0 []) (cd (r.getD 1 []):Nat)) else none) else if r.all bQ then gM d c (eJ r) else none:=by
   unfold gJ;rw[ht,if_neg (by decide)]
  rw[hpX]at h;simp(disch:=omega)[undef];refine nk c _ _ ?_;rw[ht];by_cases hnm:c=[110,97,109,101]/\r.length=2
  ·rw[if_pos hnm]at h;obtain⟨x,y,rfl⟩:∃ x y,r=[x,y]:=by
    match r,hnm.2 with
    | [x,y],_=>exact⟨x,y,rfl⟩
   have e1:dN 0 1 c5 1=1:=by unfold dN;rw[if_neg (by simp only[length_cons,length_nil]at hc5;omega)]
   have g1:M3.get? b5 1=some (str x):=by rw[aj k5];rfl
   have g2:M3.get? b5 2=some (str y):=by rw[aj k5];rfl
   have hx:=hrl x (by simp);have hy:=hrl y (by simp);simp(disch:=omega)[hnm.1];refine plyS (ak [0,1,2,3,4,5,6] (.one 7 1 (.one 8 2 .fin))) ?_;simp(disch:=omega)[aq k1,g1,g2];refine I2 d v x y _ _ hok hvar3 hv3 (by omega) (by omega) ?_;intro d' t' k hg hms;have h:=h d' v t' k M (.inl ⟨rfl,hms,rfl⟩) hg;unfold a8 at h ⊢;simp(disch:=omega)[k2,al,hf];exact ae (s3.ovr h2.2 _) h
  ·rw[if_neg hnm]at h;have hstep:(c==[110,97,109,101])=false\/((c==[110,97,109,101])=true/\¬((r.length:Nat):Int)=2):=by
    by_cases e:c=[110,97,109,101]
    ·refine .inr ⟨by rw[e];rfl,fun e2=>hnm ⟨e,by omega⟩⟩
    ·exact .inl (beq_eq_false_iff_ne.2 e)
   have main:ar prog 102 [.slice (some ⟨b5,dN 0 1 c5 1,none⟩) r.length (c5-1)] M3 (fun v' M'=>Sub M3 M'/\((r.all bQ=true/\∃ u,v'=.tuple #[u,.bool true]/\Own M3 u (ints (eJ r)) M')\/(r.all bQ=false/\v'=.tuple #[.slice none 0 0,.bool false]))):=
    mR _ r _ _ hvar3 rt (by omega) (fun w hw=>by have:=hrl w hw;omega) (fun hn u M' o=>⟨o.sub,.inl ⟨hn,u,rfl,o⟩⟩) (fun hn=>⟨Sub.refl _,.inr ⟨hn,rfl⟩⟩)
   rcases hstep with e0|⟨e0,e1⟩
   ·simp(disch:=omega)[e0,undef];refine main.mono ?_
    rintro w1 M4 ⟨s4,hcase⟩
    have k1:=s4 _ _ k1;have k2:=s4 _ _ k2;have s3:=s3.trans s4;have hvar4:=hvar3.sub s4;have hv4:=hv3.sub s4;rcases hcase with ⟨hall,u,rfl,o4⟩|⟨hall,rfl⟩
    ·rw[if_pos hall]at h;have ru:=o4.rd;have hz:=tq hall;have hzl:=gz r;clear o4;generalize eJ r=zs at *;obtain⟨ua,uc,rfl,hua⟩:=ru.opened;rw[ay]at hua ⊢;have ru2:=ru;rw[ay]at ru2;by_cases cs:c=[115,116,97,110,100,97,114,100]
     ·subst cs;rw[ot]at h;simp(disch:=omega);refine plyS (ak [0,1] (.one 2 1 (ak [3,4] (.one 5 1 (.one 6 2 .fin))))) ?_;simp(disch:=omega)[aq k1];refine jQ _ zs _ _ ru2 (by omega) ?_;unfold aD;simp(disch:=omega);refine bN d v hf _ _ _ _ (by have:=qb zs;omega) ?_;have h:=h ⟨qB zs,d.p,d.ms⟩ v _ _ M (.inl ⟨rfl,rfl,rfl⟩) rfl;unfold a8 at h ⊢;simp(disch:=omega)[k2,al,hf];exact ae (s3.ovr h2.2 _) h
     by_cases hz0:zs.length=0
     ·obtain rfl:zs=[]:=List.length_eq_zero_iff.1 hz0;rw[xz d c cs]at h;simp(disch:=omega)[aq k1,beq_eq_false_iff_ne.2 cs];refine zc d v c _ _ hok hvar4 hv4 ?_;intro d' v' t' k M5 hgv hg;obtain⟨M',g',s',k4⟩:=su s3 h2.2 k2 hgv (.cells true [str d'.w,str d'.p,v',str t',.int .i64 k] 5);have hf':=eF hf hgv;have h:=h d' v' t' k M' g' hg;unfold a8 at h ⊢;simp(disch:=omega)[k4,al,hf'];exact ae s' h
     by_cases hz1:zs.length=1
     ·obtain⟨x,rfl⟩:∃ x,zs=[x]:=by
       match zs,hz1 with
       | [x],_=>exact⟨x,rfl⟩
      have hx:=hz x (by simp);rcases hua with hq|⟨bu,ou,rfl,hua⟩
      ·cases hq
      have gx:M4.get? bu ou=some (.int .i64 x):=by have:=hua 0 (by simp);rw[Nat.add_zero]at this;exact this
      clear hua;by_cases ct:c=[116,117,114,110]
      ·subst ct;rw[rS]at h;simp(disch:=omega);refine plyS (ak [0,1,2,3,4,5] (.one 6 1 (ak [7,8] (.one 9 1 (.one 10 2 .fin))))) ?_;simp(disch:=omega)[aq k1,aj k1,gx];refine bh (po d.w x _ _ (by omega) fun M6 s6=>⟨s6,?_⟩);unfold aD;simp(disch:=omega);refine bN d v hf _ _ _ _ (by have:=zo d.w x;omega) ?_;have h:=h ⟨vM d.w x,d.p,d.ms⟩ v _ _ M (.inl ⟨rfl,rfl,rfl⟩) rfl;unfold a8 at h ⊢;simp(disch:=omega)[k2,al,hf];exact ae (s3.ovr h2.2 _) h
      by_cases cz:c=[122,105,109,105,110]
      ·subst cz;rw[wB]at h;simp(disch:=omega);refine plyS (ak [0,1,2,3] (.one 4 1 (ak [5,6] (.one 7 1 (.one 8 2 .fin))))) ?_;simp(disch:=omega)[aq k1,gx];refine mu x _ _ ?_;unfold aD;simp(disch:=omega);refine bN d v hf _ _ _ _ (by have:=x7 x;omega) ?_;have h:=h ⟨we x,d.p,d.ms⟩ v _ _ M (.inl ⟨rfl,rfl,rfl⟩) rfl;unfold a8 at h ⊢;simp(disch:=omega)[k2,al,hf];exact ae (s3.ovr h2.2 _) h
      rw[wS d c x cs ct cz]at h;simp(disch:=omega)[aq k1,beq_eq_false_iff_ne.2 cs,beq_eq_false_iff_ne.2 ct,beq_eq_false_iff_ne.2 cz];refine cq d v hf _ _ ?_;have h:=h d v [] 6 M (.inl ⟨rfl,rfl,rfl⟩) rfl;unfold a8 at h ⊢;simp(disch:=omega)[k2,al,hf];exact ae (s3.ovr h2.2 _) h
     by_cases hz2:zs.length=2
     ·obtain⟨x,y,rfl⟩:∃ x y,zs=[x,y]:=by
       match zs,hz2 with
       | [x,y],_=>exact⟨x,y,rfl⟩
      have hx:=hz x (by simp);have hy:=hz y (by simp);rw[JA d c x y cs]at h;rcases hua with hq|⟨bu,ou,rfl,hua⟩
      ·cases hq
      have gx:M4.get? bu ou=some (.int .i64 x):=by have:=hua 0 (by simp);rw[Nat.add_zero]at this;exact this
      have gy:M4.get? bu (ou+1)=some (.int .i64 y):=hua 1 (by simp);clear hua;simp(disch:=omega)[beq_eq_false_iff_ne.2 cs];refine plyS (ak [0,1,2,3,4,5,6,7] (.one 8 1 (.one 9 2 .fin))) ?_;simp(disch:=omega)[aq k1,gx,gy];refine NO d v c x y _ _ hok hvar4 hv4 hx hy ?_;intro d' v' t' k M5 hgv hg;obtain⟨M',g',s',k4⟩:=su s3 h2.2 k2 hgv (.cells true [str d'.w,str d'.p,v',str t',.int .i64 k] 5);have hf':=eF hf hgv;have h:=h d' v' t' k M' g' hg;unfold a8 at h ⊢;simp(disch:=omega)[k4,al,hf'];exact⟨cY hgv,ae s' h⟩
     rw[zw d c zs cs hz0 hz1 hz2]at h;have i0:¬((zs.length:Nat):Int)=0:=by omega
     have i1:¬((zs.length:Nat):Int)=1:=by omega
     have i2:¬((zs.length:Nat):Int)=2:=by omega
     simp(disch:=omega)[aq k1,undef,beq_eq_false_iff_ne.2 cs,beq_eq_false_iff_ne.2 i0,beq_eq_false_iff_ne.2 i1,beq_eq_false_iff_ne.2 i2];refine cq d v hf _ _ ?_;have h:=h d v [] 6 M (.inl ⟨rfl,rfl,rfl⟩) rfl;unfold a8 at h ⊢;simp(disch:=omega)[k2,al,hf];exact ae (s3.ovr h2.2 _) h
    ·rw[hall,if_neg (by decide)]at h;simp(disch:=omega)[aq k1];refine cq d v hf _ _ ?_;have h:=h d v [] 6 M (.inl ⟨rfl,rfl,rfl⟩) rfl;unfold a8 at h ⊢;simp(disch:=omega)[k2,al,hf];exact ae (s3.ovr h2.2 _) h
   ·simp(disch:=omega)[e0,beq_eq_false_iff_ne.2 e1];refine main.mono ?_
    rintro w1 M4 ⟨s4,hcase⟩
    have k1:=s4 _ _ k1;have k2:=s4 _ _ k2;have s3:=s3.trans s4;have hvar4:=hvar3.sub s4;have hv4:=hv3.sub s4;rcases hcase with ⟨hall,u,rfl,o4⟩|⟨hall,rfl⟩
    ·rw[if_pos hall]at h;have ru:=o4.rd;have hz:=tq hall;have hzl:=gz r;clear o4;generalize eJ r=zs at *;obtain⟨ua,uc,rfl,hua⟩:=ru.opened;rw[ay]at hua ⊢;have ru2:=ru;rw[ay]at ru2;by_cases cs:c=[115,116,97,110,100,97,114,100]
     ·subst cs;rw[ot]at h;simp(disch:=omega);refine plyS (ak [0,1] (.one 2 1 (ak [3,4] (.one 5 1 (.one 6 2 .fin))))) ?_;simp(disch:=omega)[aq k1];refine jQ _ zs _ _ ru2 (by omega) ?_;unfold aD;simp(disch:=omega);refine bN d v hf _ _ _ _ (by have:=qb zs;omega) ?_;have h:=h ⟨qB zs,d.p,d.ms⟩ v _ _ M (.inl ⟨rfl,rfl,rfl⟩) rfl;unfold a8 at h ⊢;simp(disch:=omega)[k2,al,hf];exact ae (s3.ovr h2.2 _) h
     by_cases hz0:zs.length=0
     ·obtain rfl:zs=[]:=List.length_eq_zero_iff.1 hz0;rw[xz d c cs]at h;simp(disch:=omega)[aq k1,beq_eq_false_iff_ne.2 cs];refine zc d v c _ _ hok hvar4 hv4 ?_;intro d' v' t' k M5 hgv hg;obtain⟨M',g',s',k4⟩:=su s3 h2.2 k2 hgv (.cells true [str d'.w,str d'.p,v',str t',.int .i64 k] 5);have hf':=eF hf hgv;have h:=h d' v' t' k M' g' hg;unfold a8 at h ⊢;simp(disch:=omega)[k4,al,hf'];exact ae s' h
     by_cases hz1:zs.length=1
     ·obtain⟨x,rfl⟩:∃ x,zs=[x]:=by
       match zs,hz1 with
       | [x],_=>exact⟨x,rfl⟩
      have hx:=hz x (by simp);rcases hua with hq|⟨bu,ou,rfl,hua⟩
      ·cases hq
      have gx:M4.get? bu ou=some (.int .i64 x):=by have:=hua 0 (by simp);rw[Nat.add_zero]at this;exact this
      clear hua;by_cases ct:c=[116,117,114,110]
      ·subst ct;rw[rS]at h;simp(disch:=omega);refine plyS (ak [0,1,2,3,4,5] (.one 6 1 (ak [7,8] (.one 9 1 (.one 10 2 .fin))))) ?_;simp(disch:=omega)[aq k1,aj k1,gx];refine bh (po d.w x _ _ (by omega) fun M6 s6=>⟨s6,?_⟩);unfold aD;simp(disch:=omega);refine bN d v hf _ _ _ _ (by have:=zo d.w x;omega) ?_;have h:=h ⟨vM d.w x,d.p,d.ms⟩ v _ _ M (.inl ⟨rfl,rfl,rfl⟩) rfl;unfold a8 at h ⊢;simp(disch:=omega)[k2,al,hf];exact ae (s3.ovr h2.2 _) h
      by_cases cz:c=[122,105,109,105,110]
      ·subst cz;rw[wB]at h;simp(disch:=omega);refine plyS (ak [0,1,2,3] (.one 4 1 (ak [5,6] (.one 7 1 (.one 8 2 .fin))))) ?_;simp(disch:=omega)[aq k1,gx];refine mu x _ _ ?_;unfold aD;simp(disch:=omega);refine bN d v hf _ _ _ _ (by have:=x7 x;omega) ?_;have h:=h ⟨we x,d.p,d.ms⟩ v _ _ M (.inl ⟨rfl,rfl,rfl⟩) rfl;unfold a8 at h ⊢;simp(disch:=omega)[k2,al,hf];exact ae (s3.ovr h2.2 _) h
      rw[wS d c x cs ct cz]at h;simp(disch:=omega)[aq k1,beq_eq_false_iff_ne.2 cs,beq_eq_false_iff_ne.2 ct,beq_eq_false_iff_ne.2 cz];refine cq d v hf _ _ ?_;have h:=h d v [] 6 M (.inl ⟨rfl,rfl,rfl⟩) rfl;unfold a8 at h ⊢;simp(disch:=omega)[k2,al,hf];exact ae (s3.ovr h2.2 _) h
     by_cases hz2:zs.length=2
     ·omega
     rw[zw d c zs cs hz0 hz1 hz2]at h;have i0:¬((zs.length:Nat):Int)=0:=by omega
     have i1:¬((zs.length:Nat):Int)=1:=by omega
     have i2:¬((zs.length:Nat):Int)=2:=by omega
     simp(disch:=omega)[aq k1,undef,beq_eq_false_iff_ne.2 cs,beq_eq_false_iff_ne.2 i0,beq_eq_false_iff_ne.2 i1,beq_eq_false_iff_ne.2 i2];refine cq d v hf _ _ ?_;have h:=h d v [] 6 M (.inl ⟨rfl,rfl,rfl⟩) rfl;unfold a8 at h ⊢;simp(disch:=omega)[k2,al,hf];exact ae (s3.ovr h2.2 _) h
    ·rw[hall,if_neg (by decide)]at h;simp(disch:=omega)[aq k1];refine cq d v hf _ _ ?_;have h:=h d v [] 6 M (.inl ⟨rfl,rfl,rfl⟩) rfl;unfold a8 at h ⊢;simp(disch:=omega)[k2,al,hf];exact ae (s3.ovr h2.2 _) h
 ·by_cases hr:r.length=1
  ·obtain⟨x,rfl⟩:∃ x,r=[x]:=by
    match r,hr with
    | [x],_=>exact⟨x,rfl⟩
   have hpX:gJ d c [x]=dQ d c x:=by unfold gJ;rw[ht,if_pos rfl]
   rw[hpX]at h;have e1:dN 0 1 c5 1=1:=by unfold dN;rw[if_neg (by simp only[length_cons,length_nil]at hc5;omega)]
   have g1:M3.get? b5 1=some (str x):=by rw[aj k5];rfl
   have hx:=hrl x (by simp);simp(disch:=omega);refine plyS (ak [0,1,2,3,4] (.one 5 1 (.one 6 2 .fin))) ?_;simp(disch:=omega)[aq k1,g1];refine H4 d v c x _ _ hok hvar3 hv3 (by omega) ?_;intro d' v' t' k M4 hgv hg;obtain⟨M',g',s',k4⟩:=su s3 h2.2 k2 hgv (.cells true [str d'.w,str d'.p,v',str t',.int .i64 k] 5);have hf':=eF hf hgv;have h:=h d' v' t' k M' g' hg;unfold a8 at h ⊢;simp(disch:=omega)[k4,al,hf'];exact⟨cY hgv,ae s' h⟩
  ·have hpX:gJ d c r=none:=by
    unfold gJ;rw[ht,if_pos rfl]
    match r,hr with
    | [],_=>rfl
    | [_],q=>exact absurd rfl q
    | _::_::_,_=>rfl
   rw[hpX]at h;have hrI:¬((r.length:Nat):Int)=1:=by omega
   simp(disch:=omega)[beq_eq_false_iff_ne.2 hrI];refine nk c _ _ ?_;rw[ht];simp(disch:=omega)[aq k1];refine cq d v hf _ _ ?_;have h:=h d v [] 6 M (.inl ⟨rfl,rfl,rfl⟩) rfl;unfold a8 at h ⊢;simp(disch:=omega)[k2,al,hf];exact ae (s3.ovr h2.2 _) h
theorem SK{M N M4:Mem}{v v':Value}{d d':Dk}(hs:Sub M N){b:Nat}(hb:M b=none){B:Blk}(k:N b=some B)(g:Gv N v d v' d' M4):∃ M',Gv M v d v' d' M'/\Sub M' M4/\M' b=none:=by
 rcases g with ⟨h1,h2,rfl⟩|o
 ·exact⟨M,.inl ⟨h1,h2,rfl⟩,hs,hb⟩
 ·rcases o with ⟨h1,h2,rfl⟩|⟨b',c,h1,h2,h3,rfl⟩
  ·refine⟨M,.inr ?_,hs,hb⟩;rw[h1,h2];exact Own.nil M
  ·have hne:b≠b':=by rintro rfl;rw[k]at h2;cases h2
   exact⟨M.put b' (.cells true (strs d'.ms) c),.inr (.inr ⟨b',c,h1,bM hs h2,h3,rfl⟩),hs.both b' _,by rw[ai _ _ hne];exact hb⟩
theorem Kl{d d':Dk}{l t:List UInt8}{k:Int}(h:Got (rW d l) d' t k)(hk:k=0):iO d l=(d',t):=by
 unfold Got bt at h;rw[if_pos hk]at h;unfold iO;rw[h];rfl
theorem JW{d d':Dk}{l t:List UInt8}{k:Int}(h:Got (rW d l) d' t k)(hk:¬ k=0):iO d l=(d,[101,114,114,111,114]):=by
 unfold Got bt at h;rw[if_neg hk]at h;unfold iO;rw[h];rfl
set_option maxHeartbeats 1000000 in
theorem Oe(d:Dk)(v:Value)(l:List UInt8)(M:Mem)(R:VP)(hd:d.ok)(hvar:ch M)(hv:Rd M v (strs d.ms))(hl:l.length<=1500000)
  (h:∀ d' v' t M',Gv M v d v' d' M'->iO d l=(d',t)->R (.tuple #[dkV d' v',str t]) M'):ar prog 29 [dkV d v,str l] M R:=by
 have hf:=aZ hv;unfold dkV;refine fnS func29 rfl ntmps29 results29 ?_;simp(disch:=omega);intro b1 hb1;have h1:Sub M (M.put b1 (.cells true [str d.w,str d.p,v] 3)):=(Sub.refl M).put hb1 _;simp(disch:=omega);intro b2 hb2;have h2:=hb2;rw[aF]at h2;have sN:=h1.putN hb2 (.cells true [str [],str [],.slice none 0 0] 3);have k1:((M.put b1 (.cells true [str d.w,str d.p,v] 3)).put b2 (.cells true [str [],str [],.slice none 0 0] 3)) b1=some (.cells true [str d.w,str d.p,v] 3):=by rw[ai _ _ (Ne.symm h2.1)];exact ag _ _ _
 have k2:((M.put b1 (.cells true [str d.w,str d.p,v] 3)).put b2 (.cells true [str [],str [],.slice none 0 0] 3)) b2=some (.cells true [str [],str [],.slice none 0 0] 3):=ag _ _ _;generalize (M.put b1 (.cells true [str d.w,str d.p,v] 3)).put b2 (.cells true [str [],str [],.slice none 0 0] 3)=N at *;simp(disch:=omega)[aq k1];refine Cm d v l _ _ hd (hvar.sub sN) (hv.sub sN) hl ?_;intro d' v' t k M4 hgv hg;have hf':=eF hf hgv;have k1':=cY hgv _ _ k1;have k2':=cY hgv _ _ k2;unfold a8;simp(disch:=omega);intro b3 hb3;have n13:b1≠b3:=by rintro rfl;rw[k1']at hb3;cases hb3
 have n23:b2≠b3:=by rintro rfl;rw[k2']at hb3;cases hb3
 by_cases hk:k=0
 ·have hr:=Kl hg hk;obtain⟨M',g',s',hm2⟩:=SK sN h2.2 k2 hgv;have h:=h d' v' t M' g' hr;have k3q:=ag M4 b3 (.cells true [str d'.w,str d'.p,v',str t,.int .i64 k] 5);have k2q:(M4.put b3 (.cells true [str d'.w,str d'.p,v',str t,.int .i64 k] 5)) b2=some (.cells true [str [],str [],.slice none 0 0] 3):=by rw[ai _ _ n23];exact k2'
  have s5:=fun X=>(s'.putN hb3 (.cells true [str d'.w,str d'.p,v',str t,.int .i64 k] 5)).ovr hm2 X;simp(disch:=omega)[hf',al,a7];have hkb:(k != 0)=false:=by rw[hk];rfl
  simp(disch:=omega)[hkb];generalize M4.put b3 (.cells true [str d'.w,str d'.p,v',str t,.int .i64 k] 5)=M5 at *;refine plyS (ak [0,1,2] (.alt 3 1 (.one 4 2 (ak [5] .fin)) (.one 4 2 (.one 3 1 (ak [5] .fin))))) ?_;unfold dkV at h;have k3r:∀ X,(M5.put b2 X) b3=some (.cells true [str d'.w,str d'.p,v',str t,.int .i64 k] 5):=fun X=>by rw[ai _ _ (Ne.symm n23)];exact k3q
  simp(disch:=omega)[aq k3q,aj k3q,k2q,al,hf',jW];exact ae (s5 _) h
 ·have hr:=JW hg hk;have h:=h d v _ M (.inl ⟨rfl,rfl,rfl⟩) hr;unfold dkV at h;simp(disch:=omega)[hf',hf,aq k1',k2',al,a7];exact ae (((sN.trans (cY hgv)).putN hb3 _).ovr h2.2 _) h
end Go.Proofs.YtapimhjbilkfpaaGreatDoor
