/- Lemmas for FnExactDeskAfter, part 30 of 33. -/
import Derived.Test.YtapimhjbilkfpaaGreatDoorZ28
set_option linter.unusedVariables false
set_option linter.unusedSimpArgs false
namespace Go.Proofs.YtapimhjbilkfpaaGreatDoor
open Go Go.Proofs.Tryz List
theorem lh{l:B8}(h:bS l=false):Ma l = -1:=nh (by rw[h];decide)
theorem Cp{l:B8}{i:Nat}(h:i<l.length):cj (l.take (i+1))=cj (l.take i)*10+(l[i].toNat-48):=by
 rw[aw l h,lk]
set_option maxHeartbeats 1000000 in
theorem gb(l:B8)(M:Mem)(R:VP)(hl:l.length<=2000000)(h:R (.int .i64 (Ma l)) M):ar prog 61 [str l] M R:=by
 refine fnS func61 rfl ntmps61 results61 ?_;by_cases h0:l.length=0
 ·have hn:bS l=false:=by
   cases hq:bS l with
   | false=>rfl
   | true=>have:=(Aq hq).1;omega
  rw[lh hn]at h;have h0I:((l.length:Nat):Int)=0:=by omega
  simp(disch:=omega)[h0,undef];exact ad h
 have h0I:¬((l.length:Nat):Int)=0:=by omega
 by_cases h9:9<l.length
 ·have hn:bS l=false:=by
   cases hq:bS l with
   | false=>rfl
   | true=>have:=(Aq hq).2;omega
  rw[lh hn]at h;have h9I:(9:Int)<(l.length:Nat):=by omega
  simp(disch:=omega)[bNe.2 h0I,h9I,undef];exact ad h
 have h9I:¬(9:Int)<(l.length:Nat):=by omega
 obtain⟨u,hu⟩:∃ u,l[0]?=some u:=⟨l[0],gEl (by omega)⟩;have hhd:l.headD 0=u:=by
  cases l with
  | nil=>cases hu
  | cons x r=>injection hu
 have hgd:l.getD 0 0=u:=by rw[gDe,hu];rfl
 by_cases hz:1<l.length/\u=48
 ·have hn:bS l=false:=by
   cases hq:bS l with
   | false=>rfl
   | true=>
    have:=(dS.1 hq).1.head;rw[hhd]at this;rcases this with q|q
    ·omega
    ·exact absurd hz.2 q
  rw[lh hn]at h;have h1I:(1:Int)<(l.length:Nat):=by omega
  have hl0:(0:Int)<(l.length:Nat):=by omega
  have hu48:u=48:=hz.2;subst hu48;simp(disch:=omega)[bNe.2 h0I,h9I,h1I,lB hu];exact ad h
 have hcond:(¬ 1<l.length)\/(1<l.length/\¬((u.toNat:Nat):Int)=48):=by
  by_cases q:1<l.length
  ·refine .inr ⟨q,fun e=>hz ⟨q,UInt8.toNat_inj.1 ?_⟩⟩;have:(48:UInt8).toNat=48:=rfl;omega
  ·exact .inl q
 have main:∀ j,j<=l.length->(∀ b∈l.take j,ky b=true)->cj (l.take j)<1000000000/\cj (l.take j)<10 ^ j:=fun j hj hd=>by
  have h1:=Dj (l.take j).length (l.take j) rfl hd;have e:(l.take j).length=j:=by rw[lTa];omega
  rw[e]at h1;have h2:10 ^ j<=10 ^ 9:=Nat.pow_le_pow_right (by decide) (by omega);have h3:(10:Nat) ^ 9=1000000000:=by decide
  exact⟨by omega,h1⟩
 rcases id hcond with q|⟨q1,q2⟩
 ·have h1I:¬(1:Int)<(l.length:Nat):=by omega
  simp(disch:=omega)[bNe.2 h0I,h9I,h1I,undef];refine aP aR (rlA [2,3,4] 23 24) (fun i:Nat=>[(4,.int .i64 (i:Nat)),(3,.int .i64 (cj (l.take i):Nat))]) (fun i N=>M=N/\i<=l.length/\∀ b∈l.take i,ky b=true) (fun i=>l.length-i) 0 (by kernel_rfl) (by simp(disch:=omega)[cj]) ⟨rfl,lZe _,(by intro b hb;simp at hb)⟩ ?_
  rintro i N g ⟨rfl,hi,hd⟩
  obtain⟨m1,_⟩:=main i hi hd;by_cases hlt:i<l.length
  ·have hltI:(i:Int)<(l.length:Nat):=by omega
   have hx:l[i]?=some l[i]:=gEl hlt;have htk:=aw l hlt;have hnt:=Cp hlt;have hmem:l[i]∈l:=getElem_mem hlt;have hbadd:ky l[i]=false->bS l=false:=fun e=>by
    cases hq:bS l with
    | false=>rfl
    | true=>have:=(dS.1 hq).1.dig _ hmem;rw[e]at this;cases this
   generalize cj (l.take i)=V at *;generalize hV2:cj (l.take (i+1))=V2 at *;generalize l[i]=y at *;by_cases hy:48<=y.toNat/\y.toNat<=57
   ·obtain⟨z,hzE⟩:∃ z,y.toNat=48+z:=⟨y.toNat-48,by omega⟩;have hdy:ky y=true:=by unfold ky;rw[Bool.and_eq_true,decide_eq_true_eq,decide_eq_true_eq];exact hy
    have h48:¬((y.toNat:Nat):Int)<48:=by omega
    have h57:¬(57:Int)<((y.toNat:Nat):Int):=by omega
    have hzI:((y.toNat:Nat):Int)-48=(z:Nat):=by omega
    have hV:(V:Int)*10+(z:Nat)=(V2:Nat):=by omega
    have hz9:z<=9:=by omega
    simp(disch:=omega)[hltI,lB hx,h48,h57,hzI,hV];exact rndA (i+1) (by simp(disch:=omega)[hV2]) ⟨rfl,by omega,fun w hw=>by
     rw[htk]at hw;rcases List.mem_append.1 hw with hw|hw
     ·exact hd w hw
     ·rw[List.mem_singleton.1 hw];exact hdy⟩
   ·have hdy:ky y=false:=by
     cases hq:ky y with
     | false=>rfl
     | true=>exact absurd (lJ hq) hy
    rw[lh (hbadd hdy)]at h;by_cases h48:y.toNat<48
    ·have h48I:((y.toNat:Nat):Int)<48:=by omega
     simp(disch:=omega)[hltI,lB hx,h48I,undef];exact ad h
    ·have h48I:¬((y.toNat:Nat):Int)<48:=by omega
     have h57:(57:Int)<((y.toNat:Nat):Int):=by omega
     simp(disch:=omega)[hltI,lB hx,h48I,h57];exact ad h
  ·have hie:i=l.length:=by omega
   have hltI:¬(i:Int)<(l.length:Nat):=by omega
   have hB:bS l=true:=by
    rw[hie,take_length]at hd;refine dS.2 ⟨⟨fun e=>h0 (by rw[e];rfl),hd,?_⟩,by omega⟩;rw[hhd];rcases hcond with q|⟨q1,q2⟩
    ·exact .inl (by omega)
    ·exact .inr (fun e=>q2 (by rw[e];rfl))
   rw[me hB]at h;rw[hie,take_length];simp(disch:=omega);exact ad h
 ·have h1I:(1:Int)<(l.length:Nat):=by omega
  have hl0:(0:Int)<(l.length:Nat):=by omega
  simp(disch:=omega)[bNe.2 h0I,h9I,h1I,lB hu,bNe.2 q2];refine aP aR (rlA [2,3,4] 23 24) (fun i:Nat=>[(4,.int .i64 (i:Nat)),(3,.int .i64 (cj (l.take i):Nat))]) (fun i N=>M=N/\i<=l.length/\∀ b∈l.take i,ky b=true) (fun i=>l.length-i) 0 (by kernel_rfl) (by simp(disch:=omega)[cj]) ⟨rfl,lZe _,(by intro b hb;simp at hb)⟩ ?_
  rintro i N g ⟨rfl,hi,hd⟩
  obtain⟨m1,_⟩:=main i hi hd;by_cases hlt:i<l.length
  ·have hltI:(i:Int)<(l.length:Nat):=by omega
   have hx:l[i]?=some l[i]:=gEl hlt;have htk:=aw l hlt;have hnt:=Cp hlt;have hmem:l[i]∈l:=getElem_mem hlt;have hbadd:ky l[i]=false->bS l=false:=fun e=>by
    cases hq:bS l with
    | false=>rfl
    | true=>have:=(dS.1 hq).1.dig _ hmem;rw[e]at this;cases this
   generalize cj (l.take i)=V at *;generalize hV2:cj (l.take (i+1))=V2 at *;generalize l[i]=y at *;by_cases hy:48<=y.toNat/\y.toNat<=57
   ·obtain⟨z,hzE⟩:∃ z,y.toNat=48+z:=⟨y.toNat-48,by omega⟩;have hdy:ky y=true:=by unfold ky;rw[Bool.and_eq_true,decide_eq_true_eq,decide_eq_true_eq];exact hy
    have h48:¬((y.toNat:Nat):Int)<48:=by omega
    have h57:¬(57:Int)<((y.toNat:Nat):Int):=by omega
    have hzI:((y.toNat:Nat):Int)-48=(z:Nat):=by omega
    have hV:(V:Int)*10+(z:Nat)=(V2:Nat):=by omega
    have hz9:z<=9:=by omega
    simp(disch:=omega)[hltI,lB hx,h48,h57,hzI,hV];exact rndA (i+1) (by simp(disch:=omega)[hV2]) ⟨rfl,by omega,fun w hw=>by
     rw[htk]at hw;rcases List.mem_append.1 hw with hw|hw
     ·exact hd w hw
     ·rw[List.mem_singleton.1 hw];exact hdy⟩
   ·have hdy:ky y=false:=by
     cases hq:ky y with
     | false=>rfl
     | true=>exact absurd (lJ hq) hy
    rw[lh (hbadd hdy)]at h;by_cases h48:y.toNat<48
    ·have h48I:((y.toNat:Nat):Int)<48:=by omega
     simp(disch:=omega)[hltI,lB hx,h48I,undef];exact ad h
    ·have h48I:¬((y.toNat:Nat):Int)<48:=by omega
     have h57:(57:Int)<((y.toNat:Nat):Int):=by omega
     simp(disch:=omega)[hltI,lB hx,h48I,h57];exact ad h
  ·have hie:i=l.length:=by omega
   have hltI:¬(i:Int)<(l.length:Nat):=by omega
   have hB:bS l=true:=by
    rw[hie,take_length]at hd;refine dS.2 ⟨⟨fun e=>h0 (by rw[e];rfl),hd,?_⟩,by omega⟩;rw[hhd];rcases hcond with q|⟨q1,q2⟩
    ·exact .inl (by omega)
    ·exact .inr (fun e=>q2 (by rw[e];rfl))
   rw[me hB]at h;rw[hie,take_length];simp(disch:=omega);exact ad h
theorem Eh{M N M4:Mem}{v v':Value}{d d':Dk}(hs:Sub M N)(g:Gv N v d v' d' M4):∃ M',Gv M v d v' d' M'/\Sub M' M4/\∀ b B,M b=none->N b=some B->M' b=none:=by
 rcases g with ⟨h1,h2,rfl⟩|o
 ·exact⟨M,.inl ⟨h1,h2,rfl⟩,hs,fun b B hb _=>hb⟩
 ·rcases o with ⟨h1,h2,rfl⟩|⟨b',c,h1,h2,h3,rfl⟩
  ·refine⟨M,.inr ?_,hs,fun b B hb _=>hb⟩;rw[h1,h2];exact Own.nil M
  ·refine⟨M.put b' (.cells true (strs d'.ms) c),.inr (.inr ⟨b',c,h1,bA hs h2,h3,rfl⟩),hs.both b' _,fun b B hb k=>?_⟩;have hne:b≠b':=by rintro rfl;rw[k]at h2;cases h2
   rw[ai _ _ hne];exact hb
theorem TF(d:Dk)(c:B8)(zs:List Int)(h:tU c=true):ij d c zs=none:=by
 unfold tU at h;simp only[Bool.or_eq_true,decide_eq_true_eq]at h;rcases h with rfl|rfl|rfl|rfl
 all_goals
  match zs with
  | []=>simp[ij,aM,bK,dE]
  | [_]=>simp[ij]
  | [_,_]=>simp[ij,gw]
  | _::_::_::_=>simp[ij]
theorem uE(d:Dk)(c:B8)(r:List B8)(h:tU c=false\/r.length≠1)(hnm:¬(c=[110,97,109,101]/\r.length=2)):iq d c r=if r.all bS then ij d c (eM r) else none:=by
 unfold iq;cases ht:tU c
 ·rw[if_neg (by decide),if_neg hnm]
 ·rw[if_pos rfl,TF d c _ ht];rcases h with h|h
  ·rw[ht]at h;cases h
  ·match r,h with
   | [],_=>simp
   | [_],q=>exact absurd rfl q
   | _::_::_,_=>simp
theorem NQ(d:Dk)(x y:B8):iq d [110,97,109,101] [x,y]=if bS y then bec d (gI x (cj y:Nat)) (iH x (cj y:Nat)) else none:=by
 unfold iq;rw[if_neg (by decide),if_pos ⟨rfl,rfl⟩];rfl
theorem CT(d:Dk)(c x:B8)(h:tU c=true):iq d c [x]=dX d c x:=by unfold iq;rw[h,if_pos rfl]
set_option maxHeartbeats 4000000 in
set_option maxRecDepth 4000 in
theorem JV(d:Dk)(v:Value)(l:B8)(M:Mem)(R:VP)(hd:d.ok)(hv:Rd M v (strs d.ms))(hl:l.length<=1500000)
  (h:∀ d' v' t k M',Gv M v d v' d' M'->Got (rU d l) d' t k->R (.tuple #[dkV d' v',str t,.int .i64 k]) M'):ar prog 32 [dkV d v,str l] M R:=by
 have hok:=hd;obtain⟨hw,hp,hm⟩:=hd;have hw60:=au hw;have hfi:cP d.ms:=fun w hw=>by have:=(bL hm hw).1;omega
 have hm5:=(aV hm).2;have hf:=aT hv;unfold dkV;refine fnS func32 rfl ntmps32 results32 ?_;simp(disch:=omega);intro b1 hb1;have h1:Sub M (M.put b1 (.cells true [str d.w,str d.p,v] 3)):=(Sub.refl M).put hb1 _;simp(disch:=omega);intro b2 hb2;have h2:=hb2;rw[aA]at h2;have sN:=h1.putN hb2 (.cells true [str [],str [],.slice none 0 0] 3);have k1:((M.put b1 (.cells true [str d.w,str d.p,v] 3)).put b2 (.cells true [str [],str [],.slice none 0 0] 3)) b1=some (.cells true [str d.w,str d.p,v] 3):=by rw[ai _ _ (Ne.symm h2.1)];exact ag _ _ _
 have k2:((M.put b1 (.cells true [str d.w,str d.p,v] 3)).put b2 (.cells true [str [],str [],.slice none 0 0] 3)) b2=some (.cells true [str [],str [],.slice none 0 0] 3):=ag _ _ _;generalize (M.put b1 (.cells true [str d.w,str d.p,v] 3)).put b2 (.cells true [str [],str [],.slice none 0 0] 3)=N at *;simp(disch:=omega);refine q9 l 32 _ _ (by omega) ?_;intro v5 M3 o5;rw[rT]at o5;obtain⟨c,r,hs,hcl,hrl,hrn⟩:=rh l;rw[EF d hs]at h;rw[hs]at o5;rcases o5 with ⟨_,e,_⟩|⟨b5,c5,rfl,hb5,hc5,hM3⟩
 ·cases e
 have n15:b1≠b5:=by rintro rfl;rw[k1]at hb5;cases hb5
 have n25:b2≠b5:=by rintro rfl;rw[k2]at hb5;cases hb5
 have k5:M3 b5=some (.cells true (strs (c::r)) c5):=by rw[hM3];exact ag _ _ _
 have s3:Sub M M3:=by rw[hM3];exact sN.putN hb5 _
 have k1:M3 b1=some (.cells true [str d.w,str d.p,v] 3):=by rw[hM3,ai _ _ n15];exact k1
 have k2:M3 b2=some (.cells true [str [],str [],.slice none 0 0] 3):=by rw[hM3,ai _ _ n25];exact k2
 clear hM3;have hln:(strs (c::r)).length=r.length+1:=by rw[ah];rfl
 rw[hln]at hc5 ⊢;have g0:M3.get? b5 0=some (str c):=by rw[al k5];rfl
 have hv3:=hv.sub s3;have hl0:(0:Int)<(r.length:Nat)+1:=by omega
 by_cases hr1:r.length=1
 ·obtain⟨x,hrx⟩:∃ x,r=[x]:=by
   match r,hr1 with
   | [x],_=>exact⟨x,rfl⟩
  have g1:M3.get? b5 1=some (str x):=by rw[al k5,hrx];rfl
  have hx:=hrl x (by rw[hrx];simp);have hr1I:((r.length:Nat):Int)=1:=by omega
  simp(disch:=omega)[g0,hr1];refine plyS (ak [0,1,2,3,4] (.alt 5 1 (ak [6,7,8,9,10] (.one 11 1 (.one 12 2 (ak [13,14,15] .fin)))) (.one 11 1 (.one 5 1 (ak [6,7,8,9,10] (.one 12 2 (ak [13,14,15] .fin))))))) ?_;simp(disch:=omega)[jz,aq k1,g1];refine⟨?_,?_⟩
  ·refine Ak d v c x _ _ hok hv3 (by omega) ?_ ?_
   ·intro ht d' v' t k M4 hgv hg;have hf':=eD hf hgv;have k2':=cU hgv _ _ k2;obtain⟨M',g',s',hm2⟩:=Eh s3 hgv;have hm2:=hm2 _ _ h2.2 k2;have h:=h d' v' t k M' g' (by rw[hrx,CT d c x ht];exact hg);unfold dkV at h ⊢;simp(disch:=omega);refine⟨cU hgv,?_⟩;intro b6 hb6;have n26:b2≠b6:=by rintro rfl;rw[k2']at hb6;cases hb6
    simp(disch:=omega)[hf',aj,aW,k2'];refine⟨(Sub.refl M4).put hb6 _,?_⟩;exact ae ((s'.putN hb6 _).ovr hm2 _) h
   ·intro ht;have hpX:=uE d c r (.inl ht) (fun q=>by omega);rw[hpX]at h;unfold dkV;simp(disch:=omega);intro b6 hb6;have n16:b1≠b6:=by rintro rfl;rw[k1]at hb6;cases hb6
    have n26:b2≠b6:=by rintro rfl;rw[k2]at hb6;cases hb6
    have n56:b5≠b6:=by rintro rfl;rw[k5]at hb6;cases hb6
    simp(disch:=omega)[hf,aj,aW,undef];refine⟨(Sub.refl M3).put hb6 _,?_⟩;have k1:(M3.put b6 (.cells true [str d.w,str d.p,v] 3)) b1=some (.cells true [str d.w,str d.p,v] 3):=by rw[ai _ _ n16];exact k1
    have k2:(M3.put b6 (.cells true [str d.w,str d.p,v] 3)) b2=some (.cells true [str [],str [],.slice none 0 0] 3):=by rw[ai _ _ n26];exact k2
    have k5:(M3.put b6 (.cells true [str d.w,str d.p,v] 3)) b5=some (.cells true (strs (c::r)) c5):=by rw[ai _ _ n56];exact k5
    have s3:=s3.putN hb6 (.cells true [str d.w,str d.p,v] 3);have hv3:=hv.sub s3;generalize M3.put b6 (.cells true [str d.w,str d.p,v] 3)=M3 at *;clear g1;intro b7 hb7;have n17:b1≠b7:=by rintro rfl;rw[k1]at hb7;cases hb7
    have o7:Own M3 (.slice (some ⟨b7,0,none⟩) 0 0) (ints (eM [])) (M3.put b7 (.cells true [] 0)):=Own.new hb7 rfl (lRf 0);simp(disch:=omega);generalize M3.put b7 (.cells true [] 0)=N7 at *;generalize Value.slice (some ⟨b7,0,none⟩) 0 0=v7 at *;refine lupS (rlA [5,6,16,17,18] 82 22) (fun x:Nat×Value=>[(17,.int .i64 ((x.1:Int)+1)),(16,x.2)]) (fun x N=>x.1<=r.length/\(∀ w∈r.take x.1,bS w=true)/\Own M3 x.2 (ints (eM (r.take x.1))) N) (fun x=>r.length-x.1) (0,v7) ⟨lZe _,(by intro w hw;simp at hw),(by simp only[take_zero];exact o7)⟩ ?_
    rintro⟨j,u⟩ N8 g8 ⟨hj,hall,ho⟩
    simp only at hj hall ho;by_cases hlt:j<r.length
    ·have hltI:(j:Int)+1<(r.length:Nat)+1:=by omega
     obtain⟨q,hq⟩:∃ q:Nat,q=j+1:=⟨_,rfl⟩;have hqI:(j:Int)+1=(q:Nat):=by omega
     have gq:M3.get? b5 q=some (str r[j]):=by
      rw[al k5,hq];show (strs r)[j]?=_;rw[ba,gEl hlt];rfl
     have gq2:=jK gq ho.sub;have hm:r[j]∈r:=getElem_mem hlt;have hwl:=hrl _ hm;have hns:=mZ r hlt;have hnl:(eM (r.take j)).length=j:=by rw[gX,lTa];omega
     have hts:=aw r hlt;have k1:=ho.sub _ _ k1;have k2:=ho.sub _ _ k2;have hbadd:bS r[j]=false->r.all bS=false:=fun e=>by
      rw[all_eq_false];exact⟨_,hm,by rw[e];decide⟩
     have hqn:(q:Int)<(r.length:Nat)+1:=by omega
     generalize r[j]=w at *;rw[hqI];simp(disch:=omega)[gq2];refine gb w _ _ (by omega) ?_;by_cases hb:bS w=true
     ·rw[me hb];have hs:=fu hb;have c1:¬((cj w:Nat):Int)<0:=by omega
      have c2:¬(999999999:Int)<(cj w:Nat):=by omega
      simp(disch:=omega)[c1,c2];intro b' hb';simp(disch:=omega);refine aN ho ((Sub.refl _).put hb' _) (by simp(disch:=omega);rfl) rfl rfl (by first|omega|(simp(disch:=omega)<;>omega)) (by simp(disch:=omega)) (by simp(disch:=omega)[hnl];omega) ?_;intro v' M'' N'' ho' hs';rw[cv,<-hns]at ho';simp(disch:=omega);refine rndB M'' (j+1,v') hs' (by simp(disch:=omega);omega) ⟨by omega,fun y hy=>?_,ho'⟩;rw[hts]at hy;rcases List.mem_append.1 hy with hy|hy
      ·exact hall y hy
      ·rw[List.mem_singleton.1 hy];exact hb
     ·rw[nh hb];have hn:bS w=false:=by cases hq2:bS w with
       | false=>rfl
       | true=>exact absurd hq2 hb
      rw[hbadd hn,if_neg (by decide)]at h;have s3:=s3.trans ho.sub;have h:=h d v [] 6 M (.inl ⟨rfl,rfl,rfl⟩) rfl;unfold dkV at h;simp(disch:=omega)[aq k1,k2,aj,hf,undef];exact ae (s3.ovr h2.2 _) h
    ·have hje:j=r.length:=by omega
     have hltI:¬(j:Int)+1<(r.length:Nat)+1:=by omega
     rw[hje,take_length]at ho hall;have hallB:r.all bS=true:=List.all_eq_true.2 hall;rw[if_pos hallB]at h;have k1:=ho.sub _ _ k1;have k2:=ho.sub _ _ k2;have s3:=s3.trans ho.sub;have hv4:=hv3.sub ho.sub;have ru:=ho.rd;have hz:=vG hallB;have hzl:=gX r;clear ho;generalize eM r=zs at *;generalize N8=M4 at *;simp(disch:=omega);obtain⟨ua,uc,rfl,hua⟩:=ru.opened;rw[az]at hua ⊢;have ru2:=ru;rw[az]at ru2;by_cases cs:c=[115,116,97,110,100,97,114,100]
     ·subst cs;rw[pf]at h;simp(disch:=omega);refine ez _ zs _ _ ru2 (by omega) ?_;unfold aE;simp(disch:=omega)[aq k1];refine bQ d v _ _ _ _ hf (by have:=qy zs;omega) ?_;intro d2 t2 q2 hms hg;have h:=h d2 v t2 q2 M (.inl ⟨rfl,hms,rfl⟩) hg;unfold dkV at h ⊢;simp(disch:=omega)[k2,aj,hf];exact ae (s3.ovr h2.2 _) h
     by_cases hz0:zs.length=0
     ·omega
     by_cases hz1:zs.length=1
     ·obtain⟨x,rfl⟩:∃ x,zs=[x]:=by
       match zs,hz1 with
       | [x],_=>exact⟨x,rfl⟩
      have hx:=hz x (by simp);rcases hua with hq|⟨bu,ou,rfl,hua⟩
      ·cases hq
      have gx:M4.get? bu ou=some (.int .i64 x):=by have:=hua 0 (by simp);rw[Nat.add_zero]at this;exact this
      clear hua;by_cases ct:c=[116,117,114,110]
      ·subst ct;rw[rR]at h;simp(disch:=omega);refine plyS (ak [0,1,2,3,4] (.one 5 1 (ak [6,7,8,9,10] .fin))) ?_;simp(disch:=omega)[al k1,gx];refine pZ d.w x _ _ (by omega) ?_;unfold aE;simp(disch:=omega)[aq k1];refine bQ d v _ _ _ _ hf (by have:=x8 d.w x;omega) ?_;intro d2 t2 q2 hms hg;have h:=h d2 v t2 q2 M (.inl ⟨rfl,hms,rfl⟩) hg;unfold dkV at h ⊢;simp(disch:=omega)[k2,aj,hf];exact ae (s3.ovr h2.2 _) h
      by_cases cz:c=[122,105,109,105,110]
      ·subst cz;rw[xN]at h;simp(disch:=omega)[gx];refine oq x _ _ ?_;unfold aE;simp(disch:=omega)[aq k1];refine bQ d v _ _ _ _ hf (by have:=yO x;omega) ?_;intro d2 t2 q2 hms hg;have h:=h d2 v t2 q2 M (.inl ⟨rfl,hms,rfl⟩) hg;unfold dkV at h ⊢;simp(disch:=omega)[k2,aj,hf];exact ae (s3.ovr h2.2 _) h
      rw[xD d c x cs ct cz]at h;have h:=h d v [] 6 M (.inl ⟨rfl,rfl,rfl⟩) rfl;unfold dkV at h;simp(disch:=omega)[aq k1,k2,aj,hf,undef,bNe.2 cs,bNe.2 ct,bNe.2 cz];exact ae (s3.ovr h2.2 _) h
     omega
  ·intro b6 hb6;have n16:b1≠b6:=by rintro rfl;rw[k1]at hb6;cases hb6
   have n26:b2≠b6:=by rintro rfl;rw[k2]at hb6;cases hb6
   have n56:b5≠b6:=by rintro rfl;rw[k5]at hb6;cases hb6
   simp(disch:=omega);refine⟨(Sub.refl M3).put hb6 _,?_⟩;have sb:=s3.putN hb6 (.cells true [str [],str [],.slice none 0 0] 3);have kb1:(M3.put b6 (.cells true [str [],str [],.slice none 0 0] 3)) b1=some (.cells true [str d.w,str d.p,v] 3):=by rw[ai _ _ n16];exact k1
   have kb2:(M3.put b6 (.cells true [str [],str [],.slice none 0 0] 3)) b2=some (.cells true [str [],str [],.slice none 0 0] 3):=by rw[ai _ _ n26];exact k2
   have kb6:(M3.put b6 (.cells true [str [],str [],.slice none 0 0] 3)) b6=some (.cells true [str [],str [],.slice none 0 0] 3):=ag _ _ _;refine Ak d v c x _ _ hok (hv.sub sb) (by omega) ?_ ?_
   ·intro ht d' v' t k M4 hgv hg;have hf':=eD hf hgv;have k2':=cU hgv _ _ kb2;have k6':=cU hgv _ _ kb6;obtain⟨M',g',s',hm2⟩:=Eh sb hgv;have hm6:=hm2 _ _ (bA s3 hb6) kb6;have hm2:=hm2 _ _ h2.2 kb2;have h:=h d' v' t k M' g' (by rw[hrx,CT d c x ht];exact hg);unfold dkV at h ⊢;simp(disch:=omega)[hf',aj,k2',k6'];refine⟨cU hgv,?_⟩;exact ae ((s'.ovr hm6 _).ovr hm2 _) h
   ·intro ht;have hpX:=uE d c r (.inl ht) (fun q=>by omega);rw[hpX]at h;unfold dkV;simp(disch:=omega)[hf,aj,aW,undef];have k1:(M3.put b6 (.cells true [str d.w,str d.p,v] 3)) b1=some (.cells true [str d.w,str d.p,v] 3):=by rw[ai _ _ n16];exact k1
    have k2:(M3.put b6 (.cells true [str d.w,str d.p,v] 3)) b2=some (.cells true [str [],str [],.slice none 0 0] 3):=by rw[ai _ _ n26];exact k2
    have k5:(M3.put b6 (.cells true [str d.w,str d.p,v] 3)) b5=some (.cells true (strs (c::r)) c5):=by rw[ai _ _ n56];exact k5
    have s3:=s3.putN hb6 (.cells true [str d.w,str d.p,v] 3);have hv3:=hv.sub s3;generalize M3.put b6 (.cells true [str d.w,str d.p,v] 3)=M3 at *;clear g1;intro b7 hb7;have n17:b1≠b7:=by rintro rfl;rw[k1]at hb7;cases hb7
    have o7:Own M3 (.slice (some ⟨b7,0,none⟩) 0 0) (ints (eM [])) (M3.put b7 (.cells true [] 0)):=Own.new hb7 rfl (lRf 0);simp(disch:=omega);generalize M3.put b7 (.cells true [] 0)=N7 at *;generalize Value.slice (some ⟨b7,0,none⟩) 0 0=v7 at *;refine lupS (rlA [5,6,16,17,18] 82 22) (fun x:Nat×Value=>[(17,.int .i64 ((x.1:Int)+1)),(16,x.2)]) (fun x N=>x.1<=r.length/\(∀ w∈r.take x.1,bS w=true)/\Own M3 x.2 (ints (eM (r.take x.1))) N) (fun x=>r.length-x.1) (0,v7) ⟨lZe _,(by intro w hw;simp at hw),(by simp only[take_zero];exact o7)⟩ ?_
    rintro⟨j,u⟩ N8 g8 ⟨hj,hall,ho⟩
    simp only at hj hall ho;by_cases hlt:j<r.length
    ·have hltI:(j:Int)+1<(r.length:Nat)+1:=by omega
     obtain⟨q,hq⟩:∃ q:Nat,q=j+1:=⟨_,rfl⟩;have hqI:(j:Int)+1=(q:Nat):=by omega
     have gq:M3.get? b5 q=some (str r[j]):=by
      rw[al k5,hq];show (strs r)[j]?=_;rw[ba,gEl hlt];rfl
     have gq2:=jK gq ho.sub;have hm:r[j]∈r:=getElem_mem hlt;have hwl:=hrl _ hm;have hns:=mZ r hlt;have hnl:(eM (r.take j)).length=j:=by rw[gX,lTa];omega
     have hts:=aw r hlt;have k1:=ho.sub _ _ k1;have k2:=ho.sub _ _ k2;have hbadd:bS r[j]=false->r.all bS=false:=fun e=>by
      rw[all_eq_false];exact⟨_,hm,by rw[e];decide⟩
     have hqn:(q:Int)<(r.length:Nat)+1:=by omega
     generalize r[j]=w at *;rw[hqI];simp(disch:=omega)[gq2];refine gb w _ _ (by omega) ?_;by_cases hb:bS w=true
     ·rw[me hb];have hs:=fu hb;have c1:¬((cj w:Nat):Int)<0:=by omega
      have c2:¬(999999999:Int)<(cj w:Nat):=by omega
      simp(disch:=omega)[c1,c2];intro b' hb';simp(disch:=omega);refine aN ho ((Sub.refl _).put hb' _) (by simp(disch:=omega);rfl) rfl rfl (by first|omega|(simp(disch:=omega)<;>omega)) (by simp(disch:=omega)) (by simp(disch:=omega)[hnl];omega) ?_;intro v' M'' N'' ho' hs';rw[cv,<-hns]at ho';simp(disch:=omega);refine rndB M'' (j+1,v') hs' (by simp(disch:=omega);omega) ⟨by omega,fun y hy=>?_,ho'⟩;rw[hts]at hy;rcases List.mem_append.1 hy with hy|hy
      ·exact hall y hy
      ·rw[List.mem_singleton.1 hy];exact hb
     ·rw[nh hb];have hn:bS w=false:=by cases hq2:bS w with
       | false=>rfl
       | true=>exact absurd hq2 hb
      rw[hbadd hn,if_neg (by decide)]at h;have s3:=s3.trans ho.sub;have h:=h d v [] 6 M (.inl ⟨rfl,rfl,rfl⟩) rfl;unfold dkV at h;simp(disch:=omega)[aq k1,k2,aj,hf,undef];exact ae (s3.ovr h2.2 _) h
    ·have hje:j=r.length:=by omega
     have hltI:¬(j:Int)+1<(r.length:Nat)+1:=by omega
     rw[hje,take_length]at ho hall;have hallB:r.all bS=true:=List.all_eq_true.2 hall;rw[if_pos hallB]at h;have k1:=ho.sub _ _ k1;have k2:=ho.sub _ _ k2;have s3:=s3.trans ho.sub;have hv4:=hv3.sub ho.sub;have ru:=ho.rd;have hz:=vG hallB;have hzl:=gX r;clear ho;generalize eM r=zs at *;generalize N8=M4 at *;simp(disch:=omega);obtain⟨ua,uc,rfl,hua⟩:=ru.opened;rw[az]at hua ⊢;have ru2:=ru;rw[az]at ru2;by_cases cs:c=[115,116,97,110,100,97,114,100]
     ·subst cs;rw[pf]at h;simp(disch:=omega);refine ez _ zs _ _ ru2 (by omega) ?_;unfold aE;simp(disch:=omega)[aq k1];refine bQ d v _ _ _ _ hf (by have:=qy zs;omega) ?_;intro d2 t2 q2 hms hg;have h:=h d2 v t2 q2 M (.inl ⟨rfl,hms,rfl⟩) hg;unfold dkV at h ⊢;simp(disch:=omega)[k2,aj,hf];exact ae (s3.ovr h2.2 _) h
     by_cases hz0:zs.length=0
     ·omega
     by_cases hz1:zs.length=1
     ·obtain⟨x,rfl⟩:∃ x,zs=[x]:=by
       match zs,hz1 with
       | [x],_=>exact⟨x,rfl⟩
      have hx:=hz x (by simp);rcases hua with hq|⟨bu,ou,rfl,hua⟩
      ·cases hq
      have gx:M4.get? bu ou=some (.int .i64 x):=by have:=hua 0 (by simp);rw[Nat.add_zero]at this;exact this
      clear hua;by_cases ct:c=[116,117,114,110]
      ·subst ct;rw[rR]at h;simp(disch:=omega);refine plyS (ak [0,1,2,3,4] (.one 5 1 (ak [6,7,8,9,10] .fin))) ?_;simp(disch:=omega)[al k1,gx];refine pZ d.w x _ _ (by omega) ?_;unfold aE;simp(disch:=omega)[aq k1];refine bQ d v _ _ _ _ hf (by have:=x8 d.w x;omega) ?_;intro d2 t2 q2 hms hg;have h:=h d2 v t2 q2 M (.inl ⟨rfl,hms,rfl⟩) hg;unfold dkV at h ⊢;simp(disch:=omega)[k2,aj,hf];exact ae (s3.ovr h2.2 _) h
      by_cases cz:c=[122,105,109,105,110]
      ·subst cz;rw[xN]at h;simp(disch:=omega)[gx];refine oq x _ _ ?_;unfold aE;simp(disch:=omega)[aq k1];refine bQ d v _ _ _ _ hf (by have:=yO x;omega) ?_;intro d2 t2 q2 hms hg;have h:=h d2 v t2 q2 M (.inl ⟨rfl,hms,rfl⟩) hg;unfold dkV at h ⊢;simp(disch:=omega)[k2,aj,hf];exact ae (s3.ovr h2.2 _) h
      rw[xD d c x cs ct cz]at h;have h:=h d v [] 6 M (.inl ⟨rfl,rfl,rfl⟩) rfl;unfold dkV at h;simp(disch:=omega)[aq k1,k2,aj,hf,undef,bNe.2 cs,bNe.2 ct,bNe.2 cz];exact ae (s3.ovr h2.2 _) h
     omega
 ·have hr1I:¬((r.length:Nat):Int)=1:=by omega
  by_cases hnm:c=[110,97,109,101]/\r.length=2
  ·obtain⟨hc,hr2⟩:=hnm;obtain⟨x,y,hrx⟩:∃ x y,r=[x,y]:=by
    match r,hr2 with
    | [x,y],_=>exact⟨x,y,rfl⟩
   have g1:M3.get? b5 1=some (str x):=by rw[al k5,hrx];rfl
   have g2:M3.get? b5 2=some (str y):=by rw[al k5,hrx];rfl
   have hx:=hrl x (by rw[hrx];simp);have hy:=hrl y (by rw[hrx];simp);rw[hrx,hc,NQ]at h;simp(disch:=omega)[g0,hr2,hc,g2];refine gb y _ _ (by omega) ?_;cases hb:bS y
   ·rw[lh hb];rw[hb,if_neg (by decide)]at h;have h:=h d v [] 6 M (.inl ⟨rfl,rfl,rfl⟩) rfl;unfold dkV at h;simp(disch:=omega)[aq k1,k2,aj,hf,undef];exact ae (s3.ovr h2.2 _) h
   ·rw[me hb];rw[hb,if_pos rfl]at h;have hs:=fu hb;have c1:¬((cj y:Nat):Int)<0:=by omega
    have c2:¬(999999999:Int)<(cj y:Nat):=by omega
    simp(disch:=omega)[c1,c2,g1];refine zK x _ _ _ (by omega) ?_;unfold aE;simp(disch:=omega)[aq k1];refine bQ d v _ _ _ _ hf (by have:=yn x (cj y:Nat);omega) ?_;intro d2 t2 q2 hms hg;have h:=h d2 v t2 q2 M (.inl ⟨rfl,hms,rfl⟩) hg;unfold dkV at h ⊢;simp(disch:=omega)[k2,aj,hf];exact ae (s3.ovr h2.2 _) h
  ·have hpX:=uE d c r (.inr hr1) hnm;rw[hpX]at h;have hnm2:(¬ r.length=2)\/(r.length=2/\(c==[110,97,109,101])=false):=by
    by_cases e:r.length=2
    ·exact .inr ⟨e,bNe.2 (fun q=>hnm ⟨q,e⟩)⟩
    ·exact .inl e
   rcases hnm2 with e2|⟨e2,e3⟩
   ·have e2I:¬((r.length:Nat):Int)+1=3:=by omega
    have e1I:¬((r.length:Nat):Int)+1=2:=by omega
    simp(disch:=omega)[g0,hl0,bNe.2 e2I,bNe.2 e1I,undef];intro b7 hb7;have n17:b1≠b7:=by rintro rfl;rw[k1]at hb7;cases hb7
    have o7:Own M3 (.slice (some ⟨b7,0,none⟩) 0 0) (ints (eM [])) (M3.put b7 (.cells true [] 0)):=Own.new hb7 rfl (lRf 0);simp(disch:=omega);generalize M3.put b7 (.cells true [] 0)=N7 at *;generalize Value.slice (some ⟨b7,0,none⟩) 0 0=v7 at *;refine lupS (rlA [5,6,16,17,18] 82 22) (fun x:Nat×Value=>[(17,.int .i64 ((x.1:Int)+1)),(16,x.2)]) (fun x N=>x.1<=r.length/\(∀ w∈r.take x.1,bS w=true)/\Own M3 x.2 (ints (eM (r.take x.1))) N) (fun x=>r.length-x.1) (0,v7) ⟨lZe _,(by intro w hw;simp at hw),(by simp only[take_zero];exact o7)⟩ ?_
    rintro⟨j,u⟩ N8 g8 ⟨hj,hall,ho⟩
    simp only at hj hall ho;by_cases hlt:j<r.length
    ·have hltI:(j:Int)+1<(r.length:Nat)+1:=by omega
     obtain⟨q,hq⟩:∃ q:Nat,q=j+1:=⟨_,rfl⟩;have hqI:(j:Int)+1=(q:Nat):=by omega
     have gq:M3.get? b5 q=some (str r[j]):=by
      rw[al k5,hq];show (strs r)[j]?=_;rw[ba,gEl hlt];rfl
     have gq2:=jK gq ho.sub;have hm:r[j]∈r:=getElem_mem hlt;have hwl:=hrl _ hm;have hns:=mZ r hlt;have hnl:(eM (r.take j)).length=j:=by rw[gX,lTa];omega
     have hts:=aw r hlt;have k1:=ho.sub _ _ k1;have k2:=ho.sub _ _ k2;have hbadd:bS r[j]=false->r.all bS=false:=fun e=>by
      rw[all_eq_false];exact⟨_,hm,by rw[e];decide⟩
     have hqn:(q:Int)<(r.length:Nat)+1:=by omega
     generalize r[j]=w at *;rw[hqI];simp(disch:=omega)[hqn,gq2];refine gb w _ _ (by omega) ?_;by_cases hb:bS w=true
     ·rw[me hb];have hs:=fu hb;have c1:¬((cj w:Nat):Int)<0:=by omega
      have c2:¬(999999999:Int)<(cj w:Nat):=by omega
      simp(disch:=omega)[c1,c2];intro b' hb';simp(disch:=omega);refine aN ho ((Sub.refl _).put hb' _) (by simp(disch:=omega);rfl) rfl rfl (by first|omega|(simp(disch:=omega)<;>omega)) (by simp(disch:=omega)) (by simp(disch:=omega)[hnl];omega) ?_;intro v' M'' N'' ho' hs';rw[cv,<-hns]at ho';simp(disch:=omega);refine rndB M'' (j+1,v') hs' (by simp(disch:=omega);omega) ⟨by omega,fun y hy=>?_,ho'⟩;rw[hts]at hy;rcases List.mem_append.1 hy with hy|hy
      ·exact hall y hy
      ·rw[List.mem_singleton.1 hy];exact hb
     ·rw[nh hb];have hn:bS w=false:=by cases hq2:bS w with
       | false=>rfl
       | true=>exact absurd hq2 hb
      rw[hbadd hn,if_neg (by decide)]at h;have s3:=s3.trans ho.sub;have h:=h d v [] 6 M (.inl ⟨rfl,rfl,rfl⟩) rfl;unfold dkV at h;simp(disch:=omega)[aq k1,k2,aj,hf,undef];exact ae (s3.ovr h2.2 _) h
    ·have hje:j=r.length:=by omega
     have hltI:¬(j:Int)+1<(r.length:Nat)+1:=by omega
     rw[hje,take_length]at ho hall;have hallB:r.all bS=true:=List.all_eq_true.2 hall;rw[if_pos hallB]at h;have k1:=ho.sub _ _ k1;have k2:=ho.sub _ _ k2;have s3:=s3.trans ho.sub;have hv4:=hv3.sub ho.sub;have ru:=ho.rd;have hz:=vG hallB;have hzl:=gX r;clear ho;generalize eM r=zs at *;generalize N8=M4 at *;simp(disch:=omega)[hltI];obtain⟨ua,uc,rfl,hua⟩:=ru.opened;rw[az]at hua ⊢;have ru2:=ru;rw[az]at ru2;by_cases cs:c=[115,116,97,110,100,97,114,100]
     ·subst cs;rw[pf]at h;simp(disch:=omega);refine ez _ zs _ _ ru2 (by omega) ?_;unfold aE;simp(disch:=omega)[aq k1];refine bQ d v _ _ _ _ hf (by have:=qy zs;omega) ?_;intro d2 t2 q2 hms hg;have h:=h d2 v t2 q2 M (.inl ⟨rfl,hms,rfl⟩) hg;unfold dkV at h ⊢;simp(disch:=omega)[k2,aj,hf];exact ae (s3.ovr h2.2 _) h
     by_cases hz0:zs.length=0
     ·obtain rfl:zs=[]:=List.length_eq_zero_iff.1 hz0;rw[zx d c cs]at h;simp(disch:=omega)[aq k1,bNe.2 cs];refine FF d v c _ _ hok hv4 ?_;intro d' v' t' k M5 hgv hg;obtain⟨M',g',s',k4⟩:=tr s3 h2.2 k2 hgv (.cells true [str d'.w,str d'.p,v'] 3);have hf':=eD hf hgv;have h:=h d' v' t' k M' g' hg;unfold dkV at h ⊢;simp(disch:=omega)[k4,aj,hf'];exact ae s' h
     by_cases hz1:zs.length=1
     ·omega
     by_cases hz2:zs.length=2
     ·omega
     rw[ze d c zs cs hz0 hz1 hz2]at h;have i0:¬((zs.length:Nat):Int)=0:=by omega
     have i1:¬((zs.length:Nat):Int)=1:=by omega
     have i2:¬((zs.length:Nat):Int)=2:=by omega
     have tt:(c==[116,117,114,110])=true\/(c==[116,117,114,110])=false:=by cases (c==[116,117,114,110])<;>simp
     have zz:(c==[122,105,109,105,110])=true\/(c==[122,105,109,105,110])=false:=by cases (c==[122,105,109,105,110])<;>simp
     rcases tt with tt|tt
     ·rcases zz with zz|zz
      ·have h:=h d v [] 6 M (.inl ⟨rfl,rfl,rfl⟩) rfl;unfold dkV at h;simp(disch:=omega)[aq k1,k2,aj,hf,undef,tt,zz,bNe.2 cs,bNe.2 i0,bNe.2 i1,bNe.2 i2];exact ae (s3.ovr h2.2 _) h
      ·have h:=h d v [] 6 M (.inl ⟨rfl,rfl,rfl⟩) rfl;unfold dkV at h;simp(disch:=omega)[aq k1,k2,aj,hf,undef,tt,zz,bNe.2 cs,bNe.2 i0,bNe.2 i1,bNe.2 i2];exact ae (s3.ovr h2.2 _) h
     ·rcases zz with zz|zz
      ·have h:=h d v [] 6 M (.inl ⟨rfl,rfl,rfl⟩) rfl;unfold dkV at h;simp(disch:=omega)[aq k1,k2,aj,hf,undef,tt,zz,bNe.2 cs,bNe.2 i0,bNe.2 i1,bNe.2 i2];exact ae (s3.ovr h2.2 _) h
      ·have h:=h d v [] 6 M (.inl ⟨rfl,rfl,rfl⟩) rfl;unfold dkV at h;simp(disch:=omega)[aq k1,k2,aj,hf,undef,tt,zz,bNe.2 cs,bNe.2 i0,bNe.2 i2];exact ae (s3.ovr h2.2 _) h
   ·simp(disch:=omega)[g0,e2,e3];intro b7 hb7;have n17:b1≠b7:=by rintro rfl;rw[k1]at hb7;cases hb7
    have o7:Own M3 (.slice (some ⟨b7,0,none⟩) 0 0) (ints (eM [])) (M3.put b7 (.cells true [] 0)):=Own.new hb7 rfl (lRf 0);simp(disch:=omega);generalize M3.put b7 (.cells true [] 0)=N7 at *;generalize Value.slice (some ⟨b7,0,none⟩) 0 0=v7 at *;refine lupS (rlA [5,6,16,17,18] 82 22) (fun x:Nat×Value=>[(17,.int .i64 ((x.1:Int)+1)),(16,x.2)]) (fun x N=>x.1<=r.length/\(∀ w∈r.take x.1,bS w=true)/\Own M3 x.2 (ints (eM (r.take x.1))) N) (fun x=>r.length-x.1) (0,v7) ⟨lZe _,(by intro w hw;simp at hw),(by simp only[take_zero];exact o7)⟩ ?_
    rintro⟨j,u⟩ N8 g8 ⟨hj,hall,ho⟩
    simp only at hj hall ho;by_cases hlt:j<r.length
    ·have hltI:(j:Int)+1<(r.length:Nat)+1:=by omega
     obtain⟨q,hq⟩:∃ q:Nat,q=j+1:=⟨_,rfl⟩;have hqI:(j:Int)+1=(q:Nat):=by omega
     have gq:M3.get? b5 q=some (str r[j]):=by
      rw[al k5,hq];show (strs r)[j]?=_;rw[ba,gEl hlt];rfl
     have gq2:=jK gq ho.sub;have hm:r[j]∈r:=getElem_mem hlt;have hwl:=hrl _ hm;have hns:=mZ r hlt;have hnl:(eM (r.take j)).length=j:=by rw[gX,lTa];omega
     have hts:=aw r hlt;have k1:=ho.sub _ _ k1;have k2:=ho.sub _ _ k2;have hbadd:bS r[j]=false->r.all bS=false:=fun e=>by
      rw[all_eq_false];exact⟨_,hm,by rw[e];decide⟩
     have hqn:(q:Int)<(r.length:Nat)+1:=by omega
     generalize r[j]=w at *;rw[hqI];simp(disch:=omega)[gq2];refine gb w _ _ (by omega) ?_;by_cases hb:bS w=true
     ·rw[me hb];have hs:=fu hb;have c1:¬((cj w:Nat):Int)<0:=by omega
      have c2:¬(999999999:Int)<(cj w:Nat):=by omega
      simp(disch:=omega)[c1,c2];intro b' hb';simp(disch:=omega);refine aN ho ((Sub.refl _).put hb' _) (by simp(disch:=omega);rfl) rfl rfl (by first|omega|(simp(disch:=omega)<;>omega)) (by simp(disch:=omega)) (by simp(disch:=omega)[hnl];omega) ?_;intro v' M'' N'' ho' hs';rw[cv,<-hns]at ho';simp(disch:=omega);refine rndB M'' (j+1,v') hs' (by simp(disch:=omega);omega) ⟨by omega,fun y hy=>?_,ho'⟩;rw[hts]at hy;rcases List.mem_append.1 hy with hy|hy
      ·exact hall y hy
      ·rw[List.mem_singleton.1 hy];exact hb
     ·rw[nh hb];have hn:bS w=false:=by cases hq2:bS w with
       | false=>rfl
       | true=>exact absurd hq2 hb
      rw[hbadd hn,if_neg (by decide)]at h;have s3:=s3.trans ho.sub;have h:=h d v [] 6 M (.inl ⟨rfl,rfl,rfl⟩) rfl;unfold dkV at h;simp(disch:=omega)[aq k1,k2,aj,hf,undef];exact ae (s3.ovr h2.2 _) h
    ·have hje:j=r.length:=by omega
     have hltI:¬(j:Int)+1<(r.length:Nat)+1:=by omega
     rw[hje,take_length]at ho hall;have hallB:r.all bS=true:=List.all_eq_true.2 hall;rw[if_pos hallB]at h;have k1:=ho.sub _ _ k1;have k2:=ho.sub _ _ k2;have s3:=s3.trans ho.sub;have hv4:=hv3.sub ho.sub;have ru:=ho.rd;have hz:=vG hallB;have hzl:=gX r;clear ho;generalize eM r=zs at *;generalize N8=M4 at *;simp(disch:=omega);obtain⟨ua,uc,rfl,hua⟩:=ru.opened;rw[az]at hua ⊢;have ru2:=ru;rw[az]at ru2;by_cases cs:c=[115,116,97,110,100,97,114,100]
     ·subst cs;rw[pf]at h;simp(disch:=omega);refine ez _ zs _ _ ru2 (by omega) ?_;unfold aE;simp(disch:=omega)[aq k1];refine bQ d v _ _ _ _ hf (by have:=qy zs;omega) ?_;intro d2 t2 q2 hms hg;have h:=h d2 v t2 q2 M (.inl ⟨rfl,hms,rfl⟩) hg;unfold dkV at h ⊢;simp(disch:=omega)[k2,aj,hf];exact ae (s3.ovr h2.2 _) h
     by_cases hz0:zs.length=0
     ·omega
     by_cases hz1:zs.length=1
     ·omega
     by_cases hz2:zs.length=2
     ·obtain⟨x,y,rfl⟩:∃ x y,zs=[x,y]:=by
       match zs,hz2 with
       | [x,y],_=>exact⟨x,y,rfl⟩
      have hx:=hz x (by simp);have hy:=hz y (by simp);rw[KY d c x y cs]at h;rcases hua with hq|⟨bu,ou,rfl,hua⟩
      ·cases hq
      have gx:M4.get? bu ou=some (.int .i64 x):=by have:=hua 0 (by simp);rw[Nat.add_zero]at this;exact this
      have gy:M4.get? bu (ou+1)=some (.int .i64 y):=hua 1 (by simp);clear hua;have tt:(c==[116,117,114,110])=true\/(c==[116,117,114,110])=false:=by cases (c==[116,117,114,110])<;>simp
      have zz:(c==[122,105,109,105,110])=true\/(c==[122,105,109,105,110])=false:=by cases (c==[122,105,109,105,110])<;>simp
      rcases tt with tt|tt
      ·rcases zz with zz|zz
       ·simp(disch:=omega)[tt,zz,bNe.2 cs];refine plyS (ak [0,1,2,3,4,5,6,7] (.one 8 1 (ak [9,10,11] (.one 12 2 (ak [13,14] .fin))))) ?_;simp(disch:=omega)[aq k1,gx,gy];refine pb d v c x y _ _ hok hv4 hx hy ?_;intro d' v' t' k M5 hgv hg;obtain⟨M',g',s',k4⟩:=tr s3 h2.2 k2 hgv (.cells true [str d'.w,str d'.p,v'] 3);have hf':=eD hf hgv;have h:=h d' v' t' k M' g' hg;unfold dkV at h ⊢;simp(disch:=omega)[k4,aj,hf'];exact⟨cU hgv,ae s' h⟩
       ·simp(disch:=omega)[tt,zz,undef,bNe.2 cs];refine plyS (ak [0,1,2,3,4,5,6,7] (.one 8 1 (ak [9,10,11] (.one 12 2 (ak [13,14] .fin))))) ?_;simp(disch:=omega)[aq k1,gx,gy];refine pb d v c x y _ _ hok hv4 hx hy ?_;intro d' v' t' k M5 hgv hg;obtain⟨M',g',s',k4⟩:=tr s3 h2.2 k2 hgv (.cells true [str d'.w,str d'.p,v'] 3);have hf':=eD hf hgv;have h:=h d' v' t' k M' g' hg;unfold dkV at h ⊢;simp(disch:=omega)[k4,aj,hf'];exact⟨cU hgv,ae s' h⟩
      ·rcases zz with zz|zz
       ·simp(disch:=omega)[tt,zz,undef,bNe.2 cs];refine plyS (ak [0,1,2,3,4,5,6,7] (.one 8 1 (ak [9,10,11] (.one 12 2 (ak [13,14] .fin))))) ?_;simp(disch:=omega)[aq k1,gx,gy];refine pb d v c x y _ _ hok hv4 hx hy ?_;intro d' v' t' k M5 hgv hg;obtain⟨M',g',s',k4⟩:=tr s3 h2.2 k2 hgv (.cells true [str d'.w,str d'.p,v'] 3);have hf':=eD hf hgv;have h:=h d' v' t' k M' g' hg;unfold dkV at h ⊢;simp(disch:=omega)[k4,aj,hf'];exact⟨cU hgv,ae s' h⟩
       ·simp(disch:=omega)[tt,zz,undef,bNe.2 cs];refine plyS (ak [0,1,2,3,4,5,6,7] (.one 8 1 (ak [9,10,11] (.one 12 2 (ak [13,14] .fin))))) ?_;simp(disch:=omega)[aq k1,gx,gy];refine pb d v c x y _ _ hok hv4 hx hy ?_;intro d' v' t' k M5 hgv hg;obtain⟨M',g',s',k4⟩:=tr s3 h2.2 k2 hgv (.cells true [str d'.w,str d'.p,v'] 3);have hf':=eD hf hgv;have h:=h d' v' t' k M' g' hg;unfold dkV at h ⊢;simp(disch:=omega)[k4,aj,hf'];exact⟨cU hgv,ae s' h⟩
     omega
theorem bM{d d':Dk}{t t':B8}{c:Int}{n:Nat}(hl:t.length<=n)(h:bw d t c=some (d',t')):t'.length<=n:=by
 obtain⟨_,_,rfl⟩:=yb h;exact hl
theorem ew{d d':Dk}{t t':B8}{c:Int}(hl:t.length<=1000000)(h:bec d t c=some (d',t')):t'.length<=1100000:=by
 unfold bec at h;exact bM (by rw[dD];omega) h
theorem pk(q:Bool):(iD q).length<=3:=by unfold iD;split<;>decide
theorem nc{n:Int}(h:IOk n):(Lib.itoa n).length<=21:=dm n h.1 h.2
theorem Mq{d d':Dk}{c t:B8}(hd:d.ok)(h:aM d c=some (d',t)):t.length<=1100000:=by
 unfold aM at h;refine aI h (fun _ h=>ew (by have:=IF d.w;omega) h) (fun _ h=>?_);refine aI h (fun _ h=>ew (by have:=DD d.w;omega) h) (fun _ h=>?_);refine aI h (fun _ h=>ew (by have:=DC d.ms d.w 1;omega) h) (fun _ h=>?_);refine aI h (fun _ h=>ew (by have:=EN d.ms d.w;omega) h) (fun _ h=>?_);refine aI h (fun _ h=>bM (by rw[dD];have:=au hd.1;omega) h) (fun _ h=>?_);refine aI h (fun _ h=>bM (by rw[dD];have:=(bJ hd.2.1).2.1;omega) h) (fun _ h=>?_);refine aI h (fun _ h=>bM (by rw[dD];have:=DP d.ms;omega) h) (fun _ h=>?_);refine aI h (fun _ h=>bM (by have h1:=nc (za d.w).1;have h2:=nc (za d.w).2;rw[lAp,length_cons];omega) h) (fun _ h=>?_);refine aI h (fun _ h=>bM (by have h1:=nc (Ho d.w d.p);have h2:=(F4 d.w d.p).text;rw[lAp,length_cons];omega) h) (fun _ h=>?_);refine aI h (fun _ h=>bM (by decide) h) (fun _ h=>?_);unfold bK at h;refine aI h (fun _ h=>bM (by have:=(vj d.w).text;omega) h) (fun _ h=>?_);refine aI h (fun _ h=>bM (by have:=(DV d.w).text;omega) h) (fun _ h=>?_);refine aI h (fun _ h=>bM (by have:=(Iw d.w).text;omega) h) (fun _ h=>?_);refine aI h (fun _ h=>bM (by have h1:=nc (rS d.w);have h2:=Dd d.w;rw[lAp,length_cons,dD];omega) h) (fun _ h=>?_);refine aI h (fun _ h=>bM (by have h1:=nc (FB d.w);have h2:=QU d.w;rw[lAp,length_cons,dD];omega) h) (fun _ h=>?_);refine aI h (fun _ h=>bM (by have:=(IN d.w).text;omega) h) (fun _ h=>?_);refine aI h (fun _ h=>bM (by have:=(Ip d.w).text;omega) h) (fun _ h=>?_);refine aI h (fun _ h=>bM (by rw[dD];have:=PG d.w;omega) h) (fun _ h=>?_);refine aI h (fun _ h=>bM (by have:=(Kn d.w).text;omega) h) (fun _ h=>?_);refine aI h (fun _ h=>bM (by have h1:=nc (IH d.w);omega) h) (fun _ h=>?_);refine aI h (fun _ h=>bM (by have h1:=nc (GC d.w);have h2:=Qa d.w;rw[lAp,length_cons,dD];omega) h) (fun _ h=>?_);refine aI h (fun _ h=>bM (by have:=(Iz d.w).text;omega) h) (fun _ h=>?_);refine aI h (fun _ h=>bM (by rw[dD];have:=E3 d.ms;omega) h) (fun _ h=>?_);refine aI h (fun _ h=>bM (by have:=(It d.w).text;omega) h) (fun _ h=>?_);unfold dE at h;refine aI h (fun _ h=>bM (Nat.le_trans (pk _) (by decide)) h) (fun _ h=>?_);refine aI h (fun _ h=>bM (Nat.le_trans (pk _) (by decide)) h) (fun _ h=>?_);refine aI h (fun _ h=>bM (Nat.le_trans (pk _) (by decide)) h) (fun _ h=>?_);refine aI h (fun _ h=>bM (Nat.le_trans (pk _) (by decide)) h) (fun _ h=>?_);refine aI h (fun _ h=>bM (Nat.le_trans (pk _) (by decide)) h) (fun _ h=>?_);refine aI h (fun _ h=>bM (Nat.le_trans (pk _) (by decide)) h) (fun _ h=>?_);cases h
theorem Sl{d d':Dk}{c t:B8}{a b:Int}(h:gw d c a b=some (d',t)):t.length<=1100000:=by
 unfold gw at h;refine aI h (fun _ h=>ew (by have:=I4 d.w a b;omega) h) (fun _ h=>?_);refine aI h (fun _ h=>ew (by have:=Ko a b;omega) h) (fun _ h=>?_);refine aI h (fun _ h=>ew (by have:=O2 d.ms a b;omega) h) (fun _ h=>?_);refine aI h (fun _ h=>ew (by have:=JA a b;omega) h) (fun _ h=>?_);refine aI h (fun _ h=>bM (by have:=(Ag d.ms a b).text;omega) h) (fun _ h=>?_);refine aI h (fun _ h=>bM (by rw[dD];have:=J8 a b;omega) h) (fun _ h=>?_);refine aI h (fun _ h=>bM (by rw[dD];have:=zT d.p a b;omega) h) (fun _ h=>?_);refine aI h (fun _ h=>bM (by have h1:=nc (Jt d.p a b);omega) h) (fun _ h=>?_);cases h
theorem Px{d d':Dk}{c t u:B8}(h:dX d c t=some (d',u))(hl:t.length<=1000000):u.length<=1100000:=by
 unfold dX at h;refine aI h (fun _ h=>?_) (fun _ h=>?_)
 ·split at h
  ·exact ew hl h
  ·cases h
 refine aI h (fun _ h=>ew (by have:=Ez d.w t;omega) h) (fun _ h=>?_);refine aI h (fun _ h=>?_) (fun _ h=>?_)
 ·split at h
  ·exact bM (by rw[dD];omega) h
  ·cases h
 exact bM (by rw[dD];omega) h
theorem Sw{d d':Dk}{c u:B8}{n:List Int}(hd:d.ok)(h:ij d c n=some (d',u)):u.length<=1100000:=by
 unfold ij at h;refine aI h (fun _ h=>ew (by have:=qy n;omega) h) (fun _ h=>?_);split at h
 ·exact Mq hd h
 ·refine aI h (fun _ h=>ew (Nat.le_trans (x8 d.w _) (by decide)) h) (fun _ h=>?_);refine aI h (fun _ h=>ew (Nat.le_trans (yO _) (by decide)) h) (fun _ h=>?_);cases h
 ·exact Sl h
 ·cases h
theorem po{d:Dk}(hd:d.ok){l:B8}(hl:l.length<=1000000):(eL d l).2.length<=1100000:=by
 unfold eL;cases hx:rU d l with
 | none=>exact of_decide_eq_true rfl
 | some r=>
  obtain⟨d',u⟩:=r;show u.length<=1100000;obtain⟨c,r,hs,hcl,hrl,hrn⟩:=rh l;rw[EF d hs]at hx;unfold iq at hx;refine aI hx (fun _ hx=>?_) (fun _ hx=>?_)
  ·clear hs hrn
   match r,hrl,hx with
   | [t],hrl,hx=>exact Px hx (by have:=hrl t (by simp);omega)
   | [],_,hx=>cases hx
   | _::_::_,_,hx=>cases hx
  refine aI hx (fun _ hx=>?_) (fun _ hx=>?_)
  ·split at hx
   ·exact ew (by have:=yn (r.getD 0 []) (cj (r.getD 1 []):Nat);omega) hx
   ·cases hx
  ·split at hx
   ·exact Sw hd hx
   ·cases hx
def bR(l:B8):List B8:=if (spR 10 l).getLast (fo 10 l)=[] then (spR 10 l).dropLast else spR 10 l
def cf(s:Dk×B8)(l:B8):Dk×B8:=if l=[] then s else ((eL s.1 l).1,s.2++(eL s.1 l).2++[10])
def iQ(ls:List B8)(i:Nat):Dk×B8:=(ls.take i).foldl cf (dW,[])
def eC(l:B8):Option (Dk×B8):=if l.length<=4000/\(bR l).length<=40 then some (iQ (bR l) (bR l).length) else none
theorem vH(ls:List B8):iQ ls 0=(dW,[]):=rfl
theorem ph(ls:List B8){i:Nat}(h:i<ls.length):iQ ls (i+1)=cf (iQ ls i) ls[i]:=by
 unfold iQ;rw[aw ls h,foldl_append];rfl
theorem pB(ls:List B8):∀ i,i<=ls.length->(iQ ls i).1.ok
 | 0,_=>sZ
 | i+1,h=>by
  rw[ph ls (by omega)];unfold cf;split
  ·exact pB ls i (by omega)
  ·exact uZ (pB ls i (by omega)) _
theorem tV(ls:List B8)(hl:∀ w∈ls,w.length<=1000000):∀ i,i<=ls.length->(iQ ls i).2.length<=i*1100001
 | 0,_=>by rw[vH];exact lZe _
 | i+1,h=>by
  have ih:=tV ls hl i (by omega);have hr:=po (pB ls i (by omega)) (hl ls[i] (getElem_mem (by omega)));rw[ph ls (by omega)];unfold cf;split
  ·rw[Nat.succ_mul];exact Nat.le_trans ih (Nat.le_add_right _ _)
  ·rw[Nat.succ_mul,lAp,lAp];have e:([10]:B8).length=1:=rfl;omega
theorem HL(l:B8):∀ w∈bR l,w.length<=l.length:=fun w hw=>by
 unfold bR at hw;split at hw
 ·exact nY 10 l w ((dropLast_sublist _).subset hw)
 ·exact nY 10 l w hw
end Go.Proofs.YtapimhjbilkfpaaGreatDoor
