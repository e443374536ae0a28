/- Lemmas for FnExactConsole, part 42 of 46. -/
import Derived.Test.YtapimhjbilkfpaaGreatDoorZ39
import Derived.Test.YtapimhjbilkfpaaGreatDoorZ40
import Derived.Test.YtapimhjbilkfpaaGreatDoorZ04
set_option linter.unusedVariables false
set_option linter.unusedSimpArgs false
namespace Go.Proofs.YtapimhjbilkfpaaGreatDoor
open Go Go.Proofs.Tryz List
theorem kV{l:List UInt8}(h:bQ l=false):L9 l = -1:=nK (by rw[h];decide)
theorem BD{l:List UInt8}{i:Nat}(h:i<l.length):cd (l.take (i+1))=cd (l.take i)*10+(l[i].toNat-48):=by
 rw[az l h,kO]
set_option maxHeartbeats 1000000 in
theorem fF(l:List UInt8)(M:Mem)(R:VP)(hl:l.length<=2000000)(h:R (.int .i64 (L9 l)) M):ar prog 61 [str l] M R:=by
 refine fnS func61 rfl ntmps61 results61 ?_;by_cases h0:l.length=0
 ·have hn:bQ l=false:=by
   cases hq:bQ l with
   | false=>rfl
   | true=>have:=(zG hq).1;omega
  rw[kV hn]at h;have h0I:((l.length:Nat):Int)=0:=by omega
  simp(disch:=omega)[h0,undef];exact ad h
 have h0I:¬((l.length:Nat):Int)=0:=by omega
 by_cases h9:9<l.length
 ·have hn:bQ l=false:=by
   cases hq:bQ l with
   | false=>rfl
   | true=>have:=(zG hq).2;omega
  rw[kV hn]at h;have h9I:(9:Int)<(l.length:Nat):=by omega
  simp(disch:=omega)[beq_eq_false_iff_ne.2 h0I,h9I,undef];exact ad h
 have h9I:¬(9:Int)<(l.length:Nat):=by omega
 obtain⟨u,hu⟩:∃ u,l[0]?=some u:=⟨l[0],getElem?_eq_getElem (by omega)⟩;have hhd:l.headD 0=u:=by
  cases l with
  | nil=>cases hu
  | cons x r=>injection hu
 have hgd:l.getD 0 0=u:=by rw[getD_eq_getElem?_getD,hu];rfl
 by_cases hz:1<l.length/\u=48
 ·have hn:bQ l=false:=by
   cases hq:bQ l with
   | false=>rfl
   | true=>
    have:=(dL.1 hq).1.head;rw[hhd]at this;rcases this with q|q
    ·omega
    ·exact absurd hz.2 q
  rw[kV hn]at h;have h1I:(1:Int)<(l.length:Nat):=by omega
  have hl0:(0:Int)<(l.length:Nat):=by omega
  have hu48:u=48:=hz.2;subst hu48;simp(disch:=omega)[beq_eq_false_iff_ne.2 h0I,h9I,h1I,lq hu];exact ad h
 have hcond:(¬ 1<l.length)\/(1<l.length/\¬((u.toNat:Nat):Int)=48):=by
  by_cases q:1<l.length
  ·refine .inr ⟨q,fun e=>hz ⟨q,UInt8.toNat_inj.1 ?_⟩⟩;have:(48:UInt8).toNat=48:=rfl;omega
  ·exact .inl q
 have main:∀ j,j<=l.length->(∀ b∈l.take j,j0 b=true)->cd (l.take j)<1000000000/\cd (l.take j)<10 ^ j:=fun j hj hd=>by
  have h1:=Dd (l.take j).length (l.take j) rfl hd;have e:(l.take j).length=j:=by rw[length_take];omega
  rw[e]at h1;have h2:10 ^ j<=10 ^ 9:=Nat.pow_le_pow_right (by decide) (by omega);have h3:(10:Nat) ^ 9=1000000000:=by decide
  exact⟨by omega,h1⟩
 rcases id hcond with q|⟨q1,q2⟩
 ·have h1I:¬(1:Int)<(l.length:Nat):=by omega
  simp(disch:=omega)[beq_eq_false_iff_ne.2 h0I,h9I,h1I,undef];refine aQ aR [2,3,4,23,24,25,26,27,28,29,30,31,32,33,34,35,36,37,38,39,40,41,42,43,44,45,46] (fun i:Nat=>[(4,.int .i64 (i:Nat)),(3,.int .i64 (cd (l.take i):Nat))]) (fun i N=>M=N/\i<=l.length/\∀ b∈l.take i,j0 b=true) (fun i=>l.length-i) 0 (by kernel_rfl) (by simp(disch:=omega)[cd]) ⟨rfl,Nat.zero_le _,(by intro b hb;simp at hb)⟩ ?_
  rintro i N g ⟨rfl,hi,hd⟩
  obtain⟨m1,_⟩:=main i hi hd;by_cases hlt:i<l.length
  ·have hltI:(i:Int)<(l.length:Nat):=by omega
   have hx:l[i]?=some l[i]:=getElem?_eq_getElem hlt;have htk:=az l hlt;have hnt:=BD hlt;have hmem:l[i]∈l:=getElem_mem hlt;have hbadd:j0 l[i]=false->bQ l=false:=fun e=>by
    cases hq:bQ l with
    | false=>rfl
    | true=>have:=(dL.1 hq).1.dig _ hmem;rw[e]at this;cases this
   generalize cd (l.take i)=V at *;generalize hV2:cd (l.take (i+1))=V2 at *;generalize l[i]=y at *;by_cases hy:48<=y.toNat/\y.toNat<=57
   ·obtain⟨z,hzE⟩:∃ z,y.toNat=48+z:=⟨y.toNat-48,by omega⟩;have hdy:j0 y=true:=by unfold j0;rw[Bool.and_eq_true,decide_eq_true_eq,decide_eq_true_eq];exact hy
    have h48:¬((y.toNat:Nat):Int)<48:=by omega
    have h57:¬(57:Int)<((y.toNat:Nat):Int):=by omega
    have hzI:((y.toNat:Nat):Int)-48=(z:Nat):=by omega
    have hV:(V:Int)*10+(z:Nat)=(V2:Nat):=by omega
    have hz9:z<=9:=by omega
    simp(disch:=omega)[hltI,lq hx,h48,h57,hzI,hV];exact rndA (i+1) (by simp(disch:=omega)[hV2]) ⟨rfl,by omega,fun w hw=>by
     rw[htk]at hw;rcases List.mem_append.1 hw with hw|hw
     ·exact hd w hw
     ·rw[List.mem_singleton.1 hw];exact hdy⟩
   ·have hdy:j0 y=false:=by
     cases hq:j0 y with
     | false=>rfl
     | true=>exact absurd (la hq) hy
    rw[kV (hbadd hdy)]at h;by_cases h48:y.toNat<48
    ·have h48I:((y.toNat:Nat):Int)<48:=by omega
     simp(disch:=omega)[hltI,lq hx,h48I,undef];exact ad h
    ·have h48I:¬((y.toNat:Nat):Int)<48:=by omega
     have h57:(57:Int)<((y.toNat:Nat):Int):=by omega
     simp(disch:=omega)[hltI,lq hx,h48I,h57];exact ad h
  ·have hie:i=l.length:=by omega
   have hltI:¬(i:Int)<(l.length:Nat):=by omega
   have hB:bQ l=true:=by
    rw[hie,take_length]at hd;refine dL.2 ⟨⟨fun e=>h0 (by rw[e];rfl),hd,?_⟩,by omega⟩;rw[hhd];rcases hcond with q|⟨q1,q2⟩
    ·exact .inl (by omega)
    ·exact .inr (fun e=>q2 (by rw[e];rfl))
   rw[lJ hB]at h;rw[hie,take_length];simp(disch:=omega);exact ad h
 ·have h1I:(1:Int)<(l.length:Nat):=by omega
  have hl0:(0:Int)<(l.length:Nat):=by omega
  simp(disch:=omega)[beq_eq_false_iff_ne.2 h0I,h9I,h1I,lq hu,beq_eq_false_iff_ne.2 q2];refine aQ aR [2,3,4,23,24,25,26,27,28,29,30,31,32,33,34,35,36,37,38,39,40,41,42,43,44,45,46] (fun i:Nat=>[(4,.int .i64 (i:Nat)),(3,.int .i64 (cd (l.take i):Nat))]) (fun i N=>M=N/\i<=l.length/\∀ b∈l.take i,j0 b=true) (fun i=>l.length-i) 0 (by kernel_rfl) (by simp(disch:=omega)[cd]) ⟨rfl,Nat.zero_le _,(by intro b hb;simp at hb)⟩ ?_
  rintro i N g ⟨rfl,hi,hd⟩
  obtain⟨m1,_⟩:=main i hi hd;by_cases hlt:i<l.length
  ·have hltI:(i:Int)<(l.length:Nat):=by omega
   have hx:l[i]?=some l[i]:=getElem?_eq_getElem hlt;have htk:=az l hlt;have hnt:=BD hlt;have hmem:l[i]∈l:=getElem_mem hlt;have hbadd:j0 l[i]=false->bQ l=false:=fun e=>by
    cases hq:bQ l with
    | false=>rfl
    | true=>have:=(dL.1 hq).1.dig _ hmem;rw[e]at this;cases this
   generalize cd (l.take i)=V at *;generalize hV2:cd (l.take (i+1))=V2 at *;generalize l[i]=y at *;by_cases hy:48<=y.toNat/\y.toNat<=57
   ·obtain⟨z,hzE⟩:∃ z,y.toNat=48+z:=⟨y.toNat-48,by omega⟩;have hdy:j0 y=true:=by unfold j0;rw[Bool.and_eq_true,decide_eq_true_eq,decide_eq_true_eq];exact hy
    have h48:¬((y.toNat:Nat):Int)<48:=by omega
    have h57:¬(57:Int)<((y.toNat:Nat):Int):=by omega
    have hzI:((y.toNat:Nat):Int)-48=(z:Nat):=by omega
    have hV:(V:Int)*10+(z:Nat)=(V2:Nat):=by omega
    have hz9:z<=9:=by omega
    simp(disch:=omega)[hltI,lq hx,h48,h57,hzI,hV];exact rndA (i+1) (by simp(disch:=omega)[hV2]) ⟨rfl,by omega,fun w hw=>by
     rw[htk]at hw;rcases List.mem_append.1 hw with hw|hw
     ·exact hd w hw
     ·rw[List.mem_singleton.1 hw];exact hdy⟩
   ·have hdy:j0 y=false:=by
     cases hq:j0 y with
     | false=>rfl
     | true=>exact absurd (la hq) hy
    rw[kV (hbadd hdy)]at h;by_cases h48:y.toNat<48
    ·have h48I:((y.toNat:Nat):Int)<48:=by omega
     simp(disch:=omega)[hltI,lq hx,h48I,undef];exact ad h
    ·have h48I:¬((y.toNat:Nat):Int)<48:=by omega
     have h57:(57:Int)<((y.toNat:Nat):Int):=by omega
     simp(disch:=omega)[hltI,lq hx,h48I,h57];exact ad h
  ·have hie:i=l.length:=by omega
   have hltI:¬(i:Int)<(l.length:Nat):=by omega
   have hB:bQ l=true:=by
    rw[hie,take_length]at hd;refine dL.2 ⟨⟨fun e=>h0 (by rw[e];rfl),hd,?_⟩,by omega⟩;rw[hhd];rcases hcond with q|⟨q1,q2⟩
    ·exact .inl (by omega)
    ·exact .inr (fun e=>q2 (by rw[e];rfl))
   rw[lJ hB]at h;rw[hie,take_length];simp(disch:=omega);exact ad h
theorem Dw{M N M4:Mem}{v v':Value}{d d':Dk}(hs:Sub M N)(g:Gv N v d v' d' M4):∃ M',Gv M v d v' d' M'/\Sub M' M4/\∀ b B,M b=none->N b=some B->M' b=none:=by
 rcases g with ⟨h1,h2,rfl⟩|o
 ·exact⟨M,.inl ⟨h1,h2,rfl⟩,hs,fun b B hb _=>hb⟩
 ·rcases o with ⟨h1,h2,rfl⟩|⟨b',c,h1,h2,h3,rfl⟩
  ·refine⟨M,.inr ?_,hs,fun b B hb _=>hb⟩;rw[h1,h2];exact Own.nil M
  ·refine⟨M.put b' (.cells true (strs d'.ms) c),.inr (.inr ⟨b',c,h1,bM hs h2,h3,rfl⟩),hs.both b' _,fun b B hb k=>?_⟩;have hne:b≠b':=by rintro rfl;rw[k]at h2;cases h2
   rw[ai _ _ hne];exact hb
theorem R6(d:Dk)(c:List UInt8)(zs:List Int)(h:sy c=true):gM d c zs=none:=by
 unfold sy at h;simp only[Bool.or_eq_true,decide_eq_true_eq]at h;rcases h with rfl|rfl|rfl|rfl
 all_goals
  match zs with
  | []=>simp[gM,aM,bH,dB]
  | [_]=>simp[gM]
  | [_,_]=>simp[gM,gn]
  | _::_::_::_=>simp[gM]
theorem uw(d:Dk)(c:List UInt8)(r:List (List UInt8))(h:sy c=false\/r.length≠1)(hnm:¬(c=[110,97,109,101]/\r.length=2)):gJ d c r=if r.all bQ then gM d c (eJ r) else none:=by
 unfold gJ;cases ht:sy c
 ·rw[if_neg (by decide),if_neg hnm]
 ·rw[if_pos rfl,R6 d c _ ht];rcases h with h|h
  ·rw[ht]at h;cases h
  ·match r,h with
   | [],_=>simp
   | [_],q=>exact absurd rfl q
   | _::_::_,_=>simp
theorem LV(d:Dk)(x y:List UInt8):gJ d [110,97,109,101] [x,y]=if bQ y then bec d (fS x (cd y:Nat)) (ia x (cd y:Nat)) else none:=by
 unfold gJ;rw[if_neg (by decide),if_pos ⟨rfl,rfl⟩];rfl
theorem BV(d:Dk)(c x:List UInt8)(h:sy c=true):gJ d c [x]=dQ d c x:=by unfold gJ;rw[h,if_pos rfl]
set_option maxHeartbeats 4000000 in
set_option maxRecDepth 4000 in
theorem IP(d:Dk)(v:Value)(l:List UInt8)(M:Mem)(R:VP)(hd:d.ok)(hv:Rd M v (strs d.ms))(hl:l.length<=1500000)
  (h:∀ d' v' t k M',Gv M v d v' d' M'->Got (rW d l) d' t k->R (.tuple #[dkV d' v',str t,.int .i64 k]) M'):ar prog 32 [dkV d v,str l] M R:=by
 have hok:=hd;obtain⟨hw,hp,hm⟩:=hd;have hw60:=au hw;have hfi:df d.ms:=fun w hw=>by have:=(bL hm hw).1;omega
 have hm5:=(aX hm).2;have hf:=aZ hv;unfold dkV;refine fnS func32 rfl ntmps32 results32 ?_;simp(disch:=omega);intro b1 hb1;have h1:Sub M (M.put b1 (.cells true [str d.w,str d.p,v] 3)):=(Sub.refl M).put hb1 _;simp(disch:=omega);intro b2 hb2;have h2:=hb2;rw[aF]at h2;have sN:=h1.putN hb2 (.cells true [str [],str [],.slice none 0 0] 3);have k1:((M.put b1 (.cells true [str d.w,str d.p,v] 3)).put b2 (.cells true [str [],str [],.slice none 0 0] 3)) b1=some (.cells true [str d.w,str d.p,v] 3):=by rw[ai _ _ (Ne.symm h2.1)];exact ag _ _ _
 have k2:((M.put b1 (.cells true [str d.w,str d.p,v] 3)).put b2 (.cells true [str [],str [],.slice none 0 0] 3)) b2=some (.cells true [str [],str [],.slice none 0 0] 3):=ag _ _ _;generalize (M.put b1 (.cells true [str d.w,str d.p,v] 3)).put b2 (.cells true [str [],str [],.slice none 0 0] 3)=N at *;simp(disch:=omega);refine p5 l 32 _ _ (by omega) ?_;intro v5 M3 o5;rw[si]at o5;obtain⟨c,r,hs,hcl,hrl,hrn⟩:=qe l;rw[DP d hs]at h;rw[hs]at o5;rcases o5 with ⟨_,e,_⟩|⟨b5,c5,rfl,hb5,hc5,hM3⟩
 ·cases e
 have n15:b1≠b5:=by rintro rfl;rw[k1]at hb5;cases hb5
 have n25:b2≠b5:=by rintro rfl;rw[k2]at hb5;cases hb5
 have k5:M3 b5=some (.cells true (strs (c::r)) c5):=by rw[hM3];exact ag _ _ _
 have s3:Sub M M3:=by rw[hM3];exact sN.putN hb5 _
 have k1:M3 b1=some (.cells true [str d.w,str d.p,v] 3):=by rw[hM3,ai _ _ n15];exact k1
 have k2:M3 b2=some (.cells true [str [],str [],.slice none 0 0] 3):=by rw[hM3,ai _ _ n25];exact k2
 clear hM3;have hln:(strs (c::r)).length=r.length+1:=by rw[ah];rfl
 rw[hln]at hc5 ⊢;have g0:M3.get? b5 0=some (str c):=by rw[aj k5];rfl
 have hv3:=hv.sub s3;have hl0:(0:Int)<(r.length:Nat)+1:=by omega
 by_cases hr1:r.length=1
 ·obtain⟨x,hrx⟩:∃ x,r=[x]:=by
   match r,hr1 with
   | [x],_=>exact⟨x,rfl⟩
  have g1:M3.get? b5 1=some (str x):=by rw[aj k5,hrx];rfl
  have hx:=hrl x (by rw[hrx];simp);have hr1I:((r.length:Nat):Int)=1:=by omega
  simp(disch:=omega)[g0,hr1];refine plyS (ak [0,1,2,3,4] (.alt 5 1 (ak [6,7,8,9,10] (.one 11 1 (.one 12 2 (ak [13,14,15] .fin)))) (.one 11 1 (.one 5 1 (ak [6,7,8,9,10] (.one 12 2 (ak [13,14,15] .fin))))))) ?_;simp(disch:=omega)[jW,aq k1,g1];refine⟨?_,?_⟩
  ·refine xL d v c x _ _ hok hv3 (by omega) ?_ ?_
   ·intro ht d' v' t k M4 hgv hg;have hf':=eF hf hgv;have k2':=cY hgv _ _ k2;obtain⟨M',g',s',hm2⟩:=Dw s3 hgv;have hm2:=hm2 _ _ h2.2 k2;have h:=h d' v' t k M' g' (by rw[hrx,BV d c x ht];exact hg);unfold dkV at h ⊢;simp(disch:=omega);refine⟨cY hgv,?_⟩;intro b6 hb6;have n26:b2≠b6:=by rintro rfl;rw[k2']at hb6;cases hb6
    simp(disch:=omega)[hf',al,a7,k2'];refine⟨(Sub.refl M4).put hb6 _,?_⟩;exact ae ((s'.putN hb6 _).ovr hm2 _) h
   ·intro ht;have hpX:=uw d c r (.inl ht) (fun q=>by omega);rw[hpX]at h;unfold dkV;simp(disch:=omega);intro b6 hb6;have n16:b1≠b6:=by rintro rfl;rw[k1]at hb6;cases hb6
    have n26:b2≠b6:=by rintro rfl;rw[k2]at hb6;cases hb6
    have n56:b5≠b6:=by rintro rfl;rw[k5]at hb6;cases hb6
    simp(disch:=omega)[hf,al,a7,undef];refine⟨(Sub.refl M3).put hb6 _,?_⟩;have k1:(M3.put b6 (.cells true [str d.w,str d.p,v] 3)) b1=some (.cells true [str d.w,str d.p,v] 3):=by rw[ai _ _ n16];exact k1
    have k2:(M3.put b6 (.cells true [str d.w,str d.p,v] 3)) b2=some (.cells true [str [],str [],.slice none 0 0] 3):=by rw[ai _ _ n26];exact k2
    have k5:(M3.put b6 (.cells true [str d.w,str d.p,v] 3)) b5=some (.cells true (strs (c::r)) c5):=by rw[ai _ _ n56];exact k5
    have s3:=s3.putN hb6 (.cells true [str d.w,str d.p,v] 3);have hv3:=hv.sub s3;generalize M3.put b6 (.cells true [str d.w,str d.p,v] 3)=M3 at *;clear g1;intro b7 hb7;have n17:b1≠b7:=by rintro rfl;rw[k1]at hb7;cases hb7
    have o7:Own M3 (.slice (some ⟨b7,0,none⟩) 0 0) (ints (eJ [])) (M3.put b7 (.cells true [] 0)):=Own.new hb7 rfl (Nat.le_refl 0);simp(disch:=omega);generalize M3.put b7 (.cells true [] 0)=N7 at *;generalize Value.slice (some ⟨b7,0,none⟩) 0 0=v7 at *;refine lupS [5,6,16,17,18,82,83,84,85,86,87,88,89,90,91,92,93,94,95,96,97,98,99,100,101,102,103] (fun x:Nat×Value=>[(17,.int .i64 ((x.1:Int)+1)),(16,x.2)]) (fun x N=>x.1<=r.length/\(∀ w∈r.take x.1,bQ w=true)/\Own M3 x.2 (ints (eJ (r.take x.1))) N) (fun x=>r.length-x.1) (0,v7) ⟨Nat.zero_le _,(by intro w hw;simp at hw),(by simp only[take_zero];exact o7)⟩ ?_
    rintro⟨j,u⟩ N8 g8 ⟨hj,hall,ho⟩
    simp only at hj hall ho;by_cases hlt:j<r.length
    ·have hltI:(j:Int)+1<(r.length:Nat)+1:=by omega
     obtain⟨q,hq⟩:∃ q:Nat,q=j+1:=⟨_,rfl⟩;have hqI:(j:Int)+1=(q:Nat):=by omega
     have gq:M3.get? b5 q=some (str r[j]):=by
      rw[aj k5,hq];show (strs r)[j]?=_;rw[bg,getElem?_eq_getElem hlt];rfl
     have gq2:=jj gq ho.sub;have hm:r[j]∈r:=getElem_mem hlt;have hwl:=hrl _ hm;have hns:=mI r hlt;have hnl:(eJ (r.take j)).length=j:=by rw[gz,length_take];omega
     have hts:=az r hlt;have k1:=ho.sub _ _ k1;have k2:=ho.sub _ _ k2;have hbadd:bQ r[j]=false->r.all bQ=false:=fun e=>by
      rw[all_eq_false];exact⟨_,hm,by rw[e];decide⟩
     have hqn:(q:Int)<(r.length:Nat)+1:=by omega
     generalize r[j]=w at *;rw[hqI];simp(disch:=omega)[gq2];refine fF w _ _ (by omega) ?_;by_cases hb:bQ w=true
     ·rw[lJ hb];have hs:=fc hb;have c1:¬((cd w:Nat):Int)<0:=by omega
      have c2:¬(999999999:Int)<(cd w:Nat):=by omega
      simp(disch:=omega)[c1,c2];intro b' hb';simp(disch:=omega);refine aN ho ((Sub.refl _).put hb' _) (by simp(disch:=omega);rfl) rfl rfl (by first|omega|(simp(disch:=omega)<;>omega)) (by simp(disch:=omega)) (by simp(disch:=omega)[hnl];omega) ?_;intro v' M'' N'' ho' hs';rw[cw,<-hns]at ho';simp(disch:=omega);refine rndB M'' (j+1,v') hs' (by simp(disch:=omega);omega) ⟨by omega,fun y hy=>?_,ho'⟩;rw[hts]at hy;rcases List.mem_append.1 hy with hy|hy
      ·exact hall y hy
      ·rw[List.mem_singleton.1 hy];exact hb
     ·rw[nK hb];have hn:bQ w=false:=by cases hq2:bQ w with
       | false=>rfl
       | true=>exact absurd hq2 hb
      rw[hbadd hn,if_neg (by decide)]at h;have s3:=s3.trans ho.sub;have h:=h d v [] 6 M (.inl ⟨rfl,rfl,rfl⟩) rfl;unfold dkV at h;simp(disch:=omega)[aq k1,k2,al,hf,undef];exact ae (s3.ovr h2.2 _) h
    ·have hje:j=r.length:=by omega
     have hltI:¬(j:Int)+1<(r.length:Nat)+1:=by omega
     rw[hje,take_length]at ho hall;have hallB:r.all bQ=true:=List.all_eq_true.2 hall;rw[if_pos hallB]at h;have k1:=ho.sub _ _ k1;have k2:=ho.sub _ _ k2;have s3:=s3.trans ho.sub;have hv4:=hv3.sub ho.sub;have ru:=ho.rd;have hz:=tq hallB;have hzl:=gz r;clear ho;generalize eJ r=zs at *;generalize N8=M4 at *;simp(disch:=omega);obtain⟨ua,uc,rfl,hua⟩:=ru.opened;rw[ay]at hua ⊢;have ru2:=ru;rw[ay]at ru2;by_cases cs:c=[115,116,97,110,100,97,114,100]
     ·subst cs;rw[ot]at h;simp(disch:=omega);refine eo _ zs _ _ ru2 (by omega) ?_;unfold aD;simp(disch:=omega)[aq k1];refine bP d v _ _ _ _ hf (by have:=qb zs;omega) ?_;intro d2 t2 q2 hms hg;have h:=h d2 v t2 q2 M (.inl ⟨rfl,hms,rfl⟩) hg;unfold dkV at h ⊢;simp(disch:=omega)[k2,al,hf];exact ae (s3.ovr h2.2 _) h
     by_cases hz0:zs.length=0
     ·omega
     by_cases hz1:zs.length=1
     ·obtain⟨x,rfl⟩:∃ x,zs=[x]:=by
       match zs,hz1 with
       | [x],_=>exact⟨x,rfl⟩
      have hx:=hz x (by simp);rcases hua with hq|⟨bu,ou,rfl,hua⟩
      ·cases hq
      have gx:M4.get? bu ou=some (.int .i64 x):=by have:=hua 0 (by simp);rw[Nat.add_zero]at this;exact this
      clear hua;by_cases ct:c=[116,117,114,110]
      ·subst ct;rw[rS]at h;simp(disch:=omega);refine plyS (ak [0,1,2,3,4] (.one 5 1 (ak [6,7,8,9,10] .fin))) ?_;simp(disch:=omega)[aj k1,gx];refine oY d.w x _ _ (by omega) ?_;unfold aD;simp(disch:=omega)[aq k1];refine bP d v _ _ _ _ hf (by have:=zo d.w x;omega) ?_;intro d2 t2 q2 hms hg;have h:=h d2 v t2 q2 M (.inl ⟨rfl,hms,rfl⟩) hg;unfold dkV at h ⊢;simp(disch:=omega)[k2,al,hf];exact ae (s3.ovr h2.2 _) h
      by_cases cz:c=[122,105,109,105,110]
      ·subst cz;rw[wB]at h;simp(disch:=omega)[gx];refine ny x _ _ ?_;unfold aD;simp(disch:=omega)[aq k1];refine bP d v _ _ _ _ hf (by have:=x7 x;omega) ?_;intro d2 t2 q2 hms hg;have h:=h d2 v t2 q2 M (.inl ⟨rfl,hms,rfl⟩) hg;unfold dkV at h ⊢;simp(disch:=omega)[k2,al,hf];exact ae (s3.ovr h2.2 _) h
      rw[wS d c x cs ct cz]at h;have h:=h d v [] 6 M (.inl ⟨rfl,rfl,rfl⟩) rfl;unfold dkV at h;simp(disch:=omega)[aq k1,k2,al,hf,undef,beq_eq_false_iff_ne.2 cs,beq_eq_false_iff_ne.2 ct,beq_eq_false_iff_ne.2 cz];exact ae (s3.ovr h2.2 _) h
     omega
  ·intro b6 hb6;have n16:b1≠b6:=by rintro rfl;rw[k1]at hb6;cases hb6
   have n26:b2≠b6:=by rintro rfl;rw[k2]at hb6;cases hb6
   have n56:b5≠b6:=by rintro rfl;rw[k5]at hb6;cases hb6
   simp(disch:=omega);refine⟨(Sub.refl M3).put hb6 _,?_⟩;have sb:=s3.putN hb6 (.cells true [str [],str [],.slice none 0 0] 3);have kb1:(M3.put b6 (.cells true [str [],str [],.slice none 0 0] 3)) b1=some (.cells true [str d.w,str d.p,v] 3):=by rw[ai _ _ n16];exact k1
   have kb2:(M3.put b6 (.cells true [str [],str [],.slice none 0 0] 3)) b2=some (.cells true [str [],str [],.slice none 0 0] 3):=by rw[ai _ _ n26];exact k2
   have kb6:(M3.put b6 (.cells true [str [],str [],.slice none 0 0] 3)) b6=some (.cells true [str [],str [],.slice none 0 0] 3):=ag _ _ _;refine xL d v c x _ _ hok (hv.sub sb) (by omega) ?_ ?_
   ·intro ht d' v' t k M4 hgv hg;have hf':=eF hf hgv;have k2':=cY hgv _ _ kb2;have k6':=cY hgv _ _ kb6;obtain⟨M',g',s',hm2⟩:=Dw sb hgv;have hm6:=hm2 _ _ (bM s3 hb6) kb6;have hm2:=hm2 _ _ h2.2 kb2;have h:=h d' v' t k M' g' (by rw[hrx,BV d c x ht];exact hg);unfold dkV at h ⊢;simp(disch:=omega)[hf',al,k2',k6'];refine⟨cY hgv,?_⟩;exact ae ((s'.ovr hm6 _).ovr hm2 _) h
   ·intro ht;have hpX:=uw d c r (.inl ht) (fun q=>by omega);rw[hpX]at h;unfold dkV;simp(disch:=omega)[hf,al,a7,undef];have k1:(M3.put b6 (.cells true [str d.w,str d.p,v] 3)) b1=some (.cells true [str d.w,str d.p,v] 3):=by rw[ai _ _ n16];exact k1
    have k2:(M3.put b6 (.cells true [str d.w,str d.p,v] 3)) b2=some (.cells true [str [],str [],.slice none 0 0] 3):=by rw[ai _ _ n26];exact k2
    have k5:(M3.put b6 (.cells true [str d.w,str d.p,v] 3)) b5=some (.cells true (strs (c::r)) c5):=by rw[ai _ _ n56];exact k5
    have s3:=s3.putN hb6 (.cells true [str d.w,str d.p,v] 3);have hv3:=hv.sub s3;generalize M3.put b6 (.cells true [str d.w,str d.p,v] 3)=M3 at *;clear g1;intro b7 hb7;have n17:b1≠b7:=by rintro rfl;rw[k1]at hb7;cases hb7
    have o7:Own M3 (.slice (some ⟨b7,0,none⟩) 0 0) (ints (eJ [])) (M3.put b7 (.cells true [] 0)):=Own.new hb7 rfl (Nat.le_refl 0);simp(disch:=omega);generalize M3.put b7 (.cells true [] 0)=N7 at *;generalize Value.slice (some ⟨b7,0,none⟩) 0 0=v7 at *;refine lupS [5,6,16,17,18,82,83,84,85,86,87,88,89,90,91,92,93,94,95,96,97,98,99,100,101,102,103] (fun x:Nat×Value=>[(17,.int .i64 ((x.1:Int)+1)),(16,x.2)]) (fun x N=>x.1<=r.length/\(∀ w∈r.take x.1,bQ w=true)/\Own M3 x.2 (ints (eJ (r.take x.1))) N) (fun x=>r.length-x.1) (0,v7) ⟨Nat.zero_le _,(by intro w hw;simp at hw),(by simp only[take_zero];exact o7)⟩ ?_
    rintro⟨j,u⟩ N8 g8 ⟨hj,hall,ho⟩
    simp only at hj hall ho;by_cases hlt:j<r.length
    ·have hltI:(j:Int)+1<(r.length:Nat)+1:=by omega
     obtain⟨q,hq⟩:∃ q:Nat,q=j+1:=⟨_,rfl⟩;have hqI:(j:Int)+1=(q:Nat):=by omega
     have gq:M3.get? b5 q=some (str r[j]):=by
      rw[aj k5,hq];show (strs r)[j]?=_;rw[bg,getElem?_eq_getElem hlt];rfl
     have gq2:=jj gq ho.sub;have hm:r[j]∈r:=getElem_mem hlt;have hwl:=hrl _ hm;have hns:=mI r hlt;have hnl:(eJ (r.take j)).length=j:=by rw[gz,length_take];omega
     have hts:=az r hlt;have k1:=ho.sub _ _ k1;have k2:=ho.sub _ _ k2;have hbadd:bQ r[j]=false->r.all bQ=false:=fun e=>by
      rw[all_eq_false];exact⟨_,hm,by rw[e];decide⟩
     have hqn:(q:Int)<(r.length:Nat)+1:=by omega
     generalize r[j]=w at *;rw[hqI];simp(disch:=omega)[gq2];refine fF w _ _ (by omega) ?_;by_cases hb:bQ w=true
     ·rw[lJ hb];have hs:=fc hb;have c1:¬((cd w:Nat):Int)<0:=by omega
      have c2:¬(999999999:Int)<(cd w:Nat):=by omega
      simp(disch:=omega)[c1,c2];intro b' hb';simp(disch:=omega);refine aN ho ((Sub.refl _).put hb' _) (by simp(disch:=omega);rfl) rfl rfl (by first|omega|(simp(disch:=omega)<;>omega)) (by simp(disch:=omega)) (by simp(disch:=omega)[hnl];omega) ?_;intro v' M'' N'' ho' hs';rw[cw,<-hns]at ho';simp(disch:=omega);refine rndB M'' (j+1,v') hs' (by simp(disch:=omega);omega) ⟨by omega,fun y hy=>?_,ho'⟩;rw[hts]at hy;rcases List.mem_append.1 hy with hy|hy
      ·exact hall y hy
      ·rw[List.mem_singleton.1 hy];exact hb
     ·rw[nK hb];have hn:bQ w=false:=by cases hq2:bQ w with
       | false=>rfl
       | true=>exact absurd hq2 hb
      rw[hbadd hn,if_neg (by decide)]at h;have s3:=s3.trans ho.sub;have h:=h d v [] 6 M (.inl ⟨rfl,rfl,rfl⟩) rfl;unfold dkV at h;simp(disch:=omega)[aq k1,k2,al,hf,undef];exact ae (s3.ovr h2.2 _) h
    ·have hje:j=r.length:=by omega
     have hltI:¬(j:Int)+1<(r.length:Nat)+1:=by omega
     rw[hje,take_length]at ho hall;have hallB:r.all bQ=true:=List.all_eq_true.2 hall;rw[if_pos hallB]at h;have k1:=ho.sub _ _ k1;have k2:=ho.sub _ _ k2;have s3:=s3.trans ho.sub;have hv4:=hv3.sub ho.sub;have ru:=ho.rd;have hz:=tq hallB;have hzl:=gz r;clear ho;generalize eJ r=zs at *;generalize N8=M4 at *;simp(disch:=omega);obtain⟨ua,uc,rfl,hua⟩:=ru.opened;rw[ay]at hua ⊢;have ru2:=ru;rw[ay]at ru2;by_cases cs:c=[115,116,97,110,100,97,114,100]
     ·subst cs;rw[ot]at h;simp(disch:=omega);refine eo _ zs _ _ ru2 (by omega) ?_;unfold aD;simp(disch:=omega)[aq k1];refine bP d v _ _ _ _ hf (by have:=qb zs;omega) ?_;intro d2 t2 q2 hms hg;have h:=h d2 v t2 q2 M (.inl ⟨rfl,hms,rfl⟩) hg;unfold dkV at h ⊢;simp(disch:=omega)[k2,al,hf];exact ae (s3.ovr h2.2 _) h
     by_cases hz0:zs.length=0
     ·omega
     by_cases hz1:zs.length=1
     ·obtain⟨x,rfl⟩:∃ x,zs=[x]:=by
       match zs,hz1 with
       | [x],_=>exact⟨x,rfl⟩
      have hx:=hz x (by simp);rcases hua with hq|⟨bu,ou,rfl,hua⟩
      ·cases hq
      have gx:M4.get? bu ou=some (.int .i64 x):=by have:=hua 0 (by simp);rw[Nat.add_zero]at this;exact this
      clear hua;by_cases ct:c=[116,117,114,110]
      ·subst ct;rw[rS]at h;simp(disch:=omega);refine plyS (ak [0,1,2,3,4] (.one 5 1 (ak [6,7,8,9,10] .fin))) ?_;simp(disch:=omega)[aj k1,gx];refine oY d.w x _ _ (by omega) ?_;unfold aD;simp(disch:=omega)[aq k1];refine bP d v _ _ _ _ hf (by have:=zo d.w x;omega) ?_;intro d2 t2 q2 hms hg;have h:=h d2 v t2 q2 M (.inl ⟨rfl,hms,rfl⟩) hg;unfold dkV at h ⊢;simp(disch:=omega)[k2,al,hf];exact ae (s3.ovr h2.2 _) h
      by_cases cz:c=[122,105,109,105,110]
      ·subst cz;rw[wB]at h;simp(disch:=omega)[gx];refine ny x _ _ ?_;unfold aD;simp(disch:=omega)[aq k1];refine bP d v _ _ _ _ hf (by have:=x7 x;omega) ?_;intro d2 t2 q2 hms hg;have h:=h d2 v t2 q2 M (.inl ⟨rfl,hms,rfl⟩) hg;unfold dkV at h ⊢;simp(disch:=omega)[k2,al,hf];exact ae (s3.ovr h2.2 _) h
      rw[wS d c x cs ct cz]at h;have h:=h d v [] 6 M (.inl ⟨rfl,rfl,rfl⟩) rfl;unfold dkV at h;simp(disch:=omega)[aq k1,k2,al,hf,undef,beq_eq_false_iff_ne.2 cs,beq_eq_false_iff_ne.2 ct,beq_eq_false_iff_ne.2 cz];exact ae (s3.ovr h2.2 _) h
     omega
 ·have hr1I:¬((r.length:Nat):Int)=1:=by omega
  by_cases hnm:c=[110,97,109,101]/\r.length=2
  ·obtain⟨hc,hr2⟩:=hnm;obtain⟨x,y,hrx⟩:∃ x y,r=[x,y]:=by
    match r,hr2 with
    | [x,y],_=>exact⟨x,y,rfl⟩
   have g1:M3.get? b5 1=some (str x):=by rw[aj k5,hrx];rfl
   have g2:M3.get? b5 2=some (str y):=by rw[aj k5,hrx];rfl
   have hx:=hrl x (by rw[hrx];simp);have hy:=hrl y (by rw[hrx];simp);rw[hrx,hc,LV]at h;simp(disch:=omega)[g0,hr2,hc,g2];refine fF y _ _ (by omega) ?_;cases hb:bQ y
   ·rw[kV hb];rw[hb,if_neg (by decide)]at h;have h:=h d v [] 6 M (.inl ⟨rfl,rfl,rfl⟩) rfl;unfold dkV at h;simp(disch:=omega)[aq k1,k2,al,hf,undef];exact ae (s3.ovr h2.2 _) h
   ·rw[lJ hb];rw[hb,if_pos rfl]at h;have hs:=fc hb;have c1:¬((cd y:Nat):Int)<0:=by omega
    have c2:¬(999999999:Int)<(cd y:Nat):=by omega
    simp(disch:=omega)[c1,c2,g1];refine xM x _ _ _ (by omega) ?_;unfold aD;simp(disch:=omega)[aq k1];refine bP d v _ _ _ _ hf (by have:=x9 x (cd y:Nat);omega) ?_;intro d2 t2 q2 hms hg;have h:=h d2 v t2 q2 M (.inl ⟨rfl,hms,rfl⟩) hg;unfold dkV at h ⊢;simp(disch:=omega)[k2,al,hf];exact ae (s3.ovr h2.2 _) h
  ·have hpX:=uw d c r (.inr hr1) hnm;rw[hpX]at h;have hnm2:(¬ r.length=2)\/(r.length=2/\(c==[110,97,109,101])=false):=by
    by_cases e:r.length=2
    ·exact .inr ⟨e,beq_eq_false_iff_ne.2 (fun q=>hnm ⟨q,e⟩)⟩
    ·exact .inl e
   rcases hnm2 with e2|⟨e2,e3⟩
   ·have e2I:¬((r.length:Nat):Int)+1=3:=by omega
    have e1I:¬((r.length:Nat):Int)+1=2:=by omega
    simp(disch:=omega)[g0,hl0,beq_eq_false_iff_ne.2 e2I,beq_eq_false_iff_ne.2 e1I,undef];intro b7 hb7;have n17:b1≠b7:=by rintro rfl;rw[k1]at hb7;cases hb7
    have o7:Own M3 (.slice (some ⟨b7,0,none⟩) 0 0) (ints (eJ [])) (M3.put b7 (.cells true [] 0)):=Own.new hb7 rfl (Nat.le_refl 0);simp(disch:=omega);generalize M3.put b7 (.cells true [] 0)=N7 at *;generalize Value.slice (some ⟨b7,0,none⟩) 0 0=v7 at *;refine lupS [5,6,16,17,18,82,83,84,85,86,87,88,89,90,91,92,93,94,95,96,97,98,99,100,101,102,103] (fun x:Nat×Value=>[(17,.int .i64 ((x.1:Int)+1)),(16,x.2)]) (fun x N=>x.1<=r.length/\(∀ w∈r.take x.1,bQ w=true)/\Own M3 x.2 (ints (eJ (r.take x.1))) N) (fun x=>r.length-x.1) (0,v7) ⟨Nat.zero_le _,(by intro w hw;simp at hw),(by simp only[take_zero];exact o7)⟩ ?_
    rintro⟨j,u⟩ N8 g8 ⟨hj,hall,ho⟩
    simp only at hj hall ho;by_cases hlt:j<r.length
    ·have hltI:(j:Int)+1<(r.length:Nat)+1:=by omega
     obtain⟨q,hq⟩:∃ q:Nat,q=j+1:=⟨_,rfl⟩;have hqI:(j:Int)+1=(q:Nat):=by omega
     have gq:M3.get? b5 q=some (str r[j]):=by
      rw[aj k5,hq];show (strs r)[j]?=_;rw[bg,getElem?_eq_getElem hlt];rfl
     have gq2:=jj gq ho.sub;have hm:r[j]∈r:=getElem_mem hlt;have hwl:=hrl _ hm;have hns:=mI r hlt;have hnl:(eJ (r.take j)).length=j:=by rw[gz,length_take];omega
     have hts:=az r hlt;have k1:=ho.sub _ _ k1;have k2:=ho.sub _ _ k2;have hbadd:bQ r[j]=false->r.all bQ=false:=fun e=>by
      rw[all_eq_false];exact⟨_,hm,by rw[e];decide⟩
     have hqn:(q:Int)<(r.length:Nat)+1:=by omega
     generalize r[j]=w at *;rw[hqI];simp(disch:=omega)[hqn,gq2];refine fF w _ _ (by omega) ?_;by_cases hb:bQ w=true
     ·rw[lJ hb];have hs:=fc hb;have c1:¬((cd w:Nat):Int)<0:=by omega
      have c2:¬(999999999:Int)<(cd w:Nat):=by omega
      simp(disch:=omega)[c1,c2];intro b' hb';simp(disch:=omega);refine aN ho ((Sub.refl _).put hb' _) (by simp(disch:=omega);rfl) rfl rfl (by first|omega|(simp(disch:=omega)<;>omega)) (by simp(disch:=omega)) (by simp(disch:=omega)[hnl];omega) ?_;intro v' M'' N'' ho' hs';rw[cw,<-hns]at ho';simp(disch:=omega);refine rndB M'' (j+1,v') hs' (by simp(disch:=omega);omega) ⟨by omega,fun y hy=>?_,ho'⟩;rw[hts]at hy;rcases List.mem_append.1 hy with hy|hy
      ·exact hall y hy
      ·rw[List.mem_singleton.1 hy];exact hb
     ·rw[nK hb];have hn:bQ w=false:=by cases hq2:bQ w with
       | false=>rfl
       | true=>exact absurd hq2 hb
      rw[hbadd hn,if_neg (by decide)]at h;have s3:=s3.trans ho.sub;have h:=h d v [] 6 M (.inl ⟨rfl,rfl,rfl⟩) rfl;unfold dkV at h;simp(disch:=omega)[aq k1,k2,al,hf,undef];exact ae (s3.ovr h2.2 _) h
    ·have hje:j=r.length:=by omega
     have hltI:¬(j:Int)+1<(r.length:Nat)+1:=by omega
     rw[hje,take_length]at ho hall;have hallB:r.all bQ=true:=List.all_eq_true.2 hall;rw[if_pos hallB]at h;have k1:=ho.sub _ _ k1;have k2:=ho.sub _ _ k2;have s3:=s3.trans ho.sub;have hv4:=hv3.sub ho.sub;have ru:=ho.rd;have hz:=tq hallB;have hzl:=gz r;clear ho;generalize eJ r=zs at *;generalize N8=M4 at *;simp(disch:=omega)[hltI];obtain⟨ua,uc,rfl,hua⟩:=ru.opened;rw[ay]at hua ⊢;have ru2:=ru;rw[ay]at ru2;by_cases cs:c=[115,116,97,110,100,97,114,100]
     ·subst cs;rw[ot]at h;simp(disch:=omega);refine eo _ zs _ _ ru2 (by omega) ?_;unfold aD;simp(disch:=omega)[aq k1];refine bP d v _ _ _ _ hf (by have:=qb zs;omega) ?_;intro d2 t2 q2 hms hg;have h:=h d2 v t2 q2 M (.inl ⟨rfl,hms,rfl⟩) hg;unfold dkV at h ⊢;simp(disch:=omega)[k2,al,hf];exact ae (s3.ovr h2.2 _) h
     by_cases hz0:zs.length=0
     ·obtain rfl:zs=[]:=List.length_eq_zero_iff.1 hz0;rw[xz d c cs]at h;simp(disch:=omega)[aq k1,beq_eq_false_iff_ne.2 cs];refine GL d v c _ _ hok hv4 ?_;intro d' v' t' k M5 hgv hg;obtain⟨M',g',s',k4⟩:=su s3 h2.2 k2 hgv (.cells true [str d'.w,str d'.p,v'] 3);have hf':=eF hf hgv;have h:=h d' v' t' k M' g' hg;unfold dkV at h ⊢;simp(disch:=omega)[k4,al,hf'];exact ae s' h
     by_cases hz1:zs.length=1
     ·omega
     by_cases hz2:zs.length=2
     ·omega
     rw[zw d c zs cs hz0 hz1 hz2]at h;have i0:¬((zs.length:Nat):Int)=0:=by omega
     have i1:¬((zs.length:Nat):Int)=1:=by omega
     have i2:¬((zs.length:Nat):Int)=2:=by omega
     have tt:(c==[116,117,114,110])=true\/(c==[116,117,114,110])=false:=by cases (c==[116,117,114,110])<;>simp
     have zz:(c==[122,105,109,105,110])=true\/(c==[122,105,109,105,110])=false:=by cases (c==[122,105,109,105,110])<;>simp
     rcases tt with tt|tt
     ·rcases zz with zz|zz
      ·have h:=h d v [] 6 M (.inl ⟨rfl,rfl,rfl⟩) rfl;unfold dkV at h;simp(disch:=omega)[aq k1,k2,al,hf,undef,tt,zz,beq_eq_false_iff_ne.2 cs,beq_eq_false_iff_ne.2 i0,beq_eq_false_iff_ne.2 i1,beq_eq_false_iff_ne.2 i2];exact ae (s3.ovr h2.2 _) h
      ·have h:=h d v [] 6 M (.inl ⟨rfl,rfl,rfl⟩) rfl;unfold dkV at h;simp(disch:=omega)[aq k1,k2,al,hf,undef,tt,zz,beq_eq_false_iff_ne.2 cs,beq_eq_false_iff_ne.2 i0,beq_eq_false_iff_ne.2 i1,beq_eq_false_iff_ne.2 i2];exact ae (s3.ovr h2.2 _) h
     ·rcases zz with zz|zz
      ·have h:=h d v [] 6 M (.inl ⟨rfl,rfl,rfl⟩) rfl;unfold dkV at h;simp(disch:=omega)[aq k1,k2,al,hf,undef,tt,zz,beq_eq_false_iff_ne.2 cs,beq_eq_false_iff_ne.2 i0,beq_eq_false_iff_ne.2 i1,beq_eq_false_iff_ne.2 i2];exact ae (s3.ovr h2.2 _) h
      ·have h:=h d v [] 6 M (.inl ⟨rfl,rfl,rfl⟩) rfl;unfold dkV at h;simp(disch:=omega)[aq k1,k2,al,hf,undef,tt,zz,beq_eq_false_iff_ne.2 cs,beq_eq_false_iff_ne.2 i0,beq_eq_false_iff_ne.2 i2];exact ae (s3.ovr h2.2 _) h
   ·simp(disch:=omega)[g0,e2,e3];intro b7 hb7;have n17:b1≠b7:=by rintro rfl;rw[k1]at hb7;cases hb7
    have o7:Own M3 (.slice (some ⟨b7,0,none⟩) 0 0) (ints (eJ [])) (M3.put b7 (.cells true [] 0)):=Own.new hb7 rfl (Nat.le_refl 0);simp(disch:=omega);generalize M3.put b7 (.cells true [] 0)=N7 at *;generalize Value.slice (some ⟨b7,0,none⟩) 0 0=v7 at *;refine lupS [5,6,16,17,18,82,83,84,85,86,87,88,89,90,91,92,93,94,95,96,97,98,99,100,101,102,103] (fun x:Nat×Value=>[(17,.int .i64 ((x.1:Int)+1)),(16,x.2)]) (fun x N=>x.1<=r.length/\(∀ w∈r.take x.1,bQ w=true)/\Own M3 x.2 (ints (eJ (r.take x.1))) N) (fun x=>r.length-x.1) (0,v7) ⟨Nat.zero_le _,(by intro w hw;simp at hw),(by simp only[take_zero];exact o7)⟩ ?_
    rintro⟨j,u⟩ N8 g8 ⟨hj,hall,ho⟩
    simp only at hj hall ho;by_cases hlt:j<r.length
    ·have hltI:(j:Int)+1<(r.length:Nat)+1:=by omega
     obtain⟨q,hq⟩:∃ q:Nat,q=j+1:=⟨_,rfl⟩;have hqI:(j:Int)+1=(q:Nat):=by omega
     have gq:M3.get? b5 q=some (str r[j]):=by
      rw[aj k5,hq];show (strs r)[j]?=_;rw[bg,getElem?_eq_getElem hlt];rfl
     have gq2:=jj gq ho.sub;have hm:r[j]∈r:=getElem_mem hlt;have hwl:=hrl _ hm;have hns:=mI r hlt;have hnl:(eJ (r.take j)).length=j:=by rw[gz,length_take];omega
     have hts:=az r hlt;have k1:=ho.sub _ _ k1;have k2:=ho.sub _ _ k2;have hbadd:bQ r[j]=false->r.all bQ=false:=fun e=>by
      rw[all_eq_false];exact⟨_,hm,by rw[e];decide⟩
     have hqn:(q:Int)<(r.length:Nat)+1:=by omega
     generalize r[j]=w at *;rw[hqI];simp(disch:=omega)[gq2];refine fF w _ _ (by omega) ?_;by_cases hb:bQ w=true
     ·rw[lJ hb];have hs:=fc hb;have c1:¬((cd w:Nat):Int)<0:=by omega
      have c2:¬(999999999:Int)<(cd w:Nat):=by omega
      simp(disch:=omega)[c1,c2];intro b' hb';simp(disch:=omega);refine aN ho ((Sub.refl _).put hb' _) (by simp(disch:=omega);rfl) rfl rfl (by first|omega|(simp(disch:=omega)<;>omega)) (by simp(disch:=omega)) (by simp(disch:=omega)[hnl];omega) ?_;intro v' M'' N'' ho' hs';rw[cw,<-hns]at ho';simp(disch:=omega);refine rndB M'' (j+1,v') hs' (by simp(disch:=omega);omega) ⟨by omega,fun y hy=>?_,ho'⟩;rw[hts]at hy;rcases List.mem_append.1 hy with hy|hy
      ·exact hall y hy
      ·rw[List.mem_singleton.1 hy];exact hb
     ·rw[nK hb];have hn:bQ w=false:=by cases hq2:bQ w with
       | false=>rfl
       | true=>exact absurd hq2 hb
      rw[hbadd hn,if_neg (by decide)]at h;have s3:=s3.trans ho.sub;have h:=h d v [] 6 M (.inl ⟨rfl,rfl,rfl⟩) rfl;unfold dkV at h;simp(disch:=omega)[aq k1,k2,al,hf,undef];exact ae (s3.ovr h2.2 _) h
    ·have hje:j=r.length:=by omega
     have hltI:¬(j:Int)+1<(r.length:Nat)+1:=by omega
     rw[hje,take_length]at ho hall;have hallB:r.all bQ=true:=List.all_eq_true.2 hall;rw[if_pos hallB]at h;have k1:=ho.sub _ _ k1;have k2:=ho.sub _ _ k2;have s3:=s3.trans ho.sub;have hv4:=hv3.sub ho.sub;have ru:=ho.rd;have hz:=tq hallB;have hzl:=gz r;clear ho;generalize eJ r=zs at *;generalize N8=M4 at *;simp(disch:=omega);obtain⟨ua,uc,rfl,hua⟩:=ru.opened;rw[ay]at hua ⊢;have ru2:=ru;rw[ay]at ru2;by_cases cs:c=[115,116,97,110,100,97,114,100]
     ·subst cs;rw[ot]at h;simp(disch:=omega);refine eo _ zs _ _ ru2 (by omega) ?_;unfold aD;simp(disch:=omega)[aq k1];refine bP d v _ _ _ _ hf (by have:=qb zs;omega) ?_;intro d2 t2 q2 hms hg;have h:=h d2 v t2 q2 M (.inl ⟨rfl,hms,rfl⟩) hg;unfold dkV at h ⊢;simp(disch:=omega)[k2,al,hf];exact ae (s3.ovr h2.2 _) h
     by_cases hz0:zs.length=0
     ·omega
     by_cases hz1:zs.length=1
     ·omega
     by_cases hz2:zs.length=2
     ·obtain⟨x,y,rfl⟩:∃ x y,zs=[x,y]:=by
       match zs,hz2 with
       | [x,y],_=>exact⟨x,y,rfl⟩
      have hx:=hz x (by simp);have hy:=hz y (by simp);rw[JA d c x y cs]at h;rcases hua with hq|⟨bu,ou,rfl,hua⟩
      ·cases hq
      have gx:M4.get? bu ou=some (.int .i64 x):=by have:=hua 0 (by simp);rw[Nat.add_zero]at this;exact this
      have gy:M4.get? bu (ou+1)=some (.int .i64 y):=hua 1 (by simp);clear hua;have tt:(c==[116,117,114,110])=true\/(c==[116,117,114,110])=false:=by cases (c==[116,117,114,110])<;>simp
      have zz:(c==[122,105,109,105,110])=true\/(c==[122,105,109,105,110])=false:=by cases (c==[122,105,109,105,110])<;>simp
      rcases tt with tt|tt
      ·rcases zz with zz|zz
       ·simp(disch:=omega)[tt,zz,beq_eq_false_iff_ne.2 cs];refine plyS (ak [0,1,2,3,4,5,6,7] (.one 8 1 (ak [9,10,11] (.one 12 2 (ak [13,14] .fin))))) ?_;simp(disch:=omega)[aq k1,gx,gy];refine oG d v c x y _ _ hok hv4 hx hy ?_;intro d' v' t' k M5 hgv hg;obtain⟨M',g',s',k4⟩:=su s3 h2.2 k2 hgv (.cells true [str d'.w,str d'.p,v'] 3);have hf':=eF hf hgv;have h:=h d' v' t' k M' g' hg;unfold dkV at h ⊢;simp(disch:=omega)[k4,al,hf'];exact⟨cY hgv,ae s' h⟩
       ·simp(disch:=omega)[tt,zz,undef,beq_eq_false_iff_ne.2 cs];refine plyS (ak [0,1,2,3,4,5,6,7] (.one 8 1 (ak [9,10,11] (.one 12 2 (ak [13,14] .fin))))) ?_;simp(disch:=omega)[aq k1,gx,gy];refine oG d v c x y _ _ hok hv4 hx hy ?_;intro d' v' t' k M5 hgv hg;obtain⟨M',g',s',k4⟩:=su s3 h2.2 k2 hgv (.cells true [str d'.w,str d'.p,v'] 3);have hf':=eF hf hgv;have h:=h d' v' t' k M' g' hg;unfold dkV at h ⊢;simp(disch:=omega)[k4,al,hf'];exact⟨cY hgv,ae s' h⟩
      ·rcases zz with zz|zz
       ·simp(disch:=omega)[tt,zz,undef,beq_eq_false_iff_ne.2 cs];refine plyS (ak [0,1,2,3,4,5,6,7] (.one 8 1 (ak [9,10,11] (.one 12 2 (ak [13,14] .fin))))) ?_;simp(disch:=omega)[aq k1,gx,gy];refine oG d v c x y _ _ hok hv4 hx hy ?_;intro d' v' t' k M5 hgv hg;obtain⟨M',g',s',k4⟩:=su s3 h2.2 k2 hgv (.cells true [str d'.w,str d'.p,v'] 3);have hf':=eF hf hgv;have h:=h d' v' t' k M' g' hg;unfold dkV at h ⊢;simp(disch:=omega)[k4,al,hf'];exact⟨cY hgv,ae s' h⟩
       ·simp(disch:=omega)[tt,zz,undef,beq_eq_false_iff_ne.2 cs];refine plyS (ak [0,1,2,3,4,5,6,7] (.one 8 1 (ak [9,10,11] (.one 12 2 (ak [13,14] .fin))))) ?_;simp(disch:=omega)[aq k1,gx,gy];refine oG d v c x y _ _ hok hv4 hx hy ?_;intro d' v' t' k M5 hgv hg;obtain⟨M',g',s',k4⟩:=su s3 h2.2 k2 hgv (.cells true [str d'.w,str d'.p,v'] 3);have hf':=eF hf hgv;have h:=h d' v' t' k M' g' hg;unfold dkV at h ⊢;simp(disch:=omega)[k4,al,hf'];exact⟨cY hgv,ae s' h⟩
     omega
end Go.Proofs.YtapimhjbilkfpaaGreatDoor
