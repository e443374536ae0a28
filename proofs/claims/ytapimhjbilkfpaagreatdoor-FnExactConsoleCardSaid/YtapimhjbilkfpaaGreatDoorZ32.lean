/- Lemmas for FnExactConsole, part 33 of 46. -/
import Derived.Test.YtapimhjbilkfpaaGreatDoorZ26
import Derived.Test.YtapimhjbilkfpaaGreatDoorZ04
set_option linter.unusedVariables false
set_option linter.unusedSimpArgs false
namespace Go.Proofs.YtapimhjbilkfpaaGreatDoor
open Go Go.Proofs.Tryz List
theorem Cx{w u:List UInt8}{i:Nat}:u.isPrefixOf (w.drop i)=(seg w i u.length==u):=by
 rw[Bool.eq_iff_iff,beq_iff_eq,isPrefixOf_iff_prefix,prefix_iff_eq_take];unfold seg;rw[drop_take,Nat.add_sub_cancel_left];exact eq_comm
theorem JB{w u:List UInt8}{b:Nat}(hu:u=w.take b)(hb:u.length=b):∀ t,1<=(pP w u (t+1)).length/\(((pP w u (t+1)).length=1)↔uQ w b t=true)
 | 0=>by
  have h0:u.isPrefixOf (w.drop 0)=true:=by
   rw[Cx,hb,mn,hu];exact beq_self_eq_true _
  have e:pP w u 1=[0]:=by
   rw[show 1=0+1 from rfl,kU,if_pos h0];rfl
  rw[e];exact⟨Nat.le_refl _,fun _=>rfl,fun _=>rfl⟩
 | t+1=>by
  obtain⟨h1,h2⟩:=JB hu hb t;rw[kU,yw,Cx,hb,<-hu,length_append];cases hc:(seg w (t+1) b==u)
  ·rw[if_neg (by decide)];simp only[length_nil,Nat.add_zero,Bool.not_false,Bool.and_true];exact⟨h1,h2⟩
  ·rw[if_pos rfl];simp only[length_singleton,Bool.not_true,Bool.and_false];exact⟨by omega,fun h=>by omega,fun h=>by cases h⟩
theorem PY{w:List UInt8}{b:Nat}(h1:1<=b)(h2:b<w.length)(hbo:w.drop (w.length-b)=w.take b):decide ((Ey w (w.take b)).length=2)=CY w b:=by
 have hl:(w.take b).length=b:=by rw[length_take];omega
 obtain⟨t,ht⟩:∃ t,w.length-b=t+1:=⟨w.length-b-1,by omega⟩;rw[O9 (n:=w.length-b+1) (by omega) (by omega),kU,Cx,hl];have hs:seg w (w.length-b) b=w.take b:=by
  unfold seg;rw[show w.length-b+b=w.length by omega,take_length,hbo]
 rw[hs,beq_self_eq_true,if_pos rfl,length_append,length_singleton,ht];obtain⟨q1,q2⟩:=JB (w:=w) (u:=w.take b) rfl hl t;unfold CY;rw[show w.length-b-1=t by omega,Bool.eq_iff_iff,decide_eq_true_eq,<-q2];omega
def CF(pv:Bool)(w:List UInt8)(n:Nat):Bool:=if pv then py w n else mL w n
theorem Md(pv:Bool)(w:List UInt8):CF pv w 0=false:=by cases pv<;>rfl
theorem qU(w:List UInt8)(M:Mem)(R:VP)(h60:w.length<=60)(h:∀ v M',Sub M M'->Rd M' v (strs (qC w (w.length-1)))->R v M'):ar prog 422 [str w] M R:=by
 refine fnS func422 rfl ntmps422 results422 ?_;simp(disch:=omega);refine lupS [3,4,5,6,7,8,9,10,11,12,13,14,15,16,17,18,19,20,21,22,23,24,25,26,27,28,29,30,31,32,33] (fun x:Nat×Value=>[(4,.int .i64 ((x.1:Int)+1)),(3,x.2)]) (fun x N=>x.1<=w.length-1/\∃ Mb,Sub M Mb/\Own Mb x.2 (strs (qC w x.1)) N) (fun x=>w.length-1-x.1) (0,.slice none 0 0) ⟨Nat.zero_le _,M,Sub.refl _,Own.nil _⟩ ?_
 rintro⟨i,v⟩ N g ⟨hi,Mb,sB,ho⟩
 simp only at hi ho;have hrl:=xb w i;by_cases hlt:i<w.length-1
 ·have hltI:(i:Int)+1<(w.length:Nat):=by omega
  have hs:=tx w i;obtain⟨b,hb⟩:∃ b,b=i+1:=⟨_,rfl⟩;have hbI:(i:Int)+1=(b:Nat):=by omega
  rw[<-hb]at hs;rw[hbI]at hltI ⊢;have e:(w.length:Int)-b=((w.length-b:Nat):Int):=by omega
  have hret:sZ w b=((w.drop (w.length-b)==w.take b)&&CY w b):=rfl;have h2:=PY (w:=w) (b:=b) (by omega) (by omega);have htl:(w.take b).length=b:=by rw[length_take];omega
  generalize qC w i=L at *;by_cases hbo:w.drop (w.length-b)=w.take b
  ·have h2:=h2 hbo;rw[hbo,beq_self_eq_true,Bool.true_and]at hret;generalize hTb:w.take b=u at *;simp(disch:=omega)[hltI,e,hbo,hTb];refine FJ w u _ _ h60 (by omega) ?_;intro vp N1 op;have s1:=op.sub;have hlen:=Ga w u (w.length+1);obtain⟨ap,cp,rfl,_⟩:=op.rd.opened;rw[ay,BM];have hpl:Ey w u=pP w u (w.length+1):=rfl;rw[<-hpl]at hlen;cases ht:CY w b
   ·rw[ht]at h2 hret;have h2:=of_decide_eq_false h2;have h2I:(((Ey w u).length:Int)==2)=false:=beq_eq_false_iff_ne.2 (by omega);rw[hret,if_neg (by decide),append_nil]at hs;rw[<-hs]at ho;generalize (Ey w u).length=n at *;simp(disch:=omega)[h2I];exact rndM N (b,v) s1 ⟨by simp only;omega,Mb,sB,ho⟩
   ·rw[ht]at h2 hret;have h2:=of_decide_eq_true h2;rw[hret,if_pos rfl]at hs;generalize (Ey w u).length=n at *;simp(disch:=omega)[h2];intro b' hb';simp(disch:=omega);refine aN ho (s1.trans ((Sub.refl _).put hb' _)) (by simp(disch:=omega);rfl) rfl rfl (by omega) (by simp(disch:=omega)) (by simp(disch:=omega);omega) ?_;intro v' M'' N'' ho' hs';rw[cO,<-hs]at ho';simp(disch:=omega);exact rndM M'' (b,v') hs' ⟨by simp only;omega,Mb,sB,ho'⟩
  ·have hbb:(w.drop (w.length-b)==w.take b)=false:=beq_eq_false_iff_ne.2 hbo;rw[hbb,Bool.false_and]at hret;rw[hret,if_neg (by decide),append_nil]at hs;rw[<-hs]at ho;simp(disch:=omega)[hltI,e,hbb];exact rndS (b,v) ⟨by simp only;omega,Mb,sB,ho⟩
 ·have hltI:¬(i:Int)+1<(w.length:Nat):=by omega
  have hiE:i=w.length-1:=by omega
  rw[hiE]at ho;simp(disch:=omega)[hltI];exact ad (h _ _ (sB.trans ho.sub) ho.rd)
theorem Ay(w:List UInt8)(M:Mem)(R:VP)(h60:w.length<=60)(h:∀ M',Sub M M'->R (.bool (AD w)) M'):ar prog 395 [str w] M R:=by
 unfold AD at h;refine fnS func395 rfl ntmps395 results395 ?_;by_cases h1:w.length<=1
 ·rw[decide_eq_true h1,Bool.true_or]at h;have h1I:(w.length:Int)<=1:=by omega
  simp(disch:=omega)[h1I];exact ad (h _ (Sub.refl M))
 ·rw[decide_eq_false h1,Bool.false_or]at h;have h1I:¬(w.length:Int)<=1:=by omega
  simp(disch:=omega)[h1I];refine qU w _ _ h60 ?_;intro v N s r;have he:=Ij w (w.length-1);have hrl:=xb w (w.length-1);obtain⟨a,c,rfl,_⟩:=r.opened;rw[ah];have h:=h N s;generalize (qC w (w.length-1)).length=n at *;have hde:decide ((0:Int)<(n:Nat))=mL w (w.length-1):=by
   rw[Bool.eq_iff_iff,<-he,decide_eq_true_eq];omega
  generalize mL w (w.length-1)=cb at *;by_cases hn:0<n
  ·have hnI:(0:Int)<n:=by omega
   rw[decide_eq_true hnI]at hde;rw[<-hde]at h;simp(disch:=omega)[hn];exact ad h
  ·have hnI:¬(0:Int)<n:=by omega
   rw[decide_eq_false hnI]at hde;rw[<-hde]at h;simp(disch:=omega)[hn];exact ad h
theorem rj:∀(d:Nat) (w:List UInt8) (M:Mem) (R:VP),w.length=d->w.length<=60->R (.bool (fB w)) M->ar prog 396 [str w] M R:=by
 intro d
 induction d using Nat.strongRecOn with
 | ind d ih=>?_
 intro w M R hd h60 h;rw[Fk]at h;refine fnS func396 rfl ntmps396 results396 ?_;by_cases h1:w.length<=1
 ·rw[decide_eq_true h1,Bool.true_or]at h;have h1I:(w.length:Int)<=1:=by omega
  simp(disch:=omega)[h1I];exact ad h
 ·rw[decide_eq_false h1,Bool.false_or]at h;have h1I:¬(w.length:Int)<=1:=by omega
  simp(disch:=omega)[h1I];refine qU w _ _ h60 ?_;intro v N s r;have hrl:=xb w (w.length-1);simp(disch:=omega);refine iY v _ (strs (qC w (w.length-1))) (onS fB) (fun _=>True) _ _ r trivial ?_ (by rw[ah];omega) ?_
  ·intro x hx K Q _ hQ;obtain⟨u,hu,rfl⟩:=List.mem_map.1 hx;obtain⟨b,hb,rfl⟩:=Ov u hu;have hul:(w.take (b+1)).length=b+1:=by rw[length_take];omega
   rw[wE]at hQ;generalize w.take (b+1)=u at *;simp(disch:=omega);exact ih u.length (by omega) u _ _ rfl (by omega) hQ
  ·have e:(strs (qC w (w.length-1))).any (onS fB)=py w (w.length-1):=by
    rw[<-MV];unfold strs;rw[any_map]
    congr 1
   rw[e];simp(disch:=omega);exact ae s h
theorem C3(w:List UInt8)(M:Mem)(R:VP)(h60:w.length<=60)(h:∀ M',Sub M M'->R (.bool (fB w)) M'):ar prog 396 [str w] M R:=rj _ w M R rfl h60 (h M (Sub.refl M))
theorem xp(w:List UInt8)(M:Mem)(R:VP)(hl:w.length<=1099511627776)(h:∀ M',Sub M M'->R (aD (.bool (isWord w&&AD w)) (aJ w)) M'):ar prog 345 [str w] M R:=by
 unfold aD aJ at h;refine fnS func345 rfl ntmps345 results345 ?_;simp(disch:=omega);intro b1 hb1;simp(disch:=omega);have hs1:Sub M (M.put b1 (.cells true [str w] 1)):=(Sub.refl _).put hb1 _;refine bq _ _ [w] true (fun _=>True) _ _ (Rd.new rfl (Nat.le_refl 1)) (fM hl) (by simp) trivial bT (bG _) ?_;rw[cV];cases hw:isWord w
 ·rw[hw]at h;simp(disch:=omega);exact ad (h _ hs1)
 ·rw[hw,Bool.true_and,if_pos rfl]at h;have h60:=au hw;simp(disch:=omega);refine Ay w _ _ h60 ?_;intro M2 s2;simp(disch:=omega);exact ad (h _ (hs1.trans s2))
theorem qh(w:List UInt8)(M:Mem)(R:VP)(hl:w.length<=1099511627776)(h:∀ M',Sub M M'->R (aD (.bool (isWord w&&fB w)) (aJ w)) M'):ar prog 346 [str w] M R:=by
 unfold aD aJ at h;refine fnS func346 rfl ntmps346 results346 ?_;simp(disch:=omega);intro b1 hb1;simp(disch:=omega);have hs1:Sub M (M.put b1 (.cells true [str w] 1)):=(Sub.refl _).put hb1 _;refine bq _ _ [w] true (fun _=>True) _ _ (Rd.new rfl (Nat.le_refl 1)) (fM hl) (by simp) trivial bT (bG _) ?_;rw[cV];cases hw:isWord w
 ·rw[hw]at h;simp(disch:=omega);exact ad (h _ hs1)
 ·rw[hw,Bool.true_and,if_pos rfl]at h;have h60:=au hw;simp(disch:=omega);refine C3 w _ _ h60 ?_;intro M2 s2;simp(disch:=omega);exact ad (h _ (hs1.trans s2))
theorem Az(w:List UInt8)(b:Nat)(M:Mem)(R:VP)(h60:w.length<=60)(hb:1<=b)(hb':b<w.length)(h:R (.bool (CY w b)) M):ar prog 405 [str w,.int .i64 b] M R:=by
 unfold CY at h;refine fnS func405 rfl ntmps405 results405 ?_;simp(disch:=omega);refine lupS [4,5,6,7,8,9,10,11,12,13,14,15,16,17,18,19,20,21,22,23] (fun i:Nat=>[(5,.int .i64 ((i:Int)+1))]) (fun i M'=>M=M'/\i<=w.length-b-1/\uQ w b i=true) (fun i=>w.length-b-1-i) 0 ⟨rfl,Nat.zero_le _,rfl⟩ ?_
 rintro i M' g ⟨rfl,hi,hall⟩
 by_cases hlt:i<w.length-b-1
 ·obtain⟨q,hq⟩:∃ q,q=i+1:=⟨_,rfl⟩;have hqI:(i:Int)+1=(q:Nat):=by omega
  have hltI:(q:Int)+b<(w.length:Nat):=by omega
  have hs:=yw w b i;rw[hall,Bool.true_and,<-hq]at hs;have hno:=fun hc=>Og (w:=w) (b:=b) (n:=w.length-b-1) (i:=i) hlt hc;rw[<-hq]at hno;have hsg:=fK (w:=w) (a:=q) (m:=b);rw[hqI];generalize seg w q b=u at *;simp(disch:=omega)[hltI];refine drwS ?_;by_cases hc:u=w.take b
  ·have hcb:(u==w.take b)=true:=by rw[hc];exact beq_self_eq_true _
   rw[hno hcb]at h;simp(disch:=omega)[hsg,hc];exact ad h
  ·have hcb:(u==w.take b)=false:=beq_eq_false_iff_ne.2 hc;rw[hcb]at hs;simp(disch:=omega)[hsg,hcb];exact rndS q ⟨rfl,by omega,hs⟩
 ·have hiE:i=w.length-b-1:=by omega
  have hltI:¬(i:Int)+1+b<(w.length:Nat):=by omega
  rw[hiE]at hall;rw[hall]at h;simp(disch:=omega)[hltI];exact ad h
theorem mj:∀(d:Nat) (w:List UInt8) (pv:Bool) (M:Mem) (R:VP),w.length=d->w.length<=60->R (.bool (if pv then fB w else AD w)) M->ar prog 366 [str w,.bool pv] M R:=by
 intro d
 induction d using Nat.strongRecOn with
 | ind d ih=>?_
 intro w pv M R hd h60 h;have hfin:(if pv then fB w else AD w)=(decide (w.length<=1)||CF pv w (w.length-1)):=by
  unfold CF;cases pv
  ·rfl
  ·rw[if_pos rfl,if_pos rfl];exact Fk w
 rw[hfin]at h;refine fnS func366 rfl ntmps366 results366 ?_;by_cases h1:w.length<=1
 ·rw[decide_eq_true h1,Bool.true_or]at h;have h1I:(w.length:Int)<2:=by omega
  simp(disch:=omega)[h1I];exact ad h
 ·rw[decide_eq_false h1,Bool.false_or]at h;have h1I:¬(w.length:Int)<2:=by omega
  simp(disch:=omega)[h1I];refine lupS [4,5,9,10,11,12,13,14,15,16,17,18,19,20,21,22,23,24,25,26,27,28,29,30,31,32,33,34,35,36,37,38,39] (fun i:Nat=>[(5,.int .i64 ((i:Int)+1))]) (fun i M'=>M=M'/\i<=w.length-1/\CF pv w i=false) (fun i=>w.length-1-i) 0 ⟨rfl,Nat.zero_le _,Md pv w⟩ ?_
  rintro i M' g ⟨rfl,hi,hall⟩
  by_cases hlt:i<w.length-1
  ·obtain⟨b,hb⟩:∃ b,b=i+1:=⟨_,rfl⟩;have hbI:(i:Int)+1=(b:Nat):=by omega
   have hltI:(b:Int)<(w.length:Nat):=by omega
   have hcs:=w8 w i;have hps:=xe w i;have hcy:=fun h=>KN (w:=w) (b:=i) (n:=w.length-1) hlt h;have hpy:=fun h h2=>Mp (w:=w) (b:=i) (n:=w.length-1) hlt h h2;rw[<-hb]at hcs hps hcy hpy;have e:(w.length:Int)-b=((w.length-b:Nat):Int):=by omega
   have hret:sZ w b=((w.drop (w.length-b)==w.take b)&&CY w b):=rfl;have htl:(w.take b).length=b:=by rw[length_take];omega
   have hIH:=fun Q=>ih b (by omega) (w.take b) true M Q htl (by omega);rw[hbI];simp(disch:=omega)[hltI];refine drwS ?_;by_cases hbo:w.take b=w.drop (w.length-b)
   ·rw[<-hbo,beq_self_eq_true,Bool.true_and]at hret;simp(disch:=omega)[e,hbo.symm];refine aU (a:=[]) (c:=[]) (Az w b _ _ h60 (by omega) (by omega) ⟨rfl,rfl⟩) ?_;cases ht:CY w b
    ·rw[ht]at hret;rw[hret,Bool.or_false]at hcs;rw[hret,Bool.false_and,Bool.or_false]at hps;simp(disch:=omega)[undef];exact rndS b ⟨rfl,by omega,by unfold CF at hall ⊢;rw[hcs,hps];exact hall⟩
    ·rw[ht]at hret;cases pv
     ·unfold CF at h;rw[if_neg (by decide),hcy hret]at h;simp(disch:=omega)[undef];exact ad h
     ·simp(disch:=omega);refine aU (a:=[]) (c:=[]) (hIH _ ⟨rfl,rfl⟩) ?_;rw[if_pos rfl];cases hpb:fB (w.take b)
      ·rw[hret,hpb,Bool.and_false,Bool.or_false]at hps;simp(disch:=omega);exact rndS b ⟨rfl,by omega,by unfold CF at hall ⊢;rw[if_pos rfl]at hall ⊢;rw[hps];exact hall⟩
      ·unfold CF at h;rw[if_pos rfl,hpy hret hpb]at h;simp(disch:=omega);exact ad h
   ·have hbb:(w.take b==w.drop (w.length-b))=false:=beq_eq_false_iff_ne.2 hbo;have hbb2:(w.drop (w.length-b)==w.take b)=false:=beq_eq_false_iff_ne.2 (Ne.symm hbo);rw[hbb2,Bool.false_and]at hret;rw[hret,Bool.or_false]at hcs;rw[hret,Bool.false_and,Bool.or_false]at hps;simp(disch:=omega)[e,hbb,undef];exact rndS b ⟨rfl,by omega,by unfold CF at hall ⊢;rw[hcs,hps];exact hall⟩
  ·have hltI:¬(i:Int)+1<(w.length:Nat):=by omega
   have hiE:i=w.length-1:=by omega
   rw[hiE]at hall;rw[hall]at h;simp(disch:=omega)[hltI];exact ad h
theorem zg(w:List UInt8)(M:Mem)(R:VP)(hl:w.length<=1099511627776)(h:R (aD (.bool (isWord w&&AD w)) (aJ w)) M):ar prog 288 [str w] M R:=by
 unfold aD aJ at h;refine fnS func288 rfl ntmps288 results288 ?_;simp(disch:=omega);refine ba w _ _ hl ?_;cases hw:isWord w
 ·rw[hw]at h;simp(disch:=omega);exact ad h
 ·rw[hw,Bool.true_and,if_pos rfl]at h;simp(disch:=omega);refine mj _ w false _ _ rfl (au hw) ?_;simp(disch:=omega);exact ad h
theorem qD(w:List UInt8)(M:Mem)(R:VP)(hl:w.length<=1099511627776)(h:R (aD (.bool (isWord w&&fB w)) (aJ w)) M):ar prog 289 [str w] M R:=by
 unfold aD aJ at h;refine fnS func289 rfl ntmps289 results289 ?_;simp(disch:=omega);refine ba w _ _ hl ?_;cases hw:isWord w
 ·rw[hw]at h;simp(disch:=omega);exact ad h
 ·rw[hw,Bool.true_and,if_pos rfl]at h;simp(disch:=omega);refine mj _ w true _ _ rfl (au hw) ?_;simp(disch:=omega);exact ad h
theorem Eg(w:List UInt8)(M:Mem)(R:VP)(hl:w.length<=60)(h1:1<=w.length)(h:R (.int .i64 ((w.length:Int)-(Dp w:Nat))) M):ar prog 268 [str w] M R:=by
 refine fnS func268 rfl ntmps268 results268 ?_;simp(disch:=omega);refine lupS [2,3,4,5,6,7,8,9,10,11,12,13,14,15,16,17] (fun i:Nat=>[(3,.int .i64 i)]) (fun i M'=>M'=M/\i<=w.length/\∀ j,j<i->ca (w.drop j)=false) (fun i=>w.length-i) 0 ⟨rfl,by omega,fun j hj=>by omega⟩ ?_
 rintro i M' g ⟨rfl,hi,hno⟩
 by_cases hlt:i<w.length
 ·have hltI:(i:Int)<(w.length:Nat):=by omega
  simp(disch:=omega)[hltI];refine fO (w.drop i) _ _ (by rw[length_drop];omega) ?_;cases hp:ca (w.drop i)
  ·simp(disch:=omega);refine rndS (i+1) ⟨rfl,by omega,fun j hj=>?_⟩;by_cases e:j=i
   ·rw[e,hp]
   ·exact hno j (by omega)
  ·rw[Jq hi hp hno]at h;simp(disch:=omega);exact ad h
 ·exfalso;have hq:=hno (w.length-1) (by omega);have:w.drop (w.length-1)=[w[w.length-1]]:=by
   rw[drop_eq_getElem_cons (by omega),drop_of_length_le (by omega)]
  rw[this,sL]at hq;cases hq
theorem wh(w:List UInt8)(M:Mem)(R:VP)(hl:w.length<=60)(h:∀ M',Sub M M'->R (str (lQ w)) M'):ar prog 180 [str w] M R:=by
 have he:=Jk w;refine fnS func180 rfl ntmps180 results180 ?_;by_cases h0:w=[]
 ·subst h0;simp(disch:=omega);exact ad (h _ (Sub.refl M))
 ·have h1:1<=w.length:=List.length_pos_iff.2 h0;have hb:(w==[])=false:=jn h0;have he2:w.isEmpty=false:=by cases w with
   | nil=>exact absurd rfl h0
   | cons a l=>rfl
  unfold lQ at h;simp(disch:=omega)[hb];refine Eg w _ _ hl h1 ?_;obtain⟨i,hi⟩:∃ i,i=Dp w:=⟨_,rfl⟩;rw[<-hi]at h he ⊢;have e1:((w.length:Int)-((w.length:Int)-i))=i:=by omega
  simp(disch:=omega)[e1];refine kQ (w.take i) _ _ (by rw[length_take];omega) ?_;intro M' s;simp(disch:=omega);exact ad (h _ s)
theorem zj(w:List UInt8)(M:Mem)(R:VP)(hl:w.length<=1099511627776)(h:∀ M',Sub M M'->R (aD (str (ph w)) (pq w)) M'):ar prog 116 [str w] M R:=by
 unfold aD ph pq at h;refine fnS func116 rfl ntmps116 results116 ?_;simp(disch:=omega);refine ba w _ _ hl ?_;cases hw:isWord w
 ·rw[hw]at h;simp(disch:=omega);exact ad (h _ (Sub.refl M))
 ·rw[hw,if_pos rfl,if_pos rfl]at h;have h60:=au hw;have hcl:=AU w;simp(disch:=omega);refine wh w _ _ h60 ?_;intro M' s;generalize lQ w=u at *;by_cases hc:u.length<=60
  ·rw[if_pos hc,if_pos hc]at h;have hcI:¬(60:Int)<u.length:=by omega
   simp(disch:=omega)[hcI];exact ad (h _ s)
  ·rw[if_neg hc,if_neg hc]at h;have hcI:(60:Int)<u.length:=by omega
   simp(disch:=omega)[hcI];exact ad (h _ s)
end Go.Proofs.YtapimhjbilkfpaaGreatDoor
