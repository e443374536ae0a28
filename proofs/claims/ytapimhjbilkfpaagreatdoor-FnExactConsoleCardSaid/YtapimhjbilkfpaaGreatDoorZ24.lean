/- Lemmas for FnExactDeskAfter, part 25 of 33. -/
import Derived.Test.YtapimhjbilkfpaaGreatDoorZ20
import Derived.RangeFuncGives
import Derived.RangeFuncBox
import Derived.RangeFuncLeaves
import Derived.Shelf.Abstract
import Derived.WalkKit
import Derived.OwnWalkIn
import Derived.TacticsInMore
import Derived.LoopNIn
import Derived.LoopIn
import Derived.Maps.AppendAt
set_option linter.unusedVariables false
set_option linter.unusedSimpArgs false
namespace Go.Proofs.YtapimhjbilkfpaaGreatDoor
open Go Go.Proofs.Tryz List
theorem Er{w u:B8}{i:Nat}:u.isPrefixOf (w.drop i)=(seg w i u.length==u):=by
 rw[Bool.eq_iff_iff,beq_iff_eq,isPrefixOf_iff_prefix,prefix_iff_eq_take];unfold seg;rw[drop_take,Nat.add_sub_cancel_left];exact eq_comm
theorem LR{w u:B8}{b:Nat}(hu:u=w.take b)(hb:u.length=b):∀ t,1<=(qK w u (t+1)).length/\(((qK w u (t+1)).length=1)↔vX w b t=true)
 | 0=>by
  have h0:u.isPrefixOf (w.drop 0)=true:=by
   rw[Er,hb,nE,hu];exact beq_self_eq_true _
  have e:qK w u 1=[0]:=by
   rw[show 1=0+1 from rfl,lf,if_pos h0];rfl
  rw[e];exact⟨lRf _,fun _=>rfl,fun _=>rfl⟩
 | t+1=>by
  obtain⟨h1,h2⟩:=LR hu hb t;rw[lf,zi,Er,hb,<-hu,lAp];cases hc:(seg w (t+1) b==u)
  ·rw[if_neg (by decide)];simp only[length_nil,Nat.add_zero,Bool.not_false,Bool.and_true];exact⟨h1,h2⟩
  ·rw[if_pos rfl];simp only[length_singleton,Bool.not_true,Bool.and_false];exact⟨by omega,fun h=>by omega,fun h=>by cases h⟩
theorem RU{w:B8}{b:Nat}(h1:1<=b)(h2:b<w.length)(hbo:w.drop (w.length-b)=w.take b):decide ((HI w (w.take b)).length=2)=D9 w b:=by
 have hl:(w.take b).length=b:=by rw[lTa];omega
 obtain⟨t,ht⟩:∃ t,w.length-b=t+1:=⟨w.length-b-1,by omega⟩;rw[PO (n:=w.length-b+1) (by omega) (by omega),lf,Er,hl];have hs:seg w (w.length-b) b=w.take b:=by
  unfold seg;rw[show w.length-b+b=w.length by omega,take_length,hbo]
 rw[hs,beq_self_eq_true,if_pos rfl,lAp,length_singleton,ht];obtain⟨q1,q2⟩:=LR (w:=w) (u:=w.take b) rfl hl t;unfold D9;rw[show w.length-b-1=t by omega,Bool.eq_iff_iff,decide_eq_true_eq,<-q2];omega
def Dl(pv:Bool)(w:B8)(n:Nat):Bool:=if pv then pL w n else oa w n
theorem Oa(pv:Bool)(w:B8):Dl pv w 0=false:=by cases pv<;>rfl
theorem tG(w:B8)(M:Mem)(R:VP)(h60:w.length<=60)(h:∀ v M',Sub M M'->Rd M' v (strs (qU w (w.length-1)))->R v M'):ar prog 422 [str w] M R:=by
 refine fnS func422 rfl ntmps422 results422 ?_;simp(disch:=omega);refine lupS (rlA [] 3 31) (fun x:Nat×Value=>[(4,.int .i64 ((x.1:Int)+1)),(3,x.2)]) (fun x N=>x.1<=w.length-1/\∃ Mb,Sub M Mb/\Own Mb x.2 (strs (qU w x.1)) N) (fun x=>w.length-1-x.1) (0,.slice none 0 0) ⟨lZe _,M,Sub.refl _,Own.nil _⟩ ?_
 rintro⟨i,v⟩ N g ⟨hi,Mb,sB,ho⟩
 simp only at hi ho;have hrl:=AJ w i;by_cases hlt:i<w.length-1
 ·have hltI:(i:Int)+1<(w.length:Nat):=by omega
  have hs:=uH w i;obtain⟨b,hb⟩:∃ b,b=i+1:=⟨_,rfl⟩;have hbI:(i:Int)+1=(b:Nat):=by omega
  rw[<-hb]at hs;rw[hbI]at hltI ⊢;have e:(w.length:Int)-b=((w.length-b:Nat):Int):=by omega
  have hret:rC w b=((w.drop (w.length-b)==w.take b)&&D9 w b):=rfl;have h2:=RU (w:=w) (b:=b) (by omega) (by omega);have htl:(w.take b).length=b:=by rw[lTa];omega
  generalize qU w i=L at *;by_cases hbo:w.drop (w.length-b)=w.take b
  ·have h2:=h2 hbo;rw[hbo,beq_self_eq_true,Bool.true_and]at hret;generalize hTb:w.take b=u at *;simp(disch:=omega)[hltI,e,hbo,hTb];refine F7 w u _ _ h60 (by omega) ?_;intro vp N1 op;have s1:=op.sub;have hlen:=Ft w u (w.length+1);obtain⟨ap,cp,rfl,_⟩:=op.rd.opened;rw[az,CY];have hpl:HI w u=qK w u (w.length+1):=rfl;rw[<-hpl]at hlen;cases ht:D9 w b
   ·rw[ht]at h2 hret;have h2:=of_decide_eq_false h2;have h2I:(((HI w u).length:Int)==2)=false:=bNe.2 (by omega);rw[hret,if_neg (by decide),append_nil]at hs;rw[<-hs]at ho;generalize (HI w u).length=n at *;simp(disch:=omega)[h2I];exact rndM N (b,v) s1 ⟨by simp only;omega,Mb,sB,ho⟩
   ·rw[ht]at h2 hret;have h2:=of_decide_eq_true h2;rw[hret,if_pos rfl]at hs;generalize (HI w u).length=n at *;simp(disch:=omega)[h2];intro b' hb';simp(disch:=omega);refine aN ho (s1.trans ((Sub.refl _).put hb' _)) (by simp(disch:=omega);rfl) rfl rfl (by omega) (by simp(disch:=omega)) (by simp(disch:=omega);omega) ?_;intro v' M'' N'' ho' hs';rw[cK,<-hs]at ho';simp(disch:=omega);exact rndM M'' (b,v') hs' ⟨by simp only;omega,Mb,sB,ho'⟩
  ·have hbb:(w.drop (w.length-b)==w.take b)=false:=bNe.2 hbo;rw[hbb,Bool.false_and]at hret;rw[hret,if_neg (by decide),append_nil]at hs;rw[<-hs]at ho;simp(disch:=omega)[hltI,e,hbb];exact rndS (b,v) ⟨by simp only;omega,Mb,sB,ho⟩
 ·have hltI:¬(i:Int)+1<(w.length:Nat):=by omega
  have hiE:i=w.length-1:=by omega
  rw[hiE]at ho;simp(disch:=omega)[hltI];exact ad (h _ _ (sB.trans ho.sub) ho.rd)
theorem BB(w:B8)(M:Mem)(R:VP)(h60:w.length<=60)(h:∀ M',Sub M M'->R (.bool (Bj w)) M'):ar prog 395 [str w] M R:=by
 unfold Bj at h;refine fnS func395 rfl ntmps395 results395 ?_;by_cases h1:w.length<=1
 ·rw[decide_eq_true h1,Bool.true_or]at h;have h1I:(w.length:Int)<=1:=by omega
  simp(disch:=omega)[h1I];exact ad (h _ (Sub.refl M))
 ·rw[decide_eq_false h1,Bool.false_or]at h;have h1I:¬(w.length:Int)<=1:=by omega
  simp(disch:=omega)[h1I];refine tG w _ _ h60 ?_;intro v N s r;have he:=JP w (w.length-1);have hrl:=AJ w (w.length-1);obtain⟨a,c,rfl,_⟩:=r.opened;rw[ah];have h:=h N s;generalize (qU w (w.length-1)).length=n at *;have hde:decide ((0:Int)<(n:Nat))=oa w (w.length-1):=by
   rw[Bool.eq_iff_iff,<-he,decide_eq_true_eq];omega
  generalize oa w (w.length-1)=cb at *;by_cases hn:0<n
  ·have hnI:(0:Int)<n:=by omega
   rw[decide_eq_true hnI]at hde;rw[<-hde]at h;simp(disch:=omega)[hn];exact ad h
  ·have hnI:¬(0:Int)<n:=by omega
   rw[decide_eq_false hnI]at hde;rw[<-hde]at h;simp(disch:=omega)[hn];exact ad h
theorem ti:∀(d:Nat) (w:B8) (M:Mem) (R:VP),w.length=d->w.length<=60->R (.bool (fF w)) M->ar prog 396 [str w] M R:=by
 intro d
 induction d using Nat.strongRecOn with
 | ind d ih=>?_
 intro w M R hd h60 h;rw[H2]at h;refine fnS func396 rfl ntmps396 results396 ?_;by_cases h1:w.length<=1
 ·rw[decide_eq_true h1,Bool.true_or]at h;have h1I:(w.length:Int)<=1:=by omega
  simp(disch:=omega)[h1I];exact ad h
 ·rw[decide_eq_false h1,Bool.false_or]at h;have h1I:¬(w.length:Int)<=1:=by omega
  simp(disch:=omega)[h1I];refine tG w _ _ h60 ?_;intro v N s r;have hrl:=AJ w (w.length-1);simp(disch:=omega);refine jf v _ (strs (qU w (w.length-1))) (onS fF) (fun _=>True) _ _ r trivial ?_ (by rw[ah];omega) ?_
  ·intro x hx K Q _ hQ;obtain⟨u,hu,rfl⟩:=List.mem_map.1 hx;obtain⟨b,hb,rfl⟩:=QH u hu;have hul:(w.take (b+1)).length=b+1:=by rw[lTa];omega
   rw[xy]at hQ;generalize w.take (b+1)=u at *;simp(disch:=omega);exact ih u.length (by omega) u _ _ rfl (by omega) hQ
  ·have e:(strs (qU w (w.length-1))).any (onS fF)=pL w (w.length-1):=by
    rw[<-OD];unfold strs;rw[any_map]
    congr 1
   rw[e];simp(disch:=omega);exact ae s h
theorem Ds(w:B8)(M:Mem)(R:VP)(h60:w.length<=60)(h:∀ M',Sub M M'->R (.bool (fF w)) M'):ar prog 396 [str w] M R:=ti _ w M R rfl h60 (h M (Sub.refl M))
theorem zo(w:B8)(M:Mem)(R:VP)(hl:w.length<=1099511627776)(h:∀ M',Sub M M'->R (aE (.bool (isWord w&&Bj w)) (aJ w)) M'):ar prog 345 [str w] M R:=by
 unfold aE aJ at h;refine fnS func345 rfl ntmps345 results345 ?_;simp(disch:=omega);intro b1 hb1;simp(disch:=omega);have hs1:Sub M (M.put b1 (.cells true [str w] 1)):=(Sub.refl _).put hb1 _;refine bt _ _ [w] true (fun _=>True) _ _ (Rd.new rfl (lRf 1)) (gg hl) (by simp) trivial bV (bI _) ?_;rw[db];cases hw:isWord w
 ·rw[hw]at h;simp(disch:=omega);exact ad (h _ hs1)
 ·rw[hw,Bool.true_and,if_pos rfl]at h;have h60:=au hw;simp(disch:=omega);refine BB w _ _ h60 ?_;intro M2 s2;simp(disch:=omega);exact ad (h _ (hs1.trans s2))
theorem qQ(w:B8)(M:Mem)(R:VP)(hl:w.length<=1099511627776)(h:∀ M',Sub M M'->R (aE (.bool (isWord w&&fF w)) (aJ w)) M'):ar prog 346 [str w] M R:=by
 unfold aE aJ at h;refine fnS func346 rfl ntmps346 results346 ?_;simp(disch:=omega);intro b1 hb1;simp(disch:=omega);have hs1:Sub M (M.put b1 (.cells true [str w] 1)):=(Sub.refl _).put hb1 _;refine bt _ _ [w] true (fun _=>True) _ _ (Rd.new rfl (lRf 1)) (gg hl) (by simp) trivial bV (bI _) ?_;rw[db];cases hw:isWord w
 ·rw[hw]at h;simp(disch:=omega);exact ad (h _ hs1)
 ·rw[hw,Bool.true_and,if_pos rfl]at h;have h60:=au hw;simp(disch:=omega);refine Ds w _ _ h60 ?_;intro M2 s2;simp(disch:=omega);exact ad (h _ (hs1.trans s2))
theorem AN(w:B8)(b:Nat)(M:Mem)(R:VP)(h60:w.length<=60)(hb:1<=b)(hb':b<w.length)(h:R (.bool (D9 w b)) M):ar prog 405 [str w,.int .i64 b] M R:=by
 unfold D9 at h;refine fnS func405 rfl ntmps405 results405 ?_;simp(disch:=omega);refine lupS (rlA [] 4 20) (fun i:Nat=>[(5,.int .i64 ((i:Int)+1))]) (fun i M'=>M=M'/\i<=w.length-b-1/\vX w b i=true) (fun i=>w.length-b-1-i) 0 ⟨rfl,lZe _,rfl⟩ ?_
 rintro i M' g ⟨rfl,hi,hall⟩
 by_cases hlt:i<w.length-b-1
 ·obtain⟨q,hq⟩:∃ q,q=i+1:=⟨_,rfl⟩;have hqI:(i:Int)+1=(q:Nat):=by omega
  have hltI:(q:Int)+b<(w.length:Nat):=by omega
  have hs:=zi w b i;rw[hall,Bool.true_and,<-hq]at hs;have hno:=fun hc=>PI (w:=w) (b:=b) (n:=w.length-b-1) (i:=i) hlt hc;rw[<-hq]at hno;have hsg:=ga (w:=w) (a:=q) (m:=b);rw[hqI];generalize seg w q b=u at *;simp(disch:=omega)[hltI];refine drwS ?_;by_cases hc:u=w.take b
  ·have hcb:(u==w.take b)=true:=by rw[hc];exact beq_self_eq_true _
   rw[hno hcb]at h;simp(disch:=omega)[hsg,hc];exact ad h
  ·have hcb:(u==w.take b)=false:=bNe.2 hc;rw[hcb]at hs;simp(disch:=omega)[hsg,hcb];exact rndS q ⟨rfl,by omega,hs⟩
 ·have hiE:i=w.length-b-1:=by omega
  have hltI:¬(i:Int)+1+b<(w.length:Nat):=by omega
  rw[hiE]at hall;rw[hall]at h;simp(disch:=omega)[hltI];exact ad h
theorem mQ:∀(d:Nat) (w:B8) (pv:Bool) (M:Mem) (R:VP),w.length=d->w.length<=60->R (.bool (if pv then fF w else Bj w)) M->ar prog 366 [str w,.bool pv] M R:=by
 intro d
 induction d using Nat.strongRecOn with
 | ind d ih=>?_
 intro w pv M R hd h60 h;have hfin:(if pv then fF w else Bj w)=(decide (w.length<=1)||Dl pv w (w.length-1)):=by
  unfold Dl;cases pv
  ·rfl
  ·rw[if_pos rfl,if_pos rfl];exact H2 w
 rw[hfin]at h;refine fnS func366 rfl ntmps366 results366 ?_;by_cases h1:w.length<=1
 ·rw[decide_eq_true h1,Bool.true_or]at h;have h1I:(w.length:Int)<2:=by omega
  simp(disch:=omega)[h1I];exact ad h
 ·rw[decide_eq_false h1,Bool.false_or]at h;have h1I:¬(w.length:Int)<2:=by omega
  simp(disch:=omega)[h1I];refine lupS (rlA [4,5] 9 31) (fun i:Nat=>[(5,.int .i64 ((i:Int)+1))]) (fun i M'=>M=M'/\i<=w.length-1/\Dl pv w i=false) (fun i=>w.length-1-i) 0 ⟨rfl,lZe _,Oa pv w⟩ ?_
  rintro i M' g ⟨rfl,hi,hall⟩
  by_cases hlt:i<w.length-1
  ·obtain⟨b,hb⟩:∃ b,b=i+1:=⟨_,rfl⟩;have hbI:(i:Int)+1=(b:Nat):=by omega
   have hltI:(b:Int)<(w.length:Nat):=by omega
   have hcs:=zM w i;have hps:=zf w i;have hcy:=fun h=>Me (w:=w) (b:=i) (n:=w.length-1) hlt h;have hpy:=fun h h2=>MX (w:=w) (b:=i) (n:=w.length-1) hlt h h2;rw[<-hb]at hcs hps hcy hpy;have e:(w.length:Int)-b=((w.length-b:Nat):Int):=by omega
   have hret:rC w b=((w.drop (w.length-b)==w.take b)&&D9 w b):=rfl;have htl:(w.take b).length=b:=by rw[lTa];omega
   have hIH:=fun Q=>ih b (by omega) (w.take b) true M Q htl (by omega);rw[hbI];simp(disch:=omega)[hltI];refine drwS ?_;by_cases hbo:w.take b=w.drop (w.length-b)
   ·rw[<-hbo,beq_self_eq_true,Bool.true_and]at hret;simp(disch:=omega)[e,hbo.symm];refine aU (a:=[]) (c:=[]) (AN w b _ _ h60 (by omega) (by omega) ⟨rfl,rfl⟩) ?_;cases ht:D9 w b
    ·rw[ht]at hret;rw[hret,Bool.or_false]at hcs;rw[hret,Bool.false_and,Bool.or_false]at hps;simp(disch:=omega)[undef];exact rndS b ⟨rfl,by omega,by unfold Dl at hall ⊢;rw[hcs,hps];exact hall⟩
    ·rw[ht]at hret;cases pv
     ·unfold Dl at h;rw[if_neg (by decide),hcy hret]at h;simp(disch:=omega)[undef];exact ad h
     ·simp(disch:=omega);refine aU (a:=[]) (c:=[]) (hIH _ ⟨rfl,rfl⟩) ?_;rw[if_pos rfl];cases hpb:fF (w.take b)
      ·rw[hret,hpb,Bool.and_false,Bool.or_false]at hps;simp(disch:=omega);exact rndS b ⟨rfl,by omega,by unfold Dl at hall ⊢;rw[if_pos rfl]at hall ⊢;rw[hps];exact hall⟩
      ·unfold Dl at h;rw[if_pos rfl,hpy hret hpb]at h;simp(disch:=omega);exact ad h
   ·have hbb:(w.take b==w.drop (w.length-b))=false:=bNe.2 hbo;have hbb2:(w.drop (w.length-b)==w.take b)=false:=bNe.2 (Ne.symm hbo);rw[hbb2,Bool.false_and]at hret;rw[hret,Bool.or_false]at hcs;rw[hret,Bool.false_and,Bool.or_false]at hps;simp(disch:=omega)[e,hbb,undef];exact rndS b ⟨rfl,by omega,by unfold Dl at hall ⊢;rw[hcs,hps];exact hall⟩
  ·have hltI:¬(i:Int)+1<(w.length:Nat):=by omega
   have hiE:i=w.length-1:=by omega
   rw[hiE]at hall;rw[hall]at h;simp(disch:=omega)[hltI];exact ad h
theorem zu(w:B8)(M:Mem)(R:VP)(hl:w.length<=1099511627776)(h:R (aE (.bool (isWord w&&Bj w)) (aJ w)) M):ar prog 288 [str w] M R:=by
 unfold aE aJ at h;refine fnS func288 rfl ntmps288 results288 ?_;simp(disch:=omega);refine bg w _ _ hl ?_;cases hw:isWord w
 ·rw[hw]at h;simp(disch:=omega);exact ad h
 ·rw[hw,Bool.true_and,if_pos rfl]at h;simp(disch:=omega);refine mQ _ w false _ _ rfl (au hw) ?_;simp(disch:=omega);exact ad h
theorem rq(w:B8)(M:Mem)(R:VP)(hl:w.length<=1099511627776)(h:R (aE (.bool (isWord w&&fF w)) (aJ w)) M):ar prog 289 [str w] M R:=by
 unfold aE aJ at h;refine fnS func289 rfl ntmps289 results289 ?_;simp(disch:=omega);refine bg w _ _ hl ?_;cases hw:isWord w
 ·rw[hw]at h;simp(disch:=omega);exact ad h
 ·rw[hw,Bool.true_and,if_pos rfl]at h;simp(disch:=omega);refine mQ _ w true _ _ rfl (au hw) ?_;simp(disch:=omega);exact ad h
theorem H3(w:B8)(M:Mem)(R:VP)(hl:w.length<=60)(h1:1<=w.length)(h:R (.int .i64 ((w.length:Int)-(D1 w:Nat))) M):ar prog 268 [str w] M R:=by
 refine fnS func268 rfl ntmps268 results268 ?_;simp(disch:=omega);refine lupS (rlA [] 2 16) (fun i:Nat=>[(3,.int .i64 i)]) (fun i M'=>M'=M/\i<=w.length/\∀ j,j<i->ch (w.drop j)=false) (fun i=>w.length-i) 0 ⟨rfl,by omega,fun j hj=>by omega⟩ ?_
 rintro i M' g ⟨rfl,hi,hno⟩
 by_cases hlt:i<w.length
 ·have hltI:(i:Int)<(w.length:Nat):=by omega
  simp(disch:=omega)[hltI];refine gh (w.drop i) _ _ (by rw[length_drop];omega) ?_;cases hp:ch (w.drop i)
  ·simp(disch:=omega);refine rndS (i+1) ⟨rfl,by omega,fun j hj=>?_⟩;by_cases e:j=i
   ·rw[e,hp]
   ·exact hno j (by omega)
  ·rw[LM hi hp hno]at h;simp(disch:=omega);exact ad h
 ·exfalso;have hq:=hno (w.length-1) (by omega);have:w.drop (w.length-1)=[w[w.length-1]]:=by
   rw[drop_eq_getElem_cons (by omega),drop_of_length_le (by omega)]
  rw[this,sH]at hq;cases hq
theorem xj(w:B8)(M:Mem)(R:VP)(hl:w.length<=60)(h:∀ M',Sub M M'->R (str (mC w)) M'):ar prog 180 [str w] M R:=by
 have he:=LA w;refine fnS func180 rfl ntmps180 results180 ?_;by_cases h0:w=[]
 ·subst h0;simp(disch:=omega);exact ad (h _ (Sub.refl M))
 ·have h1:1<=w.length:=List.length_pos_iff.2 h0;have hb:(w==[])=false:=jv h0;have he2:w.isEmpty=false:=by cases w with
   | nil=>exact absurd rfl h0
   | cons a l=>rfl
  unfold mC at h;simp(disch:=omega)[hb];refine H3 w _ _ hl h1 ?_;obtain⟨i,hi⟩:∃ i,i=D1 w:=⟨_,rfl⟩;rw[<-hi]at h he ⊢;have e1:((w.length:Int)-((w.length:Int)-i))=i:=by omega
  simp(disch:=omega)[e1];refine lv (w.take i) _ _ (by rw[lTa];omega) ?_;intro M' s;simp(disch:=omega);exact ad (h _ s)
theorem Ac(w:B8)(M:Mem)(R:VP)(hl:w.length<=1099511627776)(h:∀ M',Sub M M'->R (aE (str (pO w)) (pP w)) M'):ar prog 116 [str w] M R:=by
 unfold aE pO pP at h;refine fnS func116 rfl ntmps116 results116 ?_;simp(disch:=omega);refine bg w _ _ hl ?_;cases hw:isWord w
 ·rw[hw]at h;simp(disch:=omega);exact ad (h _ (Sub.refl M))
 ·rw[hw,if_pos rfl,if_pos rfl]at h;have h60:=au hw;have hcl:=Cl w;simp(disch:=omega);refine xj w _ _ h60 ?_;intro M' s;generalize mC w=u at *;by_cases hc:u.length<=60
  ·rw[if_pos hc,if_pos hc]at h;have hcI:¬(60:Int)<u.length:=by omega
   simp(disch:=omega)[hcI];exact ad (h _ s)
  ·rw[if_neg hc,if_neg hc]at h;have hcI:(60:Int)<u.length:=by omega
   simp(disch:=omega)[hcI];exact ad (h _ s)
end Go.Proofs.YtapimhjbilkfpaaGreatDoor
namespace Go.Proofs.YtapimhjbilkfpaaGreatDoor
open Go Go.Maps Go.Proofs.Tryz Go.RowKit Go.Shelf List
attribute [local go_sem] Oper.semAt_some
theorem Hx{M:Mem}{w:World}(h:Rep M w){b:Nat}{B:Blk}(hB:M b=some B):b<w.heap.size:=by
 have hold:=h b B hB;rcases Nat.lt_or_ge b w.heap.size with hlt|hge
 ·exact hlt
 ·cases B with
  | cells own xs tot=>obtain⟨c,e,fr,q,_⟩:=hold;rw[Array.getElem?_eq_none hge]at q;cases q
  | obj o=>obtain⟨q,_⟩:=hold;rw[Array.getElem?_eq_none hge]at q;cases q
theorem J6{M:Mem}{w w':World}(h:Rep M w)(hb:Below w.heap.size w w'):Rep M w':=fun b B hB=>Blk.holds_of (hb.block b (Hx h hB)) (h b B hB)
abbrev nS(u:UInt8):Value:=.int .u8 u.toNat
set_option maxRecDepth 100000 in
set_option maxHeartbeats 2000000 in
theorem OI(F:Fence)(n:Nat)(h7:F.fn 429)(hro:F.round=none)(hn:1<=n)(l Bs n₀ b off len cap:Nat)(zs:B8)(hreach:len<=1000000)(hb:b<n₀)(J:B8->World->Prop)
  (hY:∀ pre x W,J pre W->pre.length<len->YieldAt F (n-1) prog l #[nS x] W fun e W'=>e=.returned (.bool true)/\J (pre++[x]) W'/\Below n₀ W W')
  (W:World) (hBs:W.cell? ⟨Bs,0,none⟩=some (.slice (some ⟨b,off,none⟩) len cap)) (hc:∀ j,j<len->W.cell? ⟨b,off+j,none⟩=some (nS (zs[j]?.getD 0))) (hlen:zs.length=len) (h0:J [] W) :
  CallsIn F n prog 429 #[.func (.yield l) #[] #[],.pointer (some ⟨Bs,0,none⟩)] W fun e W'=>(∃ v,e=.returned v)/\J zs W':=by
 refine callsIn_of_wp func429 rfl h7 ?_ hro;simp only[ntmps429,size_toArray,length_cons,length_nil,Nat.reduceAdd,Nat.reduceSub,Array.replicate_succ,Array.replicate_zero,push_toArray,append_toArray,nil_append,cons_append]
 gi_wp2
 gi_loopw [7] (fun i wr=>∃ k:Nat,k<=len/\i=.int .i64 k/\J (zs.take k) wr/\Below n₀ W wr)
  (fun i _=>len-(intOf i).toNat)
 case atStart=>exact⟨0,lZe _,rfl,h0,Below.refl _ _⟩
 case round=>
  obtain⟨k,hk,rfl,hJs,hnx⟩:=hrel;have hcx:k<len->wr.cell? ⟨b,off+k,none⟩=some (nS (zs[k]?.getD 0)):=fun h=>(hnx.cell (p:=⟨b,off+k,none⟩) hb).trans (hc k h);by_cases hlt:k<len
  ·obtain⟨fn,tmps,assign,body,hy,hR⟩:=hY _ (zs[k]?.getD 0) wr hJs (by rw[lTa];omega);have hcx':=hcx hlt;have htk:zs.take (k+1)=zs.take k++[zs[k]?.getD 0]:=by
    rw[aw zs (by omega),gEl (by omega)];rfl
   clear hcx;generalize zs[k]?.getD 0=x at *
   gi_wp2
   refine hR.mono ?_
   rintro e W3 ⟨rfl,hJ3,hk3⟩
   gi_wp2
   go_roundw
   case rel=>exact⟨k+1,by omega,by simp,by rw[htk];exact hJ3,hnx.trans hk3⟩
   case measure=>simp[intOf];omega
  ·obtain rfl:k=len:=by omega
   gi_wp2
   go_end0
   exact⟨⟨_,rfl⟩,by rw[take_of_length_le (by omega)]at hJs;exact hJs⟩
def yK:Code:=(Code.region 2 #[{ dst:=some 5,op:=Op.assign (Operand.tmp 7),type:=5,pos:= "iter.go:51",after:=#[],guard:=none }] false)
def Ju:Code:=(Code.block 1 (Code.region 3 #[{ dst:=some 8,op:=Op.load 43 (Operand.tmp 2),type:=43,pos:= "iter.go:52",after:=#[],guard:=none },{ dst:=some 9,op:=Op.move (Operand.tmp 5),type:=5,pos:= "iter.go:52",after:=#[],guard:=none },{ dst:=some 10,op:=Op.buildSlice 43 1 #[(0,Operand.tmp 9)],type:=43,pos:= "iter.go:52",after:=#[{ on:=1,ground:=Ground.data }],guard:=none },{ dst:=some 11,op:=Op.call { callee:=Callee.builtin Builtin.append,args:=#[Operand.tmp 8,Operand.tmp 10],argTypes:=#[43,43] },type:=43,pos:= "iter.go:52",after:=#[{ on:=0,ground:=Ground.data },{ on:=2,ground:=Ground.data }],guard:=none },{ dst:=none,op:=Op.store 43 (Operand.tmp 2) (Operand.tmp 11),type:=0,pos:= "iter.go:52",after:=#[{ on:=3,ground:=Ground.data },{ on:=3,ground:=Ground.chain },{ on:=0,ground:=Ground.phase },{ on:=1,ground:=Ground.phase },{ on:=2,ground:=Ground.phase },{ on:=3,ground:=Ground.phase }],guard:=none }] false))
def mA(fn:FuncId)(sv:Value)(Bs D:Nat)(st:LoopState)(pend:Option Code):Loop:=
 { state:=st,pending:=pend,fn,tmps:=#[.slice none 0 0,sv,.pointer (some ⟨Bs,0,none⟩),undef,.slice none 0 0,undef,sv,undef,undef,undef,undef,undef,undef],params:=#[7],assign:=yK,body:=Ju,defers:=D }
structure RV(w0:World)(fn:FuncId)(sv:Value)(Bs l D:Nat)(ss:B8)(W:World):Prop where
 box:∃ v,W.heap[Bs]?=some (.cells #[v] 43 (0,0))/\W.ownsRow w0.heap.size 5 1 v ss.length (ss.map nS)/\(v=.slice none 0 0↔ss=[])
 L:W.heap[l]?=some (.loop (mA fn sv Bs D .ready none))
 K:W.heap[D]?=some (.deferred (some []))
 below:Below w0.heap.size w0 W
theorem de(W:World)(l:Nat)(o:Obj):W.grownBy (W.putObj l o) (some l):=
 ⟨rfl,rfl,rfl,by simp,fun k _ hk=>World.putObj_heap_other (fun e=>hk (by rw[e]))⟩
theorem uW(W:World)(b:Nat)(v:Value):W.grownBy (W.setCell ⟨b,0,none⟩ v) (some b):=
 ⟨rfl,rfl,rfl,(KeepsWalks.setCell W _ v).size,fun k _ hk=>Below.heap_setCell _ _ _ k (fun e=>hk (by rw[e]))⟩
theorem fD{W:World}{base:Nat}{e:TypeId}{size:Nat}{v:Value}{k:Nat}{xs:List Value}(h:W.ownsRow base e size v k xs){j:Nat}{o:Obj}(hj:W.heap[j]?=some o)(hno:∀ cur,o≠.cells cur e (0,0)) :
  v.ownBlock=none\/v.ownBlock≠some j:=by
 rcases h.2 with ⟨rfl,_⟩|⟨g,cap,cur,rfl,_,hgb,_⟩
 ·exact .inl rfl
 ·refine .inr fun e'=>?_;have:g=j:=by simpa[Value.ownBlock] using e'
  subst this;rw[hgb]at hj;cases hj;exact hno cur rfl
theorem lM{W:World}{B:Nat}{v:Value}{t:TypeId}(h:W.heap[B]?=some (.cells #[v] t (0,0))):W.cell? ⟨B,0,none⟩=some v/\W.frozen? ⟨B,0,none⟩=false:=by
 constructor<;>simp[World.cell?,World.frozen?,h]
theorem tT{W:World}{B:Nat}{v:Value}{t:TypeId}(v':Value)(h:W.heap[B]?=some (.cells #[v] t (0,0))):(W.setCell ⟨B,0,none⟩ v').heap[B]?=some (.cells #[v'] t (0,0)):=by
 obtain⟨hlt,hk⟩:=Array.getElem?_eq_some_iff.1 h;show (W.heap.modify B _)[B]?=_;rw[Array.getElem?_eq_getElem (by rw[Array.size_modify];exact hlt),Array.getElem_modify_self,hk];rfl
theorem Vm:(prog.info? 5).map (fun i=>(i.zero,i.size,i.bytes))=some (some (.int .u8 0),1,1):=by kernel_rfl
set_option maxRecDepth 100000 in
set_option maxHeartbeats 2000000 in
theorem RW(F:Fence)(m:Nat)(w0:World)(fn:FuncId)(hfn:F.fn fn)(sv:Value)(Bs l D:Nat)(hBl:Bs≠l)(hDl:D≠l)(hDB:D≠Bs)(h0B:w0.heap.size<=Bs)(h0l:w0.heap.size<=l)
  (N:Nat) (hN:N<=maxLen) (hNb:N*1<=140737488355328) (ss:B8) (x:UInt8) (W:World) (h:RV w0 fn sv Bs l D ss W) (hlen:ss.length<N) :
  YieldAt F m prog l #[nS x] W fun e W'=>e=.returned (.bool true)/\RV w0 fn sv Bs l D (ss++[x]) W'/\Below w0.heap.size W W':=by
 obtain⟨i0,hi,hz0,hz1,hz2⟩:=info_parts Vm;obtain⟨v,hv,hrow,_⟩:=h.box;refine⟨fn,#[.slice none 0 0,sv,.pointer (some ⟨Bs,0,none⟩),undef,.slice none 0 0,undef,sv,nS x,undef,undef,undef,undef,undef],yK,Ju,by simpa[mA] using run_yield (P:=prog) (args:=#[nS x]) h.L rfl,roundIn_of_wpIn hfn ?_⟩;have hl:l<W.heap.size:=(Array.getElem?_eq_some_iff.1 h.L).1;have hbr:=run_beginRound (P:=prog) h.L rfl;obtain⟨W2,hW2⟩:∃ W2,W.putObj l (.loop { mA fn sv Bs D .ready none with state:=.busy })=W2:=⟨_,rfl⟩;rw[hW2]at hbr;have hg2:W.grownBy W2 (some l):=by rw[<-hW2];exact de _ _ _
 have hv2:W2.heap[Bs]?=some (.cells #[v] 43 (0,0)):=by rw[<-hW2];exact(World.putObj_heap_other hBl).trans hv
 have hK2:W2.heap[D]?=some (.deferred (some [])):=by rw[<-hW2];exact(World.putObj_heap_other hDl).trans h.K
 have hL2:W2.heap[l]?=some (.loop { mA fn sv Bs D .ready none with state:=.busy }):=by rw[<-hW2];exact World.putObj_heap_same hl
 have hrow2:W2.ownsRow w0.heap.size 5 1 v ss.length (ss.map nS):=hrow.kept hg2 (fD hrow h.L (fun cur e=>by cases e));have hz:w0.heap.size<=W.heap.size:=h.below.size;have hb2:Below w0.heap.size W W2:=(Below.refl _ W).grown hg2 hz (fun k e=>by cases e;exact h0l);have hzw:w0.heap.size<=W2.heap.size:=Nat.le_trans hz hb2.size;obtain⟨hc2,hf2⟩:=lM hv2;have hBlt:Bs<W2.heap.size:=(Array.getElem?_eq_some_iff.1 hv2).1;have hl2:l<W2.heap.size:=(Array.getElem?_eq_some_iff.1 hL2).1;have hDlt:D<W2.heap.size:=(Array.getElem?_eq_some_iff.1 hK2).1;have ne_of:∀ {j:Nat} {o:Obj},W2.heap[j]?=some o->(∀ cur,o≠.cells cur 5 (0,0))->some j≠v.ownBlock:=fun hj hno=>by
  rcases fD hrow2 hj hno with e|e
  ·rw[e];simp
  ·exact fun e'=>e e'.symm
 clear hW2;unfold yK
 gi_wp2_with (rw[Oper.semAt_eq _ _ _ (fun c h=>by cases h)];go_simp;try go_bits)
 unfold Ju
 gi_wp2_with (first
  | (
    gi_at_builtin;refine wpListIn_append_own _ rfl _ _ 43 rfl w0.heap.size 5 i0 (.int .u8 0) 1 1 underlying43 hi hz0 hz1 hz2 rfl (by decide) _ _ _ rfl (hrow2.alloc _) ⟨W2.heap.size,0,none⟩ 1 1 [nS x] rfl rfl (cell_one_new _ _ _) (by simp[Value.oneCell',nS]) (by omega) (by omega) (by simp;omega) ?_;intro v' w3 hown' hg3 hnil3
    have hv3:w3.heap[Bs]?=some (.cells #[v] 43 (0,0)):=(hg3.block Bs (by simp;omega) (ne_of hv2 (fun cur e=>by cases e))).trans ((Below.heap_alloc _ _ Bs hBlt).trans hv2);obtain⟨hc3,hf3⟩:=lM hv3;obtain⟨g',cap',cur',rfl,hbase',hgb',hr1,hr2,hr3,hr4⟩:∃ g' cap' cur',v'=.slice (some ⟨g',0,none⟩) (ss.length+1) cap'/\w0.heap.size<=g'/\w3.heap[g']?=some (.cells cur' 5 (0,0))/\ss.length+1<=cap'/\cap'<=maxLen/\cur'.size=cap'*1/\cur'.toList.take ((ss.length+1)*1)=ss.map nS++[nS x]:=by
     rcases hown'.2 with ⟨_,h0⟩|h'
     ·exact absurd h0 (by omega)
     ·exact h'
    simp only[Act.put,setIfInBounds_toArray,set_cons_succ,set_cons_zero])
  | (rw[Oper.semAt_eq _ _ _ (fun c h=>by cases h)];go_simp;try go_bits))
 have hg3':(W2.alloc (.cells #[nS x] 5)).grownBy w3 v.ownBlock:=hg3;have hL3:w3.heap[l]?=some (.loop { mA fn sv Bs D .ready none with state:=.busy }):=(hg3'.block l (by simp;omega) (ne_of hL2 (fun cur e=>by cases e))).trans ((Below.heap_alloc _ _ l hl2).trans hL2);have hK3:w3.heap[D]?=some (.deferred (some [])):=(hg3'.block D (by simp;omega) (ne_of hK2 (fun cur e=>by cases e))).trans ((Below.heap_alloc _ _ D hDlt).trans hK2);obtain⟨w4,hw4⟩:∃ w4,w3.setCell ⟨Bs,0,none⟩ (.slice (some ⟨g',0,none⟩) (ss.length+1) cap')=w4:=⟨_,rfl⟩;rw[hw4];have hg4:w3.grownBy w4 (some Bs):=by rw[<-hw4];exact uW _ _ _
 have hv4:w4.heap[Bs]?=some (.cells #[.slice (some ⟨g',0,none⟩) (ss.length+1) cap'] 43 (0,0)):=by rw[<-hw4];exact tT _ hv3
 have hL4:w4.heap[l]?=some (.loop { mA fn sv Bs D .ready none with state:=.busy }):=(hg4.block l (Array.getElem?_eq_some_iff.1 hL3).1 (fun e=>hBl (by cases e;rfl))).trans hL3;have hK4:w4.heap[D]?=some (.deferred (some [])):=(hg4.block D (Array.getElem?_eq_some_iff.1 hK3).1 (fun e=>hDB (by cases e;rfl))).trans hK3;have hrow4:=hown'.kept hg4 (fD hown' hv3 (fun cur e=>by cases e));have hl4:l<w4.heap.size:=(Array.getElem?_eq_some_iff.1 hL4).1;have hb3:Below w0.heap.size W w3:=(hb2.alloc hzw _).grown hg3' (by simp;omega) (fun k e=>(hrow2.lt k e).1);have hb4:Below w0.heap.size W w4:=hb3.grown hg4 (Nat.le_trans hz hb3.size) (fun k e=>by cases e;exact h0B);have hb5:Below w0.heap.size W (w4.putObj l (.loop { { mA fn sv Bs D .ready none with state:=.busy } with state:=if (none:Option Code).isNone then .ready else .done,pending:=none })):=hb4.grown (de _ _ _) (Nat.le_trans hz hb4.size) (fun k e=>by cases e;exact h0l);clear hw4;refine⟨_,_,run_endRound none hL4,rfl,⟨⟨_,(World.putObj_heap_other hBl).trans hv4,?_,by simp⟩,World.putObj_heap_same hl4,(World.putObj_heap_other hDl).trans hK4,h.below.trans hb5⟩,hb5⟩;have:=hrow4.kept (de w4 l (.loop { { mA fn sv Bs D .ready none with state:=.busy } with state:=if (none:Option Code).isNone then .ready else .done,pending:=none })) (fD hrow4 hL4 (fun cur e=>by cases e));simpa using this
set_option maxRecDepth 100000 in
set_option maxHeartbeats 2000000 in
theorem Dg(F:Fence)(n:Nat)(h11:F.fn 442)(h7:F.fn 429)(hro:F.round=none)(hn:2<=n)(Bv b off cap:Nat)(zs:B8)(hN:zs.length<=1000000)(w:World)
  (hBv:Bv<w.heap.size) (hb:b<w.heap.size) (hBs:w.cell? ⟨Bv,0,none⟩=some (.slice (some ⟨b,off,none⟩) zs.length cap)) (hc:∀ j,j<zs.length->w.cell? ⟨b,off+j,none⟩=some (nS (zs[j]?.getD 0))) :
  CallsIn F n prog 442 #[.slice none 0 0,.func (.func 429) #[] #[.pointer (some ⟨Bv,0,none⟩)]] w fun e w'=>∃ v:Value,e=.returned v/\w'.ownsRow w.heap.size 5 1 v zs.length (zs.map nS)/\(v=.slice none 0 0↔zs=[])/\Below w.heap.size w w':=by
 have h1:1<=n:=by omega
 refine callsIn_of_wp_marks func442 rfl h11 ?_ hro;simp only[ntmps442,size_toArray,length_cons,length_nil,Nat.reduceAdd,Nat.reduceSub,Array.replicate_succ,Array.replicate_zero,push_toArray,append_toArray,nil_append,cons_append]
 gi_wp2
 refine wpIn_rangeFunc ?_;intro fn hfn;rw[hro];obtain⟨W0,hW0⟩:∃ W0,w.alloc (.cells #[.slice none 0 0] 43)=W0:=⟨_,rfl⟩;have hs0:W0.heap.size=w.heap.size+1:=by rw[<-hW0];simp
 have hv0:W0.heap[w.heap.size]?=some (.cells #[.slice none 0 0] 43 (0,0)):=by rw[<-hW0];exact World.alloc_heap_new w _
 have hb0:Below w.heap.size w W0:=by rw[<-hW0];exact(Below.refl _ w).alloc (lRf _) _
 rw[hW0];obtain⟨sv,hsv⟩:∃ sv,sv=Value.func (.func 429) #[] #[.pointer (some ⟨Bv,0,none⟩)]:=⟨_,rfl⟩;obtain⟨W1,hW1⟩:∃ W1,(W0.alloc (.deferred (some []))).alloc (.loop (mA fn sv w.heap.size W0.heap.size .ready none))=W1:=⟨_,rfl⟩;have hold:∀ k,k<W0.heap.size->W1.heap[k]?=W0.heap[k]?:=fun k hk=>by
  rw[<-hW1];exact(Below.heap_alloc _ _ k (by simp;omega)).trans (Below.heap_alloc _ _ k hk)
 have hb1:Below w.heap.size w W1:=by rw[<-hW1];exact(hb0.alloc hb0.size _).alloc (by have:=hb0.size;simp;omega) _
 have hs1:W1.heap.size=W0.heap.size+2:=by rw[<-hW1];simp
 have hM:RV w fn sv w.heap.size (W0.heap.size+1) W0.heap.size [] W1:=
  ⟨⟨_,(hold w.heap.size (by omega)).trans hv0,⟨rfl,.inl ⟨rfl,rfl⟩⟩,by simp⟩,
   by rw[<-hW1];have:=World.alloc_heap_new (W0.alloc (.deferred (some []))) (.loop (mA fn sv w.heap.size W0.heap.size .ready none));rwa[World.size_alloc]at this,
   by rw[<-hW1];exact(Below.heap_alloc _ _ _ (by simp)).trans (World.alloc_heap_new W0 _),hb1⟩
 refine⟨W0.heap.size+1,[{ target:=.collected W0.heap.size,args:=#[] }],W1,{ target:=.fn (.func 429) #[.pointer (some ⟨Bv,0,none⟩)],args:=#[.func (.yield (W0.heap.size+1)) #[] #[]] },W1,429,
  #[.func (.yield (W0.heap.size+1)) #[] #[]] ++ #[.pointer (some ⟨Bv,0,none⟩)],W1,?_,?_,?_,?_,fun _=>h1,?_⟩
 ·rw[<-hW1,hsv];exact run_enterLoop_outer _ _ _ _ _
 ·simp[resolve,go_sem]
 ·intro f' hf';simp[Target.leads]at hf';subst hf';exact h7
 ·simp[invoke,go_sem]
 ·refine(OI F (n-1) h7 hro (by omega) (W0.heap.size+1) Bv w.heap.size b off zs.length cap zs hN hb (RV w fn sv w.heap.size (W0.heap.size+1) W0.heap.size)
   (fun pre x W hJ hl=>RW F (n-1-1) w fn hfn sv w.heap.size (W0.heap.size+1) W0.heap.size (by omega) (by omega) (by omega) (lRf _) (by omega) zs.length (by unfold maxLen;omega) (by omega) pre x W hJ hl) W1 ((hb1.cell hBv).trans hBs) (fun j hj=>(hb1.cell (p:=⟨b,off+j,none⟩) hb).trans (hc j hj)) rfl hM).mono ?_
  rintro e W2 ⟨⟨v0,rfl⟩,h2⟩
  obtain⟨v,hv,hrow,hnil⟩:=h2.box;have hend:=run_endLoop (P:=prog) h2.L (by simp[mA]);obtain⟨W3,hW3⟩:∃ W3,W2.putObj (W0.heap.size+1) (.loop { mA fn sv w.heap.size W0.heap.size .ready none with state:=.exhausted })=W3:=⟨_,rfl⟩;rw[hW3]at hend;have hg3:W2.grownBy W3 (some (W0.heap.size+1)):=by rw[<-hW3];exact de _ _ _
  have hv3:W3.heap[w.heap.size]?=some (.cells #[v] 43 (0,0)):=by rw[<-hW3];exact(World.putObj_heap_other (by omega)).trans hv
  have hK3:W3.heap[W0.heap.size]?=some (.deferred (some [])):=by rw[<-hW3];exact(World.putObj_heap_other (by omega)).trans h2.K
  have hrow3:=hrow.kept hg3 (fD hrow h2.L (fun cur e=>by cases e));have hb3:Below w.heap.size w W3:=h2.below.grown hg3 h2.below.size (fun k e=>by cases e;omega);obtain⟨hc3,hf3⟩:=lM hv3;clear hW3;refine⟨none,W3,hend,?_⟩
  gi_wp2
  rw[<-hs0];refine⟨by simp,.inl ⟨_,_,rfl,run_takeDeferred hK3,?_⟩⟩;exact⟨_,results_tmp rfl _ _ _,v,rfl,hrow3.kept (de _ _ _) (fD hrow3 hK3 (fun cur e=>by cases e)),hnil,hb3.grown (de _ _ _) hb3.size (fun k e=>by cases e;omega)⟩
theorem Jd(l:B8):l.map nS=av l:=rfl
theorem Gu(Bv b off cap:Nat)(own:Bool)(tot:Nat)(zs:B8)(M:Mem)(R:VP)(h1:1<=zs.length)(hN:zs.length<=1000000)(hv:M Bv=some (.cells own [.slice (some ⟨b,off,none⟩) zs.length cap] tot))
  (hr:Rd M (.slice (some ⟨b,off,none⟩) zs.length cap) (av zs)) (h:∀ g c,M g=none->zs.length<=c->R (.slice (some ⟨g,0,none⟩) zs.length c) (M.put g (.cells true (av zs) c))) :
  ar prog 442 [.slice none 0 0,.func (.func 429) #[] #[.pointer (some ⟨Bv,0,none⟩)]] M R:=by
 refine⟨⟨_,func442,by kernel_rfl,by kernel_rfl⟩,fun w hw=>?_⟩;have hBv:=hw.cell (show M.get? Bv 0=_ from al hv 0);have hltB:=Hx hw hv;obtain⟨a',c',he,ha⟩:=hr.opened;rw[aS]at he ha;injection he with e1 e2 e3
 rcases ha with h0|⟨b',o',e4,ha⟩
 ·omega
 rw[e4]at e1;injection e1 with e1
 injection e1 with e5 e6
 subst e5;subst e6;have hcell:∀ j,j<zs.length->w.cell? ⟨b,off+j,none⟩=some (nS (zs[j]?.getD 0)):=by
  intro j hj;refine hw.cell ?_;rw[ha j hj];unfold av;rw[getElem?_map,gEl hj];rfl
 have hltb:b<w.heap.size:=by
  have:=hcell 0 (by omega);rcases Nat.lt_or_ge b w.heap.size with hlt|hge
  ·exact hlt
  ·simp only[World.cell?,Array.getElem?_eq_none hge]at this;cases this
 refine(callsIn_wide.1 (Dg Fence.wide 2 trivial trivial rfl (lRf 2) Bv b off cap zs hN w hltB hltb hBv hcell)).mono ?_
 rintro e w' ⟨v,rfl,hrow,hnil,hbl⟩
 have hne:zs≠[]:=by rintro rfl;simp at h1
 rcases hrow.2 with ⟨hn,_⟩|⟨g,c,cur,rfl,hg0,hgb,hk1,hk2,hk3,hk4⟩
 ·exact absurd (hnil.1 hn) hne
 have hMg:M g=none:=hw.fresh hg0;rw[Jd,Nat.mul_one]at hk4;refine⟨_,M.put g (.cells true (av zs) c),rfl,?_,⟨hbl.os,hbl.tape,hbl.output,hbl.size,fun k hk _=>hbl.block k hk,?_⟩,h g c hMg hk1⟩
 ·intro i B hB;unfold Mem.put at hB;split at hB
  ·rename_i e;subst e;injection hB with hB;subst hB
   refine⟨cur,5,(0,0),hgb,by omega,⟨cur.toList.drop zs.length,?_⟩,fun _=>.inl rfl⟩;rw[<-hk4,take_append_drop]
  ·exact J6 hw hbl i B hB
 ·rintro k ⟨B,hB,ho⟩
  unfold Mem.put at hB;split at hB
  ·rename_i e;subst e;exact .inr hg0
  ·exact .inl ⟨B,hB,ho⟩
theorem DJ(Bv b off cap:Nat)(own:Bool)(tot:Nat)(zs:B8)(M:Mem)(R:VP)(h1:1<=zs.length)(hN:zs.length<=1000000)(hv:M Bv=some (.cells own [.slice (some ⟨b,off,none⟩) zs.length cap] tot))
  (hr:Rd M (.slice (some ⟨b,off,none⟩) zs.length cap) (av zs)) (h:∀ g c,M g=none->zs.length<=c->R (.slice (some ⟨g,0,none⟩) zs.length c) (M.put g (.cells true (av zs) c))) :
  ar prog 427 [.func (.func 429) #[] #[.pointer (some ⟨Bv,0,none⟩)]] M R:=by
 refine fnS func427 rfl ntmps427 results427 ?_;simp(disch:=omega);refine Gu Bv b off cap own tot zs _ _ h1 hN hv hr ?_;intro g c hg hc;simp(disch:=omega);exact ad (h g c hg hc)
theorem DY(a:Option Addr)(n c:Nat)(M:Mem)(R:VP)(h:∀ Bv,M Bv=none->R (.func (.func 429) #[] #[.pointer (some ⟨Bv,0,none⟩)]) (M.put Bv (.cells true [.slice a n c] 1))) :
  ar prog 402 [.slice a n c] M R:=by
 refine fnS func402 rfl ntmps402 results402 ?_;simp(disch:=omega);intro Bv hBv;simp(disch:=omega);exact ad (h Bv hBv)
end Go.Proofs.YtapimhjbilkfpaaGreatDoor
namespace Go.Proofs.YtapimhjbilkfpaaGreatDoor
open Go.Proofs.Tryz List
def K(L:B8)(i:Nat):Nat:=(L.getD i 0).toNat
def swp(L:B8)(i j:Nat):B8:=(L.set i (L.getD j 0)).set j (L.getD i 0)
theorem Ud{L:B8}{i:Nat}(h:i<L.length):K L i=L[i].toNat:=by unfold K;rw[gDe,gEl h];rfl
theorem Sg(L:B8)(i j:Nat):(swp L i j).length=L.length:=by unfold swp;rw[length_set,length_set]
theorem QS{L:B8}{i j:Nat}(hi:i<L.length)(hj:j<L.length)(k:Nat):K (swp L i j) k=if k=j then K L i else if k=i then K L j else K L k:=by
 unfold K swp;rw[gDe,getElem?_set,length_set];by_cases e:j=k
 ·subst e;rw[if_pos rfl,if_pos hj,if_pos rfl];rfl
 ·rw[if_neg e,if_neg (Ne.symm e),getElem?_set];by_cases e2:i=k
  ·subst e2;rw[if_pos rfl,if_pos hi,if_pos rfl];rfl
  ·rw[if_neg e2,if_neg (Ne.symm e2),<-gDe]
theorem Ow{L:B8}{i j:Nat}(hi:i<L.length)(hj:j<L.length):(swp L i j).Perm L:=by
 have e1:L.getD i 0=L[i]:=by rw[gDe,gEl hi];rfl
 have e2:L.getD j 0=L[j]:=by rw[gDe,gEl hj];rfl
 unfold swp;rw[e1,e2];exact set_set_perm hi hj
structure SP(a b:Nat)(L L':B8):Prop where
 len:L'.length=L.length
 out:∀ i,i<a\/b<=i->K L' i=K L i
 inn:∀ P:Nat->Prop,(∀ i,a<=i->i<b->P (K L i))->∀ i,a<=i->i<b->P (K L' i)
 perm:L'.Perm L
theorem SP.refl(a b:Nat)(L:B8):SP a b L L:=⟨rfl,fun _ _=>rfl,fun _ h=>h,.refl _⟩
theorem SP.trans{a b:Nat}{A B C:B8}(h:SP a b A B)(k:SP a b B C):SP a b A C:=
 ⟨k.len.trans h.len,fun i hi=>(k.out i hi).trans (h.out i hi),fun P hP=>k.inn P (h.inn P hP),k.perm.trans h.perm⟩
theorem SP.swp{a b:Nat}{L:B8}{i j:Nat}(hb:b<=L.length)(h1:a<=i)(h2:i<b)(h3:a<=j)(h4:j<b):SP a b L (swp L i j):=by
 refine⟨Sg _ _ _,fun k hk=>?_,fun P hP k h5 h6=>?_,Ow (by omega) (by omega)⟩
 ·rw[QS (by omega) (by omega),if_neg (by omega),if_neg (by omega)]
 ·rw[QS (by omega) (by omega)];split
  ·exact hP i h1 h2
  ·split
   ·exact hP j h3 h4
   ·exact hP k h5 h6
def SS(a b:Nat)(L:B8):Prop:=∀ i j,a<=i->i<j->j<b->K L i<=K L j
theorem SS.one{a:Nat}(L:B8){b:Nat}(h:b<=a+1):SS a b L:=fun i j h1 h2 h3=>by omega
structure Ins(a i j:Nat)(L:B8):Prop where
 rest:∀ x y,a<=x->x<y->y<=i->x≠j->y≠j->K L x<=K L y
 up:∀ y,j<y->y<=i->K L j<=K L y
theorem Ins.start{a i:Nat}{L:B8}(h:SS a i L):Ins a i i L:=
 ⟨fun x y h1 h2 h3 _ h5=>h x y h1 h2 (by omega),fun y h1 h2=>by omega⟩
theorem Ins.done{a i j:Nat}{L:B8}(h:Ins a i j L)(ha:a<=j)(hs:j=a\/K L (j-1)<=K L j):SS a (i+1) L:=by
 intro x y h1 h2 h3;by_cases e1:x=j
 ·subst e1;exact h.up y h2 (by omega)
 ·by_cases e2:y=j
  ·subst e2;rcases hs with e|e
   ·omega
   ·by_cases e3:x=y-1
    ·subst e3;exact e
    ·exact Nat.le_trans (h.rest x (y-1) h1 (by omega) (by omega) e1 (by omega)) e
  ·exact h.rest x y h1 h2 (by omega) e1 e2
theorem Ins.step{a i j:Nat}{L:B8}(h:Ins a i j L)(ha:a<j)(hj:j<=i)(hi:i<L.length)(hl:K L j<K L (j-1)):Ins a i (j-1) (swp L j (j-1)):=by
 have kk:=QS (L:=L) (i:=j) (j:=j-1) (by omega) (by omega);refine⟨fun x y h1 h2 h3 h4 h5=>?_,fun y h1 h2=>?_⟩
 ·rw[kk,kk,if_neg h4,if_neg h5];by_cases e1:x=j
  ·subst e1;rw[if_pos rfl,if_neg (by omega)];exact h.rest (x-1) y (by omega) (by omega) h3 (by omega) (by omega)
  ·rw[if_neg e1];by_cases e2:y=j
   ·subst e2;rw[if_pos rfl];exact h.rest x (y-1) h1 (by omega) (by omega) (by omega) (by omega)
   ·rw[if_neg e2];exact h.rest x y h1 h2 h3 e1 e2
 ·rw[kk,kk,if_pos rfl,if_neg (by omega)];by_cases e:y=j
  ·rw[if_pos e];omega
  ·rw[if_neg e];exact h.up y (by omega) h2
theorem SS.pairwise{L:B8}(h:SS 0 L.length L):L.Pairwise (fun x y=>x.toNat<=y.toNat):=by
 rw[pairwise_iff_getElem];intro i j hi hj hij;have:=h i j (lZe _) hij hj;rw[Ud hi,Ud hj]at this;exact this
end Go.Proofs.YtapimhjbilkfpaaGreatDoor
namespace Go.Proofs.YtapimhjbilkfpaaGreatDoor
open Go Go.Proofs.Tryz List
theorem Xn{M:Mem}{b c i:Nat}{w:Bool}{L:B8}(h:M b=some (.cells w (av L) c))(hi:i<L.length):M.get? b i=some (.int .u8 (K L i:Nat)):=by
 rw[al h];unfold av;rw[getElem?_map,gEl hi,Ud hi];rfl
theorem YG(L A:B8)(i j:Nat):(av L).set i (.int .u8 (K A j:Nat))=av (L.set i (A.getD j 0)):=by
 unfold av K;rw[map_set]
theorem swp_get{L:B8}{i j:Nat}(hi:i<L.length)(hj:j<L.length):(L.set i (L[j]'hj)).set j (L[i]'hi)=swp L i j:=by
 unfold swp;rw[gDe,gEl hj,gDe,gEl hi];rfl
theorem HS(L:B8):(av L).length=L.length:=aS L
theorem OH{M:Mem}{b:Nat}{B:Blk}(h:M b=some B):M.put b B=M:=by
 funext i
 unfold Mem.put;split
 ·rename_i e;subst e;exact h.symm
 ·rfl
theorem Hs(x:Nat)(M:Mem)(R:VP)(h:R (.bool false) M):ar prog 474 [.int .u8 x] M R:=by
 refine fnS func474 rfl ntmps474 results474 ?_;have e:((x:Int) != (x:Int))=false:=by simp
 simp(disch:=omega);exact ad h
theorem Iu(x y:Nat)(M:Mem)(R:VP)(h:R (.bool (decide (x<y))) M):ar prog 455 [.int .u8 x,.int .u8 y] M R:=by
 have e:decide ((x:Int)<(y:Int))=decide (x<y):=by
  by_cases hh:x<y
  ·rw[decide_eq_true hh];exact decide_eq_true (by omega)
  ·rw[decide_eq_false hh];exact decide_eq_false (by omega)
 refine fnS func455 rfl ntmps455 results455 ?_;simp(disch:=omega);refine Hs x _ _ ?_;simp(disch:=omega);exact ad h
theorem Em(b c lo hi:Nat)(L:B8)(M:Mem)(R:VP)(hM:M b=some (.cells true (av L) c))(hc:L.length<=c)(hl:L.length<=1000000)(hlo:lo<=hi)(hhi:hi<=L.length)
  (h:∀ L',SP lo hi L L'->SS lo hi L'->R (.tuple #[]) (M.put b (.cells true (av L') c))):ar prog 449 [.slice (some ⟨b,0,none⟩) L.length c,.int .i64 lo,.int .i64 hi] M R:=by
 refine fnS func449 rfl ntmps449 results449 ?_;simp(disch:=omega);refine lupS (rlA [6,7] 10 39) (fun x:Nat×B8=>[(6,.int .i64 x.1)]) (fun x M'=>M.put b (.cells true (av x.2) c)=M'/\lo+1<=x.1/\(x.1<=hi\/x.1=lo+1)/\SP lo hi L x.2/\SS lo x.1 x.2) (fun x=>hi+1-x.1) (lo+1,L) ⟨OH hM,lRf _,.inr rfl,SP.refl _ _ _,SS.one _ (lRf _)⟩ ?_
 rintro⟨i,L1⟩ M' g ⟨rfl,h1,h2,hsp,hss⟩
 simp only at h1 h2 hsp hss;have hl1:=hsp.len;by_cases hlt:i<hi
 ·simp(disch:=omega);refine lupS (rlA [7] 16 33) (fun x:Nat×B8=>[(7,.int .i64 x.1)]) (fun x M'=>M.put b (.cells true (av x.2) c)=M'/\lo<=x.1/\x.1<=i/\SP lo hi L x.2/\Ins lo i x.1 x.2) (fun x=>x.1) (i,L1) ⟨rfl,by simp only;omega,lRf _,hsp,Ins.start hss⟩ ?_;clear hsp hss hl1
  rintro⟨j,L2⟩ M' g2 ⟨rfl,hj1,hj2,hsp,hin⟩
  simp only at hj1 hj2 hsp hin;have hl2:=hsp.len;have kM:(M.put b (.cells true (av L2) c)) b=some (.cells true (av L2) c):=ag _ _ _;have kj:=Xn kM (i:=j) (by omega);by_cases hja:lo<j
  ·obtain⟨q,hq⟩:∃ q,j=q+1:=⟨j-1,by omega⟩;subst hq;have kq:=Xn kM (i:=q) (by omega);have e1:((q+1:Nat):Int)-1=q:=by omega
   simp(disch:=omega);refine drwS ?_;simp(disch:=omega)[kj,kq];refine aU (a:=[]) (c:=[]) (Iu _ _ _ _ ⟨rfl,rfl⟩) ?_;by_cases hk:K L2 (q+1)<K L2 q
   ·have hst:=hin.step (by omega) hj2 (by omega) (by simpa using hk);have hsw:=SP.swp (L:=L2) (a:=lo) (b:=hi) (i:=q+1) (j:=q) (by omega) (by omega) (by omega) (by omega) (by omega);rw[decide_eq_true hk];simp(disch:=omega);refine plyS (ak [0,1,2,3,4,5,6,7,8,9,10,11,12,13,14] (.one 15 2 (ak [16] (.one 17 2 .fin)))) ?_;simp(disch:=omega)[kj,kq,aj,YG];refine rndS (q,swp L2 (q+1) q) ⟨by simp only[aW,swp_get],by simp only;omega,by simp only;omega,hsp.trans hsw,hst⟩
   ·rw[decide_eq_false hk];simp(disch:=omega);have hs2:=hin.done hj1 (.inr (by simpa using Nat.le_of_not_lt hk));refine rndS (i+1,L2) ⟨rfl,by simp only;omega,.inl (by simp only;omega),hsp,hs2⟩
  ·have hja':j=lo:=by omega
   subst hja';simp(disch:=omega);refine drwS ?_;simp(disch:=omega);have hs2:=hin.done hj1 (.inl rfl);refine rndS (i+1,L2) ⟨rfl,by simp only;omega,.inl (by simp only;omega),hsp,hs2⟩
 ·simp(disch:=omega);refine ad (h L1 hsp ?_);rcases h2 with h2|h2
  ·rw[show hi=i by omega];exact hss
  ·exact SS.one _ (by omega)
end Go.Proofs.YtapimhjbilkfpaaGreatDoor
namespace Go.Proofs.YtapimhjbilkfpaaGreatDoor
open Go.Proofs.Tryz List
end Go.Proofs.YtapimhjbilkfpaaGreatDoor
namespace Go.Proofs.YtapimhjbilkfpaaGreatDoor
open Go Go.Proofs.Tryz List
end Go.Proofs.YtapimhjbilkfpaaGreatDoor
