/- Lemmas, part 8. -/
import Derived.Test.YtapimhjbilkfpaaGreatDoorY06
import Derived.RangeFuncGives
import Derived.RangeFuncBox
import Derived.RangeFuncLeaves
import Derived.Shelf.Abstract
import Derived.WalkKit
import Derived.OwnWalkIn
import Derived.TacticsInMore
import Derived.LoopNIn
import Derived.LoopIn
import Derived.Maps.AppendAt
set_option linter.unusedVariables false
set_option linter.unusedSimpArgs false
set_option maxHeartbeats 8000000
namespace Go.Proofs.YtapimhjbilkfpaaGreatDoor
open Go Go.Proofs.Tryz List
theorem AR{w:B8}(h:aK w=0):isWord w=true:=by
 unfold aK at h;split at h
 .assumption
 .cases h
theorem Rz{ws:List B8}(h:∀ w∈ws,w.all isL=true)(i:Nat):(ws.getD i []).all isL=true:=by
 rw[gDe];cases hx:ws[i]? with
 | none=>rfl
 | some x=>exact h x (mem_of_getElem? hx)
theorem Ei{ws:List B8}(h:∀ w∈ws,w.all isL=true)(l:B8):(aS ws l).all isL=true:=by
 unfold aS;rw[all_flatMap,all_eq_true];exact fun u _=>Rz h _
theorem Mt{ws:List B8}(h:aY ws=true):∀ w∈ws,w.all isL=true:=fun w hw=>aZ (bH h hw).2.1
theorem OZ{w:B8}(h:isWord w=true):isWord w.reverse=true:=
 dE (by rw[length_reverse];exact au h) (by rw[all_reverse];exact aZ h)
theorem tk{w:B8}(h:aK w=0):isWord (if isWord w then w.reverse else [])=true:=by
 rw[if_pos (AR h)];exact OZ (AR h)
theorem nk{w:B8}(h:w.all isL=true)(n:Nat):(w.take n).all isL=true:=by
 rw[all_eq_true]at *;exact fun u hu=>h u (mem_of_mem_take hu)
theorem RY{w:B8}(h:w.all isL=true)(n:Nat):(w.drop n).all isL=true:=by
 rw[all_eq_true]at *;exact fun u hu=>h u (mem_of_mem_drop hu)
theorem CQ{w:B8}(h:qo w=0):isWord (ql w)=true:=by
 unfold qo at h;split at h
 .rename_i hw;split at h
  .rename_i hl;unfold ql;rw[if_pos hw,if_pos hl];refine dE hl ?_;unfold mV;rw[all_append,all_reverse,aZ hw,nk (aZ hw)];rfl
  .cases h
 .cases h
theorem zQ{ws:List B8}(hm:aY ws=true):∀(k:Nat) (w x:B8),isWord w=true->qp ws k w=some x->isWord x=true
 | 0,w,x,hw,h=>by
  rw[Ae]at h;injection h with h
  rw[<-h];exact hw
 | k+1,w,x,hw,h=>by
  rw[q9]at h;split at h
  .cases h
  .exact zQ hm k _ x (dE (by omega) (Ei (Mt hm) w)) h
theorem CO{ws:List B8}{w:B8}{k:Int}(h:od ws w k=0):isWord (oP ws w k)=true:=by
 unfold od at h;unfold oP;by_cases hc:iY ws w k=0
 .rw[if_pos hc]at h ⊢;obtain⟨hm,hw,_⟩:=lZ hc;cases hx:qp ws k.toNat w with
  | none=>rw[hx]at h;cases h
  | some x=>exact zQ hm _ w x hw hx
 .rw[if_neg hc]at h;exact absurd h hc
theorem GL{w:B8}{i m:Int}(h:A6 w i m=0):isWord (BI w i m)=true:=by
 unfold A6 at h;split at h
 .rename_i hw;split at h
  .rename_i hf;unfold BI;rw[if_pos hw,if_pos hf];refine dE ?_ (sT (aZ hw) _ _);have:=au hw;unfold seg;rw[lDr,lTa];omega
  .cases h
 .cases h
theorem U7{c:Nat->Nat}{n i:Nat}(hi:i<n)(h:eg c n<=5):lab c i<=4:=by
 have h1:=I9 c hi;omega
theorem GX{p q:Int}(h:iL p q=0):isWord (jd p q)=true:=by
 unfold jd;rw[if_pos h];unfold iL at h;split at h
 .split at h
  .cases h
  .rename_i hn;split at h
   .cases h
   .rename_i hk;refine dE (by rw[tF];omega) ?_;rw[all_eq_true];intro u hu;unfold gS at hu;obtain⟨i,hi,rfl⟩:=mem_map.1 hu;exact mH (U7 (mem_range.1 hi) (by omega))
 .cases h
theorem F4{ws:List B8}(hm:∀ w∈ws,w.all isL=true)(n:Nat):∀ f x,x.all isL=true->(grF ws n f x).length<=n/\(grF ws n f x).all isL=true
 | 0,x,h=>⟨by unfold grF;rw[lTa];omega,by unfold grF;exact nk h n⟩
 | f+1,x,h=>by
  unfold grF;split
  .exact F4 hm n f _ (Ei hm x)
  .exact⟨by rw[lTa];omega,nk h n⟩
theorem Mi{ws:List B8}{a n:Int}(h:grC ws a n=0):isWord (grT ws a n)=true:=by
 unfold grC at h;unfold grT;by_cases hc:ga ws a n 60=0
 .rw[if_pos hc]at h ⊢;obtain⟨hm,h0,h1,h2,h3⟩:=gN hc;have h5:=(aW hm).2;split at h
  .rename_i hg;rw[if_pos hg];have hl:[ltr a.toNat].all isL=true:=by
    rw[all_cons,mH (by omega)];rfl
   obtain⟨q1,q2⟩:=F4 (Mt hm) n.toNat n.toNat [ltr a.toNat] hl;exact dE (by omega) q2
  .cases h
 .rw[if_neg hc]at h;exact absurd h hc
theorem CC(a b c:Nat):∀ n,(iR a b c n).all isL=true
 | 0=>rfl
 | n+1=>by
  unfold iR;rw[all_append,CC a b c n];split<;>rfl
theorem Fq{p q:Int}(h:sk p q=0):isWord (BD p q)=true:=by
 unfold BD;rw[if_pos h];unfold sk at h;split at h
 .rename_i hs;split at h
  .cases h
  .rename_i hn;refine dE ?_ (by unfold nS;exact CC _ _ _ _);unfold nS;rw[pD];unfold eP at hs;simp only[bAn,dTe]at hs;omega
 .cases h
theorem B3{w u:B8}(h:oW w u=0):isWord (mW w u)=true:=by
 unfold oW at h;unfold mW;split at h
 .rename_i hb;rw[if_pos hb];rw[bAn]at hb;split at h
  .cases h
  .rename_i hl;rw[if_neg hl];exact QT hb.1 hb.2 (by omega)
 .cases h
theorem BU{ws:List B8}(hm:∀ w∈ws,w.all isL=true)(m:Nat):∀ f x,x.all isL=true->(eD ws m f x).all isL=true
 | 0,x,h=>h
 | f+1,x,h=>by
  unfold eD;split
  .exact BU hm m f _ (Ei hm x)
  .exact h
theorem Oi{l:B8}{ws:List B8}(h:named l=some ws):∀ w∈ws,w.all isL=true:=by
 unfold named at h;have:ws=[[97,98],[97]]\/ws=[[97,98],[98,97]]\/ws=[[97,98],[97,97]]\/ws=[[97,98,99],[97,99],[98]]:=by
  repeat' split at h
  all_goals simp_all
 rcases this with rfl|rfl|rfl|rfl<;>decide
theorem yp{l:B8}{m:Int}(h:iX l m=0):isWord (hU l m)=true:=by
 unfold iX at h;unfold hU;split at h
 .rename_i hm;rw[if_pos hm];cases hn:named l with
  | none=>rw[hn]at h;cases h
  | some ws=>exact dE (by show ((eD ws m.toNat 60 [97]).take m.toNat).length<=60;rw[lTa];omega) (nk (BU (Oi hn) _ _ _ rfl) _)
 .cases h
theorem Px{w:B8}(h:w.all isL=true)(k:Nat):(eh w k).all isL=true:=by
 unfold eh;rw[all_flatten,all_eq_true];intro u hu;rw[eq_of_mem_replicate hu];exact h
theorem BS:∀(zs:List Int) (last own w:B8),last.all isL=true->own.all isL=true->own.length<=60->la zs last own=some w->isWord w=true
 | [],last,own,w,hl,ho,hn,h=>by
  unfold la at h;injection h with h
  rw[<-h];exact dE hn ho
 | d::ds,last,own,w,hl,ho,hn,h=>by
  unfold la at h;split at h
  .rename_i hd;refine BS ds own _ w ho ?_ ?_ h
   .rw[all_append,Px ho,hl];rfl
   .rw[lAp,fW];omega
  .cases h
theorem Rt{zs:List Int}(h:rU zs=0):isWord (qW zs)=true:=by
 unfold rU at h;unfold qW;split at h
 .rename_i ho;rw[if_pos ho];cases hs:la zs [98] [97] with
  | none=>rw[hs]at h;cases h
  | some w=>exact BS zs _ _ w rfl rfl (by decide) hs
 .cases h
theorem G2{w:B8}{k:Int}(h:A7 w k=0):isWord (xi w k)=true:=by
 unfold A7 at h;unfold xi;split at h
 .rename_i hw;rw[if_pos hw];split at h
  .rename_i hk;rw[if_pos hk];refine dE ?_ (by rw[all_append,RY (aZ hw),nk (aZ hw)];rfl);have:=au hw;rw[lAp,lDr,lTa];omega
  .cases h
 .cases h
theorem MG:∀ n,n<=5->isWord (jZ n)=true:=by decide
theorem Ha{n:Int}(h:Bw n=0):isWord (wV n)=true:=by
 unfold Bw at h;unfold wV;split at h
 .rename_i hn;rw[if_pos hn];rw[dTe]at hn;exact MG _ (by omega)
 .cases h
theorem Pg{w:B8}{ws:List B8}:∀(f i x:Nat),ws.length<=5->(cZ w ws i).1=some x->(i7 w ws f i).all isL=true/\(i7 w ws f i).length<=w.length-i
 | 0,i,x,_,_=>⟨rfl,lZe _⟩
 | f+1,i,x,h5,hx=>by
  unfold i7;split
  .rename_i hi;obtain⟨q1,q2,_,⟨s,q4,_⟩,q5,_⟩:=EH hi hx;have hp:1<=(ws.getD (cZ w ws i).2 []).length:=length_pos_iff.2 q2;obtain⟨r1,r2⟩:=Pg f _ s h5 q4;refine⟨?_,?_⟩
   .rw[all_cons,r1,mH (by omega)];rfl
   .rw[lCo];omega
  .exact⟨rfl,lZe _⟩
theorem Cs{ws:List B8}{w:B8}(h:qq ws w=0):isWord (p9 ws w)=true:=by
 unfold qq at h;unfold p9;by_cases hc:iM ws w=0
 .rw[if_pos hc]at h ⊢;obtain⟨hm,hw⟩:=rk hc;have h5:=(aW hm).2;have h60:=au hw;cases hx:(cZ w ws 0).1 with
  | none=>rw[hx]at h;cases h
  | some x=>
   obtain⟨r1,r2⟩:=Pg w.length 0 x h5 hx;exact dE (by show (i7 w ws w.length 0).length<=60;omega) r1
 .rw[if_neg hc]at h;exact absurd h hc
theorem uR{d d':Dk}{t t':B8}{c:Int}(h:bt d t c=some (d',t')):c=0/\d'=d/\t'=t:=by
 unfold bt at h;split at h
 .rename_i hc;injection h with h
  injection h with h1 h2
  exact⟨hc,h1.symm,h2.symm⟩
 .cases h
theorem gC{d d':Dk}{t t':B8}{c:Int}(hd:d.ok)(hw:c=0->isWord t=true)(h:bec d t c=some (d',t')):d'.ok:=by
 unfold bec at h;obtain⟨h1,rfl,rfl⟩:=uR h;exact⟨hw h1,hd.2⟩
theorem bF{d d':Dk}{t t':B8}{c:Int}(hd:d.ok)(h:bt d t c=some (d',t')):d'.ok:=by
 obtain⟨_,rfl,_⟩:=uR h;exact hd
theorem lC:dZ.ok:=⟨by decide,by decide,by decide⟩
theorem aE{α:Type}{P:Prop}[Decidable P]{a b r:α}{Q:Prop}(h:(if P then a else b)=r)(ha:P->a=r->Q)(hb:¬ P->b=r->Q):Q:=by
 by_cases hp:P
 .rw[if_pos hp]at h;exact ha hp h
 .rw[if_neg hp]at h;exact hb hp h
theorem RG{d d':Dk}{c t:B8}(hd:d.ok)(h:aM d c=some (d',t)):d'.ok:=by
 unfold aM at h;refine aE h (fun _ h=>gC hd (fun e=>tk e) h) (fun _ h=>?_);refine aE h (fun _ h=>gC hd (fun e=>CQ e) h) (fun _ h=>?_);refine aE h (fun _ h=>gC hd (fun e=>CO e) h) (fun _ h=>?_);refine aE h (fun _ h=>gC hd (fun e=>Cs e) h) (fun _ h=>?_);refine aE h (fun _ h=>bF hd h) (fun _ h=>?_);refine aE h (fun _ h=>bF hd h) (fun _ h=>?_);refine aE h (fun _ h=>bF hd h) (fun _ h=>?_);refine aE h (fun _ h=>bF hd h) (fun _ h=>?_);refine aE h (fun _ h=>bF hd h) (fun _ h=>?_);refine aE h (fun _ h=>bF lC h) (fun _ h=>?_);unfold bM at h;refine aE h (fun _ h=>bF hd h) (fun _ h=>?_);refine aE h (fun _ h=>bF hd h) (fun _ h=>?_);refine aE h (fun _ h=>bF hd h) (fun _ h=>?_);refine aE h (fun _ h=>bF hd h) (fun _ h=>?_);refine aE h (fun _ h=>bF hd h) (fun _ h=>?_);refine aE h (fun _ h=>bF hd h) (fun _ h=>?_);refine aE h (fun _ h=>bF hd h) (fun _ h=>?_);refine aE h (fun _ h=>bF hd h) (fun _ h=>?_);refine aE h (fun _ h=>bF hd h) (fun _ h=>?_);refine aE h (fun _ h=>bF hd h) (fun _ h=>?_);refine aE h (fun _ h=>bF hd h) (fun _ h=>?_);refine aE h (fun _ h=>bF hd h) (fun _ h=>?_);refine aE h (fun _ h=>bF hd h) (fun _ h=>?_);refine aE h (fun _ h=>bF hd h) (fun _ h=>?_);unfold dS at h;refine aE h (fun _ h=>bF hd h) (fun _ h=>?_);refine aE h (fun _ h=>bF hd h) (fun _ h=>?_);refine aE h (fun _ h=>bF hd h) (fun _ h=>?_);refine aE h (fun _ h=>bF hd h) (fun _ h=>?_);refine aE h (fun _ h=>bF hd h) (fun _ h=>?_);refine aE h (fun _ h=>bF hd h) (fun _ h=>?_);cases h
theorem Va{d d':Dk}{c t:B8}{a b:Int}(hd:d.ok)(h:gj d c a b=some (d',t)):d'.ok:=by
 unfold gj at h;refine aE h (fun _ h=>gC hd (fun e=>GL e) h) (fun _ h=>?_);refine aE h (fun _ h=>gC hd (fun e=>GX e) h) (fun _ h=>?_);refine aE h (fun _ h=>gC hd (fun e=>Mi e) h) (fun _ h=>?_);refine aE h (fun _ h=>gC hd (fun e=>Fq e) h) (fun _ h=>?_);refine aE h (fun _ h=>bF hd h) (fun _ h=>?_);refine aE h (fun _ h=>bF hd h) (fun _ h=>?_);refine aE h (fun _ h=>bF hd h) (fun _ h=>?_);refine aE h (fun _ h=>bF hd h) (fun _ h=>?_);cases h
theorem I4{l:B8}(h:pmC l=0):aY (pmL l)=true/\pmL l=spR 44 l:=by
 unfold pmC at h;unfold pmL;split at h
 .rename_i hm;rw[if_pos hm];exact⟨hm,rfl⟩
 .cases h
theorem Tk{d d':Dk}{c t u:B8}(hd:d.ok)(h:dW d c t=some (d',u)):d'.ok:=by
 unfold dW at h;split at h
 .split at h
  .rename_i hw;exact gC hd (fun _=>hw) h
  .cases h
 split at h
 .exact gC hd (fun e=>B3 e) h
 split at h
 .split at h
  .rename_i hp;obtain⟨_,rfl,_⟩:=uR h;exact⟨hd.1,hp,hd.2.2⟩
  .cases h
 obtain⟨h0,rfl,_⟩:=uR h;exact⟨hd.1,hd.2.1,(I4 h0).1⟩
theorem Vf{d d':Dk}{c u:B8}{n:List Int}(hd:d.ok)(h:gJ d c n=some (d',u)):d'.ok:=by
 unfold gJ at h;split at h
 .exact gC hd (fun e=>Rt e) h
 split at h
 .exact RG hd h
 .split at h
  .exact gC hd (fun e=>G2 e) h
  split at h
  .exact gC hd (fun e=>Ha e) h
  .cases h
 .exact Va hd h
 .cases h
theorem SG{d d':Dk}{c u:B8}{r:List B8}(hd:d.ok)(h:gK d c r=some (d',u)):d'.ok:=by
 unfold gK at h;split at h
 .split at h
  .exact Tk hd h
  .cases h
 split at h
 .split at h
  .exact gC hd (fun e=>yp e) h
  .cases h
 split at h
 .exact Vf hd h
 .cases h
theorem fx{d:Dk}(hd:d.ok)(l:B8):(dr d l).1.ok:=by
 unfold dr;cases hx:oH d l with
 | none=>exact hd
 | some r=>
  obtain⟨d',u⟩:=r;exact SG hd hx
theorem Si(l:B8):txt (spR 44 l)=l:=by
 have key:∀ l:B8,∃ x r,spR 44 l=x::r/\x++Lib.joinTail [44] r=l:=by
  intro l
  induction l with
  | nil=>exact⟨[],[],rfl,rfl⟩
  | cons b l ih=>
   obtain⟨x,r,h1,h2⟩:=ih;unfold spR;split
   .rename_i hb;refine⟨[],x::r,by rw[h1],?_⟩;show Lib.joinTail [44] (x::r)=b::l;rw[hb,<-h2];rfl
   .exact⟨b::x,r,by rw[h1];rfl,by rw[<-h2];rfl⟩
 obtain⟨x,r,h1,h2⟩:=key l;rw[h1];exact h2
theorem Mv{l:B8}(h:pmC l=0):ot (pmL l)=l/\lO (pmL l)=0:=by
 obtain⟨h1,h2⟩:=I4 h;unfold ot lO;rw[if_pos h1,if_pos h1,h2];exact⟨Si l,rfl⟩
theorem Rl{u p:B8}(hp:∀ c∈p,aI c<3)(hp1:p≠[]):∀ x∈cT u p V0 0,1<=x.2:=by
 rintro⟨V,t⟩ hx
 obtain⟨a,b,_⟩:=(oh hp).1 hx;show 1<=t;rw[b];exact yw a hp1
theorem II{w p:B8}(hp:∀ c∈p,aI c<3)(hp1:p≠[])(i:Nat):match jc w p i with
  | none=>yj (w.drop i) p=false
  | some (j,V)=>j=i/\qI p V0 V/\gg p V <+: w.drop i:=by
 have hb:=yW (cT (w.drop i) p V0 0) (0,V0) (Rl hp hp1);unfold jc;rcases hb.2 with ⟨_,hn,he⟩|⟨h1,h2,_⟩
 .have hz:(gb (cT (w.drop i) p V0 0)).1=0:=by unfold gb;rw[he]
  rw[if_neg (by omega)];show yj (w.drop i) p=false;unfold yj;rw[hn];rfl
 .have hz:0<(gb (cT (w.drop i) p V0 0)).1:=h1;rw[if_pos hz];have hm:=h2.resolve_right (fun h=>h.1 rfl);obtain⟨a,b,c⟩:=(oh hp).1 hm;exact⟨rfl,a,c⟩
theorem zJ{w p:B8}(hp:∀ c∈p,aI c<3)(hp1:p≠[]):∀ n,match eL w p n with
  | none=>mP w p n=false
  | some (j,V)=>mP w p n=true/\j<n/\qI p V0 V/\gg p V <+: w.drop j
 | 0=>rfl
 | n+1=>by
  have ih:=zJ (w:=w) hp hp1 n;have ha:=II (w:=w) hp hp1 n;cases h0:eL w p n with
  | none=>
   rw[h0]at ih;have ih:mP w p n=false:=ih;rw[jh h0];cases h1:jc w p n with
   | none=>
    rw[h1]at ha;show mP w p (n+1)=false;rw[zX,ih,ha];rfl
   | some r=>
    obtain⟨j,V⟩:=r;rw[h1]at ha;obtain⟨e,a,c⟩:=ha;subst e;exact⟨vk (by omega) ((uj hp).2 ⟨V,a,c⟩),by omega,a,c⟩
  | some r=>
   obtain⟨j,V⟩:=r;rw[h0]at ih;obtain⟨e0,e,a,c⟩:=ih;have h1:eL w p (n+1)=some (j,V):=by
    unfold eL at *;rw[range_succ,findSome?_append,h0,Option.some_or]
   rw[h1];refine⟨vk (show j<n+1 by omega) ((uj hp).2 ⟨V,a,c⟩),by omega,a,c⟩
theorem AU{w p:B8}(hp:∀ c∈p,aI c<3)(hp1:p≠[]):match jQ w p with
  | none=>hasB w p=false
  | some (j,V)=>hasB w p=true/\j<w.length/\qI p V0 V/\gg p V <+: w.drop j:=zJ (w:=w) hp hp1 w.length
theorem UI(w p:B8):(plL w p).length<=3:=by
 unfold plL;cases hb:isWord w&&a8 p with
 | false=>simp
 | true=>
  rw[if_pos rfl];rw[bAn]at hb;obtain⟨hp1,hp8,hpv⟩:=bC hb.2;have hne:p≠[]:=by rintro rfl;simp at hp1
  have hpl:=AU (w:=w) (rI hb.2) hne;cases hf:jQ w p with
  | none=>simp
  | some r=>
   obtain⟨j,V⟩:=r;rw[hf]at hpl;obtain⟨_,_,hg,_⟩:=hpl;have hV3:V.length=3:=hg.len;have:(kE V).length<=V.length:=length_filter_le _ _;show (kE V).length<=3;omega
theorem nq(sep:B8)(L:Nat):∀ xs:List B8,(∀ x∈xs,x.length<=L)->(Lib.join xs sep).length<=xs.length*(L+sep.length)
 | [],_=>by rw[Lib.join_nil];exact lZe _
 | x::r,h=>by
  have hx:=h x (mem_cons_self ..);have key:∀ r:List B8,(∀ x∈r,x.length<=L)->(Lib.joinTail sep r).length<=r.length*(L+sep.length):=by
   intro r
   induction r with
   | nil=>intro _;exact lZe _
   | cons y r ih=>
    intro hr;have h1:=hr y (mem_cons_self ..);have h2:=ih (fun z hz=>hr z (mem_cons_of_mem _ hz));have e:Lib.joinTail sep (y::r)=(sep++y)++Lib.joinTail sep r:=by simp[Lib.joinTail]
    rw[e,lAp,lAp,lCo,Nat.succ_mul];omega
  have h2:=key r (fun z hz=>h z (mem_cons_of_mem _ hz));rw[Lib.join_cons,lAp,lCo,Nat.succ_mul];omega
structure nw(l:List B8):Prop where
 few:l.length<=4000
 short:∀ x∈l,x.length<=100
structure lQ(l:List Int):Prop where
 few:l.length<=4000
 low:∀ x∈l,-9223372036854775807<=x/\x<=9223372036854775807
theorem nw.nil:nw []:=⟨lZe _,fun _ h=>by cases h⟩
theorem lQ.nil:lQ []:=⟨lZe _,fun _ h=>by cases h⟩
theorem dU(w:B8):(qt w).length=w.length+2:=by simp[qt]
theorem nw.join{l:List B8}(h:nw l):(Lib.join (l.map qt) [32]).length<=1000000:=by
 have h1:(Lib.join (l.map qt) [32]).length<=(l.map qt).length*103:=nq [32] 102 (l.map qt) (fun x hx=>by
  obtain⟨y,hy,rfl⟩:=mem_map.1 hx;rw[dU];have:=h.short y hy;omega)
 rw[length_map]at h1;have:=Nat.mul_le_mul_right 103 h.few;omega
theorem lQ.join{l:List Int}(h:lQ l):(Lib.join (l.map Lib.itoa) [32]).length<=1000000:=by
 have h1:(Lib.join (l.map Lib.itoa) [32]).length<=(l.map Lib.itoa).length*22:=nq [32] 21 (l.map Lib.itoa) (fun x hx=>by
  obtain⟨y,hy,rfl⟩:=mem_map.1 hx;exact bX y (h.low y hy).1 (h.low y hy).2)
 rw[length_map]at h1;have:=Nat.mul_le_mul_right 22 h.few;omega
theorem nw.text{l:List B8}(h:nw l):(dk l).length<=1000000:=by
 unfold dk;split
 .exact of_decide_eq_true rfl
 .exact h.join
theorem lQ.text{l:List Int}(h:lQ l):(dP l).length<=1000000:=by
 unfold dP;split
 .exact of_decide_eq_true rfl
 .exact h.join
theorem QN{b:Bool}{l:List B8}(h:b=true->nw l):nw (if b then l else []):=by
 cases b
 .exact nw.nil
 .exact h rfl
theorem Ll{b:Bool}{l:List Int}(h:b=true->lQ l):lQ (if b then l else []):=by
 cases b
 .exact lQ.nil
 .exact h rfl
theorem zD:∀(f:Nat) (w:B8),∀ x∈sI f w,x.length<=w.length
 | 0,_,_,h=>by cases h
 | f+1,w,x,h=>by
  unfold sI at h;split at h
  .cases h
  .rcases mem_cons.1 h with rfl|h
   .rw[lTa];omega
   .have:=zD f _ x h;rw[lDr]at this;omega
theorem Ju(w:B8):nw (if isWord w then lx w else []):=QN fun h=>by
 have h60:=au h;refine⟨?_,fun x hx=>?_⟩
 .have:=GK w.length w;unfold lx;omega
 .have:=zD _ _ x hx;omega
theorem Jn{w:B8}{m:Nat}:∀ x∈tu w m,x.length<=m:=by
 intro x hx;unfold tu at hx;split at hx
 .have hx:=(pE _ _).1 hx;unfold dO at hx;obtain⟨i,_,rfl⟩:=mem_map.1 hx;unfold seg;rw[lDr,lTa];omega
 .cases hx
theorem IU(w:B8):nw (if isWord w then fA w w.length else []):=QN fun h=>by
 have h60:=au h;refine⟨?_,fun x hx=>?_⟩
 .have:=gZ h60 w.length;omega
 .unfold fA at hx;obtain⟨m,hm,hx⟩:=mem_flatMap.1 hx;have:=Jn x (mem_filter.1 hx).1;have:=mem_range.1 hm;omega
theorem Ay(w:B8):∀(f i:Nat),∀ x∈ra w f i,x.length<=w.length
 | 0,_,_,h=>by cases h
 | f+1,i,x,h=>by
  unfold ra at h;split at h
  .rcases mem_cons.1 h with rfl|h
   .unfold seg;rw[lDr,lTa];omega
   .exact Ay w f _ x h
  .cases h
theorem JK(w:B8):nw (if isWord w then iS w 0 else []):=QN fun h=>by
 have h60:=au h;refine⟨?_,fun x hx=>?_⟩
 .have:=Hx w w.length 0;unfold iS;omega
 .have:=Ay w _ _ x hx;omega
theorem Nh{p:B8}{V:bD}{k:Nat}(h:occ p k):(V.getD k []).length<=(gg p V).length:=by
 obtain⟨c,hc,rfl⟩:=h;unfold gg
 induction p with
 | nil=>cases hc
 | cons a p ih=>
  rw[flatMap_cons,lAp];rcases mem_cons.1 hc with rfl|hc
  .omega
  .have:=ih hc;omega
theorem GM(w p:B8):nw (plL w p):=by
 refine⟨by have:=UI w p;omega,fun x hx=>?_⟩;unfold plL at hx;cases hb:isWord w&&a8 p with
 | false=>rw[hb]at hx;cases hx
 | true=>
  rw[hb,if_pos rfl]at hx;rw[bAn]at hb;have h60:=au hb.1;obtain⟨hp1,hp8,hpv⟩:=bC hb.2;have hne:p≠[]:=by rintro rfl;simp at hp1
  have hpl:=AU (w:=w) (rI hb.2) hne;cases hf:jQ w p with
  | none=>rw[hf]at hx;cases hx
  | some r=>
   obtain⟨j,V⟩:=r;rw[hf]at hpl hx;obtain⟨_,hj,hg,hpre⟩:=hpl;have hx:x∈kE V:=hx;obtain⟨hx1,hx2⟩:=mem_filter.1 hx;obtain⟨k,hk,rfl⟩:=getElem_of_mem hx1;have hgk:V.getD k []=V[k]:=by rw[gDe,gEl hk];rfl
   have hne2:V.getD k []≠[]:=by
    rw[hgk];intro e;rw[e]at hx2;cases hx2
   have h0:V0.getD k []=[]:=by
    have:V.length=3:=hg.len
    match k,(by omega:k<3) with
    | 0,_=>rfl
    | 1,_=>rfl
    | 2,_=>rfl
   have hocc:=(hg.new k h0).1 hne2;have h1:=Nh (V:=V) hocc;have h2:=hpre.length_le;rw[lDr]at h2;rw[hgk]at h1;omega
theorem pl_int(w p:B8):0<=plI w p/\plI w p<=60:=by
 unfold plI;cases hb:isWord w&&a8 p with
 | false=>rw[if_neg (by decide)];decide
 | true=>
  rw[if_pos rfl];rw[bAn]at hb;have h60:=au hb.1;obtain⟨hp1,hp8,hpv⟩:=bC hb.2;have hne:p≠[]:=by rintro rfl;simp at hp1
  have hpl:=AU (w:=w) (rI hb.2) hne;cases hf:jQ w p with
  | none=>exact⟨Int.le_refl _,by decide⟩
  | some r=>
   obtain⟨j,V⟩:=r;rw[hf]at hpl;obtain⟨_,hj,_⟩:=hpl;exact⟨by show (0:Int)<=(j:Nat);omega,by show ((j:Nat):Int)<=60;omega⟩
theorem vZ(w:B8):lQ (if isWord w then counts w else []):=Ll fun h=>by
 have h60:=au h;refine⟨by rw[eH];decide,fun x hx=>?_⟩;have hc:∀ k,0<=cnt w k/\cnt w k<=60:=fun k=>by
  have:w.countP (fun u=>u.toNat==97+k)<=w.length:=countP_le_length;unfold cnt;omega
 unfold counts at hx;have:∃ k,x=cnt w k:=by
  simp only[mem_cons,not_mem_nil,or_false]at hx;rcases hx with rfl|rfl|rfl|rfl|rfl
  .exact⟨_,rfl⟩
  .exact⟨_,rfl⟩
  .exact⟨_,rfl⟩
  .exact⟨_,rfl⟩
  .exact⟨_,rfl⟩
 obtain⟨k,rfl⟩:=this;have:=hc k;omega
theorem HB{w:B8}{x:Int}(h:x∈cN w):1<=x/\x<=w.length:=by
 unfold cN kl at h;obtain⟨k,hk,rfl⟩:=mem_map.1 h;have:=mem_range.1 (mem_filter.1 hk).1;omega
theorem H4(w:B8):(cN w).length<=w.length:=by
 unfold cN kl;rw[length_map];exact Nat.le_trans (length_filter_le _ _) (by rw[length_range];exact lRf _)
theorem JQ(w:B8):lQ (if isWord w then cN w else []):=Ll fun h=>by
 have h60:=au h;refine⟨by have:=H4 w;omega,fun x hx=>by have:=HB hx;omega⟩
theorem Dw(w:B8):lQ (if isWord w then iZ w else []):=Ll fun h=>by
 have h60:=au h;unfold iZ;refine⟨by rw[length_reverse,length_map];have:=H4 w;omega,fun x hx=>?_⟩;rw[mem_reverse]at hx;obtain⟨y,hy,rfl⟩:=mem_map.1 hx;have:=HB hy;omega
theorem Kb(w:B8):lQ (if isWord w then iI w (w.length-1) else []):=Ll fun h=>by
 have h60:=au h;refine⟨by have:=uZ w (w.length-1);omega,fun x hx=>?_⟩;unfold iI at hx;obtain⟨k,hk,rfl⟩:=mem_map.1 hx;have:=mem_range.1 (mem_filter.1 hk).1;omega
theorem TN{l:List Nat}(h1:l.length<=4000)(h2:∀ x∈l,x<=1000000000000000):lQ (nI l):=by
 unfold nI;refine⟨by rw[length_map];exact h1,fun x hx=>?_⟩;obtain⟨y,hy,rfl⟩:=mem_map.1 hx;have:=h2 y hy;omega
theorem SN(w:B8):∀ x∈ka w,x<=60:=by
 intro x hx;by_cases h:tc w=0
 .obtain⟨h1,_,_⟩:=Ml h;unfold rU at h1;split at h1
  .rename_i ho;unfold mN at ho;rw[bAn,all_eq_true]at ho;obtain⟨k,hk,rfl⟩:=getElem_of_mem hx;have hk2:k<(nI (ka w)).length:=by unfold nI;rw[length_map];exact hk
   have:=ho.2 k (mem_range.2 hk2);unfold mQ at this;rw[dTe]at this;have e:(nI (ka w)).getD k 0=((ka w)[k]:Nat):=by
    rw[gDe,gEl hk2];exact getElem_map ..
   rw[e]at this;omega
  .cases h1
 .have:ka w=[]:=by
   unfold tc at h;unfold ka;split
   .rename_i hab;rw[if_pos hab]at h;cases hc:cntF w 21 0 with
    | none=>rfl
    | some y=>rw[hc]at h;exact absurd rfl h
   .rfl
  rw[this]at hx;cases hx
theorem JO(w:B8):lQ (nI (ka w)):=TN (by have:=RT w;omega) (fun x hx=>by have:=SN w x hx;omega)
theorem y7(ws:List B8)(a k:Int):lQ (nI (jJ ws a k)):=by
 have h:(jJ ws a k).length<=4000/\∀ x∈jJ ws a k,x<=1000000000000000:=by
  unfold jJ;split
  .rename_i hc;obtain⟨_,_,_,h0,h1⟩:=gN hc;split
   .rename_i ho;refine⟨by rw[oJ];omega,fun x hx=>?_⟩;unfold Bx at hx;obtain⟨i,hi,rfl⟩:=mem_map.1 hx;unfold okS at ho;rw[all_eq_true]at ho;have:=ho i hi;rw[dTe]at this;exact this
   .exact⟨lZe _,fun x hx=>by cases hx⟩
  .exact⟨lZe _,fun x hx=>by cases hx⟩
 exact TN h.1 h.2
def IOk(n:Int):Prop:=-9223372036854775807<=n/\n<=9223372036854775807
theorem GJ(w p:B8):IOk (plI w p):=by have:=pl_int w p;unfold IOk;omega
theorem AW(w:B8):IOk (xh w)/\IOk (xp w):=by
 unfold IOk xh xp;have h60:cy w=0->w.length<=60:=fun h=>by
  unfold cy at h;split at h
  .rename_i hw;exact au hw
  .cases h
 by_cases h:cy w=0
 .rw[if_pos h,if_pos h];have:=h60 h;have h1:w.length/Nat.gcd w.length (cQ w)<=w.length:=Nat.div_le_self _ _;have h2:cQ w/Nat.gcd w.length (cQ w)<=cQ w:=Nat.div_le_self _ _;have h3:cQ w<=w.length+1:=by
   unfold cQ;cases hf:(range w.length).find? (fun q=>hp w (q+1)) with
   | none=>exact Nat.le_add_left 1 _
   | some q=>
    have:=mem_range.1 (mem_of_find?_eq_some hf);show q+1<=_;omega
  generalize w.length/Nat.gcd w.length (cQ w)=x at *;generalize cQ w/Nat.gcd w.length (cQ w)=y at *;omega
 .rw[if_neg h,if_neg h];decide
theorem sR(w:B8):IOk (qa w):=by
 unfold IOk qa;by_cases h:cy w=0
 .rw[if_pos h];have:w.length<=60:=by
   unfold cy at h;split at h
   .rename_i hw;exact au hw
   .cases h
  have h1:w.length/(eU w).length<=w.length:=Nat.div_le_self _ _;generalize w.length/(eU w).length=x at *;omega
 .rw[if_neg h];decide
theorem HG(w:B8):IOk (if isWord w then (((ltF w w.length).2:Nat):Int) else 0):=by
 unfold IOk;cases h:isWord w with
 | false=>rw[if_neg (by decide)];decide
 | true=>
  have:=au h;have:=(tQ w w.length).2;rw[if_pos rfl];omega
theorem Hg(w:B8):IOk (lpK w):=by
 unfold IOk lpK;by_cases h:cy w=0
 .rw[if_pos h];have:w.length<=60:=by
   unfold cy at h;split at h
   .rename_i hw;exact au hw
   .cases h
  have h1:=(ue cl w w.length (lRf _)).2;omega
 .rw[if_neg h];decide
theorem IV(w:B8):IOk (EA w):=by
 unfold IOk EA;cases h:isWord w with
 | false=>rw[if_neg (by decide)];decide
 | true=>
  have h60:=au h;have:=gZ h60 w.length;rw[if_pos rfl];omega
theorem Jy(p:B8)(k n:Int):IOk (GF p k n):=by
 unfold IOk GF;split
 .rename_i h;obtain⟨_,hk,hn⟩:=sx h;have h1:=pC (p:=p) (k:=k.toNat) (n:=n.toNat) (by omega) (by omega) [];unfold qd;omega
 .decide
theorem kJ{t:B8}{c:Int}(h:c=0->isWord t=true)(h':c≠0->t=[]):t.length<=60:=by
 by_cases e:c=0
 .exact au (h e)
 .rw[h' e];exact lZe _
theorem IS(w:B8):(if isWord w then w.reverse else []).length<=60:=kJ (c:=aK w) (fun h=>tk h) (fun h=>by
 unfold aK at h;split
 .rename_i hw;rw[if_pos hw]at h;exact absurd rfl h
 .rfl)
theorem EE(w:B8):(ql w).length<=60:=kJ (c:=qo w) CQ (fun h=>by
 unfold qo at h;unfold ql;(repeat' split)<;>simp_all)
theorem DF(ws:List B8)(w:B8)(k:Int):(oP ws w k).length<=60:=kJ (c:=od ws w k) CO (fun h=>by
 unfold od at h;unfold oP;(repeat' split)<;>simp_all)
theorem EM(ws:List B8)(w:B8):(p9 ws w).length<=60:=kJ (c:=qq ws w) Cs (fun h=>by
 unfold qq at h;unfold p9;(repeat' split)<;>simp_all)
theorem Ky(w:B8)(i m:Int):(BI w i m).length<=60:=kJ (c:=A6 w i m) GL (fun h=>by
 unfold A6 at h;unfold BI;(repeat' split)<;>simp_all)
theorem J4(p q:Int):(jd p q).length<=60:=kJ (c:=iL p q) GX (fun h=>by
 unfold jd;rw[if_neg h])
theorem Pq(ws:List B8)(a n:Int):(grT ws a n).length<=60:=kJ (c:=grC ws a n) Mi (fun h=>by
 unfold grC at h;unfold grT;(repeat' split)<;>simp_all)
theorem J6(p q:Int):(BD p q).length<=60:=kJ (c:=sk p q) Fq (fun h=>by
 unfold BD;rw[if_neg h])
theorem E7(w u:B8):(mW w u).length<=60:=kJ (c:=oW w u) B3 (fun h=>by
 unfold oW at h;unfold mW;(repeat' split)<;>simp_all)
theorem yh(l:B8)(m:Int):(hU l m).length<=60:=kJ (c:=iX l m) yp (fun h=>by
 unfold iX at h;unfold hU;(repeat' split)<;>simp_all)
theorem qH(zs:List Int):(qW zs).length<=60:=kJ (c:=rU zs) Rt (fun h=>by
 unfold rU at h;unfold qW;(repeat' split)<;>simp_all)
theorem yz(w:B8)(k:Int):(xi w k).length<=60:=kJ (c:=A7 w k) G2 (fun h=>by
 unfold A7 at h;unfold xi;(repeat' split)<;>simp_all)
theorem Av(n:Int):(wV n).length<=60:=kJ (c:=Bw n) Ha (fun h=>by
 unfold Bw at h;unfold wV;(repeat' split)<;>simp_all)
theorem D7{w:B8}(h:cy w=0):w.length<=60:=by
 unfold cy at h;split at h
 .rename_i hw;exact au hw
 .cases h
theorem D3(w:B8):(mL w).length<=60:=by
 unfold mL;split
 .rename_i h;have:=D7 h;unfold eU;split
  .rw[lTa];omega
  .exact this
 .exact lZe _
theorem Pl(w:B8):(if isWord w then (ltF w w.length).1 else []).length<=60:=by
 split
 .rename_i h;have:=au h;rw[(tQ w w.length).1];exact this
 .exact lZe _
theorem Ry(w:B8):(ubT w).length<=60:=by
 unfold ubT;split
 .rename_i h;have:=D7 h;have:=(ue lJ w w.length (lRf _)).1;omega
 .exact lZe _
theorem RH(w:B8):(lpT w).length<=60:=by
 unfold lpT;split
 .rename_i h;have:=D7 h;have:=(ue cl w w.length (lRf _)).1;omega
 .exact lZe _
theorem J8(p q:Int):(DB p q).length<=60:=by
 unfold DB;split
 .rename_i h;unfold G7 at h;split at h
  .split at h
   .assumption
   .cases h
  .cases h
 .exact lZe _
theorem Ao(p:B8)(k n:Int):(firstT p k n).length<=60:=kJ (c:=jA p k n) (fun h=>(Rp h).2.2.1) Q5
theorem Dz(ws:List B8):(ot ws).length<=100:=by
 unfold ot;split
 .rename_i h;have h5:=(aW h).2;have h12:∀ w∈ws,w.length<=12:=fun w hw=>(bH h hw).1;have h1:(Lib.join ws [44]).length<=ws.length*13:=nq [44] 12 ws h12;have e:txt ws=Lib.join ws [44]:=by
   cases ws with
   | nil=>rfl
   | cons x r=>rw[Lib.join_cons];rfl
  rw[e];have:=Nat.mul_le_mul_right 13 h5;omega
 .exact lZe _
theorem DA(ws:List B8):(p6 ws).length<=60:=by
 unfold p6;split
 .split
  .rename_i hn;cases hm:jH ws (jS ws+1) with
   | none=>exact lZe _
   | some u=>
    unfold jH at hm;obtain⟨m,hm1,hm2⟩:=exists_of_findSome?_eq_some hm;have h1:=mem_range.1 hm1;unfold uC at hm2;have h2:=(H9 _ _ _ _ (mem_of_find?_eq_some hm2)).1;rw[length_nil,Nat.zero_add]at h2;show u.length<=60;omega
  .exact lZe _
 .exact lZe _
end Go.Proofs.YtapimhjbilkfpaaGreatDoor
namespace Go.Proofs.YtapimhjbilkfpaaGreatDoor
open Go Go.Proofs.Tryz Go.RowKit List
theorem jE{M N:Mem}{b i:Nat}{v:Value}(h:M.get? b i=some v)(hs:Sub M N):N.get? b i=some v:=by
 unfold Mem.get? at *;cases hM:M b with
 | none=>rw[hM]at h;cases h
 | some B=>rw[hM]at h;rw[hs _ _ hM];exact h
def bh(d:Dk)(v:Value)(t:B8)(c:Int):Value:=.agg #[str d.w,str d.p,v,str t,.int .i64 c]
def dkV(d:Dk)(v:Value):Value:=.agg #[str d.w,str d.p,v]
def Gv(M:Mem)(v:Value)(d:Dk)(v':Value)(d':Dk)(M':Mem):Prop:=(v'=v/\d'.ms=d.ms/\M'=M)\/Own M v' (strs d'.ms) M'
theorem Lr(l:List Nat):aB l=ints (nI l):=by simp[aB,ints,nI]
theorem yH(l:List B8){i:Nat}(h:i<l.length):(l.map qt).take (i+1)=(l.map qt).take i++[qt l[i]]:=by
 rw[<-map_take,<-map_take,aw l h,map_append];rfl
theorem z7(l:List Int){i:Nat}(h:i<l.length):(l.map Lib.itoa).take (i+1)=(l.map Lib.itoa).take i++[Lib.itoa l[i]]:=by
 rw[<-map_take,<-map_take,aw l h,map_append];rfl
theorem oO(w:B8)(M:Mem)(R:VP)(hl:w.length<=1099511627776)(h:R (str (qt w)) M):ar prog 214 [str w] M R:=by
 unfold qt at h;refine fnT func214 rfl ntmps214 results214 ?_;exact ad h
theorem sH(v:Value)(l:List B8)(M:Mem)(R:VP)(hvar:cj M)(hv:Rd M v (strs l))(hok:nw l)(h:R (str (dk l)) M):ar prog 232 [v,.func (.func 214) #[] #[]] M R:=by
 unfold dk at h;refine fnS func232 rfl ntmps232 results232 ?_;obtain⟨a,c,rfl,ha⟩:=hv.opened;rw[ah]at ha ⊢;have hfew:=hok.few;by_cases h0:l=[]
 .rw[if_pos h0]at h;subst h0;refine sS ?_;exact ad h
 .rw[if_neg h0]at h;have h1:1<=l.length:=length_pos_iff.2 h0;have h1I:¬(l.length:Int)=0:=by omega
  rcases ha with hz|⟨b,o,rfl,ha⟩
  .omega
  refine sS ?_;refine lupS (rlA [5,7] 13 11) (fun x:Nat×Value=>[(13,.int .i64 (x.1:Nat)),(5,x.2)]) (fun x N=>x.1<=l.length/\Own M x.2 (strs ((l.map qt).take x.1)) N) (fun x=>l.length-x.1) (0,.slice none 0 0) ⟨lZe _,by simp only[take_zero];exact Own.nil M⟩ ?_
  rintro⟨i,u⟩ N q ⟨hi,ho⟩
  simp only at hi ho;by_cases hlt:i<l.length
  .have hltI:(i:Int)<(l.length:Nat):=by omega
   have hg:=ha i hlt;have hsn:=yH l hlt;have hm:l[i]∈l:=gMe hlt;rw[a7,gEl hlt,Option.map_some]at hg;have hg2:=jE hg ho.sub;have hvar:=hvar.sub ho.sub;generalize l[i]=x at *;simp(disch:=omega)[hltI,hg2];refine oO x _ _ (by have:=hok.short _ hm;omega) ?_;refine sS ?_;intro b' hb';refine sS ?_;refine ca ho ((Sub.refl _).put hb' _) (by simp(disch:=omega);rfl) rfl rfl (by first|omega|(simp(disch:=omega)<;>omega)) (by simp(disch:=omega)) (by simp(disch:=omega);omega) ?_;intro v' M'' N'' ho' hs';rw[cA,<-hsn]at ho';refine sS ?_;exact rndM M'' (i+1,v') hs' ⟨by omega,ho'⟩
  .have hltI:¬(i:Int)<(l.length:Nat):=by omega
   have hie:i=l.length:=by omega
   rw[hie,take_of_length_le (by rw[length_map];exact lRf _)]at ho;have hj:=hok.join;refine sS ?_;refine vO u (l.map qt) [32] _ _ ho.rd (by rw[length_map];exact h1) (by rw[length_map];omega) (by omega) ?_;refine sS ?_;exact ag ho.sub h
theorem EN(v:Value)(l:List (Int))(M:Mem)(R:VP)(hvar:cj M)(hv:Rd M v (ints l))(hok:lQ l)(h:R (str (dP l)) M):ar prog 260 [v,.func (.func 154) #[] #[]] M R:=by
 unfold dP at h;refine fnS func260 rfl ntmps260 results260 ?_;obtain⟨a,c,rfl,ha⟩:=hv.opened;rw[az]at ha ⊢;have hfew:=hok.few;by_cases h0:l=[]
 .rw[if_pos h0]at h;subst h0;refine sS ?_;exact ad h
 .rw[if_neg h0]at h;have h1:1<=l.length:=length_pos_iff.2 h0;have h1I:¬(l.length:Int)=0:=by omega
  rcases ha with hz|⟨b,o,rfl,ha⟩
  .omega
  refine sS ?_;refine lupS (rlA [5,7] 13 11) (fun x:Nat×Value=>[(13,.int .i64 (x.1:Nat)),(5,x.2)]) (fun x N=>x.1<=l.length/\Own M x.2 (strs ((l.map Lib.itoa).take x.1)) N) (fun x=>l.length-x.1) (0,.slice none 0 0) ⟨lZe _,by simp only[take_zero];exact Own.nil M⟩ ?_
  rintro⟨i,u⟩ N q ⟨hi,ho⟩
  simp only at hi ho;by_cases hlt:i<l.length
  .have hltI:(i:Int)<(l.length:Nat):=by omega
   have hg:=ha i hlt;have hsn:=z7 l hlt;have hm:l[i]∈l:=gMe hlt;rw[cR,gEl hlt,Option.map_some]at hg;have hg2:=jE hg ho.sub;have hvar:=hvar.sub ho.sub;generalize l[i]=x at *;simp(disch:=omega)[hltI,hg2];refine ez x _ _ hvar (hok.low _ hm).1 (hok.low _ hm).2 ?_;refine sS ?_;intro b' hb';refine sS ?_;refine ca ho ((Sub.refl _).put hb' _) (by simp(disch:=omega);rfl) rfl rfl (by first|omega|(simp(disch:=omega)<;>omega)) (by simp(disch:=omega)) (by simp(disch:=omega);omega) ?_;intro v' M'' N'' ho' hs';rw[cA,<-hsn]at ho';refine sS ?_;exact rndM M'' (i+1,v') hs' ⟨by omega,ho'⟩
  .have hltI:¬(i:Int)<(l.length:Nat):=by omega
   have hie:i=l.length:=by omega
   rw[hie,take_of_length_le (by rw[length_map];exact lRf _)]at ho;have hj:=hok.join;refine sS ?_;refine vO u (l.map Lib.itoa) [32] _ _ ho.rd (by rw[length_map];exact h1) (by rw[length_map];omega) (by omega) ?_;refine sS ?_;exact ag ho.sub h
theorem Cf(xs:List B8)(y sep:B8)(h:xs≠[]):Lib.join (xs++[y]) sep=Lib.join xs sep++sep++y:=by
 cases xs with
 | nil=>exact absurd rfl h
 | cons x r=>
  rw[cons_append,Lib.join_cons,Lib.join_cons];unfold Lib.joinTail;simp
theorem join_none(y sep:B8):Lib.join ([]++[y]) sep=y:=by rw[nil_append,Lib.join_one]
theorem bN(w:B8)(M:Mem)(R:VP)(hl:w.length<=1099511627776)(h:R (str (qt w)) M):ar prog 110 [str w] M R:=by
 unfold qt at h;refine fnT func110 rfl ntmps110 results110 ?_;exact ad h
theorem Ng(q:Bool)(M:Mem)(R:VP)(h:R (str (gH q)) M):ar prog 195 [.bool q] M R:=by
 unfold gH at h;refine fnS func195 rfl ntmps195 results195 ?_;cases q
 .refine sS ?_;exact ad h
 .refine sS ?_;exact ad h
theorem B5(n:Nat):∀(M:Mem) (R:VP),n<=9223372036854775807->R (str (Lib.decDigits n)) M->ar prog 74 [.int .i64 n] M R:=by
 induction n using Nat.strongRecOn with
 | _ n ih=>
  intro M R hn h;refine fnS func74 rfl ntmps74 results74 ?_;have h0:¬(n:Int)<0:=by omega
  by_cases h10:n<10
  .rw[Lib.decDigits_one h10]at h;have h10I:(n:Int)<10:=by omega
   simp(disch:=omega)[h0,h10I];intro b hb;refine sS ?_;have e:((48:Int)+(n:Nat)).toNat=48+n:=by omega
   rw[<-e]at h;exact ag ((Sub.refl M).put hb _) h
  .rw[Lib.decDigits,dif_neg h10]at h;have h10I:¬(n:Int)<10:=by omega
   obtain⟨q,hq⟩:∃ q,q=n/10:=⟨_,rfl⟩;obtain⟨r,hr⟩:∃ r,r=n%10:=⟨_,rfl⟩;rw[<-hq,<-hr]at h;have hqI:(n:Int)/10=(q:Nat):=by omega
   have hrI:(n:Int).tmod 10=(r:Nat):=by
    rw[Int.tmod_eq_emod_of_nonneg (by omega)];omega
   have hql:=bX (q:Nat) (by omega) (by omega);rw[Lib.itoa_nonneg]at hql;have ihq:=ih q (by omega);have e:((48:Int)+(r:Nat)).toNat=48+r:=by omega
   have hr9:r<=9:=by omega
   rw[<-e]at h;clear ih;generalize Lib.decDigits q=y at *;simp(disch:=omega)[h0,h10I];refine plyS (ai [0,1,3,4,5,6] (.alt 2 1 (.one 7 1 (.one 8 1 (ai [9,10] .fin))) (.one 7 1 (.alt 2 1 (.one 8 1 (ai [9,10] .fin)) (.one 8 1 (.one 2 1 (ai [9,10] .fin))))))) ?_;simp(disch:=omega)[hqI,hrI,cd];refine⟨ihq _ _ (by omega) ?_,?_⟩
   .refine sS ?_;intro b hb;have s:=(Sub.refl M).put hb (.cells true [.int .u8 (48+(r:Nat))] 1);simp(disch:=omega)[s];exact ag s h
   .intro b hb;have s:=(Sub.refl M).put hb (.cells true [.int .u8 (48+(r:Nat))] 1);simp(disch:=omega)[cd,s];refine⟨ihq _ _ (by omega) ?_,?_⟩
    .refine sS ?_;exact ag s h
    .refine ihq _ _ (by omega) ?_;refine sS ?_;exact ag s h
theorem cu(n:Int)(M:Mem)(R:VP)(hn:IOk n)(h:R (str (Lib.itoa n)) M):ar prog 74 [.int .i64 n] M R:=by
 by_cases h0:n<0
 .obtain⟨k,hk⟩:∃ k:Nat,-n=k:=⟨n.natAbs,by omega⟩;have hnk:n.natAbs=k:=by omega
  unfold Lib.itoa at h;rw[if_pos h0,hnk]at h;have hmin:k<=9223372036854775807:=by have:=hn.1;omega
  have hi:=bX (k:Nat) (by omega) (by omega);rw[Lib.itoa_nonneg]at hi;refine fnS func74 rfl ntmps74 results74 ?_;simp(disch:=omega)[h0,hk];refine B5 k _ _ hmin ?_;generalize Lib.decDigits k=y at *;refine sS ?_;exact ad h
 .obtain⟨k,rfl⟩:∃ k:Nat,n=k:=⟨n.toNat,by omega⟩;rw[Lib.itoa_nonneg]at h;exact B5 k M R (by have:=hn.2;omega) h
theorem kQ(v:Value)(l:List B8)(M:Mem)(R:VP)(hv:Rd M v (strs l))(hok:nw l)(h:R (str (dk l)) M):ar prog 191 [v] M R:=by
 unfold dk at h;refine fnS func191 rfl ntmps191 results191 ?_;obtain⟨a,c,rfl,ha⟩:=hv.opened;rw[ah]at ha ⊢;have hfew:=hok.few;by_cases h0:l=[]
 .rw[if_pos h0]at h;subst h0;refine sS ?_;exact ad h
 .rw[if_neg h0]at h;have h1:1<=l.length:=length_pos_iff.2 h0;have h1I:¬(l.length:Int)=0:=by omega
  rcases ha with hz|⟨b,o,rfl,ha⟩
  .omega
  have hall:∀ i,∀ x∈(l.map qt).take i,x.length<=102:=fun i x hx=>by
   obtain⟨y,hy,rfl⟩:=mem_map.1 (mem_of_mem_take hx)
   (rw[dU];have:=hok.short y hy;omega)
  have hjl:∀ i,i<=l.length->(Lib.join ((l.map qt).take i) [32]).length<=1000000:=fun i hi=>by
   have h2:(Lib.join ((l.map qt).take i) [32]).length<=((l.map qt).take i).length*(102+1):=nq [32] 102 _ (hall i);have h3:((l.map qt).take i).length<=4000:=by rw[lTa,length_map];omega
   have h4:=Nat.mul_le_mul_right (102+1) h3;omega
  refine sS ?_;refine aR aU (rlA [3,4] 8 17) (fun i:Nat=>[(4,.int .i64 (i:Nat)),(3,str (Lib.join ((l.map qt).take i) [32]))]) (fun i N=>M=N/\i<=l.length) (fun i=>l.length-i) 0 (by kernel_rfl) (by simp(disch:=omega)[Lib.join_nil]) ⟨rfl,lZe _⟩ ?_
  rintro i N q ⟨rfl,hi⟩
  by_cases hlt:i<l.length
  .have hltI:(i:Int)<(l.length:Nat):=by omega
   have hg:=ha i hlt;have hsn:=yH l hlt;have hm:l[i]∈l:=gMe hlt;rw[a7,gEl hlt,Option.map_some]at hg;have hj:=hjl i (by omega);have hj2:=hjl (i+1) (by omega);have hgx:(qt l[i]).length<=102:=by
    have hy:=hm;generalize l[i]=y at hy
    (rw[dU];have:=hok.short y hy;omega)
   have hne:0<i->(l.map qt).take i≠[]:=fun hi0 e=>by
    have:=congrArg length e;rw[lTa,length_map,length_nil]at this;omega
   generalize l[i]=x at *;by_cases hi0:0<i
   .have hi0I:(0:Int)<(i:Nat):=by omega
    have hjn:=Cf ((l.map qt).take i) (qt x) [32] (hne hi0);rw[<-hsn]at hjn;obtain⟨J,hJ⟩:∃ J,J=Lib.join ((l.map qt).take i) [32]:=⟨_,rfl⟩;rw[<-hJ]at hjn hj ⊢;simp(disch:=omega)[hltI,hg];refine bN x _ _ (by have:=hok.short _ hm;omega) ?_;generalize hG:qt x=G at *;refine sS ?_;exact rndA (i+1) (by simp(disch:=omega)[hjn]) ⟨rfl,by omega⟩
   .have hi0I:¬(0:Int)<(i:Nat):=by omega
    have hie:i=0:=by omega
    subst hie;have hjn:Lib.join ((l.map qt).take (0+1)) [32]=qt x:=by
     rw[hsn,take_zero];exact join_none _ _
    refine sS ?_;rw[Nat.add_zero]at hg;simp(disch:=omega)[hg];refine bN x _ _ (by have:=hok.short _ hm;omega) ?_;generalize hG:qt x=G at *;simp(disch:=omega)[Lib.join_nil];exact rndA 1 (by simp(disch:=omega)[hjn]) ⟨rfl,by omega⟩
  .have hltI:¬(i:Int)<(l.length:Nat):=by omega
   have hie:i=l.length:=by omega
   rw[hie,take_of_length_le (by rw[length_map];exact lRf _)];refine sS ?_;exact ad h
theorem fJ(v:Value)(l:List (Int))(M:Mem)(R:VP)(hv:Rd M v (ints l))(hok:lQ l)(h:R (str (dP l)) M):ar prog 127 [v] M R:=by
 unfold dP at h;refine fnS func127 rfl ntmps127 results127 ?_;obtain⟨a,c,rfl,ha⟩:=hv.opened;rw[az]at ha ⊢;have hfew:=hok.few;by_cases h0:l=[]
 .rw[if_pos h0]at h;subst h0;refine sS ?_;exact ad h
 .rw[if_neg h0]at h;have h1:1<=l.length:=length_pos_iff.2 h0;have h1I:¬(l.length:Int)=0:=by omega
  rcases ha with hz|⟨b,o,rfl,ha⟩
  .omega
  have hall:∀ i,∀ x∈(l.map Lib.itoa).take i,x.length<=21:=fun i x hx=>by
   obtain⟨y,hy,rfl⟩:=mem_map.1 (mem_of_mem_take hx);exact bX y (hok.low y hy).1 (hok.low y hy).2
  have hjl:∀ i,i<=l.length->(Lib.join ((l.map Lib.itoa).take i) [32]).length<=1000000:=fun i hi=>by
   have h2:(Lib.join ((l.map Lib.itoa).take i) [32]).length<=((l.map Lib.itoa).take i).length*(21+1):=nq [32] 21 _ (hall i);have h3:((l.map Lib.itoa).take i).length<=4000:=by rw[lTa,length_map];omega
   have h4:=Nat.mul_le_mul_right (21+1) h3;omega
  refine sS ?_;refine aR aU (rlA [3,4] 8 17) (fun i:Nat=>[(4,.int .i64 (i:Nat)),(3,str (Lib.join ((l.map Lib.itoa).take i) [32]))]) (fun i N=>M=N/\i<=l.length) (fun i=>l.length-i) 0 (by kernel_rfl) (by simp(disch:=omega)[Lib.join_nil]) ⟨rfl,lZe _⟩ ?_
  rintro i N q ⟨rfl,hi⟩
  by_cases hlt:i<l.length
  .have hltI:(i:Int)<(l.length:Nat):=by omega
   have hg:=ha i hlt;have hsn:=z7 l hlt;have hm:l[i]∈l:=gMe hlt;rw[cR,gEl hlt,Option.map_some]at hg;have hj:=hjl i (by omega);have hj2:=hjl (i+1) (by omega);have hgx:(Lib.itoa l[i]).length<=21:=by
    have hy:=hm;generalize l[i]=y at hy;exact bX y (hok.low y hy).1 (hok.low y hy).2
   have hne:0<i->(l.map Lib.itoa).take i≠[]:=fun hi0 e=>by
    have:=congrArg length e;rw[lTa,length_map,length_nil]at this;omega
   generalize l[i]=x at *;by_cases hi0:0<i
   .have hi0I:(0:Int)<(i:Nat):=by omega
    have hjn:=Cf ((l.map Lib.itoa).take i) (Lib.itoa x) [32] (hne hi0);rw[<-hsn]at hjn;obtain⟨J,hJ⟩:∃ J,J=Lib.join ((l.map Lib.itoa).take i) [32]:=⟨_,rfl⟩;rw[<-hJ]at hjn hj ⊢;simp(disch:=omega)[hltI,hg];refine cu x _ _ (hok.low _ hm) ?_;generalize hG:Lib.itoa x=G at *;refine sS ?_;exact rndA (i+1) (by simp(disch:=omega)[hjn]) ⟨rfl,by omega⟩
   .have hi0I:¬(0:Int)<(i:Nat):=by omega
    have hie:i=0:=by omega
    subst hie;have hjn:Lib.join ((l.map Lib.itoa).take (0+1)) [32]=Lib.itoa x:=by
     rw[hsn,take_zero];exact join_none _ _
    refine sS ?_;rw[Nat.add_zero]at hg;simp(disch:=omega)[hg];refine cu x _ _ (hok.low _ hm) ?_;generalize hG:Lib.itoa x=G at *;simp(disch:=omega)[Lib.join_nil];exact rndA 1 (by simp(disch:=omega)[hjn]) ⟨rfl,by omega⟩
  .have hltI:¬(i:Int)<(l.length:Nat):=by omega
   have hie:i=l.length:=by omega
   rw[hie,take_of_length_le (by rw[length_map];exact lRf _)];refine sS ?_;exact ad h
end Go.Proofs.YtapimhjbilkfpaaGreatDoor
namespace Go.Proofs.YtapimhjbilkfpaaGreatDoor
open Go Go.Proofs.Tryz List
theorem aD{M:Mem}{v:Value}{xs:List Value}(h:Rd M v xs):bE v=true:=by
 obtain⟨a,c,rfl,_⟩:=h.opened;rfl
theorem bq{P:Program}{f:FuncId}{args:List Value}{M:Mem}{R:VP}(h:ar P f args M (fun v M'=>Sub M M'/\R v M)):ar P f args M R:=
 ⟨h.1,fun w hw=>(h.2 w hw).mono fun e w' ⟨v,M',h1,h2,h3,hs,h4⟩=>⟨v,M,h1,h2.sub hs,h3.sub hs,h4⟩⟩
theorem eF(d:Dk)(v:Value)(hf:bE v=true)(t:B8)(c:Int)(M:Mem)(R:VP)(h:R (bh d v t c) M):ar prog 162 [dkV d v,str t,.int .i64 c] M R:=by
 unfold dkV;refine fnT func162 rfl ntmps162 results162 ?_;intro b1 hb1;have h1:=(Sub.refl M).put hb1 (.cells true [str d.w,str d.p,v] 3);refine sS ?_;intro b2 hb2;have h2:=hb2;rw[aG]at h2;unfold bh at h;simp(disch:=omega)[hf];exact ag (h1.putN hb2 _) h
theorem cG(d:Dk)(v:Value)(hf:bE v=true)(M:Mem)(R:VP)(h:R (bh d v [] 6) M):ar prog 100 [dkV d v] M R:=by
 unfold dkV;refine fnT func100 rfl ntmps100 results100 ?_;intro b1 hb1;have h1:=(Sub.refl M).put hb1 (.cells true [str d.w,str d.p,v] 3);refine sS ?_;intro b2 hb2;have h2:=hb2;rw[aG]at h2;unfold bh at h;simp(disch:=omega)[hf];exact ag (h1.putN hb2 _) h
theorem fh(d:Dk)(v:Value)(hf:bE v=true)(t:B8)(c:Int)(M:Mem)(R:VP)(hl:t.length<=1099511627776)(h:R (bh d v (qt t) c) M):ar prog 149 [dkV d v,str t,.int .i64 c] M R:=by
 unfold dkV;refine fnT func149 rfl ntmps149 results149 ?_;intro b1 hb1;have h1:=(Sub.refl M).put hb1 (.cells true [str d.w,str d.p,v] 3);refine sS ?_;intro b2 hb2;have h2:=hb2;rw[aG]at h2;refine sS ?_;refine plyS (ai [0,1,3] (.one 2 1 (.one 4 1 (.one 5 2 .fin)))) ?_;refine sS ?_;refine oO _ _ _ hl ?_;refine sS ?_;refine eF d v hf _ _ _ _ ?_;unfold bh at h ⊢;simp(disch:=omega)[hf];exact ag (h1.putN hb2 _) h
theorem rC(d:Dk)(v:Value)(hf:bE v=true)(x:Value)(l:List B8)(c:Int)(M:Mem)(R:VP)(hvar:cj M)(hx:Rd M x (strs l))(hok:nw l)(h:R (bh d v (dk l) c) M):ar prog 240 [dkV d v,x,.int .i64 c] M R:=by
 unfold dkV;refine fnT func240 rfl ntmps240 results240 ?_;intro b1 hb1;have h1:=(Sub.refl M).put hb1 (.cells true [str d.w,str d.p,v] 3);refine sS ?_;intro b2 hb2;have h2:=hb2;rw[aG]at h2;refine sS ?_;refine plyS (ai [0,1,3] (.one 2 1 (.one 4 1 (.one 5 2 .fin)))) ?_;refine sS ?_;refine sH x l _ _ (hvar.sub (h1.putN hb2 _)) (hx.sub (h1.putN hb2 _)) hok ?_;refine sS ?_;refine eF d v hf _ _ _ _ ?_;unfold bh at h ⊢;simp(disch:=omega)[hf];exact ag (h1.putN hb2 _) h
theorem fl(d:Dk)(v:Value)(hf:bE v=true)(x:Value)(l:List Int)(c:Int)(M:Mem)(R:VP)(hvar:cj M)(hx:Rd M x (ints l))(hok:lQ l)(h:R (bh d v (dP l) c) M):ar prog 168 [dkV d v,x,.int .i64 c] M R:=by
 unfold dkV;refine fnT func168 rfl ntmps168 results168 ?_;intro b1 hb1;have h1:=(Sub.refl M).put hb1 (.cells true [str d.w,str d.p,v] 3);refine sS ?_;intro b2 hb2;have h2:=hb2;rw[aG]at h2;refine sS ?_;refine plyS (ai [0,1,3] (.one 2 1 (.one 4 1 (.one 5 2 .fin)))) ?_;refine sS ?_;refine EN x l _ _ (hvar.sub (h1.putN hb2 _)) (hx.sub (h1.putN hb2 _)) hok ?_;refine sS ?_;refine eF d v hf _ _ _ _ ?_;unfold bh at h ⊢;simp(disch:=omega)[hf];exact ag (h1.putN hb2 _) h
theorem G4(d:Dk)(v:Value)(hf:bE v=true)(n:Int)(c:Int)(M:Mem)(R:VP)(hvar:cj M)(hn:IOk n)(h:R (bh d v (Lib.itoa n) c) M):ar prog 172 [dkV d v,.int .i64 n,.int .i64 c] M R:=by
 unfold dkV;refine fnT func172 rfl ntmps172 results172 ?_;intro b1 hb1;have h1:=(Sub.refl M).put hb1 (.cells true [str d.w,str d.p,v] 3);refine sS ?_;intro b2 hb2;have h2:=hb2;rw[aG]at h2;refine sS ?_;refine plyS (ai [0,1,3] (.one 2 1 (.one 4 1 (.one 5 2 .fin)))) ?_;refine sS ?_;refine ez n _ _ (hvar.sub (h1.putN hb2 _)) hn.1 hn.2 ?_;refine sS ?_;refine eF d v hf _ _ _ _ ?_;unfold bh at h ⊢;simp(disch:=omega)[hf];exact ag (h1.putN hb2 _) h
theorem mw(d:Dk)(v:Value)(hf:bE v=true)(t:B8)(n c:Int)(M:Mem)(R:VP)(hvar:cj M)(hl:t.length<=1000000)(hn:IOk n)(h:R (bh d v (qt t++32::Lib.itoa n) c) M):ar prog 236 [dkV d v,str t,.int .i64 n,.int .i64 c] M R:=by
 unfold dkV;refine fnT func236 rfl ntmps236 results236 ?_;intro b1 hb1;have h1:=(Sub.refl M).put hb1 (.cells true [str d.w,str d.p,v] 3);refine sS ?_;intro b2 hb2;have h2:=hb2;rw[aG]at h2;have hq:=dU t;have hi:=bX n hn.1 hn.2;refine sS ?_;refine plyS (ai [0,1,4,7] (.one 2 1 (ai [3] (.one 5 1 (ai [6] (.one 8 1 (.one 9 2 .fin))))))) ?_;refine sS ?_;refine oO _ _ _ (by omega) ?_;generalize qt t=q at *;refine sS ?_;refine ez n _ _ (hvar.sub (h1.putN hb2 _)) hn.1 hn.2 ?_;generalize Lib.itoa n=z at *;refine sS ?_;refine eF d v hf _ _ _ _ ?_;unfold bh at h ⊢;simp(disch:=omega)[hf];exact ag (h1.putN hb2 _) h
theorem fR(d:Dk)(v:Value)(hf:bE v=true)(q:Bool)(c:Int)(M:Mem)(R:VP)(h:R (bh d v (gH q) c) M):ar prog 344 [dkV d v,.bool q,.int .i64 c] M R:=by
 unfold dkV;refine fnT func344 rfl ntmps344 results344 ?_;intro b1 hb1;have h1:=(Sub.refl M).put hb1 (.cells true [str d.w,str d.p,v] 3);refine sS ?_;intro b2 hb2;have h2:=hb2;rw[aG]at h2;cases q
 .refine sS ?_;refine eF d v hf _ _ _ _ ?_;unfold bh gH at h;unfold bh;simp(disch:=omega)[hf];exact ag (h1.putN hb2 _) h
 .refine sS ?_;refine eF d v hf _ _ _ _ ?_;unfold bh gH at h;unfold bh;simp(disch:=omega)[hf];exact ag (h1.putN hb2 _) h
theorem bR(d:Dk)(v:Value)(hf:bE v=true)(t:B8)(c:Int)(M:Mem)(R:VP)(hl:t.length<=1099511627776)(h:R (bh ⟨t,d.p,d.ms⟩ v (qt t) c) M):ar prog 103 [dkV d v,str t,.int .i64 c] M R:=by
 unfold dkV;refine fnT func103 rfl ntmps103 results103 ?_;intro b1 hb1;have h1:=(Sub.refl M).put hb1 (.cells true [str d.w,str d.p,v] 3);refine sS ?_;intro b2 hb2;have h2:=hb2;rw[aG]at h2;simp(disch:=omega)[aj];refine fh ⟨t,d.p,d.ms⟩ v hf t c _ _ hl ?_;unfold bh at h ⊢;simp(disch:=omega)[hf,aj];exact ag (((h1.putN hb2 _).ovr hb1 _).ovr h2.2 _) h
theorem p5(d:Dk)(v:Value)(hf:bE v=true)(M:Mem)(R:VP)(hv:Rd M v (strs d.ms))(hm:aY d.ms=true)(h:R (bh d v (qt (ot d.ms)) (lO d.ms)) M):ar prog 151 [dkV d v] M R:=by
 unfold dkV;refine fnT func151 rfl ntmps151 results151 ?_;intro b1 hb1;have h1:=(Sub.refl M).put hb1 (.cells true [str d.w,str d.p,v] 3);refine sS ?_;intro b2 hb2;have h2:=hb2;rw[aG]at h2;have hv2:=hv.sub (h1.putN hb2 (.cells true [str [],str [],.slice none 0 0,str [],.int .i64 0] 5));have hfi:cS d.ms:=fun w hw=>by have:=(bH hm hw).1;omega
 have h5:=(aW hm).2;have ht:=Dz d.ms;refine sS ?_;refine plyS (ai [0,1,2] (.one 3 1 (ai [4,5] (.one 6 1 (.one 7 2 .fin))))) ?_;refine sS ?_;refine uq v d.ms _ _ hv2 hfi (by omega) ?_;unfold aF;refine sS ?_;refine fh d v hf _ _ _ _ (by omega) ?_;unfold bh at h ⊢;simp(disch:=omega)[hf];exact ag (h1.putN hb2 _) h
theorem A5(d:Dk)(v:Value)(hf:bE v=true)(M:Mem)(R:VP)(hvar:cj M)(hd:d.w.length<=1000)(h:R (bh d v (Lib.itoa (xh d.w)++32::Lib.itoa (xp d.w)) (cy d.w)) M):ar prog 160 [dkV d v] M R:=by
 unfold dkV;refine fnT func160 rfl ntmps160 results160 ?_;intro b1 hb1;have h1:=(Sub.refl M).put hb1 (.cells true [str d.w,str d.p,v] 3);refine sS ?_;intro b2 hb2;have h2:=hb2;rw[aG]at h2;refine sS ?_;refine bq (xk d.w _ _ (by omega) fun M' s'=>⟨s',?_⟩);obtain⟨⟨e1,e2⟩,e3,e4⟩:=AW d.w;have hi:=bX _ e1 e2;have hj:=bX _ e3 e4;refine sS ?_;refine plyS (ai [0,1,4,7] (.one 2 1 (ai [3] (.one 5 1 (ai [6] (.one 8 1 (.one 9 2 .fin))))))) ?_;refine sS ?_;refine ez _ _ _ (hvar.sub (h1.putN hb2 _)) e1 e2 ?_;generalize Lib.itoa (xh d.w)=y at *;refine sS ?_;refine ez _ _ _ (hvar.sub (h1.putN hb2 _)) e3 e4 ?_;generalize Lib.itoa (xp d.w)=z at *;refine sS ?_;refine eF d v hf _ _ _ _ ?_;unfold bh at h ⊢;simp(disch:=omega)[hf];exact ag (h1.putN hb2 _) h
theorem IZ(d:Dk)(v:Value)(hf:bE v=true)(M:Mem)(R:VP)(hvar:cj M)(hw:d.w.length<=1000)(hp:d.p.length<=1000)(h:R (bh d v (Lib.itoa (plI d.w d.p)++32::dk (plL d.w d.p)) (plC d.w d.p)) M):ar prog 161 [dkV d v] M R:=by
 unfold dkV;refine fnT func161 rfl ntmps161 results161 ?_;intro b1 hb1;have h1:=(Sub.refl M).put hb1 (.cells true [str d.w,str d.p,v] 3);refine sS ?_;intro b2 hb2;have h2:=hb2;rw[aG]at h2;refine sS ?_;refine xd d.w d.p _ _ (by omega) (by omega) ?_;intro x M' o;obtain⟨e1,e2⟩:=GJ d.w d.p;have hi:=bX _ e1 e2;have hj:=(GM d.w d.p).text;have hvM:=(hvar.sub (h1.putN hb2 _)).sub o.sub;have k1:=o.sub _ _ (show ((M.put b1 (.cells true [str d.w,str d.p,v] 3)).put b2 (.cells true [str [],str [],.slice none 0 0,str [],.int .i64 0] 5)) b1=some (.cells true [str d.w,str d.p,v] 3) by simp(disch:=omega));have k2:=o.sub _ _ (ae (M.put b1 (.cells true [str d.w,str d.p,v] 3)) b2 (.cells true [str [],str [],.slice none 0 0,str [],.int .i64 0] 5));have sM:=(h1.putN hb2 (.cells true [str [],str [],.slice none 0 0,str [],.int .i64 0] 5)).trans o.sub;refine sS ?_;refine plyS (ai [0,1,4,7] (.one 2 1 (ai [3] (.one 5 1 (ai [6] (.one 8 1 (.one 9 2 .fin))))))) ?_;simp(disch:=omega)[aq k1];refine ez _ _ _ hvM e1 e2 ?_;generalize Lib.itoa (plI d.w d.p)=y at *;refine sS ?_;refine sH x (plL d.w d.p) _ _ hvM o.rd (GM d.w d.p) ?_;generalize dk (plL d.w d.p)=z at *;refine sS ?_;refine eF d v hf _ _ _ _ ?_;unfold bh at h ⊢;simp(disch:=omega)[k2,aj,hf];exact ag (sM.ovr h2.2 _) h
theorem CK{w:B8}{p a m n:Nat}(h:m<=n)(hf:l6 w p a m=false):l6 w p a n=false:=by
 unfold l6 at *;rw[all_eq_false]at *;obtain⟨t,ht,hc⟩:=hf;exact⟨t,mem_range.2 (by have:=mem_range.1 ht;omega),hc⟩
theorem getD_in{w:B8}{j:Nat}(h:j<w.length):w[j]?=some (w.getD j 0):=by
 rw[gDe,gEl h];rfl
theorem DS(x y:UInt8):((x.toNat:Int)==(y.toNat:Int))=(x==y):=by
 rw[Bool.eq_iff_iff,beq_iff_eq,beq_iff_eq];constructor
 .intro h;exact UInt8.toNat_inj.1 (by omega)
 .rintro rfl;rfl
theorem vy(w:B8)(i:Nat)(M:Mem)(R:VP)(hl:w.length<=60)(hi1:1<=w.length)(hi:i<=w.length)(h:R (.int .i64 (lpF w i:Nat)) M):ar prog 332 [str w,.int .i64 i] M R:=by
 refine fnT func332 rfl ntmps332 results332 ?_;refine lupS (rlA [] 4 37) (fun p:Nat=>[(5,.int .i64 p)]) (fun p M'=>M=M'/\1<=p/\p<=w.length+1/\∀ q,1<=q->q<p->lpB w i q=false) (fun p=>w.length+1-p) 1 ⟨rfl,lRf _,by omega,fun q h1 h2=>by omega⟩ ?_
 rintro p M' g ⟨rfl,hp1,hp2,hno⟩
 have hpl:p<=w.length:=by
  rcases Nat.lt_or_ge w.length p with hh|hh
  .have:=hno w.length hi1 hh;rw[Lf (lRf _)]at this;cases this
  .exact hh
 obtain⟨a,ha⟩:∃ a,a=i-p:=⟨_,rfl⟩;obtain⟨n,hn⟩:∃ n,n=min i (w.length-p)-a:=⟨_,rfl⟩;have hlp:l6 w p a n=lpB w i p:=by unfold lpB;rw[ha,hn,ha]
 by_cases hip:i<p
 .have ha0:a=0:=by omega
  have hipI:(i:Int)-p<0:=by omega
  simp(disch:=omega)[hipI];refine aR aU (rlA [6,7] 14 25) (fun t:Nat=>[(7,.int .i64 ((a:Int)+t)),(6,.bool (l6 w p a t))]) (fun t M'=>M=M'/\t<=n) (fun t=>n-t) 0 (by kernel_rfl) (by simp(disch:=omega)[ha0];rfl) ⟨rfl,lZe _⟩ ?_
  rintro t M' g2 ⟨rfl,ht⟩
  by_cases htn:t<n
  .have c1:(a:Int)+t<(i:Nat):=by omega
   have c2:(a:Int)+t+p<(w.length:Nat):=by omega
   have hs:=pa w p a t;have g1:=getD_in (w:=w) (j:=a+t) (by omega);have g2:=getD_in (w:=w) (j:=a+t+p) (by omega);have hx:=DS (w.getD (a+t) 0) (w.getD (a+t+p) 0);obtain⟨j,hj⟩:∃ j,j=a+t:=⟨_,rfl⟩;obtain⟨k,hk⟩:∃ k,k=a+t+p:=⟨_,rfl⟩;have hjI:(a:Int)+t=j:=by omega
   have hkI:(j:Int)+p=k:=by omega
   have hnI:(a:Int)+((t:Int)+1)=(j:Int)+1:=by omega
   rw[<-hk]at g2 hx hs;rw[<-hj]at g1 hx hs;rw[hjI]at c1 c2 ⊢;rw[hkI]at c2;generalize w.getD j 0=x at *;generalize w.getD k 0=y at *;generalize l6 w p a t=f at *;cases f
   .rw[Bool.false_and]at hs;simp(disch:=omega)[c1,c2,hkI];refine drwS ?_;simp(disch:=omega)[undef];exact rndA (t+1) (by simp(disch:=omega)[hs,hnI]) ⟨rfl,by omega⟩
   .rw[Bool.true_and]at hs;have hjl:j<w.length:=by omega
    have hkl:k<w.length:=by omega
    simp(disch:=omega)[c1,c2,hkI];refine drwS ?_;have at1:w[j]=x:=by rw[gEl hjl]at g1;exact Option.some.inj g1
    have at2:w[k]=y:=by rw[gEl hkl]at g2;exact Option.some.inj g2
    by_cases hxy:x=y
    .have hb:(x==y)=true:=by rw[hxy];exact beq_self_eq_true _
     rw[hb]at hs;subst hxy;simp(disch:=omega)[hkI,hjl,hkl,at1,at2];exact rndA (t+1) (by simp(disch:=omega)[hs,hnI]) ⟨rfl,by omega⟩
    .have hb:(x==y)=false:=bNe.2 hxy;rw[hb]at hs hx;have hxn:¬ x.toNat=y.toNat:=fun e=>hxy (UInt8.toNat_inj.1 e);simp(disch:=omega)[hkI,hjl,hkl,at1,at2,hx];exact rndA (t+1) (by simp(disch:=omega)[hs,hnI]) ⟨rfl,by omega⟩
  .have htE:t=n:=by omega
   subst htE;rw[hlp];by_cases c1:(a:Int)+t<(i:Nat)
   .have c2:¬(a:Int)+t+p<(w.length:Nat):=by omega
    cases hB:lpB w i p
    .simp(disch:=omega)[c1,c2];exact rndS (p+1) ⟨rfl,by omega,by omega,fun q h1 h2=>by
      by_cases e:q=p
      .rw[e,hB]
      .exact hno q h1 (by omega)⟩
    .rw[nf hp1 hp2 hB hno]at h;simp(disch:=omega)[c1,c2];exact ad h
   .cases hB:lpB w i p
    .simp(disch:=omega)[c1,undef];exact rndS (p+1) ⟨rfl,by omega,by omega,fun q h1 h2=>by
      by_cases e:q=p
      .rw[e,hB]
      .exact hno q h1 (by omega)⟩
    .rw[nf hp1 hp2 hB hno]at h;simp(disch:=omega)[c1,undef];exact ad h
 .have ha0:(i:Int)-p=(a:Int):=by omega
  have hipI:¬(i:Int)-p<0:=by omega
  simp(disch:=omega)[hipI];refine aR aU (rlA [6,7] 14 25) (fun t:Nat=>[(7,.int .i64 ((a:Int)+t)),(6,.bool (l6 w p a t))]) (fun t M'=>M=M'/\t<=n) (fun t=>n-t) 0 (by kernel_rfl) (by simp(disch:=omega)[ha0];rfl) ⟨rfl,lZe _⟩ ?_
  rintro t M' g2 ⟨rfl,ht⟩
  by_cases htn:t<n
  .have c1:(a:Int)+t<(i:Nat):=by omega
   have c2:(a:Int)+t+p<(w.length:Nat):=by omega
   have hs:=pa w p a t;have g1:=getD_in (w:=w) (j:=a+t) (by omega);have g2:=getD_in (w:=w) (j:=a+t+p) (by omega);have hx:=DS (w.getD (a+t) 0) (w.getD (a+t+p) 0);obtain⟨j,hj⟩:∃ j,j=a+t:=⟨_,rfl⟩;obtain⟨k,hk⟩:∃ k,k=a+t+p:=⟨_,rfl⟩;have hjI:(a:Int)+t=j:=by omega
   have hkI:(j:Int)+p=k:=by omega
   have hnI:(a:Int)+((t:Int)+1)=(j:Int)+1:=by omega
   rw[<-hk]at g2 hx hs;rw[<-hj]at g1 hx hs;rw[hjI]at c1 c2 ⊢;rw[hkI]at c2;generalize w.getD j 0=x at *;generalize w.getD k 0=y at *;generalize l6 w p a t=f at *;cases f
   .rw[Bool.false_and]at hs;simp(disch:=omega)[c1,c2,hkI];refine drwS ?_;simp(disch:=omega)[undef];exact rndA (t+1) (by simp(disch:=omega)[hs,hnI]) ⟨rfl,by omega⟩
   .rw[Bool.true_and]at hs;have hjl:j<w.length:=by omega
    have hkl:k<w.length:=by omega
    simp(disch:=omega)[c1,c2,hkI];refine drwS ?_;have at1:w[j]=x:=by rw[gEl hjl]at g1;exact Option.some.inj g1
    have at2:w[k]=y:=by rw[gEl hkl]at g2;exact Option.some.inj g2
    by_cases hxy:x=y
    .have hb:(x==y)=true:=by rw[hxy];exact beq_self_eq_true _
     rw[hb]at hs;subst hxy;simp(disch:=omega)[hkI,hjl,hkl,at1,at2];exact rndA (t+1) (by simp(disch:=omega)[hs,hnI]) ⟨rfl,by omega⟩
    .have hb:(x==y)=false:=bNe.2 hxy;rw[hb]at hs hx;have hxn:¬ x.toNat=y.toNat:=fun e=>hxy (UInt8.toNat_inj.1 e);simp(disch:=omega)[hkI,hjl,hkl,at1,at2,hx];exact rndA (t+1) (by simp(disch:=omega)[hs,hnI]) ⟨rfl,by omega⟩
  .have htE:t=n:=by omega
   subst htE;rw[hlp];by_cases c1:(a:Int)+t<(i:Nat)
   .have c2:¬(a:Int)+t+p<(w.length:Nat):=by omega
    cases hB:lpB w i p
    .simp(disch:=omega)[c1,c2];exact rndS (p+1) ⟨rfl,by omega,by omega,fun q h1 h2=>by
      by_cases e:q=p
      .rw[e,hB]
      .exact hno q h1 (by omega)⟩
    .rw[nf hp1 hp2 hB hno]at h;simp(disch:=omega)[c1,c2];exact ad h
   .cases hB:lpB w i p
    .simp(disch:=omega)[c1,undef];exact rndS (p+1) ⟨rfl,by omega,by omega,fun q h1 h2=>by
      by_cases e:q=p
      .rw[e,hB]
      .exact hno q h1 (by omega)⟩
    .rw[nf hp1 hp2 hB hno]at h;simp(disch:=omega)[c1,undef];exact ad h
theorem Bn(w:B8)(i:Nat)(M:Mem)(R:VP)(hl:w.length<=60)(hi1:1<=w.length)(hi:i<=w.length)(h:R (.int .i64 (lpF w i:Nat)) M):ar prog 363 [str w,.int .i64 i] M R:=by
 refine fnT func363 rfl ntmps363 results363 ?_;refine lupS (rlA [] 4 37) (fun p:Nat=>[(5,.int .i64 p)]) (fun p M'=>M=M'/\1<=p/\p<=w.length+1/\∀ q,1<=q->q<p->lpB w i q=false) (fun p=>w.length+1-p) 1 ⟨rfl,lRf _,by omega,fun q h1 h2=>by omega⟩ ?_
 rintro p M' g ⟨rfl,hp1,hp2,hno⟩
 have hpl:p<=w.length:=by
  rcases Nat.lt_or_ge w.length p with hh|hh
  .have:=hno w.length hi1 hh;rw[Lf (lRf _)]at this;cases this
  .exact hh
 obtain⟨a,ha⟩:∃ a,a=i-p:=⟨_,rfl⟩;obtain⟨n,hn⟩:∃ n,n=min i (w.length-p)-a:=⟨_,rfl⟩;have hlp:l6 w p a n=lpB w i p:=by unfold lpB;rw[ha,hn,ha]
 by_cases hip:i<p
 .have ha0:a=0:=by omega
  have hipI:(i:Int)-p<0:=by omega
  simp(disch:=omega)[hipI];refine aR aU (rlA [6,7] 14 25) (fun t:Nat=>[(7,.int .i64 ((a:Int)+t)),(6,.bool (l6 w p a t))]) (fun t M'=>M=M'/\t<=n) (fun t=>n-t) 0 (by kernel_rfl) (by simp(disch:=omega)[ha0];rfl) ⟨rfl,lZe _⟩ ?_
  rintro t M' g2 ⟨rfl,ht⟩
  have i7:l6 w p a t=false->lpB w i p=false:=fun hf=>by rw[<-hlp];exact CK ht hf
  by_cases htn:t<n
  .have c1:(a:Int)+t<(i:Nat):=by omega
   have c2:(a:Int)+t+p<(w.length:Nat):=by omega
   have hs:=pa w p a t;have g1:=getD_in (w:=w) (j:=a+t) (by omega);have g2:=getD_in (w:=w) (j:=a+t+p) (by omega);have hx:=DS (w.getD (a+t) 0) (w.getD (a+t+p) 0);obtain⟨j,hj⟩:∃ j,j=a+t:=⟨_,rfl⟩;obtain⟨k,hk⟩:∃ k,k=a+t+p:=⟨_,rfl⟩;have hjI:(a:Int)+t=j:=by omega
   have hkI:(j:Int)+p=k:=by omega
   have hnI:(a:Int)+((t:Int)+1)=(j:Int)+1:=by omega
   rw[<-hk]at g2 hx hs;rw[<-hj]at g1 hx hs;rw[hjI]at c1 c2 ⊢;rw[hkI]at c2;generalize w.getD j 0=x at *;generalize w.getD k 0=y at *;cases hf:l6 w p a t
   .have hB:=i7 hf;simp(disch:=omega)[c1,c2,hkI];exact rndS (p+1) ⟨rfl,by omega,by omega,fun q h1 h2=>by
     by_cases e:q=p
     .rw[e,hB]
     .exact hno q h1 (by omega)⟩
   .rw[hf,Bool.true_and]at hs;have hjl:j<w.length:=by omega
    have hkl:k<w.length:=by omega
    simp(disch:=omega)[c1,c2,hkI];refine drwS ?_;have at1:w[j]=x:=by rw[gEl hjl]at g1;exact Option.some.inj g1
    have at2:w[k]=y:=by rw[gEl hkl]at g2;exact Option.some.inj g2
    by_cases hxy:x=y
    .have hb:(x==y)=true:=by rw[hxy];exact beq_self_eq_true _
     rw[hb]at hs;subst hxy;simp(disch:=omega)[hkI,hjl,hkl,at1,at2];exact rndA (t+1) (by simp(disch:=omega)[hs,hnI]) ⟨rfl,by omega⟩
    .have hb:(x==y)=false:=bNe.2 hxy;rw[hb]at hs hx;have hxn:¬ x.toNat=y.toNat:=fun e=>hxy (UInt8.toNat_inj.1 e);simp(disch:=omega)[hkI,hjl,hkl,at1,at2,hx];exact rndA (t+1) (by simp(disch:=omega)[hs,hnI]) ⟨rfl,by omega⟩
  .have htE:t=n:=by omega
   subst htE;rw[hlp];by_cases c1:(a:Int)+t<(i:Nat)
   .have c2:¬(a:Int)+t+p<(w.length:Nat):=by omega
    cases hB:lpB w i p
    .simp(disch:=omega)[c1,c2,undef];exact rndS (p+1) ⟨rfl,by omega,by omega,fun q h1 h2=>by
      by_cases e:q=p
      .rw[e,hB]
      .exact hno q h1 (by omega)⟩
    .rw[nf hp1 hp2 hB hno]at h;simp(disch:=omega)[c1,c2,undef];exact ad h
   .cases hB:lpB w i p
    .simp(disch:=omega)[c1,undef];exact rndS (p+1) ⟨rfl,by omega,by omega,fun q h1 h2=>by
      by_cases e:q=p
      .rw[e,hB]
      .exact hno q h1 (by omega)⟩
    .rw[nf hp1 hp2 hB hno]at h;simp(disch:=omega)[c1,undef];exact ad h
 .have ha0:(i:Int)-p=(a:Int):=by omega
  have hipI:¬(i:Int)-p<0:=by omega
  simp(disch:=omega)[hipI];refine aR aU (rlA [6,7] 14 25) (fun t:Nat=>[(7,.int .i64 ((a:Int)+t)),(6,.bool (l6 w p a t))]) (fun t M'=>M=M'/\t<=n) (fun t=>n-t) 0 (by kernel_rfl) (by simp(disch:=omega)[ha0];rfl) ⟨rfl,lZe _⟩ ?_
  rintro t M' g2 ⟨rfl,ht⟩
  have i7:l6 w p a t=false->lpB w i p=false:=fun hf=>by rw[<-hlp];exact CK ht hf
  by_cases htn:t<n
  .have c1:(a:Int)+t<(i:Nat):=by omega
   have c2:(a:Int)+t+p<(w.length:Nat):=by omega
   have hs:=pa w p a t;have g1:=getD_in (w:=w) (j:=a+t) (by omega);have g2:=getD_in (w:=w) (j:=a+t+p) (by omega);have hx:=DS (w.getD (a+t) 0) (w.getD (a+t+p) 0);obtain⟨j,hj⟩:∃ j,j=a+t:=⟨_,rfl⟩;obtain⟨k,hk⟩:∃ k,k=a+t+p:=⟨_,rfl⟩;have hjI:(a:Int)+t=j:=by omega
   have hkI:(j:Int)+p=k:=by omega
   have hnI:(a:Int)+((t:Int)+1)=(j:Int)+1:=by omega
   rw[<-hk]at g2 hx hs;rw[<-hj]at g1 hx hs;rw[hjI]at c1 c2 ⊢;rw[hkI]at c2;generalize w.getD j 0=x at *;generalize w.getD k 0=y at *;cases hf:l6 w p a t
   .have hB:=i7 hf;simp(disch:=omega)[c1,c2,hkI];exact rndS (p+1) ⟨rfl,by omega,by omega,fun q h1 h2=>by
     by_cases e:q=p
     .rw[e,hB]
     .exact hno q h1 (by omega)⟩
   .rw[hf,Bool.true_and]at hs;have hjl:j<w.length:=by omega
    have hkl:k<w.length:=by omega
    simp(disch:=omega)[c1,c2,hkI];refine drwS ?_;have at1:w[j]=x:=by rw[gEl hjl]at g1;exact Option.some.inj g1
    have at2:w[k]=y:=by rw[gEl hkl]at g2;exact Option.some.inj g2
    by_cases hxy:x=y
    .have hb:(x==y)=true:=by rw[hxy];exact beq_self_eq_true _
     rw[hb]at hs;subst hxy;simp(disch:=omega)[hkI,hjl,hkl,at1,at2];exact rndA (t+1) (by simp(disch:=omega)[hs,hnI]) ⟨rfl,by omega⟩
    .have hb:(x==y)=false:=bNe.2 hxy;rw[hb]at hs hx;have hxn:¬ x.toNat=y.toNat:=fun e=>hxy (UInt8.toNat_inj.1 e);simp(disch:=omega)[hkI,hjl,hkl,at1,at2,hx];exact rndA (t+1) (by simp(disch:=omega)[hs,hnI]) ⟨rfl,by omega⟩
  .have htE:t=n:=by omega
   subst htE;rw[hlp];by_cases c1:(a:Int)+t<(i:Nat)
   .have c2:¬(a:Int)+t+p<(w.length:Nat):=by omega
    cases hB:lpB w i p
    .simp(disch:=omega)[c1,c2,undef];exact rndS (p+1) ⟨rfl,by omega,by omega,fun q h1 h2=>by
      by_cases e:q=p
      .rw[e,hB]
      .exact hno q h1 (by omega)⟩
    .rw[nf hp1 hp2 hB hno]at h;simp(disch:=omega)[c1,c2,undef];exact ad h
   .cases hB:lpB w i p
    .simp(disch:=omega)[c1,undef];exact rndS (p+1) ⟨rfl,by omega,by omega,fun q h1 h2=>by
      by_cases e:q=p
      .rw[e,hB]
      .exact hno q h1 (by omega)⟩
    .rw[nf hp1 hp2 hB hno]at h;simp(disch:=omega)[c1,undef];exact ad h
theorem pY(w:B8)(M:Mem)(R:VP)(hl:w.length<=1099511627776)(h:∀ v M',Sub M M'->Rd M' v (ints (if isWord w then iI w (w.length-1) else []))->R (aF v (aK w)) M'):ar prog 239 [str w] M R:=by
 unfold aF aK at h;refine fnT func239 rfl ntmps239 results239 ?_;intro b1 hb1;refine sS ?_;have hs1:=(Sub.refl M).put hb1 (.cells true [str w] 1);refine bA _ _ [w] true (fun _=>True) _ _ (Rd.new rfl (lRf 1)) (gM hl) (by simp) trivial bW (bK _) ?_;rw[dq];cases hw:isWord w
 .rw[hw]at h;refine sS ?_;exact ad (h _ _ hs1 (.inl ⟨none,0,rfl,rfl⟩))
 .rw[hw,if_pos rfl,if_pos rfl]at h;have h60:=au hw;generalize M.put b1 (.cells true [str w] 1)=M0 at *;refine sS ?_;refine lupS (rlA [5,6] 13 16) (fun x:Nat×Value=>[(6,.int .i64 ((x.1:Int)+1)),(5,x.2)]) (fun x N=>x.1<=w.length-1/\Own M0 x.2 (ints (iI w x.1)) N) (fun x=>w.length-1-x.1) (0,.slice none 0 0) ⟨lZe _,Own.nil _⟩ ?_
  rintro⟨i,v⟩ N g ⟨hi,ho⟩
  simp only at hi ho;have hcl:=uZ w i;by_cases hlt:i<w.length-1
  .have hltI:(i:Int)+1<(w.length:Nat):=by omega
   have hs:=zK w i;obtain⟨q,hq⟩:∃ q,q=i+1:=⟨_,rfl⟩;have hqI:(i:Int)+1=(q:Nat):=by omega
   rw[<-hq]at hs;rw[hqI]at hltI ⊢;simp(disch:=omega)[hltI];refine vy w q _ _ h60 (by omega) (by omega) ?_;refine sS ?_;refine ky w _ _ h60 (by omega) ?_;intro p1 p2;generalize iI w i=L at *;by_cases he:lpF w q=cQ w
   .have hb:(lpF w q==cQ w)=true:=by rw[he];exact beq_self_eq_true _
    rw[hb,if_pos rfl]at hs;have heI:((lpF w q:Nat):Int)=(cQ w:Nat):=by omega
    simp(disch:=omega)[he];intro b' hb';refine sS ?_;refine apT ho ((Sub.refl _).put hb' _) ?_;intro v' M'' N'' ho' hs';rw[cM,<-hs]at ho';refine sS ?_;exact rndM M'' (q,v') hs' ⟨by simp only;omega,ho'⟩
   .have hb:(lpF w q==cQ w)=false:=bNe.2 he;rw[hb,if_neg (by decide),append_nil]at hs;have hbI:(((lpF w q:Nat):Int)==((cQ w:Nat):Int))=false:=bNe.2 (by omega);rw[<-hs]at ho;simp(disch:=omega)[hbI];exact rndS (q,v) ⟨by simp only;omega,ho⟩
  .have hltI:¬(i:Int)+1<(w.length:Nat):=by omega
   have hiE:i=w.length-1:=by omega
   rw[hiE]at ho;simp(disch:=omega)[hltI];exact ad (h _ _ (hs1.trans ho.sub) ho.rd)
theorem pS(w:B8)(M:Mem)(R:VP)(hl:w.length<=1099511627776)(h:∀ v M',Sub M M'->Rd M' v (ints (if isWord w then iI w (w.length-1) else []))->R (aF v (aK w)) M'):ar prog 286 [str w] M R:=by
 unfold aF aK at h;refine fnT func286 rfl ntmps286 results286 ?_;refine bg w _ _ hl ?_;cases hw:isWord w
 .rw[hw]at h;refine sS ?_;exact ad (h _ _ (Sub.refl M) (.inl ⟨none,0,rfl,rfl⟩))
 .rw[hw,if_pos rfl,if_pos rfl]at h;have h60:=au hw;refine sS ?_;intro b0 hb0;refine sS ?_;refine lupS (rlA [4,5] 10 18) (fun x:Nat×Value=>[(5,.int .i64 ((x.1:Int)+1)),(4,x.2)]) (fun x N=>x.1<=w.length-1/\∃ Mb,Sub M Mb/\Own Mb x.2 (ints (iI w x.1)) N) (fun x=>w.length-1-x.1) (0,.slice (some ⟨b0,0,none⟩) 0 0) ⟨lZe _,M,Sub.refl _,Own.new hb0 rfl (lRf 0)⟩ ?_
  rintro⟨i,v⟩ N g ⟨hi,Mb,sB,ho⟩
  simp only at hi ho;have hcl:=uZ w i;by_cases hlt:i<w.length-1
  .have hltI:(i:Int)+1<(w.length:Nat):=by omega
   have hs:=zK w i;obtain⟨q,hq⟩:∃ q,q=i+1:=⟨_,rfl⟩;have hqI:(i:Int)+1=(q:Nat):=by omega
   rw[<-hq]at hs;rw[hqI]at hltI ⊢;obtain⟨p1,p2,p3⟩:=lH (w:=w) (by omega);simp(disch:=omega)[hltI];refine Bn w q _ _ h60 (by omega) (by omega) ?_;refine sS ?_;refine dB w _ _ h60 ?_;intro vp N1 op;obtain⟨ap,cp,rfl,hap⟩:=op.rd.opened;rw[az]at hap ⊢;rcases hap with hz|⟨bp,o',rfl,hap⟩
   .omega
   have hg:=hap 0 (by omega);rw[cR,p1,Option.map_some,Nat.add_zero]at hg;have sN:=op.sub;clear hap op;generalize iI w i=L at *;by_cases he:lpF w q=cQ w
   .have hb:(lpF w q==cQ w)=true:=by rw[he];exact beq_self_eq_true _
    rw[hb,if_pos rfl]at hs;simp(disch:=omega)[hg,he];intro b' hb';refine sS ?_;refine apT ho (sN.trans ((Sub.refl _).put hb' _)) ?_;intro v' M'' N'' ho' hs';rw[cM,<-hs]at ho';refine sS ?_;exact rndM M'' (q,v') hs' ⟨by simp only;omega,Mb,sB,ho'⟩
   .have hb:(lpF w q==cQ w)=false:=bNe.2 he;rw[hb,if_neg (by decide),append_nil]at hs;have hbI:(((lpF w q:Nat):Int)==((cQ w:Nat):Int))=false:=bNe.2 (by omega);rw[<-hs]at ho;simp(disch:=omega)[hg,hbI];exact rndM N (q,v) sN ⟨by simp only;omega,Mb,sB,ho⟩
  .have hltI:¬(i:Int)+1<(w.length:Nat):=by omega
   have hiE:i=w.length-1:=by omega
   rw[hiE]at ho;simp(disch:=omega)[hltI];exact ad (h _ _ (sB.trans ho.sub) ho.rd)
theorem Ep(n:Nat):replicate n (Value.int .i64 0)=ints (bB n fun _=>0):=by
 rw[<-ML];unfold ints;rw[map_replicate]
theorem eK{n:Nat}{g:Nat->Int}{i:Nat}(h:i<n):(ints (bB n g))[i]?=some (.int .i64 (g i)):=by
 rw[cR,rT h];rfl
theorem S2{n:Nat}{g:Nat->Int}{i:Nat}(x:Int):(ints (bB n g)).set i (.int .i64 x)=ints (bB n fun k=>if k=i then x else g k):=by
 rw[ints_set,RN]
theorem dc(n:Nat)(g:Nat->Int):(ints (bB n g)).length=n:=by rw[az,ju]
def fpG(w:B8)(d k:Nat):Int:=if k<w.length-d then 0 else (fpN w k:Nat)
def fpH(w:B8)(d k:Nat):Int:=if k<w.length-d then 0 else (fpE w k:Nat)
theorem zY(w:B8):∀ k,k<w.length+1->fpG w 0 k=0:=fun k hk=>by
 unfold fpG;split
 .rfl
 .rw[(yZ (show w.length<=k by omega)).1];rfl
theorem Hc(w:B8):∀ k,k<w.length+1->fpH w 0 k=0:=fun k hk=>by
 unfold fpH;split
 .rfl
 .rw[(yZ (show w.length<=k by omega)).2];rfl
theorem ew{n:Nat}{g h:Nat->Int}(e:∀ k,k<n->g k=h k):bB n g=bB n h:=by
 unfold bB;exact map_congr_left fun k hk=>e k (mem_range.1 hk)
def upd(g:Nat->Int)(i:Nat)(x:Int):Nat->Int:=fun k=>if k=i then x else g k
theorem xR(g:Nat->Int)(i:Nat)(x y:Int):upd (upd g i x) i y=upd g i y:=by
 funext k
 unfold upd;split<;>rfl
theorem Ii(g:Nat->Int)(i:Nat):upd g i (g i)=g:=by
 funext k
 unfold upd;split
 .rename_i e;rw[e]
 .rfl
theorem iv{n:Nat}{g:Nat->Int}{i:Nat}(x:Int):(ints (bB n g)).set i (.int .i64 x)=ints (bB n (upd g i x)):=S2 x
theorem yl{w:B8}{d i:Nat}(h:i+d+1=w.length):upd (fpG w d) i (fpN w i:Nat)=fpG w (d+1):=by
 funext k
 unfold upd fpG;by_cases e:k=i
 .rw[if_pos e,if_neg (by omega),e]
 .rw[if_neg e];by_cases h1:k<w.length-(d+1)
  .rw[if_pos (by omega),if_pos h1]
  .rw[if_neg (by omega),if_neg h1]
theorem Hd{w:B8}{d i:Nat}(h:i+d+1=w.length):upd (fpH w d) i (fpE w i:Nat)=fpH w (d+1):=by
 funext k
 unfold upd fpH;by_cases e:k=i
 .rw[if_pos e,if_neg (by omega),e]
 .rw[if_neg e];by_cases h1:k<w.length-(d+1)
  .rw[if_pos (by omega),if_pos h1]
  .rw[if_neg (by omega),if_neg h1]
theorem jK(n i:Nat)(pal:Nat->Bool)(L:Nat->Nat):bQ n i pal L 0=(n+1,0):=rfl
theorem vU(w:B8)(M:Mem)(R:VP)(hl:w.length<=1099511627776)(h:∀ v M',Sub M M'->Rd M' v (strs (if isWord w then iS w 0 else []))->R (aF v (aK w)) M'):ar prog 246 [str w] M R:=by
 unfold aF aK at h;refine fnT func246 rfl ntmps246 results246 ?_;intro b0 hb0;refine sS ?_;have hs1:=(Sub.refl M).put hb0 (.cells true [str w] 1);refine bA _ _ [w] true (fun _=>True) _ _ (Rd.new rfl (lRf 1)) (gM hl) (by simp) trivial bW (bK _) ?_;rw[dq];cases hw:isWord w
 .rw[hw]at h;refine sS ?_;exact ad (h _ _ hs1 (.inl ⟨none,0,rfl,rfl⟩))
 .rw[hw,if_pos rfl,if_pos rfl]at h;have h60:=au hw;generalize M.put b0 (.cells true [str w] 1)=M0 at *;have er:((w.length:Int)+1).toNat=w.length+1:=by omega
  have hrep:=Ep (w.length+1);refine sS ?_;refine plyS (ai [0,1,3,4] (.alt 2 1 (ai [6] (.one 5 1 (ai [7] .fin))) (.one 5 1 (.one 2 1 (ai [6,7] .fin))))) ?_;refine sS ?_;have tl:=ju (w.length+1) (fun _=>0);refine⟨?_,?_⟩
  .simp(disch:=omega)[er,hrep];intro b1 hb1;simp(disch:=omega)[er,hrep,tl];refine⟨(Sub.refl M0).put hb1 _,?_⟩;intro b2 hb2;have hb2':=hb2;rw[aG]at hb2';simp(disch:=omega)[tl];refine⟨(Sub.refl _).put hb2 _,?_⟩;have hne:b1≠b2:=Ne.symm hb2'.1;have sN:=((Sub.refl M0).put hb1 (.cells true (ints (bB (w.length+1) fun _=>0)) (w.length+1))).trans ((Sub.refl _).put hb2 (.cells true (ints (bB (w.length+1) fun _=>0)) (w.length+1)));have k2:=ae (M0.put b1 (.cells true (ints (bB (w.length+1) fun _=>0)) (w.length+1))) b2 (.cells true (ints (bB (w.length+1) fun _=>0)) (w.length+1));have k1:((M0.put b1 (.cells true (ints (bB (w.length+1) fun _=>0)) (w.length+1))).put b2 (.cells true (ints (bB (w.length+1) fun _=>0)) (w.length+1))) b1=some (.cells true (ints (bB (w.length+1) fun _=>0)) (w.length+1)):=by rw[al _ _ hne,ae]
   have hb2:=hb2'.2;clear hb2' tl hrep;generalize (M0.put b1 (.cells true (ints (bB (w.length+1) fun _=>0)) (w.length+1))).put b2 (.cells true (ints (bB (w.length+1) fun _=>0)) (w.length+1))=N at *;have hm0:∀ k,k<w.length+1->(fun _=>(0:Int)) k=fpG w 0 k:=fun k hk=>(zY w k hk).symm;have hm1:∀ k,k<w.length+1->(fun _=>(0:Int)) k=fpH w 0 k:=fun k hk=>(Hc w k hk).symm;rw[ew hm0]at k1;rw[ew hm1]at k2;clear hm0 hm1;refine lupS (rlA [8,9] 28 45) (fun d:Nat=>[(8,.int .i64 ((w.length:Int)-1-d))]) (fun d N'=>d<=w.length/\Sub M0 N'/\N' b1=some (.cells true (ints (bB (w.length+1) (fpG w d))) (w.length+1))/\N' b2=some (.cells true (ints (bB (w.length+1) (fpH w d))) (w.length+1))) (fun d=>w.length-d) 0 ⟨lZe _,sN,k1,k2⟩ ?_
   rintro d N1 g ⟨hd,sN1,q1,q2⟩
   by_cases hlt:d<w.length
   .obtain⟨i,hi⟩:∃ i,i=w.length-1-d:=⟨_,rfl⟩;have hid:i+d+1=w.length:=by omega
    have hiI:(w.length:Int)-1-d=(i:Nat):=by omega
    have hi0:(0:Int)<=(i:Nat):=by omega
    have hnx:(w.length:Int)-1-((d:Int)+1)=(i:Int)-1:=by omega
    have hl1:=dc (w.length+1) (fpG w d);have hH0:fpH w d i=0:=by unfold fpH;rw[if_pos (by omega)]
    have hst:=pL (w:=w) (i:=i) (by omega);have hGn:=yl (w:=w) hid;have hHn:=Hd (w:=w) hid;have hNE:(bQ w.length i (cw w i) (fun t=>fpN w (i+1+t)) (w.length-i))=(fpN w i,fpE w i):=by rw[<-hst];rfl
    rw[hiI];simp(disch:=omega)[hi0,q1,hl1,aj,iv];have p1:=ae N1 b1 (.cells true (ints (bB (w.length+1) (upd (fpG w d) i ((w.length:Int)+1)))) (w.length+1));have p2:(N1.put b1 (.cells true (ints (bB (w.length+1) (upd (fpG w d) i ((w.length:Int)+1)))) (w.length+1))) b2=some (.cells true (ints (bB (w.length+1) (upd (fpH w d) i 0))) (w.length+1)):=by
     rw[al _ _ (Ne.symm hne),q2,<-hH0,Ii]
    have sP:Sub M0 (N1.put b1 (.cells true (ints (bB (w.length+1) (upd (fpG w d) i ((w.length:Int)+1)))) (w.length+1))):=sN1.ovr hb1 _;generalize N1.put b1 (.cells true (ints (bB (w.length+1) (upd (fpG w d) i ((w.length:Int)+1)))) (w.length+1))=N2 at *;clear q1 q2;refine lupS (rlA [9] 39 34) (fun t:Nat=>[(9,.int .i64 ((i:Int)+1+t))]) (fun t N'=>t<=w.length-i/\Sub M0 N'/\N' b1=some (.cells true (ints (bB (w.length+1) (upd (fpG w d) i ((bQ w.length i (cw w i) (fun t=>fpN w (i+1+t)) t).1:Nat)))) (w.length+1))/\N' b2=some (.cells true (ints (bB (w.length+1) (upd (fpH w d) i ((bQ w.length i (cw w i) (fun t=>fpN w (i+1+t)) t).2:Nat)))) (w.length+1))) (fun t=>w.length-i-t) 0 ⟨lZe _,sP,by rw[jK];simpa using p1,by rw[jK];simpa using p2⟩ ?_
    rintro t N3 g3 ⟨ht,sN3,r1,r2⟩
    have hsle:=nJ (n:=w.length) (i:=i) (pal:=cw w i) (L:=fun t=>fpN w (i+1+t)) t;by_cases htl:t<w.length-i
    .obtain⟨e,he⟩:∃ e,e=i+1+t:=⟨_,rfl⟩;have heI:(i:Int)+1+t=(e:Nat):=by omega
     have heI2:(i:Int)+1+((t:Int)+1)=(e:Int)+1:=by omega
     have hel:(e:Int)<=(w.length:Nat):=by omega
     have hs:bQ w.length i (cw w i) (fun t=>fpN w (i+1+t)) (t+1)=if cw w i t&&decide (1+fpN w (i+1+t)<=(bQ w.length i (cw w i) (fun t=>fpN w (i+1+t)) t).1) then (1+fpN w (i+1+t),i+1+t) else bQ w.length i (cw w i) (fun t=>fpN w (i+1+t)) t:=rfl
     have hsg:(w.take e).drop i=seg w i (t+1):=by unfold seg;rw[show i+(t+1)=e by omega]
     have hsl:=eM (w:=w) (a:=i) (m:=t+1) (by omega);have hpa:cw w i t=cl (seg w i (t+1)):=rfl;rw[hpa]at hs;rw[<-he]at hs;have hfn:=yK w e;have hil:(i:Int)<=(e:Nat):=by omega
     generalize (bQ w.length i (cw w i) (fun t=>fpN w (i+1+t)) t)=s at *;generalize seg w i (t+1)=u at *;have l1:=dc (w.length+1) (upd (fpG w d) i (s.1:Nat));have l2:=dc (w.length+1) (upd (fpH w d) i (s.2:Nat));have ge:N3.get? b1 e=some (.int .i64 (fpN w e:Nat)):=by
      rw[ak r1,eK (by omega)];unfold upd fpG;rw[if_neg (by omega),if_neg (by omega)]
     have gi:N3.get? b1 i=some (.int .i64 (s.1:Nat)):=by
      rw[ak r1,eK (by omega)];unfold upd;rw[if_pos rfl]
     rw[heI];simp(disch:=omega)[hel];refine drwS ?_;simp(disch:=omega)[hil,hsg];refine aX (a:=[]) (c:=[]) (jO u _ _ (by omega) ⟨rfl,rfl⟩) ?_;cases hp:cl u
     .rw[hp,Bool.false_and,if_neg (by decide)]at hs;simp(disch:=omega)[undef];exact rndA (t+1) (by simp(disch:=omega)[heI2]) ⟨by omega,sN3,by rw[hs];exact r1,by rw[hs];exact r2⟩
     .rw[hp,Bool.true_and]at hs;by_cases hc:1+fpN w e<=s.1
      .rw[dTr hc,if_pos rfl]at hs;have hcI:(1:Int)+(fpN w e:Nat)<=(s.1:Nat):=by omega
       generalize fpN w e=f at *;have hff:f<=1000:=by omega
       have u1:N3.put b1 (.cells true (ints (bB (w.length+1) (upd (fpG w d) i ((1:Int)+(f:Nat))))) (w.length+1)) b2=some (.cells true (ints (bB (w.length+1) (upd (fpH w d) i (s.2:Nat)))) (w.length+1)):=by
        rw[al _ _ (Ne.symm hne)];exact r2
       have hil2:(i:Int)<(w.length:Int)+1:=by omega
       have hiN:i<w.length+1:=by omega
       have heN:e<w.length+1:=by omega
       simp(disch:=omega)[ge,gi,hcI,r1,r2,l1,l2,aj,iv,xR,hiN];refine rndA (t+1) (by simp(disch:=omega)[heI2]) ⟨by omega,(sN3.ovr hb1 _).ovr hb2 _,?_,?_⟩
       .rw[hs,al _ _ hne,ae]
        push_cast
        rfl
       .rw[hs,ae]
      .rw[dFa hc,if_neg (by decide)]at hs;have hcI:¬(1:Int)+(fpN w e:Nat)<=(s.1:Nat):=by omega
       generalize fpN w e=f at *;simp(disch:=omega)[ge,gi,hcI];exact rndA (t+1) (by simp(disch:=omega)[heI2]) ⟨by omega,sN3,by rw[hs];exact r1,by rw[hs];exact r2⟩
    .have htE:t=w.length-i:=by omega
     subst htE;have hel:¬(i:Int)+1+((w.length-i:Nat):Int)<=(w.length:Nat):=by omega
     rw[hNE]at r1 r2;simp only at r1 r2;rw[hGn]at r1;rw[hHn]at r2;simp(disch:=omega)[hel];exact rndA (d+1) (by simp(disch:=omega)[hnx]) ⟨by omega,sN3,r1,r2⟩
   .have hdE:d=w.length:=by omega
    subst hdE;have hneg:¬(0:Int)<=(w.length:Int)-1-(w.length:Nat):=by omega
    have hE:∀ i,i<w.length->N1.get? b2 i=some (.int .i64 (fpE w i:Nat)):=fun i hi=>by
     rw[ak q2,eK (by omega)];unfold fpH;rw[if_neg (by omega)]
    clear q1 q2 k1 k2;refine sS ?_;refine lupS (rlA [10,11] 73 17) (fun x:Nat×Value=>[(11,.int .i64 (x.1:Nat)),(10,x.2)]) (fun x N'=>x.1<=w.length/\∃ L,L.length<=x.1/\iS w 0=L++iS w x.1/\Own N1 x.2 (strs L) N') (fun x=>w.length-x.1) (0,.slice none 0 0) ⟨lZe _,[],lZe _,rfl,Own.nil _⟩ ?_
    rintro⟨i,v⟩ N2 g2 ⟨hi,L,hLl,hL,ho⟩
    simp only at hi hLl hL ho;by_cases hlt2:i<w.length
    .have hltI:(i:Int)<(w.length:Nat):=by omega
     have hgE:=hE i hlt2;have hg:=aT hgE ho.sub;obtain⟨e1,e2⟩:=yu hlt2;rw[vq hlt2]at hL;have hsg:(w.take (fpE w i)).drop i=seg w i (fpE w i-i):=by unfold seg;rw[show i+(fpE w i-i)=fpE w i by omega]
     have hsl:=eM (w:=w) (a:=i) (m:=fpE w i-i) (by omega);have hL2:iS w 0=(L++[seg w i (fpE w i-i)])++iS w (fpE w i):=by rw[hL];simp
     have hil:(i:Int)<=(fpE w i:Nat):=by omega
     have hiN:i<w.length+1:=by omega
     generalize seg w i (fpE w i-i)=u at *;generalize fpE w i=e at *;simp(disch:=omega)[hltI,hg,hil,hsg];intro b' hb';refine sS ?_;refine apT ho ((Sub.refl _).put hb' _) ?_;intro v' M'' N'' ho' hs';rw[cA]at ho';have hg2:=aT (aT hgE ho'.sub) hs';simp(disch:=omega)[hg2];exact rndM M'' (e,v') hs' ⟨by simp only;omega,_,by simp only[lAp,lSi];omega,hL2,ho'⟩
    .have hiE:i=w.length:=by omega
     have hltI:¬(i:Int)<(w.length:Nat):=by omega
     rw[yX (w:=w) (i:=i) (by omega),append_nil]at hL;rw[<-hL]at ho;simp(disch:=omega)[hltI];exact ad (h _ _ (hs1.trans (sN1.trans ho.sub)) ho.rd)
  .simp(disch:=omega)[er,hrep];intro b2 hb2;simp(disch:=omega)[er,hrep,tl];refine⟨(Sub.refl M0).put hb2 _,?_⟩;intro b1 hb1;have hb1':=hb1;rw[aG]at hb1';simp(disch:=omega)[tl];refine⟨(Sub.refl _).put hb1 _,?_⟩;have hne:b1≠b2:=hb1'.1;have sN:=((Sub.refl M0).put hb2 (.cells true (ints (bB (w.length+1) fun _=>0)) (w.length+1))).trans ((Sub.refl _).put hb1 (.cells true (ints (bB (w.length+1) fun _=>0)) (w.length+1)));have k1:=ae (M0.put b2 (.cells true (ints (bB (w.length+1) fun _=>0)) (w.length+1))) b1 (.cells true (ints (bB (w.length+1) fun _=>0)) (w.length+1));have k2:((M0.put b2 (.cells true (ints (bB (w.length+1) fun _=>0)) (w.length+1))).put b1 (.cells true (ints (bB (w.length+1) fun _=>0)) (w.length+1))) b2=some (.cells true (ints (bB (w.length+1) fun _=>0)) (w.length+1)):=by rw[al _ _ (Ne.symm hne),ae]
   have hb1:=hb1'.2;clear hb1' tl hrep;generalize (M0.put b2 (.cells true (ints (bB (w.length+1) fun _=>0)) (w.length+1))).put b1 (.cells true (ints (bB (w.length+1) fun _=>0)) (w.length+1))=N at *;have hm0:∀ k,k<w.length+1->(fun _=>(0:Int)) k=fpG w 0 k:=fun k hk=>(zY w k hk).symm;have hm1:∀ k,k<w.length+1->(fun _=>(0:Int)) k=fpH w 0 k:=fun k hk=>(Hc w k hk).symm;rw[ew hm0]at k1;rw[ew hm1]at k2;clear hm0 hm1;refine lupS (rlA [8,9] 28 45) (fun d:Nat=>[(8,.int .i64 ((w.length:Int)-1-d))]) (fun d N'=>d<=w.length/\Sub M0 N'/\N' b1=some (.cells true (ints (bB (w.length+1) (fpG w d))) (w.length+1))/\N' b2=some (.cells true (ints (bB (w.length+1) (fpH w d))) (w.length+1))) (fun d=>w.length-d) 0 ⟨lZe _,sN,k1,k2⟩ ?_
   rintro d N1 g ⟨hd,sN1,q1,q2⟩
   by_cases hlt:d<w.length
   .obtain⟨i,hi⟩:∃ i,i=w.length-1-d:=⟨_,rfl⟩;have hid:i+d+1=w.length:=by omega
    have hiI:(w.length:Int)-1-d=(i:Nat):=by omega
    have hi0:(0:Int)<=(i:Nat):=by omega
    have hnx:(w.length:Int)-1-((d:Int)+1)=(i:Int)-1:=by omega
    have hl1:=dc (w.length+1) (fpG w d);have hH0:fpH w d i=0:=by unfold fpH;rw[if_pos (by omega)]
    have hst:=pL (w:=w) (i:=i) (by omega);have hGn:=yl (w:=w) hid;have hHn:=Hd (w:=w) hid;have hNE:(bQ w.length i (cw w i) (fun t=>fpN w (i+1+t)) (w.length-i))=(fpN w i,fpE w i):=by rw[<-hst];rfl
    rw[hiI];simp(disch:=omega)[hi0,q1,hl1,aj,iv];have p1:=ae N1 b1 (.cells true (ints (bB (w.length+1) (upd (fpG w d) i ((w.length:Int)+1)))) (w.length+1));have p2:(N1.put b1 (.cells true (ints (bB (w.length+1) (upd (fpG w d) i ((w.length:Int)+1)))) (w.length+1))) b2=some (.cells true (ints (bB (w.length+1) (upd (fpH w d) i 0))) (w.length+1)):=by
     rw[al _ _ (Ne.symm hne),q2,<-hH0,Ii]
    have sP:Sub M0 (N1.put b1 (.cells true (ints (bB (w.length+1) (upd (fpG w d) i ((w.length:Int)+1)))) (w.length+1))):=sN1.ovr hb1 _;generalize N1.put b1 (.cells true (ints (bB (w.length+1) (upd (fpG w d) i ((w.length:Int)+1)))) (w.length+1))=N2 at *;clear q1 q2;refine lupS (rlA [9] 39 34) (fun t:Nat=>[(9,.int .i64 ((i:Int)+1+t))]) (fun t N'=>t<=w.length-i/\Sub M0 N'/\N' b1=some (.cells true (ints (bB (w.length+1) (upd (fpG w d) i ((bQ w.length i (cw w i) (fun t=>fpN w (i+1+t)) t).1:Nat)))) (w.length+1))/\N' b2=some (.cells true (ints (bB (w.length+1) (upd (fpH w d) i ((bQ w.length i (cw w i) (fun t=>fpN w (i+1+t)) t).2:Nat)))) (w.length+1))) (fun t=>w.length-i-t) 0 ⟨lZe _,sP,by rw[jK];simpa using p1,by rw[jK];simpa using p2⟩ ?_
    rintro t N3 g3 ⟨ht,sN3,r1,r2⟩
    have hsle:=nJ (n:=w.length) (i:=i) (pal:=cw w i) (L:=fun t=>fpN w (i+1+t)) t;by_cases htl:t<w.length-i
    .obtain⟨e,he⟩:∃ e,e=i+1+t:=⟨_,rfl⟩;have heI:(i:Int)+1+t=(e:Nat):=by omega
     have heI2:(i:Int)+1+((t:Int)+1)=(e:Int)+1:=by omega
     have hel:(e:Int)<=(w.length:Nat):=by omega
     have hs:bQ w.length i (cw w i) (fun t=>fpN w (i+1+t)) (t+1)=if cw w i t&&decide (1+fpN w (i+1+t)<=(bQ w.length i (cw w i) (fun t=>fpN w (i+1+t)) t).1) then (1+fpN w (i+1+t),i+1+t) else bQ w.length i (cw w i) (fun t=>fpN w (i+1+t)) t:=rfl
     have hsg:(w.take e).drop i=seg w i (t+1):=by unfold seg;rw[show i+(t+1)=e by omega]
     have hsl:=eM (w:=w) (a:=i) (m:=t+1) (by omega);have hpa:cw w i t=cl (seg w i (t+1)):=rfl;rw[hpa]at hs;rw[<-he]at hs;have hfn:=yK w e;have hil:(i:Int)<=(e:Nat):=by omega
     generalize (bQ w.length i (cw w i) (fun t=>fpN w (i+1+t)) t)=s at *;generalize seg w i (t+1)=u at *;have l1:=dc (w.length+1) (upd (fpG w d) i (s.1:Nat));have l2:=dc (w.length+1) (upd (fpH w d) i (s.2:Nat));have ge:N3.get? b1 e=some (.int .i64 (fpN w e:Nat)):=by
      rw[ak r1,eK (by omega)];unfold upd fpG;rw[if_neg (by omega),if_neg (by omega)]
     have gi:N3.get? b1 i=some (.int .i64 (s.1:Nat)):=by
      rw[ak r1,eK (by omega)];unfold upd;rw[if_pos rfl]
     rw[heI];simp(disch:=omega)[hel];refine drwS ?_;simp(disch:=omega)[hil,hsg];refine aX (a:=[]) (c:=[]) (jO u _ _ (by omega) ⟨rfl,rfl⟩) ?_;cases hp:cl u
     .rw[hp,Bool.false_and,if_neg (by decide)]at hs;simp(disch:=omega)[undef];exact rndA (t+1) (by simp(disch:=omega)[heI2]) ⟨by omega,sN3,by rw[hs];exact r1,by rw[hs];exact r2⟩
     .rw[hp,Bool.true_and]at hs;by_cases hc:1+fpN w e<=s.1
      .rw[dTr hc,if_pos rfl]at hs;have hcI:(1:Int)+(fpN w e:Nat)<=(s.1:Nat):=by omega
       generalize fpN w e=f at *;have hff:f<=1000:=by omega
       have u1:N3.put b1 (.cells true (ints (bB (w.length+1) (upd (fpG w d) i ((1:Int)+(f:Nat))))) (w.length+1)) b2=some (.cells true (ints (bB (w.length+1) (upd (fpH w d) i (s.2:Nat)))) (w.length+1)):=by
        rw[al _ _ (Ne.symm hne)];exact r2
       have hil2:(i:Int)<(w.length:Int)+1:=by omega
       have hiN:i<w.length+1:=by omega
       have heN:e<w.length+1:=by omega
       simp(disch:=omega)[ge,gi,hcI,r1,r2,l1,l2,aj,iv,xR,hiN];refine rndA (t+1) (by simp(disch:=omega)[heI2]) ⟨by omega,(sN3.ovr hb1 _).ovr hb2 _,?_,?_⟩
       .rw[hs,al _ _ hne,ae]
        push_cast
        rfl
       .rw[hs,ae]
      .rw[dFa hc,if_neg (by decide)]at hs;have hcI:¬(1:Int)+(fpN w e:Nat)<=(s.1:Nat):=by omega
       generalize fpN w e=f at *;simp(disch:=omega)[ge,gi,hcI];exact rndA (t+1) (by simp(disch:=omega)[heI2]) ⟨by omega,sN3,by rw[hs];exact r1,by rw[hs];exact r2⟩
    .have htE:t=w.length-i:=by omega
     subst htE;have hel:¬(i:Int)+1+((w.length-i:Nat):Int)<=(w.length:Nat):=by omega
     rw[hNE]at r1 r2;simp only at r1 r2;rw[hGn]at r1;rw[hHn]at r2;simp(disch:=omega)[hel];exact rndA (d+1) (by simp(disch:=omega)[hnx]) ⟨by omega,sN3,r1,r2⟩
   .have hdE:d=w.length:=by omega
    subst hdE;have hneg:¬(0:Int)<=(w.length:Int)-1-(w.length:Nat):=by omega
    have hE:∀ i,i<w.length->N1.get? b2 i=some (.int .i64 (fpE w i:Nat)):=fun i hi=>by
     rw[ak q2,eK (by omega)];unfold fpH;rw[if_neg (by omega)]
    clear q1 q2 k1 k2;refine sS ?_;refine lupS (rlA [10,11] 73 17) (fun x:Nat×Value=>[(11,.int .i64 (x.1:Nat)),(10,x.2)]) (fun x N'=>x.1<=w.length/\∃ L,L.length<=x.1/\iS w 0=L++iS w x.1/\Own N1 x.2 (strs L) N') (fun x=>w.length-x.1) (0,.slice none 0 0) ⟨lZe _,[],lZe _,rfl,Own.nil _⟩ ?_
    rintro⟨i,v⟩ N2 g2 ⟨hi,L,hLl,hL,ho⟩
    simp only at hi hLl hL ho;by_cases hlt2:i<w.length
    .have hltI:(i:Int)<(w.length:Nat):=by omega
     have hgE:=hE i hlt2;have hg:=aT hgE ho.sub;obtain⟨e1,e2⟩:=yu hlt2;rw[vq hlt2]at hL;have hsg:(w.take (fpE w i)).drop i=seg w i (fpE w i-i):=by unfold seg;rw[show i+(fpE w i-i)=fpE w i by omega]
     have hsl:=eM (w:=w) (a:=i) (m:=fpE w i-i) (by omega);have hL2:iS w 0=(L++[seg w i (fpE w i-i)])++iS w (fpE w i):=by rw[hL];simp
     have hil:(i:Int)<=(fpE w i:Nat):=by omega
     have hiN:i<w.length+1:=by omega
     generalize seg w i (fpE w i-i)=u at *;generalize fpE w i=e at *;simp(disch:=omega)[hltI,hg,hil,hsg];intro b' hb';refine sS ?_;refine apT ho ((Sub.refl _).put hb' _) ?_;intro v' M'' N'' ho' hs';rw[cA]at ho';have hg2:=aT (aT hgE ho'.sub) hs';simp(disch:=omega)[hg2];exact rndM M'' (e,v') hs' ⟨by simp only;omega,_,by simp only[lAp,lSi];omega,hL2,ho'⟩
    .have hiE:i=w.length:=by omega
     have hltI:¬(i:Int)<(w.length:Nat):=by omega
     rw[yX (w:=w) (i:=i) (by omega),append_nil]at hL;rw[<-hL]at ho;simp(disch:=omega)[hltI];exact ad (h _ _ (hs1.trans (sN1.trans ho.sub)) ho.rd)
theorem Na{n i:Nat}{pal:Nat->Bool}{L:Nat->Nat}{t:Nat}(h:pal t=true):(bQ n i pal L (t+1)).1=if 1+L t<(bQ n i pal L t).1 then 1+L t else (bQ n i pal L t).1:=by
 have hs:bQ n i pal L (t+1)=if pal t&&decide (1+L t<=(bQ n i pal L t).1) then (1+L t,i+1+t) else bQ n i pal L t:=rfl
 rw[hs,h,Bool.true_and];by_cases hc:1+L t<=(bQ n i pal L t).1
 .rw[dTr hc,if_pos rfl];split
  .rfl
  .simp only;omega
 .rw[dFa hc,if_neg (by decide),if_neg (by omega)]
theorem IW{n i:Nat}{pal:Nat->Bool}{L:Nat->Nat}{t:Nat}(h:pal t=false):(bQ n i pal L (t+1)).1=(bQ n i pal L t).1:=by
 have hs:bQ n i pal L (t+1)=if pal t&&decide (1+L t<=(bQ n i pal L t).1) then (1+L t,i+1+t) else bQ n i pal L t:=rfl
 rw[hs,h,Bool.false_and,if_neg (by decide)]
theorem u0(w:B8)(M:Mem)(R:VP)(hl:w.length<=1099511627776)(h:∀ v M',Sub M M'->Rd M' v (strs (if isWord w then iS w 0 else []))->R (aF v (aK w)) M'):ar prog 282 [str w] M R:=by
 unfold aF aK at h;refine fnT func282 rfl ntmps282 results282 ?_;refine bg w _ _ hl ?_;cases hw:isWord w
 .rw[hw]at h;refine sS ?_;exact ad (h _ _ (Sub.refl M) (.inl ⟨none,0,rfl,rfl⟩))
 .rw[hw,if_pos rfl,if_pos rfl]at h;have h60:=au hw;have er:((w.length:Int)+1).toNat=w.length+1:=by omega
  have hrep:=Ep (w.length+1);have tl:=ju (w.length+1) (fun _=>0);simp(disch:=omega)[er,hrep];intro b1 hb1;simp(disch:=omega)[tl];have sN:=(Sub.refl M).put hb1 (.cells true (ints (bB (w.length+1) fun _=>0)) (w.length+1));have k1:=ae M b1 (.cells true (ints (bB (w.length+1) fun _=>0)) (w.length+1));clear hrep tl;generalize M.put b1 (.cells true (ints (bB (w.length+1) fun _=>0)) (w.length+1))=N at *;have hm0:∀ k,k<w.length+1->(fun _=>(0:Int)) k=fpG w 0 k:=fun k hk=>(zY w k hk).symm;rw[ew hm0]at k1;clear hm0;refine lupS (rlA [6,7] 21 34) (fun d:Nat=>[(6,.int .i64 ((w.length:Int)-1-d))]) (fun d N'=>d<=w.length/\Sub M N'/\N' b1=some (.cells true (ints (bB (w.length+1) (fpG w d))) (w.length+1))) (fun d=>w.length-d) 0 ⟨lZe _,sN,k1⟩ ?_
  rintro d N1 g ⟨hd,sN1,q1⟩
  by_cases hlt:d<w.length
  .obtain⟨i,hi⟩:∃ i,i=w.length-1-d:=⟨_,rfl⟩;have hid:i+d+1=w.length:=by omega
   have hiI:(w.length:Int)-1-d=(i:Nat):=by omega
   have hi0:(0:Int)<=(i:Nat):=by omega
   have hnx:(w.length:Int)-1-((d:Int)+1)=(i:Int)-1:=by omega
   have hl1:=dc (w.length+1) (fpG w d);have hst:=pL (w:=w) (i:=i) (by omega);have hGn:=yl (w:=w) hid;have hNE:(bQ w.length i (cw w i) (fun t=>fpN w (i+1+t)) (w.length-i)).1=fpN w i:=by rw[<-hst];rfl
   rw[hiI];simp(disch:=omega)[hi0,q1,hl1,aj,iv];have p1:=ae N1 b1 (.cells true (ints (bB (w.length+1) (upd (fpG w d) i ((w.length:Int)+1)))) (w.length+1));have sP:Sub M (N1.put b1 (.cells true (ints (bB (w.length+1) (upd (fpG w d) i ((w.length:Int)+1)))) (w.length+1))):=sN1.ovr hb1 _;generalize N1.put b1 (.cells true (ints (bB (w.length+1) (upd (fpG w d) i ((w.length:Int)+1)))) (w.length+1))=N2 at *;clear q1;refine lupS (rlA [7] 32 23) (fun t:Nat=>[(7,.int .i64 ((i:Int)+1+t))]) (fun t N'=>t<=w.length-i/\Sub M N'/\N' b1=some (.cells true (ints (bB (w.length+1) (upd (fpG w d) i ((bQ w.length i (cw w i) (fun t=>fpN w (i+1+t)) t).1:Nat)))) (w.length+1))) (fun t=>w.length-i-t) 0 ⟨lZe _,sP,by rw[jK];simpa using p1⟩ ?_
   rintro t N3 g3 ⟨ht,sN3,r1⟩
   have hsle:=nJ (n:=w.length) (i:=i) (pal:=cw w i) (L:=fun t=>fpN w (i+1+t)) t;by_cases htl:t<w.length-i
   .obtain⟨e,he⟩:∃ e,e=i+1+t:=⟨_,rfl⟩;have heI:(i:Int)+1+t=(e:Nat):=by omega
    have heI2:(i:Int)+1+((t:Int)+1)=(e:Int)+1:=by omega
    have hel:(e:Int)<=(w.length:Nat):=by omega
    have hs1:=fun hp=>Na (n:=w.length) (i:=i) (pal:=cw w i) (L:=fun t=>fpN w (i+1+t)) (t:=t) hp;have hs0:=fun hp=>IW (n:=w.length) (i:=i) (pal:=cw w i) (L:=fun t=>fpN w (i+1+t)) (t:=t) hp;have hsg:(w.take e).drop i=seg w i (t+1):=by unfold seg;rw[show i+(t+1)=e by omega]
    have hsl:=eM (w:=w) (a:=i) (m:=t+1) (by omega);have hpa:cw w i t=cl (seg w i (t+1)):=rfl;rw[hpa]at hs1 hs0;rw[<-he]at hs1;have hfn:=yK w e;have hil:(i:Int)<=(e:Nat):=by omega
    generalize (bQ w.length i (cw w i) (fun t=>fpN w (i+1+t)) t).1=s at *;generalize seg w i (t+1)=u at *;have l1:=dc (w.length+1) (upd (fpG w d) i (s:Nat));have ge:N3.get? b1 e=some (.int .i64 (fpN w e:Nat)):=by
     rw[ak r1,eK (by omega)];unfold upd fpG;rw[if_neg (by omega),if_neg (by omega)]
    have gi:N3.get? b1 i=some (.int .i64 (s:Nat)):=by
     rw[ak r1,eK (by omega)];unfold upd;rw[if_pos rfl]
    rw[heI];simp(disch:=omega)[hel,hil,hsg];refine ik u _ _ (by omega) ?_;cases hp:cl u
    .have hs:=hs0 hp;refine sS ?_;exact rndA (t+1) (by simp(disch:=omega)[heI2]) ⟨by omega,sN3,by rw[hs];exact r1⟩
    .have hs:=hs1 hp;have hiN:i<w.length+1:=by omega
     have heN:e<w.length+1:=by omega
     refine sS ?_;refine plyS (ai [0,1,2,3,4,5,6,7,8,9,10,11,12] (.one 13 2 .fin)) ?_;by_cases hc:1+fpN w e<s
     .rw[if_pos hc]at hs;have hcI:(1:Int)+(fpN w e:Nat)<(s:Nat):=by omega
      generalize fpN w e=f at *;have hff:f<=1000:=by omega
      simp(disch:=omega)[ge,gi,hcI,r1,l1,aj,iv,xR,hiN];refine rndA (t+1) (by simp(disch:=omega)[heI2]) ⟨by omega,sN3.ovr hb1 _,?_⟩;rw[hs,ae]
      push_cast
      rfl
     .rw[if_neg hc]at hs;have hcI:¬(1:Int)+(fpN w e:Nat)<(s:Nat):=by omega
      generalize fpN w e=f at *;have hff:f<=1000:=by omega
      simp(disch:=omega)[ge,gi,hcI,r1,l1,aj,iv,xR,hiN];refine rndA (t+1) (by simp(disch:=omega)[heI2]) ⟨by omega,sN3.ovr hb1 _,?_⟩;rw[hs,ae]
   .have htE:t=w.length-i:=by omega
    subst htE;have hel:¬(i:Int)+1+((w.length-i:Nat):Int)<=(w.length:Nat):=by omega
    rw[hNE]at r1;rw[hGn]at r1;simp(disch:=omega)[hel];exact rndA (d+1) (by simp(disch:=omega)[hnx]) ⟨by omega,sN3,r1⟩
  .have hdE:d=w.length:=by omega
   subst hdE;have hneg:¬(0:Int)<=(w.length:Int)-1-(w.length:Nat):=by omega
   have hG:∀ i,i<w.length+1->N1.get? b1 i=some (.int .i64 (fpN w i:Nat)):=fun i hi=>by
    rw[ak q1,eK (by omega)];unfold fpG;rw[if_neg (by omega)]
   clear q1 k1;refine sS ?_;intro b0 hb0;refine sS ?_;refine lupS (rlA [8,9,10] 56 34) (fun x:Nat×Value=>[(9,.int .i64 (x.1:Nat)),(8,x.2)]) (fun x N'=>x.1<=w.length/\∃ L,L.length<=x.1/\iS w 0=L++iS w x.1/\Own N1 x.2 (strs L) N') (fun x=>w.length-x.1) (0,.slice (some ⟨b0,0,none⟩) 0 0) ⟨lZe _,[],lZe _,rfl,Own.new hb0 rfl (lRf 0)⟩ ?_
   rintro⟨i,v⟩ N2 g2 ⟨hi,L,hLl,hL,ho⟩
   simp only at hi hLl hL ho;by_cases hlt2:i<w.length
   .have hltI:(i:Int)<(w.length:Nat):=by omega
    obtain⟨e1,e2⟩:=yu hlt2;obtain⟨t,f1,f2,f3,f4,f5⟩:=TP hlt2;rw[vq hlt2]at hL;have hgi:=aT (hG i (by omega)) ho.sub;simp(disch:=omega)[hltI];refine lupS (rlA [8,9,10] 60 30) (fun k:Nat=>[(10,.int .i64 k),(9,.int .i64 i),(8,v)]) (fun k N'=>N2=N'/\fpE w i<=k/\k<=w.length) (fun k=>k) w.length ⟨rfl,e2,lRf _⟩ ?_
    rintro k N3 g3 ⟨rfl,hk1,hk2⟩
    have hkI:(i:Int)<(k:Nat):=by omega
    have hgk:=aT (hG k (by omega)) ho.sub;have hil:(i:Int)<=(k:Nat):=by omega
    obtain⟨s,hsE⟩:∃ s,k=i+1+s:=⟨k-i-1,by omega⟩;have hsg:(w.take k).drop i=seg w i (s+1):=by unfold seg;rw[show i+(s+1)=k by omega]
    have hsl:=eM (w:=w) (a:=i) (m:=s+1) (by omega);have hpa:cw w i s=cl (seg w i (s+1)):=rfl;have hnn:=yK w k;have hni:=yK w i;have hkN:k<w.length+1:=by omega
    have hiN:i<w.length+1:=by omega
    by_cases hkE:k=fpE w i
    .have hst:s=t:=by omega
     have hpt:cl (seg w i (s+1))=true:=by rw[<-hpa,hst];exact f2
     have hfe:fpN w i=1+fpN w k:=by rw[f3,hsE,hst]
     have hfeI:((fpN w i:Nat):Int)=1+(fpN w k:Nat):=by omega
     have hL2:iS w 0=(L++[seg w i (s+1)])++iS w k:=by
      rw[hL,<-hkE,show k-i=s+1 by omega];simp
     generalize seg w i (s+1)=u at *;generalize fpN w i=fi at *;generalize fpN w k=fk at *;simp(disch:=omega)[hkI];refine drwS ?_;simp(disch:=omega)[hil,hsg];refine aX (a:=[]) (c:=[]) (ik u _ _ (by omega) ⟨rfl,rfl⟩) ?_;rw[hpt];simp(disch:=omega)[hgi,hgk,hfe,hil,hsg];intro b' hb';refine sS ?_;refine apT ho ((Sub.refl _).put hb' _) ?_;intro v' M'' N'' ho' hs';rw[cA]at ho';refine sS ?_;exact rndM M'' (k,v') hs' ⟨by simp only;omega,_,by simp only[lAp,lSi];omega,hL2,ho'⟩
    .have hnot:=f5 s (by omega) (by omega);rw[hpa,<-hsE]at hnot;have hkm:(k:Int)-1=((k-1:Nat):Int):=by omega
     generalize seg w i (s+1)=u at *;generalize fpN w i=fi at *;generalize fpN w k=fk at *;simp(disch:=omega)[hkI];refine drwS ?_;simp(disch:=omega)[hil,hsg];refine aX (a:=[]) (c:=[]) (ik u _ _ (by omega) ⟨rfl,rfl⟩) ?_;cases hpt:cl u
     .simp(disch:=omega)[undef];exact rndA (k-1) (by simp(disch:=omega)[hkm]) ⟨rfl,by omega,by omega⟩
     .have hne:¬ fi=1+fk:=fun q=>hnot ⟨hpt,q⟩;have hneI:((fi:Int)==1+(fk:Int))=false:=bNe.2 (by omega);have hneI2:¬(fi:Int)=1+(fk:Int):=by omega
      simp(disch:=omega)[hgi,hgk,hneI];exact rndA (k-1) (by simp(disch:=omega)[hkm]) ⟨rfl,by omega,by omega⟩
   .have hiE:i=w.length:=by omega
    have hltI:¬(i:Int)<(w.length:Nat):=by omega
    rw[yX (w:=w) (i:=i) (by omega),append_nil]at hL;rw[<-hL]at ho;simp(disch:=omega)[hltI];exact ad (h _ _ (sN1.trans ho.sub) ho.rd)
theorem Ek{w u:B8}{i:Nat}:u.isPrefixOf (w.drop i)=(seg w i u.length==u):=by
 rw[Bool.eq_iff_iff,beq_iff_eq,isPrefixOf_iff_prefix,prefix_iff_eq_take];unfold seg;rw[drop_take,Nat.add_sub_cancel_left];exact eq_comm
theorem K8{w u:B8}{b:Nat}(hu:u=w.take b)(hb:u.length=b):∀ t,1<=(rD w u (t+1)).length/\(((rD w u (t+1)).length=1)↔wh w b t=true)
 | 0=>by
  have h0:u.isPrefixOf (w.drop 0)=true:=by
   rw[Ek,hb,oQ,hu];exact beq_self_eq_true _
  have e:rD w u 1=[0]:=by
   rw[show 1=0+1 from rfl,lE,if_pos h0];rfl
  rw[e];exact⟨lRf _,fun _=>rfl,fun _=>rfl⟩
 | t+1=>by
  obtain⟨h1,h2⟩:=K8 hu hb t;rw[lE,yf,Ek,hb,<-hu,lAp];cases hc:(seg w (t+1) b==u)
  .rw[if_neg (by decide)];simp only[length_nil,Nat.add_zero,Bool.not_false,Bool.and_true];exact⟨h1,h2⟩
  .rw[if_pos rfl];simp only[lSi,Bool.not_true,Bool.and_false];exact⟨by omega,fun h=>by omega,fun h=>by cases h⟩
theorem SV{w:B8}{b:Nat}(h1:1<=b)(h2:b<w.length)(hbo:w.drop (w.length-b)=w.take b):decide ((FH w (w.take b)).length=2)=DD w b:=by
 have hl:(w.take b).length=b:=by rw[lTa];omega
 obtain⟨t,ht⟩:∃ t,w.length-b=t+1:=⟨w.length-b-1,by omega⟩;rw[RF (n:=w.length-b+1) (by omega) (by omega),lE,Ek,hl];have hs:seg w (w.length-b) b=w.take b:=by
  unfold seg;rw[show w.length-b+b=w.length by omega,take_length,hbo]
 rw[hs,beq_self_eq_true,if_pos rfl,lAp,lSi,ht];obtain⟨q1,q2⟩:=K8 (w:=w) (u:=w.take b) rfl hl t;unfold DD;rw[show w.length-b-1=t by omega,Bool.eq_iff_iff,dTe,<-q2];omega
def DI(pv:Bool)(w:B8)(n:Nat):Bool:=if pv then qx w n else nA w n
theorem Mx(pv:Bool)(w:B8):DI pv w 0=false:=by cases pv<;>rfl
theorem tU(w:B8)(M:Mem)(R:VP)(h60:w.length<=60)(h:∀ v M',Sub M M'->Rd M' v (strs (qU w (w.length-1)))->R v M'):ar prog 422 [str w] M R:=by
 refine fnT func422 rfl ntmps422 results422 ?_;refine lupS (rlA [] 3 31) (fun x:Nat×Value=>[(4,.int .i64 ((x.1:Int)+1)),(3,x.2)]) (fun x N=>x.1<=w.length-1/\∃ Mb,Sub M Mb/\Own Mb x.2 (strs (qU w x.1)) N) (fun x=>w.length-1-x.1) (0,.slice none 0 0) ⟨lZe _,M,Sub.refl _,Own.nil _⟩ ?_
 rintro⟨i,v⟩ N g ⟨hi,Mb,sB,ho⟩
 simp only at hi ho;have hrl:=yr w i;by_cases hlt:i<w.length-1
 .have hltI:(i:Int)+1<(w.length:Nat):=by omega
  have hs:=vG w i;obtain⟨b,hb⟩:∃ b,b=i+1:=⟨_,rfl⟩;have hbI:(i:Int)+1=(b:Nat):=by omega
  rw[<-hb]at hs;rw[hbI]at hltI ⊢;have e:(w.length:Int)-b=((w.length-b:Nat):Int):=by omega
  have hret:ta w b=((w.drop (w.length-b)==w.take b)&&DD w b):=rfl;have h2:=SV (w:=w) (b:=b) (by omega) (by omega);have htl:(w.take b).length=b:=by rw[lTa];omega
  generalize qU w i=L at *;by_cases hbo:w.drop (w.length-b)=w.take b
  .have h2:=h2 hbo;rw[hbo,beq_self_eq_true,Bool.true_and]at hret;generalize hTb:w.take b=u at *;simp(disch:=omega)[hltI,e,hbo,hTb];refine FQ w u _ _ h60 (by omega) ?_;intro vp N1 op;have s1:=op.sub;have hlen:=Hp w u (w.length+1);obtain⟨ap,cp,rfl,_⟩:=op.rd.opened;rw[az,CV];have hpl:FH w u=rD w u (w.length+1):=rfl;rw[<-hpl]at hlen;cases ht:DD w b
   .rw[ht]at h2 hret;have h2:=of_decide_eq_false h2;have h2I:(((FH w u).length:Int)==2)=false:=bNe.2 (by omega);rw[hret,if_neg (by decide),append_nil]at hs;rw[<-hs]at ho;generalize (FH w u).length=n at *;simp(disch:=omega)[h2I];exact rndM N (b,v) s1 ⟨by simp only;omega,Mb,sB,ho⟩
   .rw[ht]at h2 hret;have h2:=of_decide_eq_true h2;rw[hret,if_pos rfl]at hs;generalize (FH w u).length=n at *;simp(disch:=omega)[h2];intro b' hb';refine sS ?_;refine apT ho (s1.trans ((Sub.refl _).put hb' _)) ?_;intro v' M'' N'' ho' hs';rw[cA,<-hs]at ho';refine sS ?_;exact rndM M'' (b,v') hs' ⟨by simp only;omega,Mb,sB,ho'⟩
  .have hbb:(w.drop (w.length-b)==w.take b)=false:=bNe.2 hbo;rw[hbb,Bool.false_and]at hret;rw[hret,if_neg (by decide),append_nil]at hs;rw[<-hs]at ho;simp(disch:=omega)[hltI,e,hbb];exact rndS (b,v) ⟨by simp only;omega,Mb,sB,ho⟩
 .have hltI:¬(i:Int)+1<(w.length:Nat):=by omega
  have hiE:i=w.length-1:=by omega
  rw[hiE]at ho;simp(disch:=omega)[hltI];exact ad (h _ _ (sB.trans ho.sub) ho.rd)
theorem Bl(w:B8)(M:Mem)(R:VP)(h60:w.length<=60)(h:∀ M',Sub M M'->R (.bool (A3 w)) M'):ar prog 395 [str w] M R:=by
 unfold A3 at h;refine fnS func395 rfl ntmps395 results395 ?_;by_cases h1:w.length<=1
 .rw[dTr h1,Bool.true_or]at h;have h1I:(w.length:Int)<=1:=by omega
  simp(disch:=omega)[h1I];exact ad (h _ (Sub.refl M))
 .rw[dFa h1,Bool.false_or]at h;have h1I:¬(w.length:Int)<=1:=by omega
  simp(disch:=omega)[h1I];refine tU w _ _ h60 ?_;intro v N s r;have he:=IX w (w.length-1);have hrl:=yr w (w.length-1);obtain⟨a,c,rfl,_⟩:=r.opened;rw[ah];have h:=h N s;generalize (qU w (w.length-1)).length=n at *;have hde:decide ((0:Int)<(n:Nat))=nA w (w.length-1):=by
   rw[Bool.eq_iff_iff,<-he,dTe];omega
  generalize nA w (w.length-1)=cb at *;by_cases hn:0<n
  .have hnI:(0:Int)<n:=by omega
   rw[dTr hnI]at hde;rw[<-hde]at h;simp(disch:=omega)[hn];exact ad h
  .have hnI:¬(0:Int)<n:=by omega
   rw[dFa hnI]at hde;rw[<-hde]at h;simp(disch:=omega)[hn];exact ad h
theorem um:∀(d:Nat) (w:B8) (M:Mem) (R:VP),w.length=d->w.length<=60->R (.bool (fS w)) M->ar prog 396 [str w] M R:=by
 intro d
 induction d using Nat.strongRecOn with
 | ind d ih=>?_
 intro w M R hd h60 h;rw[It]at h;refine fnS func396 rfl ntmps396 results396 ?_;by_cases h1:w.length<=1
 .rw[dTr h1,Bool.true_or]at h;have h1I:(w.length:Int)<=1:=by omega
  simp(disch:=omega)[h1I];exact ad h
 .rw[dFa h1,Bool.false_or]at h;have h1I:¬(w.length:Int)<=1:=by omega
  simp(disch:=omega)[h1I];refine tU w _ _ h60 ?_;intro v N s r;have hrl:=yr w (w.length-1);refine sS ?_;refine jt v _ (strs (qU w (w.length-1))) (onS fS) (fun _=>True) _ _ r trivial ?_ (by rw[ah];omega) ?_
  .intro x hx K Q _ hQ;obtain⟨u,hu,rfl⟩:=mem_map.1 hx;obtain⟨b,hb,rfl⟩:=RV u hu;have hul:(w.take (b+1)).length=b+1:=by rw[lTa];omega
   rw[xO]at hQ;generalize w.take (b+1)=u at *;refine sS ?_;exact ih u.length (by omega) u _ _ rfl (by omega) hQ
  .have e:(strs (qU w (w.length-1))).any (onS fS)=qx w (w.length-1):=by
    rw[<-Qr];unfold strs;rw[any_map]
    congr 1
   rw[e];refine sS ?_;exact ag s h
theorem D8(w:B8)(M:Mem)(R:VP)(h60:w.length<=60)(h:∀ M',Sub M M'->R (.bool (fS w)) M'):ar prog 396 [str w] M R:=um _ w M R rfl h60 (h M (Sub.refl M))
theorem y4(w:B8)(M:Mem)(R:VP)(hl:w.length<=1099511627776)(h:∀ M',Sub M M'->R (aF (.bool (isWord w&&A3 w)) (aK w)) M'):ar prog 345 [str w] M R:=by
 unfold aF aK at h;refine fnT func345 rfl ntmps345 results345 ?_;intro b1 hb1;refine sS ?_;have hs1:=(Sub.refl M).put hb1 (.cells true [str w] 1);refine bA _ _ [w] true (fun _=>True) _ _ (Rd.new rfl (lRf 1)) (gM hl) (by simp) trivial bW (bK _) ?_;rw[dq];cases hw:isWord w
 .rw[hw]at h;refine sS ?_;exact ad (h _ hs1)
 .rw[hw,Bool.true_and,if_pos rfl]at h;have h60:=au hw;refine sS ?_;refine Bl w _ _ h60 ?_;intro M2 s2;refine sS ?_;exact ad (h _ (hs1.trans s2))
theorem rv(w:B8)(M:Mem)(R:VP)(hl:w.length<=1099511627776)(h:∀ M',Sub M M'->R (aF (.bool (isWord w&&fS w)) (aK w)) M'):ar prog 346 [str w] M R:=by
 unfold aF aK at h;refine fnT func346 rfl ntmps346 results346 ?_;intro b1 hb1;refine sS ?_;have hs1:=(Sub.refl M).put hb1 (.cells true [str w] 1);refine bA _ _ [w] true (fun _=>True) _ _ (Rd.new rfl (lRf 1)) (gM hl) (by simp) trivial bW (bK _) ?_;rw[dq];cases hw:isWord w
 .rw[hw]at h;refine sS ?_;exact ad (h _ hs1)
 .rw[hw,Bool.true_and,if_pos rfl]at h;have h60:=au hw;refine sS ?_;refine D8 w _ _ h60 ?_;intro M2 s2;refine sS ?_;exact ad (h _ (hs1.trans s2))
theorem BG(w:B8)(b:Nat)(M:Mem)(R:VP)(h60:w.length<=60)(hb:1<=b)(hb':b<w.length)(h:R (.bool (DD w b)) M):ar prog 405 [str w,.int .i64 b] M R:=by
 unfold DD at h;refine fnT func405 rfl ntmps405 results405 ?_;refine lupS (rlA [] 4 20) (fun i:Nat=>[(5,.int .i64 ((i:Int)+1))]) (fun i M'=>M=M'/\i<=w.length-b-1/\wh w b i=true) (fun i=>w.length-b-1-i) 0 ⟨rfl,lZe _,rfl⟩ ?_
 rintro i M' g ⟨rfl,hi,hall⟩
 by_cases hlt:i<w.length-b-1
 .obtain⟨q,hq⟩:∃ q,q=i+1:=⟨_,rfl⟩;have hqI:(i:Int)+1=(q:Nat):=by omega
  have hltI:(q:Int)+b<(w.length:Nat):=by omega
  have hs:=yf w b i;rw[hall,Bool.true_and,<-hq]at hs;have hno:=fun hc=>Q9 (w:=w) (b:=b) (n:=w.length-b-1) (i:=i) hlt hc;rw[<-hq]at hno;have hsg:=gp (w:=w) (a:=q) (m:=b);rw[hqI];generalize seg w q b=u at *;simp(disch:=omega)[hltI];refine drwS ?_;by_cases hc:u=w.take b
  .have hcb:(u==w.take b)=true:=by rw[hc];exact beq_self_eq_true _
   rw[hno hcb]at h;simp(disch:=omega)[hsg,hc];exact ad h
  .have hcb:(u==w.take b)=false:=bNe.2 hc;rw[hcb]at hs;simp(disch:=omega)[hsg,hcb];exact rndS q ⟨rfl,by omega,hs⟩
 .have hiE:i=w.length-b-1:=by omega
  have hltI:¬(i:Int)+1+b<(w.length:Nat):=by omega
  rw[hiE]at hall;rw[hall]at h;simp(disch:=omega)[hltI];exact ad h
theorem oG:∀(d:Nat) (w:B8) (pv:Bool) (M:Mem) (R:VP),w.length=d->w.length<=60->R (.bool (if pv then fS w else A3 w)) M->ar prog 366 [str w,.bool pv] M R:=by
 intro d
 induction d using Nat.strongRecOn with
 | ind d ih=>?_
 intro w pv M R hd h60 h;have hfin:(if pv then fS w else A3 w)=(decide (w.length<=1)||DI pv w (w.length-1)):=by
  unfold DI;cases pv
  .rfl
  .rw[if_pos rfl,if_pos rfl];exact It w
 rw[hfin]at h;refine fnS func366 rfl ntmps366 results366 ?_;by_cases h1:w.length<=1
 .rw[dTr h1,Bool.true_or]at h;have h1I:(w.length:Int)<2:=by omega
  simp(disch:=omega)[h1I];exact ad h
 .rw[dFa h1,Bool.false_or]at h;have h1I:¬(w.length:Int)<2:=by omega
  simp(disch:=omega)[h1I];refine lupS (rlA [4,5] 9 31) (fun i:Nat=>[(5,.int .i64 ((i:Int)+1))]) (fun i M'=>M=M'/\i<=w.length-1/\DI pv w i=false) (fun i=>w.length-1-i) 0 ⟨rfl,lZe _,Mx pv w⟩ ?_
  rintro i M' g ⟨rfl,hi,hall⟩
  by_cases hlt:i<w.length-1
  .obtain⟨b,hb⟩:∃ b,b=i+1:=⟨_,rfl⟩;have hbI:(i:Int)+1=(b:Nat):=by omega
   have hltI:(b:Int)<(w.length:Nat):=by omega
   have hcs:=ze w i;have hps:=Ax w i;have hcy:=fun h=>MO (w:=w) (b:=i) (n:=w.length-1) hlt h;have hpy:=fun h h2=>OQ (w:=w) (b:=i) (n:=w.length-1) hlt h h2;rw[<-hb]at hcs hps hcy hpy;have e:(w.length:Int)-b=((w.length-b:Nat):Int):=by omega
   have hret:ta w b=((w.drop (w.length-b)==w.take b)&&DD w b):=rfl;have htl:(w.take b).length=b:=by rw[lTa];omega
   have hIH:=fun Q=>ih b (by omega) (w.take b) true M Q htl (by omega);rw[hbI];simp(disch:=omega)[hltI];refine drwS ?_;by_cases hbo:w.take b=w.drop (w.length-b)
   .rw[<-hbo,beq_self_eq_true,Bool.true_and]at hret;simp(disch:=omega)[e,hbo.symm];refine aX (a:=[]) (c:=[]) (BG w b _ _ h60 (by omega) (by omega) ⟨rfl,rfl⟩) ?_;cases ht:DD w b
    .rw[ht]at hret;rw[hret,Bool.or_false]at hcs;rw[hret,Bool.false_and,Bool.or_false]at hps;simp(disch:=omega)[undef];exact rndS b ⟨rfl,by omega,by unfold DI at hall ⊢;rw[hcs,hps];exact hall⟩
    .rw[ht]at hret;cases pv
     .unfold DI at h;rw[if_neg (by decide),hcy hret]at h;simp(disch:=omega)[undef];exact ad h
     .refine sS ?_;refine aX (a:=[]) (c:=[]) (hIH _ ⟨rfl,rfl⟩) ?_;rw[if_pos rfl];cases hpb:fS (w.take b)
      .rw[hret,hpb,Bool.and_false,Bool.or_false]at hps;refine sS ?_;exact rndS b ⟨rfl,by omega,by unfold DI at hall ⊢;rw[if_pos rfl]at hall ⊢;rw[hps];exact hall⟩
      .unfold DI at h;rw[if_pos rfl,hpy hret hpb]at h;refine sS ?_;exact ad h
   .have hbb:(w.take b==w.drop (w.length-b))=false:=bNe.2 hbo;have hbb2:(w.drop (w.length-b)==w.take b)=false:=bNe.2 (Ne.symm hbo);rw[hbb2,Bool.false_and]at hret;rw[hret,Bool.or_false]at hcs;rw[hret,Bool.false_and,Bool.or_false]at hps;simp(disch:=omega)[e,hbb,undef];exact rndS b ⟨rfl,by omega,by unfold DI at hall ⊢;rw[hcs,hps];exact hall⟩
  .have hltI:¬(i:Int)+1<(w.length:Nat):=by omega
   have hiE:i=w.length-1:=by omega
   rw[hiE]at hall;rw[hall]at h;simp(disch:=omega)[hltI];exact ad h
theorem yL(w:B8)(M:Mem)(R:VP)(hl:w.length<=1099511627776)(h:R (aF (.bool (isWord w&&A3 w)) (aK w)) M):ar prog 288 [str w] M R:=by
 unfold aF aK at h;refine fnT func288 rfl ntmps288 results288 ?_;refine bg w _ _ hl ?_;cases hw:isWord w
 .rw[hw]at h;refine sS ?_;exact ad h
 .rw[hw,Bool.true_and,if_pos rfl]at h;refine sS ?_;refine oG _ w false _ _ rfl (au hw) ?_;refine sS ?_;exact ad h
theorem qX(w:B8)(M:Mem)(R:VP)(hl:w.length<=1099511627776)(h:R (aF (.bool (isWord w&&fS w)) (aK w)) M):ar prog 289 [str w] M R:=by
 unfold aF aK at h;refine fnT func289 rfl ntmps289 results289 ?_;refine bg w _ _ hl ?_;cases hw:isWord w
 .rw[hw]at h;refine sS ?_;exact ad h
 .rw[hw,Bool.true_and,if_pos rfl]at h;refine sS ?_;refine oG _ w true _ _ rfl (au hw) ?_;refine sS ?_;exact ad h
theorem Ge(w:B8)(M:Mem)(R:VP)(hl:w.length<=60)(h1:1<=w.length)(h:R (.int .i64 ((w.length:Int)-(Fe w:Nat))) M):ar prog 268 [str w] M R:=by
 refine fnT func268 rfl ntmps268 results268 ?_;refine lupS (rlA [] 2 16) (fun i:Nat=>[(3,.int .i64 i)]) (fun i M'=>M'=M/\i<=w.length/\∀ j,j<i->cl (w.drop j)=false) (fun i=>w.length-i) 0 ⟨rfl,by omega,fun j hj=>by omega⟩ ?_
 rintro i M' g ⟨rfl,hi,hno⟩
 by_cases hlt:i<w.length
 .have hltI:(i:Int)<(w.length:Nat):=by omega
  simp(disch:=omega)[hltI];refine ik (w.drop i) _ _ (by rw[lDr];omega) ?_;cases hp:cl (w.drop i)
  .refine sS ?_;refine rndS (i+1) ⟨rfl,by omega,fun j hj=>?_⟩;by_cases e:j=i
   .rw[e,hp]
   .exact hno j (by omega)
  .rw[LU hi hp hno]at h;refine sS ?_;exact ad h
 .exfalso;have hq:=hno (w.length-1) (by omega);have:w.drop (w.length-1)=[w[w.length-1]]:=by
   rw[drop_eq_getElem_cons (by omega),drop_of_length_le (by omega)]
  rw[this,sE]at hq;cases hq
theorem xl(w:B8)(M:Mem)(R:VP)(hl:w.length<=60)(h:∀ M',Sub M M'->R (str (mV w)) M'):ar prog 180 [str w] M R:=by
 have he:=LM w;refine fnS func180 rfl ntmps180 results180 ?_;by_cases h0:w=[]
 .subst h0;refine sS ?_;exact ad (h _ (Sub.refl M))
 .have h1:1<=w.length:=length_pos_iff.2 h0;have hb:(w==[])=false:=jx h0;have he2:w.isEmpty=false:=by cases w with
   | nil=>exact absurd rfl h0
   | cons a l=>rfl
  unfold mV at h;simp(disch:=omega)[hb];refine Ge w _ _ hl h1 ?_;obtain⟨i,hi⟩:∃ i,i=Fe w:=⟨_,rfl⟩;rw[<-hi]at h he ⊢;have e1:((w.length:Int)-((w.length:Int)-i))=i:=by omega
  simp(disch:=omega)[e1];refine ib (w.take i) _ _ (by rw[lTa];omega) ?_;intro M' s;refine sS ?_;exact ad (h _ s)
theorem AM(w:B8)(M:Mem)(R:VP)(hl:w.length<=1099511627776)(h:∀ M',Sub M M'->R (aF (str (ql w)) (qo w)) M'):ar prog 116 [str w] M R:=by
 unfold aF ql qo at h;refine fnT func116 rfl ntmps116 results116 ?_;refine bg w _ _ hl ?_;cases hw:isWord w
 .rw[hw]at h;refine sS ?_;exact ad (h _ (Sub.refl M))
 .rw[hw,if_pos rfl,if_pos rfl]at h;have h60:=au hw;have hcl:=C0 w;refine sS ?_;refine xl w _ _ h60 ?_;intro M' s;generalize mV w=u at *;by_cases hc:u.length<=60
  .rw[if_pos hc,if_pos hc]at h;have hcI:¬(60:Int)<u.length:=by omega
   simp(disch:=omega)[hcI];exact ad (h _ s)
  .rw[if_neg hc,if_neg hc]at h;have hcI:(60:Int)<u.length:=by omega
   simp(disch:=omega)[hcI];exact ad (h _ s)
end Go.Proofs.YtapimhjbilkfpaaGreatDoor
namespace Go.Proofs.YtapimhjbilkfpaaGreatDoor
open Go Go.Maps Go.Proofs.Tryz Go.RowKit Go.Shelf List
attribute [local go_sem] Oper.semAt_some
theorem FU{M:Mem}{w:World}(h:Rep M w){b:Nat}{B:Blk}(hB:M b=some B):b<w.heap.size:=by
 have hold:=h b B hB;rcases Nat.lt_or_ge b w.heap.size with hlt|hge
 .exact hlt
 .cases B with
  | cells own xs tot=>obtain⟨c,e,fr,q,_⟩:=hold;rw[Array.getElem?_eq_none hge]at q;cases q
  | obj o=>obtain⟨q,_⟩:=hold;rw[Array.getElem?_eq_none hge]at q;cases q
theorem Jr{M:Mem}{w w':World}(h:Rep M w)(hb:Below w.heap.size w w'):Rep M w':=fun b B hB=>Blk.holds_of (hb.block b (FU h hB)) (h b B hB)
abbrev nj(u:UInt8):Value:=.int .u8 u.toNat
set_option maxRecDepth 100000 in
theorem Qq(F:Fence)(n:Nat)(h7:F.fn 429)(hro:F.round=none)(hn:1<=n)(l Bs n₀ b off len cap:Nat)(zs:B8)(hreach:len<=1000000)(hb:b<n₀)(J:B8->World->Prop)
  (hY:∀ pre x W,J pre W->pre.length<len->YieldAt F (n-1) prog l #[nj x] W fun e W'=>e=.returned (.bool true)/\J (pre++[x]) W'/\Below n₀ W W')
  (W:World) (hBs:W.cell? ⟨Bs,0,none⟩=some (.slice (some ⟨b,off,none⟩) len cap)) (hc:∀ j,j<len->W.cell? ⟨b,off+j,none⟩=some (nj (zs[j]?.getD 0))) (hlen:zs.length=len) (h0:J [] W) :
  CallsIn F n prog 429 #[.func (.yield l) #[] #[],.pointer (some ⟨Bs,0,none⟩)] W fun e W'=>(∃ v,e=.returned v)/\J zs W':=by
 refine callsIn_of_wp func429 rfl h7 ?_ hro;simp only[ntmps429,size_toArray,lCo,length_nil,Nat.reduceAdd,Nat.reduceSub,Array.replicate_succ,Array.replicate_zero,push_toArray,append_toArray,nil_append,cons_append]
 gi_wp2
 gi_loopw [7] (fun i wr=>∃ k:Nat,k<=len/\i=.int .i64 k/\J (zs.take k) wr/\Below n₀ W wr)
  (fun i _=>len-(intOf i).toNat)
 case atStart=>exact⟨0,lZe _,rfl,h0,Below.refl _ _⟩
 case round=>
  obtain⟨k,hk,rfl,hJs,hnx⟩:=hrel;have hcx:k<len->wr.cell? ⟨b,off+k,none⟩=some (nj (zs[k]?.getD 0)):=fun h=>(hnx.cell (p:=⟨b,off+k,none⟩) hb).trans (hc k h);by_cases hlt:k<len
  .obtain⟨fn,tmps,assign,body,hy,hR⟩:=hY _ (zs[k]?.getD 0) wr hJs (by rw[lTa];omega);have hcx':=hcx hlt;have htk:zs.take (k+1)=zs.take k++[zs[k]?.getD 0]:=by
    rw[aw zs (by omega),gEl (by omega)];rfl
   clear hcx;generalize zs[k]?.getD 0=x at *
   gi_wp2
   refine hR.mono ?_
   rintro e W3 ⟨rfl,hJ3,hk3⟩
   gi_wp2
   go_roundw
   case rel=>exact⟨k+1,by omega,by simp,by rw[htk];exact hJ3,hnx.trans hk3⟩
   case measure=>simp[intOf];omega
  .obtain rfl:k=len:=by omega
   gi_wp2
   go_end0
   exact⟨⟨_,rfl⟩,by rw[take_of_length_le (by omega)]at hJs;exact hJs⟩
def y0:Code:=(Code.region 2 #[{ dst:=some 5,op:=Op.assign (Operand.tmp 7),type:=5,pos:= "iter.go:51",after:=#[],guard:=none }] false)
def I5:Code:=(Code.block 1 (Code.region 3 #[{ dst:=some 8,op:=Op.load 43 (Operand.tmp 2),type:=43,pos:= "iter.go:52",after:=#[],guard:=none },{ dst:=some 9,op:=Op.move (Operand.tmp 5),type:=5,pos:= "iter.go:52",after:=#[],guard:=none },{ dst:=some 10,op:=Op.buildSlice 43 1 #[(0,Operand.tmp 9)],type:=43,pos:= "iter.go:52",after:=#[{ on:=1,ground:=Ground.data }],guard:=none },{ dst:=some 11,op:=Op.call { callee:=Callee.builtin Builtin.append,args:=#[Operand.tmp 8,Operand.tmp 10],argTypes:=#[43,43] },type:=43,pos:= "iter.go:52",after:=#[{ on:=0,ground:=Ground.data },{ on:=2,ground:=Ground.data }],guard:=none },{ dst:=none,op:=Op.store 43 (Operand.tmp 2) (Operand.tmp 11),type:=0,pos:= "iter.go:52",after:=#[{ on:=3,ground:=Ground.data },{ on:=3,ground:=Ground.chain },{ on:=0,ground:=Ground.phase },{ on:=1,ground:=Ground.phase },{ on:=2,ground:=Ground.phase },{ on:=3,ground:=Ground.phase }],guard:=none }] false))
def mO(fn:FuncId)(sv:Value)(Bs D:Nat)(st:LoopState)(pend:Option Code):Loop:=
 { state:=st,pending:=pend,fn,tmps:=#[.slice none 0 0,sv,.pointer (some ⟨Bs,0,none⟩),undef,.slice none 0 0,undef,sv,undef,undef,undef,undef,undef,undef],params:=#[7],assign:=y0,body:=I5,defers:=D }
structure SJ(w0:World)(fn:FuncId)(sv:Value)(Bs l D:Nat)(ss:B8)(W:World):Prop where
 box:∃ v,W.heap[Bs]?=some (.cells #[v] 43 (0,0))/\W.ownsRow w0.heap.size 5 1 v ss.length (ss.map nj)/\(v=.slice none 0 0↔ss=[])
 L:W.heap[l]?=some (.loop (mO fn sv Bs D .ready none))
 K:W.heap[D]?=some (.deferred (some []))
 below:Below w0.heap.size w0 W
theorem dF(W:World)(l:Nat)(o:Obj):W.grownBy (W.putObj l o) (some l):=
 ⟨rfl,rfl,rfl,by simp,fun k _ hk=>World.putObj_heap_other (fun e=>hk (by rw[e]))⟩
theorem uA(W:World)(b:Nat)(v:Value):W.grownBy (W.setCell ⟨b,0,none⟩ v) (some b):=
 ⟨rfl,rfl,rfl,(KeepsWalks.setCell W _ v).size,fun k _ hk=>Below.heap_setCell _ _ _ k (fun e=>hk (by rw[e]))⟩
theorem fZ{W:World}{base:Nat}{e:TypeId}{size:Nat}{v:Value}{k:Nat}{xs:List Value}(h:W.ownsRow base e size v k xs){j:Nat}{o:Obj}(hj:W.heap[j]?=some o)(hno:∀ cur,o≠.cells cur e (0,0)) :
  v.ownBlock=none\/v.ownBlock≠some j:=by
 rcases h.2 with ⟨rfl,_⟩|⟨g,cap,cur,rfl,_,hgb,_⟩
 .exact .inl rfl
 .refine .inr fun e'=>?_;have:g=j:=by simpa[Value.ownBlock] using e'
  subst this;rw[hgb]at hj;cases hj;exact hno cur rfl
theorem mI{W:World}{B:Nat}{v:Value}{t:TypeId}(h:W.heap[B]?=some (.cells #[v] t (0,0))):W.cell? ⟨B,0,none⟩=some v/\W.frozen? ⟨B,0,none⟩=false:=by
 constructor<;>simp[World.cell?,World.frozen?,h]
theorem sK{W:World}{B:Nat}{v:Value}{t:TypeId}(v':Value)(h:W.heap[B]?=some (.cells #[v] t (0,0))):(W.setCell ⟨B,0,none⟩ v').heap[B]?=some (.cells #[v'] t (0,0)):=by
 obtain⟨hlt,hk⟩:=Array.getElem?_eq_some_iff.1 h;show (W.heap.modify B _)[B]?=_;rw[Array.getElem?_eq_getElem (by rw[Array.size_modify];exact hlt),Array.getElem_modify_self,hk];rfl
theorem X4:(prog.info? 5).map (fun i=>(i.zero,i.size,i.bytes))=some (some (.int .u8 0),1,1):=by kernel_rfl
set_option maxRecDepth 100000 in
theorem Sf(F:Fence)(m:Nat)(w0:World)(fn:FuncId)(hfn:F.fn fn)(sv:Value)(Bs l D:Nat)(hBl:Bs≠l)(hDl:D≠l)(hDB:D≠Bs)(h0B:w0.heap.size<=Bs)(h0l:w0.heap.size<=l)
  (N:Nat) (hN:N<=maxLen) (hNb:N*1<=140737488355328) (ss:B8) (x:UInt8) (W:World) (h:SJ w0 fn sv Bs l D ss W) (hlen:ss.length<N) :
  YieldAt F m prog l #[nj x] W fun e W'=>e=.returned (.bool true)/\SJ w0 fn sv Bs l D (ss++[x]) W'/\Below w0.heap.size W W':=by
 obtain⟨i0,hi,hz0,hz1,hz2⟩:=info_parts X4;obtain⟨v,hv,hrow,_⟩:=h.box;refine⟨fn,#[.slice none 0 0,sv,.pointer (some ⟨Bs,0,none⟩),undef,.slice none 0 0,undef,sv,nj x,undef,undef,undef,undef,undef],y0,I5,by simpa[mO] using run_yield (P:=prog) (args:=#[nj x]) h.L rfl,roundIn_of_wpIn hfn ?_⟩;have hl:l<W.heap.size:=(Array.getElem?_eq_some_iff.1 h.L).1;have hbr:=run_beginRound (P:=prog) h.L rfl;obtain⟨W2,hW2⟩:∃ W2,W.putObj l (.loop { mO fn sv Bs D .ready none with state:=.busy })=W2:=⟨_,rfl⟩;rw[hW2]at hbr;have hg2:W.grownBy W2 (some l):=by rw[<-hW2];exact dF _ _ _
 have hv2:W2.heap[Bs]?=some (.cells #[v] 43 (0,0)):=by rw[<-hW2];exact(World.putObj_heap_other hBl).trans hv
 have hK2:W2.heap[D]?=some (.deferred (some [])):=by rw[<-hW2];exact(World.putObj_heap_other hDl).trans h.K
 have hL2:W2.heap[l]?=some (.loop { mO fn sv Bs D .ready none with state:=.busy }):=by rw[<-hW2];exact World.putObj_heap_same hl
 have hrow2:W2.ownsRow w0.heap.size 5 1 v ss.length (ss.map nj):=hrow.kept hg2 (fZ hrow h.L (fun cur e=>by cases e));have hz:w0.heap.size<=W.heap.size:=h.below.size;have hb2:Below w0.heap.size W W2:=(Below.refl _ W).grown hg2 hz (fun k e=>by cases e;exact h0l);have hzw:w0.heap.size<=W2.heap.size:=Nat.le_trans hz hb2.size;obtain⟨hc2,hf2⟩:=mI hv2;have hBlt:Bs<W2.heap.size:=(Array.getElem?_eq_some_iff.1 hv2).1;have hl2:l<W2.heap.size:=(Array.getElem?_eq_some_iff.1 hL2).1;have hDlt:D<W2.heap.size:=(Array.getElem?_eq_some_iff.1 hK2).1;have ne_of:∀ {j:Nat} {o:Obj},W2.heap[j]?=some o->(∀ cur,o≠.cells cur 5 (0,0))->some j≠v.ownBlock:=fun hj hno=>by
  rcases fZ hrow2 hj hno with e|e
  .rw[e];simp
  .exact fun e'=>e e'.symm
 clear hW2;unfold y0
 gi_wp2_with (rw[Oper.semAt_eq _ _ _ (fun c h=>by cases h)];go_simp;try go_bits)
 unfold I5
 gi_wp2_with (first
  | (
    gi_at_builtin;refine wpListIn_append_own _ rfl _ _ 43 rfl w0.heap.size 5 i0 (.int .u8 0) 1 1 underlying43 hi hz0 hz1 hz2 rfl (by decide) _ _ _ rfl (hrow2.alloc _) ⟨W2.heap.size,0,none⟩ 1 1 [nj x] rfl rfl (cell_one_new _ _ _) (by simp[Value.oneCell',nj]) (by omega) (by omega) (by simp;omega) ?_;intro v' w3 hown' hg3 hnil3
    have hv3:w3.heap[Bs]?=some (.cells #[v] 43 (0,0)):=(hg3.block Bs (by simp;omega) (ne_of hv2 (fun cur e=>by cases e))).trans ((Below.heap_alloc _ _ Bs hBlt).trans hv2);obtain⟨hc3,hf3⟩:=mI hv3;obtain⟨g',cap',cur',rfl,hbase',hgb',hr1,hr2,hr3,hr4⟩:∃ g' cap' cur',v'=.slice (some ⟨g',0,none⟩) (ss.length+1) cap'/\w0.heap.size<=g'/\w3.heap[g']?=some (.cells cur' 5 (0,0))/\ss.length+1<=cap'/\cap'<=maxLen/\cur'.size=cap'*1/\cur'.toList.take ((ss.length+1)*1)=ss.map nj++[nj x]:=by
     rcases hown'.2 with ⟨_,h0⟩|h'
     .exact absurd h0 (by omega)
     .exact h'
    simp only[Act.put,setIfInBounds_toArray,set_cons_succ,set_cons_zero])
  | (rw[Oper.semAt_eq _ _ _ (fun c h=>by cases h)];go_simp;try go_bits))
 have hg3':(W2.alloc (.cells #[nj x] 5)).grownBy w3 v.ownBlock:=hg3;have hL3:w3.heap[l]?=some (.loop { mO fn sv Bs D .ready none with state:=.busy }):=(hg3'.block l (by simp;omega) (ne_of hL2 (fun cur e=>by cases e))).trans ((Below.heap_alloc _ _ l hl2).trans hL2);have hK3:w3.heap[D]?=some (.deferred (some [])):=(hg3'.block D (by simp;omega) (ne_of hK2 (fun cur e=>by cases e))).trans ((Below.heap_alloc _ _ D hDlt).trans hK2);obtain⟨w4,hw4⟩:∃ w4,w3.setCell ⟨Bs,0,none⟩ (.slice (some ⟨g',0,none⟩) (ss.length+1) cap')=w4:=⟨_,rfl⟩;rw[hw4];have hg4:w3.grownBy w4 (some Bs):=by rw[<-hw4];exact uA _ _ _
 have hv4:w4.heap[Bs]?=some (.cells #[.slice (some ⟨g',0,none⟩) (ss.length+1) cap'] 43 (0,0)):=by rw[<-hw4];exact sK _ hv3
 have hL4:w4.heap[l]?=some (.loop { mO fn sv Bs D .ready none with state:=.busy }):=(hg4.block l (Array.getElem?_eq_some_iff.1 hL3).1 (fun e=>hBl (by cases e;rfl))).trans hL3;have hK4:w4.heap[D]?=some (.deferred (some [])):=(hg4.block D (Array.getElem?_eq_some_iff.1 hK3).1 (fun e=>hDB (by cases e;rfl))).trans hK3;have hrow4:=hown'.kept hg4 (fZ hown' hv3 (fun cur e=>by cases e));have hl4:l<w4.heap.size:=(Array.getElem?_eq_some_iff.1 hL4).1;have hb3:Below w0.heap.size W w3:=(hb2.alloc hzw _).grown hg3' (by simp;omega) (fun k e=>(hrow2.lt k e).1);have hb4:Below w0.heap.size W w4:=hb3.grown hg4 (Nat.le_trans hz hb3.size) (fun k e=>by cases e;exact h0B);have hb5:Below w0.heap.size W (w4.putObj l (.loop { { mO fn sv Bs D .ready none with state:=.busy } with state:=if (none:Option Code).isNone then .ready else .done,pending:=none })):=hb4.grown (dF _ _ _) (Nat.le_trans hz hb4.size) (fun k e=>by cases e;exact h0l);clear hw4;refine⟨_,_,run_endRound none hL4,rfl,⟨⟨_,(World.putObj_heap_other hBl).trans hv4,?_,by simp⟩,World.putObj_heap_same hl4,(World.putObj_heap_other hDl).trans hK4,h.below.trans hb5⟩,hb5⟩;have:=hrow4.kept (dF w4 l (.loop { { mO fn sv Bs D .ready none with state:=.busy } with state:=if (none:Option Code).isNone then .ready else .done,pending:=none })) (fZ hrow4 hL4 (fun cur e=>by cases e));simpa using this
set_option maxRecDepth 100000 in
theorem DP(F:Fence)(n:Nat)(h11:F.fn 442)(h7:F.fn 429)(hro:F.round=none)(hn:2<=n)(Bv b off cap:Nat)(zs:B8)(hN:zs.length<=1000000)(w:World)
  (hBv:Bv<w.heap.size) (hb:b<w.heap.size) (hBs:w.cell? ⟨Bv,0,none⟩=some (.slice (some ⟨b,off,none⟩) zs.length cap)) (hc:∀ j,j<zs.length->w.cell? ⟨b,off+j,none⟩=some (nj (zs[j]?.getD 0))) :
  CallsIn F n prog 442 #[.slice none 0 0,.func (.func 429) #[] #[.pointer (some ⟨Bv,0,none⟩)]] w fun e w'=>∃ v:Value,e=.returned v/\w'.ownsRow w.heap.size 5 1 v zs.length (zs.map nj)/\(v=.slice none 0 0↔zs=[])/\Below w.heap.size w w':=by
 have h1:1<=n:=by omega
 refine callsIn_of_wp_marks func442 rfl h11 ?_ hro;simp only[ntmps442,size_toArray,lCo,length_nil,Nat.reduceAdd,Nat.reduceSub,Array.replicate_succ,Array.replicate_zero,push_toArray,append_toArray,nil_append,cons_append]
 gi_wp2
 refine wpIn_rangeFunc ?_;intro fn hfn;rw[hro];obtain⟨W0,hW0⟩:∃ W0,w.alloc (.cells #[.slice none 0 0] 43)=W0:=⟨_,rfl⟩;have hs0:W0.heap.size=w.heap.size+1:=by rw[<-hW0];simp
 have hv0:W0.heap[w.heap.size]?=some (.cells #[.slice none 0 0] 43 (0,0)):=by rw[<-hW0];exact World.alloc_heap_new w _
 have hb0:Below w.heap.size w W0:=by rw[<-hW0];exact(Below.refl _ w).alloc (lRf _) _
 rw[hW0];obtain⟨sv,hsv⟩:∃ sv,sv=Value.func (.func 429) #[] #[.pointer (some ⟨Bv,0,none⟩)]:=⟨_,rfl⟩;obtain⟨W1,hW1⟩:∃ W1,(W0.alloc (.deferred (some []))).alloc (.loop (mO fn sv w.heap.size W0.heap.size .ready none))=W1:=⟨_,rfl⟩;have hold:∀ k,k<W0.heap.size->W1.heap[k]?=W0.heap[k]?:=fun k hk=>by
  rw[<-hW1];exact(Below.heap_alloc _ _ k (by simp;omega)).trans (Below.heap_alloc _ _ k hk)
 have hb1:Below w.heap.size w W1:=by rw[<-hW1];exact(hb0.alloc hb0.size _).alloc (by have:=hb0.size;simp;omega) _
 have hs1:W1.heap.size=W0.heap.size+2:=by rw[<-hW1];simp
 have hM:SJ w fn sv w.heap.size (W0.heap.size+1) W0.heap.size [] W1:=
  ⟨⟨_,(hold w.heap.size (by omega)).trans hv0,⟨rfl,.inl ⟨rfl,rfl⟩⟩,by simp⟩,
   by rw[<-hW1];have:=World.alloc_heap_new (W0.alloc (.deferred (some []))) (.loop (mO fn sv w.heap.size W0.heap.size .ready none));rwa[World.size_alloc]at this,
   by rw[<-hW1];exact(Below.heap_alloc _ _ _ (by simp)).trans (World.alloc_heap_new W0 _),hb1⟩
 refine⟨W0.heap.size+1,[{ target:=.collected W0.heap.size,args:=#[] }],W1,{ target:=.fn (.func 429) #[.pointer (some ⟨Bv,0,none⟩)],args:=#[.func (.yield (W0.heap.size+1)) #[] #[]] },W1,429,
  #[.func (.yield (W0.heap.size+1)) #[] #[]] ++ #[.pointer (some ⟨Bv,0,none⟩)],W1,?_,?_,?_,?_,fun _=>h1,?_⟩
 .rw[<-hW1,hsv];exact run_enterLoop_outer _ _ _ _ _
 .simp[resolve,go_sem]
 .intro f' hf';simp[Target.leads]at hf';subst hf';exact h7
 .simp[invoke,go_sem]
 .refine(Qq F (n-1) h7 hro (by omega) (W0.heap.size+1) Bv w.heap.size b off zs.length cap zs hN hb (SJ w fn sv w.heap.size (W0.heap.size+1) W0.heap.size)
   (fun pre x W hJ hl=>Sf F (n-1-1) w fn hfn sv w.heap.size (W0.heap.size+1) W0.heap.size (by omega) (by omega) (by omega) (lRf _) (by omega) zs.length (by unfold maxLen;omega) (by omega) pre x W hJ hl) W1 ((hb1.cell hBv).trans hBs) (fun j hj=>(hb1.cell (p:=⟨b,off+j,none⟩) hb).trans (hc j hj)) rfl hM).mono ?_
  rintro e W2 ⟨⟨v0,rfl⟩,h2⟩
  obtain⟨v,hv,hrow,hnil⟩:=h2.box;have hend:=run_endLoop (P:=prog) h2.L (by simp[mO]);obtain⟨W3,hW3⟩:∃ W3,W2.putObj (W0.heap.size+1) (.loop { mO fn sv w.heap.size W0.heap.size .ready none with state:=.exhausted })=W3:=⟨_,rfl⟩;rw[hW3]at hend;have hg3:W2.grownBy W3 (some (W0.heap.size+1)):=by rw[<-hW3];exact dF _ _ _
  have hv3:W3.heap[w.heap.size]?=some (.cells #[v] 43 (0,0)):=by rw[<-hW3];exact(World.putObj_heap_other (by omega)).trans hv
  have hK3:W3.heap[W0.heap.size]?=some (.deferred (some [])):=by rw[<-hW3];exact(World.putObj_heap_other (by omega)).trans h2.K
  have hrow3:=hrow.kept hg3 (fZ hrow h2.L (fun cur e=>by cases e));have hb3:Below w.heap.size w W3:=h2.below.grown hg3 h2.below.size (fun k e=>by cases e;omega);obtain⟨hc3,hf3⟩:=mI hv3;clear hW3;refine⟨none,W3,hend,?_⟩
  gi_wp2
  rw[<-hs0];refine⟨by simp,.inl ⟨_,_,rfl,run_takeDeferred hK3,?_⟩⟩;exact⟨_,results_tmp rfl _ _ _,v,rfl,hrow3.kept (dF _ _ _) (fZ hrow3 hK3 (fun cur e=>by cases e)),hnil,hb3.grown (dF _ _ _) hb3.size (fun k e=>by cases e;omega)⟩
theorem Kv(l:B8):l.map nj=av l:=rfl
theorem GC(Bv b off cap:Nat)(own:Bool)(tot:Nat)(zs:B8)(M:Mem)(R:VP)(h1:1<=zs.length)(hN:zs.length<=1000000)(hv:M Bv=some (.cells own [.slice (some ⟨b,off,none⟩) zs.length cap] tot))
  (hr:Rd M (.slice (some ⟨b,off,none⟩) zs.length cap) (av zs)) (h:∀ g c,M g=none->zs.length<=c->R (.slice (some ⟨g,0,none⟩) zs.length c) (M.put g (.cells true (av zs) c))) :
  ar prog 442 [.slice none 0 0,.func (.func 429) #[] #[.pointer (some ⟨Bv,0,none⟩)]] M R:=by
 refine⟨⟨_,func442,by kernel_rfl,by kernel_rfl⟩,fun w hw=>?_⟩;have hBv:=hw.cell (show M.get? Bv 0=_ from ak hv 0);have hltB:=FU hw hv;obtain⟨a',c',he,ha⟩:=hr.opened;rw[aO]at he ha;injection he with e1 e2 e3
 rcases ha with h0|⟨b',o',e4,ha⟩
 .omega
 rw[e4]at e1;injection e1 with e1
 injection e1 with e5 e6
 subst e5;subst e6;have hcell:∀ j,j<zs.length->w.cell? ⟨b,off+j,none⟩=some (nj (zs[j]?.getD 0)):=by
  intro j hj;refine hw.cell ?_;rw[ha j hj];unfold av;rw[getElem?_map,gEl hj];rfl
 have hltb:b<w.heap.size:=by
  have:=hcell 0 (by omega);rcases Nat.lt_or_ge b w.heap.size with hlt|hge
  .exact hlt
  .simp only[World.cell?,Array.getElem?_eq_none hge]at this;cases this
 refine(callsIn_wide.1 (DP Fence.wide 2 trivial trivial rfl (lRf 2) Bv b off cap zs hN w hltB hltb hBv hcell)).mono ?_
 rintro e w' ⟨v,rfl,hrow,hnil,hbl⟩
 have hne:zs≠[]:=by rintro rfl;simp at h1
 rcases hrow.2 with ⟨hn,_⟩|⟨g,c,cur,rfl,hg0,hgb,hk1,hk2,hk3,hk4⟩
 .exact absurd (hnil.1 hn) hne
 have hMg:M g=none:=hw.fresh hg0;rw[Kv,Nat.mul_one]at hk4;refine⟨_,M.put g (.cells true (av zs) c),rfl,?_,⟨hbl.os,hbl.tape,hbl.output,hbl.size,fun k hk _=>hbl.block k hk,?_⟩,h g c hMg hk1⟩
 .intro i B hB;unfold Mem.put at hB;split at hB
  .rename_i e;subst e;injection hB with hB;subst hB
   refine⟨cur,5,(0,0),hgb,by omega,⟨cur.toList.drop zs.length,?_⟩,fun _=>.inl rfl⟩;rw[<-hk4,take_append_drop]
  .exact Jr hw hbl i B hB
 .rintro k ⟨B,hB,ho⟩
  unfold Mem.put at hB;split at hB
  .rename_i e;subst e;exact .inr hg0
  .exact .inl ⟨B,hB,ho⟩
theorem E4(Bv b off cap:Nat)(own:Bool)(tot:Nat)(zs:B8)(M:Mem)(R:VP)(h1:1<=zs.length)(hN:zs.length<=1000000)(hv:M Bv=some (.cells own [.slice (some ⟨b,off,none⟩) zs.length cap] tot))
  (hr:Rd M (.slice (some ⟨b,off,none⟩) zs.length cap) (av zs)) (h:∀ g c,M g=none->zs.length<=c->R (.slice (some ⟨g,0,none⟩) zs.length c) (M.put g (.cells true (av zs) c))) :
  ar prog 427 [.func (.func 429) #[] #[.pointer (some ⟨Bv,0,none⟩)]] M R:=by
 refine fnT func427 rfl ntmps427 results427 ?_;refine GC Bv b off cap own tot zs _ _ h1 hN hv hr ?_;intro g c hg hc;refine sS ?_;exact ad (h g c hg hc)
theorem D5(a:Option Addr)(n c:Nat)(M:Mem)(R:VP)(h:∀ Bv,M Bv=none->R (.func (.func 429) #[] #[.pointer (some ⟨Bv,0,none⟩)]) (M.put Bv (.cells true [.slice a n c] 1))) :
  ar prog 402 [.slice a n c] M R:=by
 refine fnT func402 rfl ntmps402 results402 ?_;intro Bv hBv;refine sS ?_;exact ad (h Bv hBv)
end Go.Proofs.YtapimhjbilkfpaaGreatDoor
namespace Go.Proofs.YtapimhjbilkfpaaGreatDoor
open Go.Proofs.Tryz List
def K(L:B8)(i:Nat):Nat:=(L.getD i 0).toNat
def swp(L:B8)(i j:Nat):B8:=(L.set i (L.getD j 0)).set j (L.getD i 0)
theorem Ub{L:B8}{i:Nat}(h:i<L.length):K L i=L[i].toNat:=by unfold K;rw[gDe,gEl h];rfl
theorem St(L:B8)(i j:Nat):(swp L i j).length=L.length:=by unfold swp;rw[length_set,length_set]
theorem Pp{L:B8}{i j:Nat}(hi:i<L.length)(hj:j<L.length)(k:Nat):K (swp L i j) k=if k=j then K L i else if k=i then K L j else K L k:=by
 unfold K swp;rw[gDe,getElem?_set,length_set];by_cases e:j=k
 .subst e;rw[if_pos rfl,if_pos hj,if_pos rfl];rfl
 .rw[if_neg e,if_neg (Ne.symm e),getElem?_set];by_cases e2:i=k
  .subst e2;rw[if_pos rfl,if_pos hi,if_pos rfl];rfl
  .rw[if_neg e2,if_neg (Ne.symm e2),<-gDe]
theorem Pd{L:B8}{i j:Nat}(hi:i<L.length)(hj:j<L.length):(swp L i j).Perm L:=by
 have e1:L.getD i 0=L[i]:=by rw[gDe,gEl hi];rfl
 have e2:L.getD j 0=L[j]:=by rw[gDe,gEl hj];rfl
 unfold swp;rw[e1,e2];exact set_set_perm hi hj
structure SP(a b:Nat)(L L':B8):Prop where
 len:L'.length=L.length
 out:∀ i,i<a\/b<=i->K L' i=K L i
 inn:∀ P:Nat->Prop,(∀ i,a<=i->i<b->P (K L i))->∀ i,a<=i->i<b->P (K L' i)
 perm:L'.Perm L
theorem SP.refl(a b:Nat)(L:B8):SP a b L L:=⟨rfl,fun _ _=>rfl,fun _ h=>h,.refl _⟩
theorem SP.trans{a b:Nat}{A B C:B8}(h:SP a b A B)(k:SP a b B C):SP a b A C:=
 ⟨k.len.trans h.len,fun i hi=>(k.out i hi).trans (h.out i hi),fun P hP=>k.inn P (h.inn P hP),k.perm.trans h.perm⟩
theorem SP.swp{a b:Nat}{L:B8}{i j:Nat}(hb:b<=L.length)(h1:a<=i)(h2:i<b)(h3:a<=j)(h4:j<b):SP a b L (swp L i j):=by
 refine⟨St _ _ _,fun k hk=>?_,fun P hP k h5 h6=>?_,Pd (by omega) (by omega)⟩
 .rw[Pp (by omega) (by omega),if_neg (by omega),if_neg (by omega)]
 .rw[Pp (by omega) (by omega)];split
  .exact hP i h1 h2
  .split
   .exact hP j h3 h4
   .exact hP k h5 h6
def SS(a b:Nat)(L:B8):Prop:=∀ i j,a<=i->i<j->j<b->K L i<=K L j
theorem SS.one{a:Nat}(L:B8){b:Nat}(h:b<=a+1):SS a b L:=fun i j h1 h2 h3=>by omega
structure Ins(a i j:Nat)(L:B8):Prop where
 rest:∀ x y,a<=x->x<y->y<=i->x≠j->y≠j->K L x<=K L y
 up:∀ y,j<y->y<=i->K L j<=K L y
theorem Ins.start{a i:Nat}{L:B8}(h:SS a i L):Ins a i i L:=
 ⟨fun x y h1 h2 h3 _ h5=>h x y h1 h2 (by omega),fun y h1 h2=>by omega⟩
theorem Ins.done{a i j:Nat}{L:B8}(h:Ins a i j L)(ha:a<=j)(hs:j=a\/K L (j-1)<=K L j):SS a (i+1) L:=by
 intro x y h1 h2 h3;by_cases e1:x=j
 .subst e1;exact h.up y h2 (by omega)
 .by_cases e2:y=j
  .subst e2;rcases hs with e|e
   .omega
   .by_cases e3:x=y-1
    .subst e3;exact e
    .exact Nat.le_trans (h.rest x (y-1) h1 (by omega) (by omega) e1 (by omega)) e
  .exact h.rest x y h1 h2 (by omega) e1 e2
theorem Ins.step{a i j:Nat}{L:B8}(h:Ins a i j L)(ha:a<j)(hj:j<=i)(hi:i<L.length)(hl:K L j<K L (j-1)):Ins a i (j-1) (swp L j (j-1)):=by
 have kk:=Pp (L:=L) (i:=j) (j:=j-1) (by omega) (by omega);refine⟨fun x y h1 h2 h3 h4 h5=>?_,fun y h1 h2=>?_⟩
 .rw[kk,kk,if_neg h4,if_neg h5];by_cases e1:x=j
  .subst e1;rw[if_pos rfl,if_neg (by omega)];exact h.rest (x-1) y (by omega) (by omega) h3 (by omega) (by omega)
  .rw[if_neg e1];by_cases e2:y=j
   .subst e2;rw[if_pos rfl];exact h.rest x (y-1) h1 (by omega) (by omega) (by omega) (by omega)
   .rw[if_neg e2];exact h.rest x y h1 h2 h3 e1 e2
 .rw[kk,kk,if_pos rfl,if_neg (by omega)];by_cases e:y=j
  .rw[if_pos e];omega
  .rw[if_neg e];exact h.up y (by omega) h2
theorem SS.pairwise{L:B8}(h:SS 0 L.length L):L.Pairwise (fun x y=>x.toNat<=y.toNat):=by
 rw[pairwise_iff_getElem];intro i j hi hj hij;have:=h i j (lZe _) hij hj;rw[Ub hi,Ub hj]at this;exact this
end Go.Proofs.YtapimhjbilkfpaaGreatDoor
namespace Go.Proofs.YtapimhjbilkfpaaGreatDoor
open Go Go.Proofs.Tryz List
theorem XB{M:Mem}{b c i:Nat}{w:Bool}{L:B8}(h:M b=some (.cells w (av L) c))(hi:i<L.length):M.get? b i=some (.int .u8 (K L i:Nat)):=by
 rw[ak h];unfold av;rw[getElem?_map,gEl hi,Ub hi];rfl
theorem ZX(L A:B8)(i j:Nat):(av L).set i (.int .u8 (K A j:Nat))=av (L.set i (A.getD j 0)):=by
 unfold av K;rw[map_set]
theorem swp_get{L:B8}{i j:Nat}(hi:i<L.length)(hj:j<L.length):(L.set i (L[j]'hj)).set j (L[i]'hi)=swp L i j:=by
 unfold swp;rw[gDe,gEl hj,gDe,gEl hi];rfl
theorem G8(L:B8):(av L).length=L.length:=aO L
theorem Re{M:Mem}{b:Nat}{B:Blk}(h:M b=some B):M.put b B=M:=by
 funext i
 unfold Mem.put;split
 .rename_i e;subst e;exact h.symm
 .rfl
theorem Hf(x:Nat)(M:Mem)(R:VP)(h:R (.bool false) M):ar prog 474 [.int .u8 x] M R:=by
 refine fnS func474 rfl ntmps474 results474 ?_;have e:((x:Int) != (x:Int))=false:=by simp
 refine sS ?_;exact ad h
theorem KS(x y:Nat)(M:Mem)(R:VP)(h:R (.bool (decide (x<y))) M):ar prog 455 [.int .u8 x,.int .u8 y] M R:=by
 have e:decide ((x:Int)<(y:Int))=decide (x<y):=by
  by_cases hh:x<y
  .rw[dTr hh];exact dTr (by omega)
  .rw[dFa hh];exact dFa (by omega)
 refine fnT func455 rfl ntmps455 results455 ?_;refine Hf x _ _ ?_;refine sS ?_;exact ad h
theorem DU(b c lo hi:Nat)(L:B8)(M:Mem)(R:VP)(hM:M b=some (.cells true (av L) c))(hc:L.length<=c)(hl:L.length<=1000000)(hlo:lo<=hi)(hhi:hi<=L.length)
  (h:∀ L',SP lo hi L L'->SS lo hi L'->R (.tuple #[]) (M.put b (.cells true (av L') c))):ar prog 449 [.slice (some ⟨b,0,none⟩) L.length c,.int .i64 lo,.int .i64 hi] M R:=by
 refine fnT func449 rfl ntmps449 results449 ?_;refine lupS (rlA [6,7] 10 39) (fun x:Nat×B8=>[(6,.int .i64 x.1)]) (fun x M'=>M.put b (.cells true (av x.2) c)=M'/\lo+1<=x.1/\(x.1<=hi\/x.1=lo+1)/\SP lo hi L x.2/\SS lo x.1 x.2) (fun x=>hi+1-x.1) (lo+1,L) ⟨Re hM,lRf _,.inr rfl,SP.refl _ _ _,SS.one _ (lRf _)⟩ ?_
 rintro⟨i,L1⟩ M' g ⟨rfl,h1,h2,hsp,hss⟩
 simp only at h1 h2 hsp hss;have hl1:=hsp.len;by_cases hlt:i<hi
 .refine sS ?_;refine lupS (rlA [7] 16 33) (fun x:Nat×B8=>[(7,.int .i64 x.1)]) (fun x M'=>M.put b (.cells true (av x.2) c)=M'/\lo<=x.1/\x.1<=i/\SP lo hi L x.2/\Ins lo i x.1 x.2) (fun x=>x.1) (i,L1) ⟨rfl,by simp only;omega,lRf _,hsp,Ins.start hss⟩ ?_;clear hsp hss hl1
  rintro⟨j,L2⟩ M' g2 ⟨rfl,hj1,hj2,hsp,hin⟩
  simp only at hj1 hj2 hsp hin;have hl2:=hsp.len;have kM:=ae M b (.cells true (av L2) c);have kj:=XB kM (i:=j) (by omega);by_cases hja:lo<j
  .obtain⟨q,hq⟩:∃ q,j=q+1:=⟨j-1,by omega⟩;subst hq;have kq:=XB kM (i:=q) (by omega);have e1:((q+1:Nat):Int)-1=q:=by omega
   refine sS ?_;refine drwS ?_;simp(disch:=omega)[kj,kq];refine aX (a:=[]) (c:=[]) (KS _ _ _ _ ⟨rfl,rfl⟩) ?_;by_cases hk:K L2 (q+1)<K L2 q
   .have hst:=hin.step (by omega) hj2 (by omega) (by simpa using hk);have hsw:=SP.swp (L:=L2) (a:=lo) (b:=hi) (i:=q+1) (j:=q) (by omega) (by omega) (by omega) (by omega) (by omega);rw[dTr hk];refine sS ?_;refine plyS (ai [0,1,2,3,4,5,6,7,8,9,10,11,12,13,14] (.one 15 2 (ai [16] (.one 17 2 .fin)))) ?_;simp(disch:=omega)[kj,kq,aj,ZX];refine rndS (q,swp L2 (q+1) q) ⟨by simp only[aN,swp_get],by simp only;omega,by simp only;omega,hsp.trans hsw,hst⟩
   .rw[dFa hk];refine sS ?_;have hs2:=hin.done hj1 (.inr (by simpa using Nat.le_of_not_lt hk));refine rndS (i+1,L2) ⟨rfl,by simp only;omega,.inl (by simp only;omega),hsp,hs2⟩
  .have hja':j=lo:=by omega
   subst hja';refine sS ?_;refine drwS ?_;refine sS ?_;have hs2:=hin.done hj1 (.inl rfl);refine rndS (i+1,L2) ⟨rfl,by simp only;omega,.inl (by simp only;omega),hsp,hs2⟩
 .refine sS ?_;refine ad (h L1 hsp ?_);rcases h2 with h2|h2
  .rw[show hi=i by omega];exact hss
  .exact SS.one _ (by omega)
end Go.Proofs.YtapimhjbilkfpaaGreatDoor
namespace Go.Proofs.YtapimhjbilkfpaaGreatDoor
open Go.Proofs.Tryz List
end Go.Proofs.YtapimhjbilkfpaaGreatDoor
namespace Go.Proofs.YtapimhjbilkfpaaGreatDoor
open Go Go.Proofs.Tryz List
end Go.Proofs.YtapimhjbilkfpaaGreatDoor
