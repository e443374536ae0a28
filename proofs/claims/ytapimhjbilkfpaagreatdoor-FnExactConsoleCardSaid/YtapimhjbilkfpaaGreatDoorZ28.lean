/- Lemmas for FnExactConsole, part 29 of 46. -/
import Derived.Test.YtapimhjbilkfpaaGreatDoorZ27
import Derived.Test.YtapimhjbilkfpaaGreatDoorZ19
import Derived.Test.YtapimhjbilkfpaaGreatDoorZ15
import Derived.Test.YtapimhjbilkfpaaGreatDoorZ18
import Derived.Test.YtapimhjbilkfpaaGreatDoorZ14
set_option linter.unusedVariables false
set_option linter.unusedSimpArgs false
namespace Go.Proofs.YtapimhjbilkfpaaGreatDoor
open Go List
theorem y6{w:List UInt8}(h:aJ w=0):isWord w=true:=by
 unfold aJ at h;split at h
 ·assumption
 ·cases h
theorem O3{ws:List (List UInt8)}(h:∀ w∈ws,w.all isL=true)(i:Nat):(ws.getD i []).all isL=true:=by
 rw[getD_eq_getElem?_getD];cases hx:ws[i]? with
 | none=>rfl
 | some x=>exact h x (mem_of_getElem? hx)
theorem DG{ws:List (List UInt8)}(h:∀ w∈ws,w.all isL=true)(l:List UInt8):(aP ws l).all isL=true:=by
 unfold aP;rw[all_flatMap,all_eq_true];exact fun u _=>O3 h _
theorem Ky{ws:List (List UInt8)}(h:aW ws=true):∀ w∈ws,w.all isL=true:=fun w hw=>aV (bK h hw).2.1
theorem PD{w:List UInt8}(h:isWord w=true):isWord w.reverse=true:=
 da (by rw[length_reverse];exact au h) (by rw[all_reverse];exact aV h)
theorem rk{w:List UInt8}(h:aJ w=0):isWord (if isWord w then w.reverse else [])=true:=by
 rw[if_pos (y6 h)];exact PD (y6 h)
theorem mL{w:List UInt8}(h:w.all isL=true)(n:Nat):(w.take n).all isL=true:=by
 rw[all_eq_true]at *;exact fun u hu=>h u (mem_of_mem_take hu)
theorem NB{w:List UInt8}(h:w.all isL=true)(n:Nat):(w.drop n).all isL=true:=by
 rw[all_eq_true]at *;exact fun u hu=>h u (mem_of_mem_drop hu)
theorem BK{w:List UInt8}(h:pG w=0):isWord (pE w)=true:=by
 unfold pG at h;split at h
 ·rename_i hw;split at h
  ·rename_i hl;unfold pE;rw[if_pos hw,if_pos hl];refine da hl ?_;unfold lZ;rw[all_append,all_reverse,aV hw,mL (aV hw)];rfl
  ·cases h
 ·cases h
theorem xH{ws:List (List UInt8)}(hm:aW ws=true):∀(k:Nat) (w x:List UInt8),isWord w=true->pC ws k w=some x->isWord x=true
 | 0,w,x,hw,h=>by
  rw[yX]at h;injection h with h
  rw[<-h];exact hw
 | k+1,w,x,hw,h=>by
  rw[qo]at h;split at h
  ·cases h
  ·exact xH hm k _ x (da (by omega) (DG (Ky hm) w)) h
theorem BG{ws:List (List UInt8)}{w:List UInt8}{k:Int}(h:mN ws w k=0):isWord (mG ws w k)=true:=by
 unfold mN at h;unfold mG;by_cases hc:ij ws w k=0
 ·rw[if_pos hc]at h ⊢;obtain⟨hm,hw,_⟩:=lH hc;cases hx:pC ws k.toNat w with
  | none=>rw[hx]at h;cases h
  | some x=>exact xH hm _ w x hw hx
 ·rw[if_neg hc]at h;exact absurd h hc
theorem FE{w:List UInt8}{i m:Int}(h:Ab w i m=0):isWord (Av w i m)=true:=by
 unfold Ab at h;split at h
 ·rename_i hw;split at h
  ·rename_i hf;unfold Av;rw[if_pos hw,if_pos hf];refine da ?_ (sY (aV hw) _ _);have:=au hw;unfold seg;rw[length_drop,length_take];omega
  ·cases h
 ·cases h
theorem RU{c:Nat->Nat}{n i:Nat}(hi:i<n)(h:dD c n<=5):lab c i<=4:=by
 have h1:=Hs c hi;omega
theorem Gs{p q:Int}(h:gJ p q=0):isWord (ix p q)=true:=by
 unfold ix;rw[if_pos h];unfold gJ at h;split at h
 ·split at h
  ·cases h
  ·rename_i hn;split at h
   ·cases h
   ·rename_i hk;refine da (by rw[qJ];omega) ?_;rw[all_eq_true];intro u hu;unfold fP at hu;obtain⟨i,hi,rfl⟩:=List.mem_map.1 hu;exact lf (RU (List.mem_range.1 hi) (by omega))
 ·cases h
theorem FY{ws:List (List UInt8)}(hm:∀ w∈ws,w.all isL=true)(n:Nat):∀ f x,x.all isL=true->(grF ws n f x).length<=n/\(grF ws n f x).all isL=true
 | 0,x,h=>⟨by unfold grF;rw[length_take];omega,by unfold grF;exact mL h n⟩
 | f+1,x,h=>by
  unfold grF;split
  ·exact FY hm n f _ (DG hm x)
  ·exact⟨by rw[length_take];omega,mL h n⟩
theorem Kp{ws:List (List UInt8)}{a n:Int}(h:grC ws a n=0):isWord (grT ws a n)=true:=by
 unfold grC at h;unfold grT;by_cases hc:fx ws a n 60=0
 ·rw[if_pos hc]at h ⊢;obtain⟨hm,h0,h1,h2,h3⟩:=fR hc;have h5:=(aX hm).2;split at h
  ·rename_i hg;rw[if_pos hg];have hl:[ltr a.toNat].all isL=true:=by
    rw[all_cons,lf (by omega)];rfl
   obtain⟨q1,q2⟩:=FY (Ky hm) n.toNat n.toNat [ltr a.toNat] hl;exact da (by omega) q2
  ·cases h
 ·rw[if_neg hc]at h;exact absurd h hc
theorem BY(a b c:Nat):∀ n,(gW a b c n).all isL=true
 | 0=>rfl
 | n+1=>by
  unfold gW;rw[all_append,BY a b c n];split<;>rfl
theorem E8{p q:Int}(h:rH p q=0):isWord (Ar p q)=true:=by
 unfold Ar;rw[if_pos h];unfold rH at h;split at h
 ·rename_i hs;split at h
  ·cases h
  ·rename_i hn;refine da ?_ (by unfold mA;exact BY _ _ _ _);unfold mA;rw[oH];unfold el at hs;simp only[Bool.and_eq_true,decide_eq_true_eq]at hs;omega
 ·cases h
theorem BT{w u:List UInt8}(h:nP w u=0):isWord (lQ w u)=true:=by
 unfold nP at h;unfold lQ;split at h
 ·rename_i hb;rw[if_pos hb];rw[Bool.and_eq_true]at hb;split at h
  ·cases h
  ·rename_i hl;rw[if_neg hl];exact Px hb.1 hb.2 (by omega)
 ·cases h
theorem Bt{ws:List (List UInt8)}(hm:∀ w∈ws,w.all isL=true)(m:Nat):∀ f x,x.all isL=true->(dN ws m f x).all isL=true
 | 0,x,h=>h
 | f+1,x,h=>by
  unfold dN;split
  ·exact Bt hm m f _ (DG hm x)
  ·exact h
theorem K4{l:List UInt8}{ws:List (List UInt8)}(h:named l=some ws):∀ w∈ws,w.all isL=true:=by
 unfold named at h;have:ws=[[97,98],[97]]\/ws=[[97,98],[98,97]]\/ws=[[97,98],[97,97]]\/ws=[[97,98,99],[97,99],[98]]:=by
  repeat' split at h
  all_goals simp_all
 rcases this with rfl|rfl|rfl|rfl<;>decide
theorem yV{l:List UInt8}{m:Int}(h:ia l m=0):isWord (fN l m)=true:=by
 unfold ia at h;unfold fN;split at h
 ·rename_i hm;rw[if_pos hm];cases hn:named l with
  | none=>rw[hn]at h;cases h
  | some ws=>exact da (by show ((dN ws m.toNat 60 [97]).take m.toNat).length<=60;rw[length_take];omega) (mL (Bt (K4 hn) _ _ _ rfl) _)
 ·cases h
theorem Oa{w:List UInt8}(h:w.all isL=true)(k:Nat):(dE w k).all isL=true:=by
 unfold dE;rw[all_flatten,all_eq_true];intro u hu;rw[eq_of_mem_replicate hu];exact h
theorem AJ:∀(zs:List Int) (last own w:List UInt8),last.all isL=true->own.all isL=true->own.length<=60->jT zs last own=some w->isWord w=true
 | [],last,own,w,hl,ho,hn,h=>by
  unfold jT at h;injection h with h
  rw[<-h];exact da hn ho
 | d::ds,last,own,w,hl,ho,hn,h=>by
  unfold jT at h;split at h
  ·rename_i hd;refine AJ ds own _ w ho ?_ ?_ h
   ·rw[all_append,Oa ho,hl];rfl
   ·rw[length_append,ft];omega
  ·cases h
theorem NP{zs:List Int}(h:rB zs=0):isWord (pJ zs)=true:=by
 unfold rB at h;unfold pJ;split at h
 ·rename_i ho;rw[if_pos ho];cases hs:jT zs [98] [97] with
  | none=>rw[hs]at h;cases h
  | some w=>exact AJ zs _ _ w rfl rfl (by decide) hs
 ·cases h
theorem GB{w:List UInt8}{k:Int}(h:Am w k=0):isWord (vW w k)=true:=by
 unfold Am at h;unfold vW;split at h
 ·rename_i hw;rw[if_pos hw];split at h
  ·rename_i hk;rw[if_pos hk];refine da ?_ (by rw[all_append,NB (aV hw),mL (aV hw)];rfl);have:=au hw;rw[length_append,length_drop,length_take];omega
  ·cases h
 ·cases h
theorem LG:∀ n,n<=5->isWord (jo n)=true:=by decide
theorem EF{n:Int}(h:Al n=0):isWord (wm n)=true:=by
 unfold Al at h;unfold wm;split at h
 ·rename_i hn;rw[if_pos hn];rw[decide_eq_true_eq]at hn;exact LG _ (by omega)
 ·cases h
theorem Pm{w:List UInt8}{ws:List (List UInt8)}:∀(f i x:Nat),ws.length<=5->(cJ w ws i).1=some x->(iv w ws f i).all isL=true/\(iv w ws f i).length<=w.length-i
 | 0,i,x,_,_=>⟨rfl,Nat.zero_le _⟩
 | f+1,i,x,h5,hx=>by
  unfold iv;split
  ·rename_i hi;obtain⟨q1,q2,_,⟨s,q4,_⟩,q5,_⟩:=CJ hi hx;have hp:1<=(ws.getD (cJ w ws i).2 []).length:=List.length_pos_iff.2 q2;obtain⟨r1,r2⟩:=Pm f _ s h5 q4;refine⟨?_,?_⟩
   ·rw[all_cons,r1,lf (by omega)];rfl
   ·rw[length_cons];omega
  ·exact⟨rfl,Nat.zero_le _⟩
theorem AW{ws:List (List UInt8)}{w:List UInt8}(h:pn ws w=0):isWord (pq ws w)=true:=by
 unfold pn at h;unfold pq;by_cases hc:gK ws w=0
 ·rw[if_pos hc]at h ⊢;obtain⟨hm,hw⟩:=p9 hc;have h5:=(aX hm).2;have h60:=au hw;cases hx:(cJ w ws 0).1 with
  | none=>rw[hx]at h;cases h
  | some x=>
   obtain⟨r1,r2⟩:=Pm w.length 0 x h5 hx;exact da (by show (iv w ws w.length 0).length<=60;omega) r1
 ·rw[if_neg hc]at h;exact absurd h hc
theorem yl{d d':Dk}{t t':List UInt8}{c:Int}(h:bq d t c=some (d',t')):c=0/\d'=d/\t'=t:=by
 unfold bq at h;split at h
 ·rename_i hc;injection h with h
  injection h with h1 h2
  exact⟨hc,h1.symm,h2.symm⟩
 ·cases h
theorem fG{d d':Dk}{t t':List UInt8}{c:Int}(hd:d.ok)(hw:c=0->isWord t=true)(h:bec d t c=some (d',t')):d'.ok:=by
 unfold bec at h;obtain⟨h1,rfl,rfl⟩:=yl h;exact⟨hw h1,hd.2⟩
theorem bB{d d':Dk}{t t':List UInt8}{c:Int}(hd:d.ok)(h:bq d t c=some (d',t')):d'.ok:=by
 obtain⟨_,rfl,_⟩:=yl h;exact hd
theorem xK:eV.ok:=⟨by decide,by decide,by decide⟩
theorem aI{α:Type}{P:Prop}[Decidable P]{a b r:α}{Q:Prop}(h:(if P then a else b)=r)(ha:P->a=r->Q)(hb:¬ P->b=r->Q):Q:=by
 by_cases hp:P
 ·rw[if_pos hp]at h;exact ha hp h
 ·rw[if_neg hp]at h;exact hb hp h
theorem Pk{d d':Dk}{c t:List UInt8}(hd:d.ok)(h:aM d c=some (d',t)):d'.ok:=by
 unfold aM at h;refine aI h (fun _ h=>fG hd (fun e=>rk e) h) (fun _ h=>?_);refine aI h (fun _ h=>fG hd (fun e=>BK e) h) (fun _ h=>?_);refine aI h (fun _ h=>fG hd (fun e=>BG e) h) (fun _ h=>?_);refine aI h (fun _ h=>fG hd (fun e=>AW e) h) (fun _ h=>?_);refine aI h (fun _ h=>bB hd h) (fun _ h=>?_);refine aI h (fun _ h=>bB hd h) (fun _ h=>?_);refine aI h (fun _ h=>bB hd h) (fun _ h=>?_);refine aI h (fun _ h=>bB hd h) (fun _ h=>?_);refine aI h (fun _ h=>bB hd h) (fun _ h=>?_);refine aI h (fun _ h=>bB xK h) (fun _ h=>?_);unfold bH at h;refine aI h (fun _ h=>bB hd h) (fun _ h=>?_);refine aI h (fun _ h=>bB hd h) (fun _ h=>?_);refine aI h (fun _ h=>bB hd h) (fun _ h=>?_);refine aI h (fun _ h=>bB hd h) (fun _ h=>?_);refine aI h (fun _ h=>bB hd h) (fun _ h=>?_);refine aI h (fun _ h=>bB hd h) (fun _ h=>?_);refine aI h (fun _ h=>bB hd h) (fun _ h=>?_);refine aI h (fun _ h=>bB hd h) (fun _ h=>?_);refine aI h (fun _ h=>bB hd h) (fun _ h=>?_);refine aI h (fun _ h=>bB hd h) (fun _ h=>?_);refine aI h (fun _ h=>bB hd h) (fun _ h=>?_);refine aI h (fun _ h=>bB hd h) (fun _ h=>?_);refine aI h (fun _ h=>bB hd h) (fun _ h=>?_);refine aI h (fun _ h=>bB hd h) (fun _ h=>?_);unfold dt at h;refine aI h (fun _ h=>bB hd h) (fun _ h=>?_);refine aI h (fun _ h=>bB hd h) (fun _ h=>?_);refine aI h (fun _ h=>bB hd h) (fun _ h=>?_);refine aI h (fun _ h=>bB hd h) (fun _ h=>?_);refine aI h (fun _ h=>bB hd h) (fun _ h=>?_);refine aI h (fun _ h=>bB hd h) (fun _ h=>?_);cases h
theorem Sg{d d':Dk}{c t:List UInt8}{a b:Int}(hd:d.ok)(h:gj d c a b=some (d',t)):d'.ok:=by
 unfold gj at h;refine aI h (fun _ h=>fG hd (fun e=>FE e) h) (fun _ h=>?_);refine aI h (fun _ h=>fG hd (fun e=>Gs e) h) (fun _ h=>?_);refine aI h (fun _ h=>fG hd (fun e=>Kp e) h) (fun _ h=>?_);refine aI h (fun _ h=>fG hd (fun e=>E8 e) h) (fun _ h=>?_);refine aI h (fun _ h=>bB hd h) (fun _ h=>?_);refine aI h (fun _ h=>bB hd h) (fun _ h=>?_);refine aI h (fun _ h=>bB hd h) (fun _ h=>?_);refine aI h (fun _ h=>bB hd h) (fun _ h=>?_);cases h
theorem H0{l:List UInt8}(h:pmC l=0):aW (pmL l)=true/\pmL l=spR 44 l:=by
 unfold pmC at h;unfold pmL;split at h
 ·rename_i hm;rw[if_pos hm];exact⟨hm,rfl⟩
 ·cases h
theorem Qu{d d':Dk}{c t u:List UInt8}(hd:d.ok)(h:dR d c t=some (d',u)):d'.ok:=by
 unfold dR at h;split at h
 ·split at h
  ·rename_i hw;exact fG hd (fun _=>hw) h
  ·cases h
 split at h
 ·exact fG hd (fun e=>BT e) h
 split at h
 ·split at h
  ·rename_i hp;obtain⟨_,rfl,_⟩:=yl h;exact⟨hd.1,hp,hd.2.2⟩
  ·cases h
 obtain⟨h0,rfl,_⟩:=yl h;exact⟨hd.1,hd.2.1,(H0 h0).1⟩
theorem R7{d d':Dk}{c u:List UInt8}{n:List Int}(hd:d.ok)(h:gF d c n=some (d',u)):d'.ok:=by
 unfold gF at h;split at h
 ·exact fG hd (fun e=>NP e) h
 split at h
 ·exact Pk hd h
 ·split at h
  ·exact fG hd (fun e=>GB e) h
  split at h
  ·exact fG hd (fun e=>EF e) h
  ·cases h
 ·exact Sg hd h
 ·cases h
theorem QP{d d':Dk}{c u:List UInt8}{r:List (List UInt8)}(hd:d.ok)(h:gH d c r=some (d',u)):d'.ok:=by
 unfold gH at h;split at h
 ·split at h
  ·exact Qu hd h
  ·cases h
 split at h
 ·split at h
  ·exact fG hd (fun e=>yV e) h
  ·cases h
 split at h
 ·exact R7 hd h
 ·cases h
theorem G7{d:Dk}(hd:d.ok)(l:List UInt8):(iI d l).1.ok:=by
 unfold iI;cases hx:rC d l with
 | none=>exact hd
 | some r=>
  obtain⟨d',u⟩:=r;exact QP hd hx
theorem QE(l:List UInt8):txt (spR 44 l)=l:=by
 have key:∀ l:List UInt8,∃ x r,spR 44 l=x::r/\x++Lib.joinTail [44] r=l:=by
  intro l
  induction l with
  | nil=>exact⟨[],[],rfl,rfl⟩
  | cons b l ih=>
   obtain⟨x,r,h1,h2⟩:=ih;unfold spR;split
   ·rename_i hb;refine⟨[],x::r,by rw[h1],?_⟩;show Lib.joinTail [44] (x::r)=b::l;rw[hb,<-h2];rfl
   ·exact⟨b::x,r,by rw[h1];rfl,by rw[<-h2];rfl⟩
 obtain⟨x,r,h1,h2⟩:=key l;rw[h1];exact h2
theorem JD{l:List UInt8}(h:pmC l=0):mg (pmL l)=l/\kK (pmL l)=0:=by
 obtain⟨h1,h2⟩:=H0 h;unfold mg kK;rw[if_pos h1,if_pos h1,h2];exact⟨QE l,rfl⟩
theorem NC{u p:List UInt8}(hp:∀ c∈p,aE c<3)(hp1:p≠[]):∀ x∈cD u p V0 0,1<=x.2:=by
 rintro⟨V,t⟩ hx
 obtain⟨a,b,_⟩:=(ni hp).1 hx;show 1<=t;rw[b];exact xg a hp1
theorem Ij{w p:List UInt8}(hp:∀ c∈p,aE c<3)(hp1:p≠[])(i:Nat):match ik w p i with
  | none=>xQ (w.drop i) p=false
  | some (j,V)=>j=i/\pO p V0 V/\fC p V <+: w.drop i:=by
 have hb:=yg (cD (w.drop i) p V0 0) (0,V0) (NC hp hp1);unfold ik;rcases hb.2 with ⟨_,hn,he⟩|⟨h1,h2,_⟩
 ·have hz:(fq (cD (w.drop i) p V0 0)).1=0:=by unfold fq;rw[he]
  rw[if_neg (by omega)];show xQ (w.drop i) p=false;unfold xQ;rw[hn];rfl
 ·have hz:0<(fq (cD (w.drop i) p V0 0)).1:=h1;rw[if_pos hz];have hm:=h2.resolve_right (fun h=>h.1 rfl);obtain⟨a,b,c⟩:=(ni hp).1 hm;exact⟨rfl,a,c⟩
theorem xZ{w p:List UInt8}(hp:∀ c∈p,aE c<3)(hp1:p≠[]):∀ n,match eo w p n with
  | none=>l6 w p n=false
  | some (j,V)=>l6 w p n=true/\j<n/\pO p V0 V/\fC p V <+: w.drop j
 | 0=>rfl
 | n+1=>by
  have ih:=xZ (w:=w) hp hp1 n;have ha:=Ij (w:=w) hp hp1 n;cases h0:eo w p n with
  | none=>
   rw[h0]at ih;have ih:l6 w p n=false:=ih;rw[iw h0];cases h1:ik w p n with
   | none=>
    rw[h1]at ha;show l6 w p (n+1)=false;rw[xj,ih,ha];rfl
   | some r=>
    obtain⟨j,V⟩:=r;rw[h1]at ha;obtain⟨e,a,c⟩:=ha;subst e;exact⟨tW (by omega) ((qQ hp).2 ⟨V,a,c⟩),by omega,a,c⟩
  | some r=>
   obtain⟨j,V⟩:=r;rw[h0]at ih;obtain⟨e0,e,a,c⟩:=ih;have h1:eo w p (n+1)=some (j,V):=by
    unfold eo at *;rw[range_succ,findSome?_append,h0,Option.some_or]
   rw[h1];refine⟨tW (show j<n+1 by omega) ((qQ hp).2 ⟨V,a,c⟩),by omega,a,c⟩
theorem zC{w p:List UInt8}(hp:∀ c∈p,aE c<3)(hp1:p≠[]):match iH w p with
  | none=>hasB w p=false
  | some (j,V)=>hasB w p=true/\j<w.length/\pO p V0 V/\fC p V <+: w.drop j:=xZ (w:=w) hp hp1 w.length
theorem R5(w p:List UInt8):(plL w p).length<=3:=by
 unfold plL;cases hb:isWord w&&aY p with
 | false=>simp
 | true=>
  rw[if_pos rfl];rw[Bool.and_eq_true]at hb;obtain⟨hp1,hp8,hpv⟩:=bL hb.2;have hne:p≠[]:=by rintro rfl;simp at hp1
  have hpl:=zC (w:=w) (qB hb.2) hne;cases hf:iH w p with
  | none=>simp
  | some r=>
   obtain⟨j,V⟩:=r;rw[hf]at hpl;obtain⟨_,_,hg,_⟩:=hpl;have hV3:V.length=3:=hg.len;have:(jA V).length<=V.length:=length_filter_le _ _;show (jA V).length<=3;omega
theorem mI(sep:List UInt8)(L:Nat):∀ xs:List (List UInt8),(∀ x∈xs,x.length<=L)->(Lib.join xs sep).length<=xs.length*(L+sep.length)
 | [],_=>by rw[Lib.join_nil];exact Nat.zero_le _
 | x::r,h=>by
  have hx:=h x (mem_cons_self ..);have key:∀ r:List (List UInt8),(∀ x∈r,x.length<=L)->(Lib.joinTail sep r).length<=r.length*(L+sep.length):=by
   intro r
   induction r with
   | nil=>intro _;exact Nat.zero_le _
   | cons y r ih=>
    intro hr;have h1:=hr y (mem_cons_self ..);have h2:=ih (fun z hz=>hr z (mem_cons_of_mem _ hz));have e:Lib.joinTail sep (y::r)=(sep++y)++Lib.joinTail sep r:=by simp[Lib.joinTail]
    rw[e,length_append,length_append,length_cons,Nat.succ_mul];omega
  have h2:=key r (fun z hz=>h z (mem_cons_of_mem _ hz));rw[Lib.join_cons,length_append,length_cons,Nat.succ_mul];omega
structure mQ(l:List (List UInt8)):Prop where
 few:l.length<=4000
 short:∀ x∈l,x.length<=100
structure kL(l:List Int):Prop where
 few:l.length<=4000
 low:∀ x∈l,-9223372036854775807<=x/\x<=9223372036854775807
theorem mQ.nil:mQ []:=⟨Nat.zero_le _,fun _ h=>by cases h⟩
theorem kL.nil:kL []:=⟨Nat.zero_le _,fun _ h=>by cases h⟩
theorem dx(w:List UInt8):(qt w).length=w.length+2:=by simp[qt]
theorem mQ.join{l:List (List UInt8)}(h:mQ l):(Lib.join (l.map qt) [32]).length<=1000000:=by
 have h1:(Lib.join (l.map qt) [32]).length<=(l.map qt).length*103:=mI [32] 102 (l.map qt) (fun x hx=>by
  obtain⟨y,hy,rfl⟩:=List.mem_map.1 hx;rw[dx];have:=h.short y hy;omega)
 rw[length_map]at h1;have:=Nat.mul_le_mul_right 103 h.few;omega
theorem kL.join{l:List Int}(h:kL l):(Lib.join (l.map Lib.itoa) [32]).length<=1000000:=by
 have h1:(Lib.join (l.map Lib.itoa) [32]).length<=(l.map Lib.itoa).length*22:=mI [32] 21 (l.map Lib.itoa) (fun x hx=>by
  obtain⟨y,hy,rfl⟩:=List.mem_map.1 hx;exact di y (h.low y hy).1 (h.low y hy).2)
 rw[length_map]at h1;have:=Nat.mul_le_mul_right 22 h.few;omega
theorem mQ.text{l:List (List UInt8)}(h:mQ l):(dm l).length<=1000000:=by
 unfold dm;split
 ·exact of_decide_eq_true rfl
 ·exact h.join
theorem kL.text{l:List Int}(h:kL l):(dF l).length<=1000000:=by
 unfold dF;split
 ·exact of_decide_eq_true rfl
 ·exact h.join
theorem MS{b:Bool}{l:List (List UInt8)}(h:b=true->mQ l):mQ (if b then l else []):=by
 cases b
 ·exact mQ.nil
 ·exact h rfl
theorem Jv{b:Bool}{l:List Int}(h:b=true->kL l):kL (if b then l else []):=by
 cases b
 ·exact kL.nil
 ·exact h rfl
theorem xr:∀(f:Nat) (w:List UInt8),∀ x∈rE f w,x.length<=w.length
 | 0,_,_,h=>by cases h
 | f+1,w,x,h=>by
  unfold rE at h;split at h
  ·cases h
  ·rcases List.mem_cons.1 h with rfl|h
   ·rw[length_take];omega
   ·have:=xr f _ x h;rw[length_drop]at this;omega
theorem HF(w:List UInt8):mQ (if isWord w then kF w else []):=MS fun h=>by
 have h60:=au h;refine⟨?_,fun x hx=>?_⟩
 ·have:=E9 w.length w;unfold kF;omega
 ·have:=xr _ _ x hx;omega
theorem HG{w:List UInt8}{m:Nat}:∀ x∈rF w m,x.length<=m:=by
 intro x hx;unfold rF at hx;split at hx
 ·have hx:=(oy _ _).1 hx;unfold dr at hx;obtain⟨i,_,rfl⟩:=List.mem_map.1 hx;unfold seg;rw[length_drop,length_take];omega
 ·cases hx
theorem HH(w:List UInt8):mQ (if isWord w then eT w w.length else []):=MS fun h=>by
 have h60:=au h;refine⟨?_,fun x hx=>?_⟩
 ·have:=fX h60 w.length;omega
 ·unfold eT at hx;obtain⟨m,hm,hx⟩:=List.mem_flatMap.1 hx;have:=HG x (List.mem_filter.1 hx).1;have:=List.mem_range.1 hm;omega
theorem yv(w:List UInt8):∀(f i:Nat),∀ x∈ql w f i,x.length<=w.length
 | 0,_,_,h=>by cases h
 | f+1,i,x,h=>by
  unfold ql at h;split at h
  ·rcases List.mem_cons.1 h with rfl|h
   ·unfold seg;rw[length_drop,length_take];omega
   ·exact yv w f _ x h
  ·cases h
theorem I3(w:List UInt8):mQ (if isWord w then ic w 0 else []):=MS fun h=>by
 have h60:=au h;refine⟨?_,fun x hx=>?_⟩
 ·have:=FB w w.length 0;unfold ic;omega
 ·have:=yv w _ _ x hx;omega
theorem Mz{p:List UInt8}{V:bA}{k:Nat}(h:occ p k):(V.getD k []).length<=(fC p V).length:=by
 obtain⟨c,hc,rfl⟩:=h;unfold fC
 induction p with
 | nil=>cases hc
 | cons a p ih=>
  rw[flatMap_cons,length_append];rcases List.mem_cons.1 hc with rfl|hc
  ·omega
  ·have:=ih hc;omega
theorem Fi(w p:List UInt8):mQ (plL w p):=by
 refine⟨by have:=R5 w p;omega,fun x hx=>?_⟩;unfold plL at hx;cases hb:isWord w&&aY p with
 | false=>rw[hb]at hx;cases hx
 | true=>
  rw[hb,if_pos rfl]at hx;rw[Bool.and_eq_true]at hb;have h60:=au hb.1;obtain⟨hp1,hp8,hpv⟩:=bL hb.2;have hne:p≠[]:=by rintro rfl;simp at hp1
  have hpl:=zC (w:=w) (qB hb.2) hne;cases hf:iH w p with
  | none=>rw[hf]at hx;cases hx
  | some r=>
   obtain⟨j,V⟩:=r;rw[hf]at hpl hx;obtain⟨_,hj,hg,hpre⟩:=hpl;have hx:x∈jA V:=hx;obtain⟨hx1,hx2⟩:=List.mem_filter.1 hx;obtain⟨k,hk,rfl⟩:=getElem_of_mem hx1;have hgk:V.getD k []=V[k]:=by rw[getD_eq_getElem?_getD,getElem?_eq_getElem hk];rfl
   have hne2:V.getD k []≠[]:=by
    rw[hgk];intro e;rw[e]at hx2;cases hx2
   have h0:V0.getD k []=[]:=by
    have:V.length=3:=hg.len
    match k,(by omega:k<3) with
    | 0,_=>rfl
    | 1,_=>rfl
    | 2,_=>rfl
   have hocc:=(hg.new k h0).1 hne2;have h1:=Mz (V:=V) hocc;have h2:=hpre.length_le;rw[length_drop]at h2;rw[hgk]at h1;omega
theorem pl_int(w p:List UInt8):0<=plI w p/\plI w p<=60:=by
 unfold plI;cases hb:isWord w&&aY p with
 | false=>rw[if_neg (by decide)];decide
 | true=>
  rw[if_pos rfl];rw[Bool.and_eq_true]at hb;have h60:=au hb.1;obtain⟨hp1,hp8,hpv⟩:=bL hb.2;have hne:p≠[]:=by rintro rfl;simp at hp1
  have hpl:=zC (w:=w) (qB hb.2) hne;cases hf:iH w p with
  | none=>exact⟨Int.le_refl _,by decide⟩
  | some r=>
   obtain⟨j,V⟩:=r;rw[hf]at hpl;obtain⟨_,hj,_⟩:=hpl;exact⟨by show (0:Int)<=(j:Nat);omega,by show ((j:Nat):Int)<=60;omega⟩
theorem tX(w:List UInt8):kL (if isWord w then counts w else []):=Jv fun h=>by
 have h60:=au h;refine⟨by rw[dT];decide,fun x hx=>?_⟩;have hc:∀ k,0<=cnt w k/\cnt w k<=60:=fun k=>by
  have:w.countP (fun u=>u.toNat==97+k)<=w.length:=countP_le_length;unfold cnt;omega
 unfold counts at hx;have:∃ k,x=cnt w k:=by
  simp only[mem_cons,not_mem_nil,or_false]at hx;rcases hx with rfl|rfl|rfl|rfl|rfl
  ·exact⟨_,rfl⟩
  ·exact⟨_,rfl⟩
  ·exact⟨_,rfl⟩
  ·exact⟨_,rfl⟩
  ·exact⟨_,rfl⟩
 obtain⟨k,rfl⟩:=this;have:=hc k;omega
theorem Gn{w:List UInt8}{x:Int}(h:x∈cy w):1<=x/\x<=w.length:=by
 unfold cy jL at h;obtain⟨k,hk,rfl⟩:=List.mem_map.1 h;have:=List.mem_range.1 (List.mem_filter.1 hk).1;omega
theorem GJ(w:List UInt8):(cy w).length<=w.length:=by
 unfold cy jL;rw[length_map];exact Nat.le_trans (length_filter_le _ _) (by rw[length_range];exact Nat.le_refl _)
theorem Iv(w:List UInt8):kL (if isWord w then cy w else []):=Jv fun h=>by
 have h60:=au h;refine⟨by have:=GJ w;omega,fun x hx=>by have:=Gn hx;omega⟩
theorem CW(w:List UInt8):kL (if isWord w then ig w else []):=Jv fun h=>by
 have h60:=au h;unfold ig;refine⟨by rw[length_reverse,length_map];have:=GJ w;omega,fun x hx=>?_⟩;rw[mem_reverse]at hx;obtain⟨y,hy,rfl⟩:=List.mem_map.1 hx;have:=Gn hy;omega
theorem Jc(w:List UInt8):kL (if isWord w then gV w (w.length-1) else []):=Jv fun h=>by
 have h60:=au h;refine⟨by have:=tu w (w.length-1);omega,fun x hx=>?_⟩;unfold gV at hx;obtain⟨k,hk,rfl⟩:=List.mem_map.1 hx;have:=List.mem_range.1 (List.mem_filter.1 hk).1;omega
theorem Q3{l:List Nat}(h1:l.length<=4000)(h2:∀ x∈l,x<=1000000000000000):kL (nI l):=by
 unfold nI;refine⟨by rw[length_map];exact h1,fun x hx=>?_⟩;obtain⟨y,hy,rfl⟩:=List.mem_map.1 hx;have:=h2 y hy;omega
theorem P0(w:List UInt8):∀ x∈jt w,x<=60:=by
 intro x hx;by_cases h:s7 w=0
 ·obtain⟨h1,_,_⟩:=JW h;unfold rB at h1;split at h1
  ·rename_i ho;unfold l0 at ho;rw[Bool.and_eq_true,all_eq_true]at ho;obtain⟨k,hk,rfl⟩:=getElem_of_mem hx;have hk2:k<(nI (jt w)).length:=by unfold nI;rw[length_map];exact hk
   have:=ho.2 k (List.mem_range.2 hk2);unfold lT at this;rw[decide_eq_true_eq]at this;have e:(nI (jt w)).getD k 0=((jt w)[k]:Nat):=by
    rw[getD_eq_getElem?_getD,getElem?_eq_getElem hk2];exact getElem_map ..
   rw[e]at this;omega
  ·cases h1
 ·have:jt w=[]:=by
   unfold s7 at h;unfold jt;split
   ·rename_i hab;rw[if_pos hab]at h;cases hc:cntF w 21 0 with
    | none=>rfl
    | some y=>rw[hc]at h;exact absurd rfl h
   ·rfl
  rw[this]at hx;cases hx
theorem Hn(w:List UInt8):kL (nI (jt w)):=Q3 (by have:=Oe w;omega) (fun x hx=>by have:=P0 w x hx;omega)
theorem xO(ws:List (List UInt8))(a k:Int):kL (nI (iP ws a k)):=by
 have h:(iP ws a k).length<=4000/\∀ x∈iP ws a k,x<=1000000000000000:=by
  unfold iP;split
  ·rename_i hc;obtain⟨_,_,_,h0,h1⟩:=fR hc;split
   ·rename_i ho;refine⟨by rw[nE];omega,fun x hx=>?_⟩;unfold Ae at hx;obtain⟨i,hi,rfl⟩:=List.mem_map.1 hx;unfold okS at ho;rw[all_eq_true]at ho;have:=ho i hi;rw[decide_eq_true_eq]at this;exact this
   ·exact⟨Nat.zero_le _,fun x hx=>by cases hx⟩
  ·exact⟨Nat.zero_le _,fun x hx=>by cases hx⟩
 exact Q3 h.1 h.2
def IOk(n:Int):Prop:=-9223372036854775807<=n/\n<=9223372036854775807
theorem D4(w p:List UInt8):IOk (plI w p):=by have:=pl_int w p;unfold IOk;omega
theorem yM(w:List UInt8):IOk (vV w)/\IOk (vS w):=by
 unfold IOk vV vS;have h60:cf w=0->w.length<=60:=fun h=>by
  unfold cf at h;split at h
  ·rename_i hw;exact au hw
  ·cases h
 by_cases h:cf w=0
 ·rw[if_pos h,if_pos h];have:=h60 h;have h1:w.length/Nat.gcd w.length (cA w)<=w.length:=Nat.div_le_self _ _;have h2:cA w/Nat.gcd w.length (cA w)<=cA w:=Nat.div_le_self _ _;have h3:cA w<=w.length+1:=by
   unfold cA;cases hf:(range w.length).find? (fun q=>hp w (q+1)) with
   | none=>exact Nat.le_add_left 1 _
   | some q=>
    have:=List.mem_range.1 (mem_of_find?_eq_some hf);show q+1<=_;omega
  generalize w.length/Nat.gcd w.length (cA w)=x at *;generalize cA w/Nat.gcd w.length (cA w)=y at *;omega
 ·rw[if_neg h,if_neg h];decide
theorem qK(w:List UInt8):IOk (ph w):=by
 unfold IOk ph;by_cases h:cf w=0
 ·rw[if_pos h];have:w.length<=60:=by
   unfold cf at h;split at h
   ·rename_i hw;exact au hw
   ·cases h
  have h1:w.length/(ee w).length<=w.length:=Nat.div_le_self _ _;generalize w.length/(ee w).length=x at *;omega
 ·rw[if_neg h];decide
theorem Fs(w:List UInt8):IOk (if isWord w then (((ltF w w.length).2:Nat):Int) else 0):=by
 unfold IOk;cases h:isWord w with
 | false=>rw[if_neg (by decide)];decide
 | true=>
  have:=au h;have:=(rI w w.length).2;rw[if_pos rfl];omega
theorem ER(w:List UInt8):IOk (lpK w):=by
 unfold IOk lpK;by_cases h:cf w=0
 ·rw[if_pos h];have:w.length<=60:=by
   unfold cf at h;split at h
   ·rename_i hw;exact au hw
   ·cases h
  have h1:=(qU ca w w.length (Nat.le_refl _)).2;omega
 ·rw[if_neg h];decide
theorem Iu(w:List UInt8):IOk (C7 w):=by
 unfold IOk C7;cases h:isWord w with
 | false=>rw[if_neg (by decide)];decide
 | true=>
  have h60:=au h;have:=fX h60 w.length;rw[if_pos rfl];omega
theorem Ic(p:List UInt8)(k n:Int):IOk (FH p k n):=by
 unfold IOk FH;split
 ·rename_i h;obtain⟨_,hk,hn⟩:=sK h;have h1:=ob (p:=p) (k:=k.toNat) (n:=n.toNat) (by omega) (by omega) [];unfold pA;omega
 ·decide
theorem jJ{t:List UInt8}{c:Int}(h:c=0->isWord t=true)(h':c≠0->t=[]):t.length<=60:=by
 by_cases e:c=0
 ·exact au (h e)
 ·rw[h' e];exact Nat.zero_le _
theorem Hl(w:List UInt8):(if isWord w then w.reverse else []).length<=60:=jJ (c:=aJ w) (fun h=>rk h) (fun h=>by
 unfold aJ at h;split
 ·rename_i hw;rw[if_pos hw]at h;exact absurd rfl h
 ·rfl)
theorem Cl(w:List UInt8):(pE w).length<=60:=jJ (c:=pG w) BK (fun h=>by
 unfold pG at h;unfold pE;(repeat' split)<;>simp_all)
theorem DS(ws:List (List UInt8))(w:List UInt8)(k:Int):(mG ws w k).length<=60:=jJ (c:=mN ws w k) BG (fun h=>by
 unfold mN at h;unfold mG;(repeat' split)<;>simp_all)
theorem CT(ws:List (List UInt8))(w:List UInt8):(pq ws w).length<=60:=jJ (c:=pn ws w) AW (fun h=>by
 unfold pn at h;unfold pq;(repeat' split)<;>simp_all)
theorem H5(w:List UInt8)(i m:Int):(Av w i m).length<=60:=jJ (c:=Ab w i m) FE (fun h=>by
 unfold Ab at h;unfold Av;(repeat' split)<;>simp_all)
theorem H6(p q:Int):(ix p q).length<=60:=jJ (c:=gJ p q) Gs (fun h=>by
 unfold ix;rw[if_neg h])
theorem Ng(ws:List (List UInt8))(a n:Int):(grT ws a n).length<=60:=jJ (c:=grC ws a n) Kp (fun h=>by
 unfold grC at h;unfold grT;(repeat' split)<;>simp_all)
theorem G3(p q:Int):(Ar p q).length<=60:=jJ (c:=rH p q) E8 (fun h=>by
 unfold Ar;rw[if_neg h])
theorem DH(w u:List UInt8):(lQ w u).length<=60:=jJ (c:=nP w u) BT (fun h=>by
 unfold nP at h;unfold lQ;(repeat' split)<;>simp_all)
theorem x8(l:List UInt8)(m:Int):(fN l m).length<=60:=jJ (c:=ia l m) yV (fun h=>by
 unfold ia at h;unfold fN;(repeat' split)<;>simp_all)
theorem pM(zs:List Int):(pJ zs).length<=60:=jJ (c:=rB zs) NP (fun h=>by
 unfold rB at h;unfold pJ;(repeat' split)<;>simp_all)
theorem xL(w:List UInt8)(k:Int):(vW w k).length<=60:=jJ (c:=Am w k) GB (fun h=>by
 unfold Am at h;unfold vW;(repeat' split)<;>simp_all)
theorem yf(n:Int):(wm n).length<=60:=jJ (c:=Al n) EF (fun h=>by
 unfold Al at h;unfold wm;(repeat' split)<;>simp_all)
theorem DT{w:List UInt8}(h:cf w=0):w.length<=60:=by
 unfold cf at h;split at h
 ·rename_i hw;exact au hw
 ·cases h
theorem DC(w:List UInt8):(lO w).length<=60:=by
 unfold lO;split
 ·rename_i h;have:=DT h;unfold ee;split
  ·rw[length_take];omega
  ·exact this
 ·exact Nat.zero_le _
theorem O8(w:List UInt8):(if isWord w then (ltF w w.length).1 else []).length<=60:=by
 split
 ·rename_i h;have:=au h;rw[(rI w w.length).1];exact this
 ·exact Nat.zero_le _
theorem MD(w:List UInt8):(ubT w).length<=60:=by
 unfold ubT;split
 ·rename_i h;have:=DT h;have:=(qU kG w w.length (Nat.le_refl _)).1;omega
 ·exact Nat.zero_le _
theorem On(w:List UInt8):(lpT w).length<=60:=by
 unfold lpT;split
 ·rename_i h;have:=DT h;have:=(qU ca w w.length (Nat.le_refl _)).1;omega
 ·exact Nat.zero_le _
theorem HV(p q:Int):(CX p q).length<=60:=by
 unfold CX;split
 ·rename_i h;unfold GC at h;split at h
  ·split at h
   ·assumption
   ·cases h
  ·cases h
 ·exact Nat.zero_le _
theorem xM(p:List UInt8)(k n:Int):(firstT p k n).length<=60:=jJ (c:=iL p k n) (fun h=>(MQ h).2.2.1) MI
theorem CR(ws:List (List UInt8)):(mg ws).length<=100:=by
 unfold mg;split
 ·rename_i h;have h5:=(aX h).2;have h12:∀ w∈ws,w.length<=12:=fun w hw=>(bK h hw).1;have h1:(Lib.join ws [44]).length<=ws.length*13:=mI [44] 12 ws h12;have e:txt ws=Lib.join ws [44]:=by
   cases ws with
   | nil=>rfl
   | cons x r=>rw[Lib.join_cons];rfl
  rw[e];have:=Nat.mul_le_mul_right 13 h5;omega
 ·exact Nat.zero_le _
theorem CZ(ws:List (List UInt8)):(pB ws).length<=60:=by
 unfold pB;split
 ·split
  ·rename_i hn;cases hm:je ws (i6 ws+1) with
   | none=>exact Nat.zero_le _
   | some u=>
    unfold je at hm;obtain⟨m,hm1,hm2⟩:=exists_of_findSome?_eq_some hm;have h1:=List.mem_range.1 hm1;unfold uF at hm2;have h2:=(FC _ _ _ _ (mem_of_find?_eq_some hm2)).1;rw[length_nil,Nat.zero_add]at h2;show u.length<=60;omega
  ·exact Nat.zero_le _
 ·exact Nat.zero_le _
end Go.Proofs.YtapimhjbilkfpaaGreatDoor
