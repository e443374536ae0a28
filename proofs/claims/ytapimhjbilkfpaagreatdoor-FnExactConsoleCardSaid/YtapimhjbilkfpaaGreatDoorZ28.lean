/- Lemmas for FnExactConsole, part 29 of 46. -/
import Derived.Test.YtapimhjbilkfpaaGreatDoorZ27
import Derived.Test.YtapimhjbilkfpaaGreatDoorZ19
import Derived.Test.YtapimhjbilkfpaaGreatDoorZ15
import Derived.Test.YtapimhjbilkfpaaGreatDoorZ18
import Derived.Test.YtapimhjbilkfpaaGreatDoorZ14
set_option linter.unusedVariables false
set_option linter.unusedSimpArgs false
namespace Go.Proofs.YtapimhjbilkfpaaGreatDoor
open Go List
theorem zF{w:List UInt8}(h:aJ w=0):isWord w=true:=by
 unfold aJ at h;split at h
 ·assumption
 ·cases h
theorem OF{ws:List (List UInt8)}(h:∀ w∈ws,w.all isL=true)(i:Nat):(ws.getD i []).all isL=true:=by
 rw[getD_eq_getElem?_getD];cases hx:ws[i]? with
 | none=>rfl
 | some x=>exact h x (mem_of_getElem? hx)
theorem Cj{ws:List (List UInt8)}(h:∀ w∈ws,w.all isL=true)(l:List UInt8):(aP ws l).all isL=true:=by
 unfold aP;rw[all_flatMap,all_eq_true];exact fun u _=>OF h _
theorem Ky{ws:List (List UInt8)}(h:aW ws=true):∀ w∈ws,w.all isL=true:=fun w hw=>aV (bL h hw).2.1
theorem OI{w:List UInt8}(h:isWord w=true):isWord w.reverse=true:=
 dd (by rw[length_reverse];exact au h) (by rw[all_reverse];exact aV h)
theorem sX{w:List UInt8}(h:aJ w=0):isWord (if isWord w then w.reverse else [])=true:=by
 rw[if_pos (zF h)];exact OI (zF h)
theorem mX{w:List UInt8}(h:w.all isL=true)(n:Nat):(w.take n).all isL=true:=by
 rw[all_eq_true]at *;exact fun u hu=>h u (mem_of_mem_take hu)
theorem MA{w:List UInt8}(h:w.all isL=true)(n:Nat):(w.drop n).all isL=true:=by
 rw[all_eq_true]at *;exact fun u hu=>h u (mem_of_mem_drop hu)
theorem Bk{w:List UInt8}(h:pq w=0):isWord (ph w)=true:=by
 unfold pq at h;split at h
 ·rename_i hw;split at h
  ·rename_i hl;unfold ph;rw[if_pos hw,if_pos hl];refine dd hl ?_;unfold lQ;rw[all_append,all_reverse,aV hw,mX (aV hw)];rfl
  ·cases h
 ·cases h
theorem xJ{ws:List (List UInt8)}(hm:aW ws=true):∀(k:Nat) (w x:List UInt8),isWord w=true->pj ws k w=some x->isWord x=true
 | 0,w,x,hw,h=>by
  rw[yk]at h;injection h with h
  rw[<-h];exact hw
 | k+1,w,x,hw,h=>by
  rw[qw]at h;split at h
  ·cases h
  ·exact xJ hm k _ x (dd (by omega) (Cj (Ky hm) w)) h
theorem A5{ws:List (List UInt8)}{w:List UInt8}{k:Int}(h:nv ws w k=0):isWord (nJ ws w k)=true:=by
 unfold nv at h;unfold nJ;by_cases hc:ig ws w k=0
 ·rw[if_pos hc]at h ⊢;obtain⟨hm,hw,_⟩:=ld hc;cases hx:pj ws k.toNat w with
  | none=>rw[hx]at h;cases h
  | some x=>exact xJ hm _ w x hw hx
 ·rw[if_neg hc]at h;exact absurd h hc
theorem EZ{w:List UInt8}{i m:Int}(h:zZ w i m=0):isWord (Ak w i m)=true:=by
 unfold zZ at h;split at h
 ·rename_i hw;split at h
  ·rename_i hf;unfold Ak;rw[if_pos hw,if_pos hf];refine dd ?_ (rk (aV hw) _ _);have:=au hw;unfold seg;rw[length_drop,length_take];omega
  ·cases h
 ·cases h
theorem R0{c:Nat->Nat}{n i:Nat}(hi:i<n)(h:dE c n<=5):lab c i<=4:=by
 have h1:=Hs c hi;omega
theorem FN{p q:Int}(h:gP p q=0):isWord (iw p q)=true:=by
 unfold iw;rw[if_pos h];unfold gP at h;split at h
 ·split at h
  ·cases h
  ·rename_i hn;split at h
   ·cases h
   ·rename_i hk;refine dd (by rw[sR];omega) ?_;rw[all_eq_true];intro u hu;unfold fR at hu;obtain⟨i,hi,rfl⟩:=List.mem_map.1 hu;exact lf (R0 (List.mem_range.1 hi) (by omega))
 ·cases h
theorem E4{ws:List (List UInt8)}(hm:∀ w∈ws,w.all isL=true)(n:Nat):∀ f x,x.all isL=true->(grF ws n f x).length<=n/\(grF ws n f x).all isL=true
 | 0,x,h=>⟨by unfold grF;rw[length_take];omega,by unfold grF;exact mX h n⟩
 | f+1,x,h=>by
  unfold grF;split
  ·exact E4 hm n f _ (Cj hm x)
  ·exact⟨by rw[length_take];omega,mX h n⟩
theorem JH{ws:List (List UInt8)}{a n:Int}(h:grC ws a n=0):isWord (grT ws a n)=true:=by
 unfold grC at h;unfold grT;by_cases hc:fw ws a n 60=0
 ·rw[if_pos hc]at h ⊢;obtain⟨hm,h0,h1,h2,h3⟩:=gb hc;have h5:=(aX hm).2;split at h
  ·rename_i hg;rw[if_pos hg];have hl:[ltr a.toNat].all isL=true:=by
    rw[all_cons,lf (by omega)];rfl
   obtain⟨q1,q2⟩:=E4 (Ky hm) n.toNat n.toNat [ltr a.toNat] hl;exact dd (by omega) q2
  ·cases h
 ·rw[if_neg hc]at h;exact absurd h hc
theorem BX(a b c:Nat):∀ n,(gK a b c n).all isL=true
 | 0=>rfl
 | n+1=>by
  unfold gK;rw[all_append,BX a b c n];split<;>rfl
theorem Gk{p q:Int}(h:se p q=0):isWord (z7 p q)=true:=by
 unfold z7;rw[if_pos h];unfold se at h;split at h
 ·rename_i hs;split at h
  ·cases h
  ·rename_i hn;refine dd ?_ (by unfold mQ;exact BX _ _ _ _);unfold mQ;rw[oK];unfold ek at hs;simp only[Bool.and_eq_true,decide_eq_true_eq]at hs;omega
 ·cases h
theorem B7{w u:List UInt8}(h:mh w u=0):isWord (lU w u)=true:=by
 unfold mh at h;unfold lU;split at h
 ·rename_i hb;rw[if_pos hb];rw[Bool.and_eq_true]at hb;split at h
  ·cases h
  ·rename_i hl;rw[if_neg hl];exact OQ hb.1 hb.2 (by omega)
 ·cases h
theorem A6{ws:List (List UInt8)}(hm:∀ w∈ws,w.all isL=true)(m:Nat):∀ f x,x.all isL=true->(dR ws m f x).all isL=true
 | 0,x,h=>h
 | f+1,x,h=>by
  unfold dR;split
  ·exact A6 hm m f _ (Cj hm x)
  ·exact h
theorem Mg{l:List UInt8}{ws:List (List UInt8)}(h:named l=some ws):∀ w∈ws,w.all isL=true:=by
 unfold named at h;have:ws=[[97,98],[97]]\/ws=[[97,98],[98,97]]\/ws=[[97,98],[97,97]]\/ws=[[97,98,99],[97,99],[98]]:=by
  repeat' split at h
  all_goals simp_all
 rcases this with rfl|rfl|rfl|rfl<;>decide
theorem yp{l:List UInt8}{m:Int}(h:ia l m=0):isWord (fS l m)=true:=by
 unfold ia at h;unfold fS;split at h
 ·rename_i hm;rw[if_pos hm];cases hn:named l with
  | none=>rw[hn]at h;cases h
  | some ws=>exact dd (by show ((dR ws m.toNat 60 [97]).take m.toNat).length<=60;rw[length_take];omega) (mX (A6 (Mg hn) _ _ _ rfl) _)
 ·cases h
theorem PE{w:List UInt8}(h:w.all isL=true)(k:Nat):(dD w k).all isL=true:=by
 unfold dD;rw[all_flatten,all_eq_true];intro u hu;rw[eq_of_mem_replicate hu];exact h
theorem BC:∀(zs:List Int) (last own w:List UInt8),last.all isL=true->own.all isL=true->own.length<=60->jV zs last own=some w->isWord w=true
 | [],last,own,w,hl,ho,hn,h=>by
  unfold jV at h;injection h with h
  rw[<-h];exact dd hn ho
 | d::ds,last,own,w,hl,ho,hn,h=>by
  unfold jV at h;split at h
  ·rename_i hd;refine BC ds own _ w ho ?_ ?_ h
   ·rw[all_append,PE ho,hl];rfl
   ·rw[length_append,fu];omega
  ·cases h
theorem Pq{zs:List Int}(h:q8 zs=0):isWord (qB zs)=true:=by
 unfold q8 at h;unfold qB;split at h
 ·rename_i ho;rw[if_pos ho];cases hs:jV zs [98] [97] with
  | none=>rw[hs]at h;cases h
  | some w=>exact BC zs _ _ w rfl rfl (by decide) hs
 ·cases h
theorem Ei{w:List UInt8}{k:Int}(h:zM w k=0):isWord (vM w k)=true:=by
 unfold zM at h;unfold vM;split at h
 ·rename_i hw;rw[if_pos hw];split at h
  ·rename_i hk;rw[if_pos hk];refine dd ?_ (by rw[all_append,MA (aV hw),mX (aV hw)];rfl);have:=au hw;rw[length_append,length_drop,length_take];omega
  ·cases h
 ·cases h
theorem Mr:∀ n,n<=5->isWord (jt n)=true:=by decide
theorem Gy{n:Int}(h:Ae n=0):isWord (we n)=true:=by
 unfold Ae at h;unfold we;split at h
 ·rename_i hn;rw[if_pos hn];rw[decide_eq_true_eq]at hn;exact Mr _ (by omega)
 ·cases h
theorem Ng{w:List UInt8}{ws:List (List UInt8)}:∀(f i x:Nat),ws.length<=5->(cH w ws i).1=some x->(il w ws f i).all isL=true/\(il w ws f i).length<=w.length-i
 | 0,i,x,_,_=>⟨rfl,Nat.zero_le _⟩
 | f+1,i,x,h5,hx=>by
  unfold il;split
  ·rename_i hi;obtain⟨q1,q2,_,⟨s,q4,_⟩,q5,_⟩:=DN hi hx;have hp:1<=(ws.getD (cH w ws i).2 []).length:=List.length_pos_iff.2 q2;obtain⟨r1,r2⟩:=Ng f _ s h5 q4;refine⟨?_,?_⟩
   ·rw[all_cons,r1,lf (by omega)];rfl
   ·rw[length_cons];omega
  ·exact⟨rfl,Nat.zero_le _⟩
theorem BL{ws:List (List UInt8)}{w:List UInt8}(h:pA ws w=0):isWord (pr ws w)=true:=by
 unfold pA at h;unfold pr;by_cases hc:gU ws w=0
 ·rw[if_pos hc]at h ⊢;obtain⟨hm,hw⟩:=qs hc;have h5:=(aX hm).2;have h60:=au hw;cases hx:(cH w ws 0).1 with
  | none=>rw[hx]at h;cases h
  | some x=>
   obtain⟨r1,r2⟩:=Ng w.length 0 x h5 hx;exact dd (by show (il w ws w.length 0).length<=60;omega) r1
 ·rw[if_neg hc]at h;exact absurd h hc
theorem yQ{d d':Dk}{t t':List UInt8}{c:Int}(h:bt d t c=some (d',t')):c=0/\d'=d/\t'=t:=by
 unfold bt at h;split at h
 ·rename_i hc;injection h with h
  injection h with h1 h2
  exact⟨hc,h1.symm,h2.symm⟩
 ·cases h
theorem fG{d d':Dk}{t t':List UInt8}{c:Int}(hd:d.ok)(hw:c=0->isWord t=true)(h:bec d t c=some (d',t')):d'.ok:=by
 unfold bec at h;obtain⟨h1,rfl,rfl⟩:=yQ h;exact⟨hw h1,hd.2⟩
theorem bB{d d':Dk}{t t':List UInt8}{c:Int}(hd:d.ok)(h:bt d t c=some (d',t')):d'.ok:=by
 obtain⟨_,rfl,_⟩:=yQ h;exact hd
theorem xk:eU.ok:=⟨by decide,by decide,by decide⟩
theorem aI{α:Type}{P:Prop}[Decidable P]{a b r:α}{Q:Prop}(h:(if P then a else b)=r)(ha:P->a=r->Q)(hb:¬ P->b=r->Q):Q:=by
 by_cases hp:P
 ·rw[if_pos hp]at h;exact ha hp h
 ·rw[if_neg hp]at h;exact hb hp h
theorem Pa{d d':Dk}{c t:List UInt8}(hd:d.ok)(h:aM d c=some (d',t)):d'.ok:=by
 unfold aM at h;refine aI h (fun _ h=>fG hd (fun e=>sX e) h) (fun _ h=>?_);refine aI h (fun _ h=>fG hd (fun e=>Bk e) h) (fun _ h=>?_);refine aI h (fun _ h=>fG hd (fun e=>A5 e) h) (fun _ h=>?_);refine aI h (fun _ h=>fG hd (fun e=>BL e) h) (fun _ h=>?_);refine aI h (fun _ h=>bB hd h) (fun _ h=>?_);refine aI h (fun _ h=>bB hd h) (fun _ h=>?_);refine aI h (fun _ h=>bB hd h) (fun _ h=>?_);refine aI h (fun _ h=>bB hd h) (fun _ h=>?_);refine aI h (fun _ h=>bB hd h) (fun _ h=>?_);refine aI h (fun _ h=>bB xk h) (fun _ h=>?_);unfold bH at h;refine aI h (fun _ h=>bB hd h) (fun _ h=>?_);refine aI h (fun _ h=>bB hd h) (fun _ h=>?_);refine aI h (fun _ h=>bB hd h) (fun _ h=>?_);refine aI h (fun _ h=>bB hd h) (fun _ h=>?_);refine aI h (fun _ h=>bB hd h) (fun _ h=>?_);refine aI h (fun _ h=>bB hd h) (fun _ h=>?_);refine aI h (fun _ h=>bB hd h) (fun _ h=>?_);refine aI h (fun _ h=>bB hd h) (fun _ h=>?_);refine aI h (fun _ h=>bB hd h) (fun _ h=>?_);refine aI h (fun _ h=>bB hd h) (fun _ h=>?_);refine aI h (fun _ h=>bB hd h) (fun _ h=>?_);refine aI h (fun _ h=>bB hd h) (fun _ h=>?_);refine aI h (fun _ h=>bB hd h) (fun _ h=>?_);refine aI h (fun _ h=>bB hd h) (fun _ h=>?_);unfold dB at h;refine aI h (fun _ h=>bB hd h) (fun _ h=>?_);refine aI h (fun _ h=>bB hd h) (fun _ h=>?_);refine aI h (fun _ h=>bB hd h) (fun _ h=>?_);refine aI h (fun _ h=>bB hd h) (fun _ h=>?_);refine aI h (fun _ h=>bB hd h) (fun _ h=>?_);refine aI h (fun _ h=>bB hd h) (fun _ h=>?_);cases h
theorem R5{d d':Dk}{c t:List UInt8}{a b:Int}(hd:d.ok)(h:gn d c a b=some (d',t)):d'.ok:=by
 unfold gn at h;refine aI h (fun _ h=>fG hd (fun e=>EZ e) h) (fun _ h=>?_);refine aI h (fun _ h=>fG hd (fun e=>FN e) h) (fun _ h=>?_);refine aI h (fun _ h=>fG hd (fun e=>JH e) h) (fun _ h=>?_);refine aI h (fun _ h=>fG hd (fun e=>Gk e) h) (fun _ h=>?_);refine aI h (fun _ h=>bB hd h) (fun _ h=>?_);refine aI h (fun _ h=>bB hd h) (fun _ h=>?_);refine aI h (fun _ h=>bB hd h) (fun _ h=>?_);refine aI h (fun _ h=>bB hd h) (fun _ h=>?_);cases h
theorem H3{l:List UInt8}(h:pmC l=0):aW (pmL l)=true/\pmL l=spR 44 l:=by
 unfold pmC at h;unfold pmL;split at h
 ·rename_i hm;rw[if_pos hm];exact⟨hm,rfl⟩
 ·cases h
theorem PU{d d':Dk}{c t u:List UInt8}(hd:d.ok)(h:dQ d c t=some (d',u)):d'.ok:=by
 unfold dQ at h;split at h
 ·split at h
  ·rename_i hw;exact fG hd (fun _=>hw) h
  ·cases h
 split at h
 ·exact fG hd (fun e=>B7 e) h
 split at h
 ·split at h
  ·rename_i hp;obtain⟨_,rfl,_⟩:=yQ h;exact⟨hd.1,hp,hd.2.2⟩
  ·cases h
 obtain⟨h0,rfl,_⟩:=yQ h;exact⟨hd.1,hd.2.1,(H3 h0).1⟩
theorem St{d d':Dk}{c u:List UInt8}{n:List Int}(hd:d.ok)(h:gM d c n=some (d',u)):d'.ok:=by
 unfold gM at h;split at h
 ·exact fG hd (fun e=>Pq e) h
 split at h
 ·exact Pa hd h
 ·split at h
  ·exact fG hd (fun e=>Ei e) h
  split at h
  ·exact fG hd (fun e=>Gy e) h
  ·cases h
 ·exact R5 hd h
 ·cases h
theorem QO{d d':Dk}{c u:List UInt8}{r:List (List UInt8)}(hd:d.ok)(h:gJ d c r=some (d',u)):d'.ok:=by
 unfold gJ at h;split at h
 ·split at h
  ·exact PU hd h
  ·cases h
 split at h
 ·split at h
  ·exact fG hd (fun e=>yp e) h
  ·cases h
 split at h
 ·exact St hd h
 ·cases h
theorem HQ{d:Dk}(hd:d.ok)(l:List UInt8):(iO d l).1.ok:=by
 unfold iO;cases hx:rW d l with
 | none=>exact hd
 | some r=>
  obtain⟨d',u⟩:=r;exact QO hd hx
theorem QT(l:List UInt8):txt (spR 44 l)=l:=by
 have key:∀ l:List UInt8,∃ x r,spR 44 l=x::r/\x++Lib.joinTail [44] r=l:=by
  intro l
  induction l with
  | nil=>exact⟨[],[],rfl,rfl⟩
  | cons b l ih=>
   obtain⟨x,r,h1,h2⟩:=ih;unfold spR;split
   ·rename_i hb;refine⟨[],x::r,by rw[h1],?_⟩;show Lib.joinTail [44] (x::r)=b::l;rw[hb,<-h2];rfl
   ·exact⟨b::x,r,by rw[h1];rfl,by rw[<-h2];rfl⟩
 obtain⟨x,r,h1,h2⟩:=key l;rw[h1];exact h2
theorem J5{l:List UInt8}(h:pmC l=0):nf (pmL l)=l/\kC (pmL l)=0:=by
 obtain⟨h1,h2⟩:=H3 h;unfold nf kC;rw[if_pos h1,if_pos h1,h2];exact⟨QT l,rfl⟩
theorem Pw{u p:List UInt8}(hp:∀ c∈p,aE c<3)(hp1:p≠[]):∀ x∈cD u p V0 0,1<=x.2:=by
 rintro⟨V,t⟩ hx
 obtain⟨a,b,_⟩:=(my hp).1 hx;show 1<=t;rw[b];exact y5 a hp1
theorem HK{w p:List UInt8}(hp:∀ c∈p,aE c<3)(hp1:p≠[])(i:Nat):match iv w p i with
  | none=>xg (w.drop i) p=false
  | some (j,V)=>j=i/\qz p V0 V/\fC p V <+: w.drop i:=by
 have hb:=zi (cD (w.drop i) p V0 0) (0,V0) (Pw hp hp1);unfold iv;rcases hb.2 with ⟨_,hn,he⟩|⟨h1,h2,_⟩
 ·have hz:(fo (cD (w.drop i) p V0 0)).1=0:=by unfold fo;rw[he]
  rw[if_neg (by omega)];show xg (w.drop i) p=false;unfold xg;rw[hn];rfl
 ·have hz:0<(fo (cD (w.drop i) p V0 0)).1:=h1;rw[if_pos hz];have hm:=h2.resolve_right (fun h=>h.1 rfl);obtain⟨a,b,c⟩:=(my hp).1 hm;exact⟨rfl,a,c⟩
theorem zk{w p:List UInt8}(hp:∀ c∈p,aE c<3)(hp1:p≠[]):∀ n,match en w p n with
  | none=>lR w p n=false
  | some (j,V)=>lR w p n=true/\j<n/\qz p V0 V/\fC p V <+: w.drop j
 | 0=>rfl
 | n+1=>by
  have ih:=zk (w:=w) hp hp1 n;have ha:=HK (w:=w) hp hp1 n;cases h0:en w p n with
  | none=>
   rw[h0]at ih;have ih:lR w p n=false:=ih;rw[ix h0];cases h1:iv w p n with
   | none=>
    rw[h1]at ha;show lR w p (n+1)=false;rw[zb,ih,ha];rfl
   | some r=>
    obtain⟨j,V⟩:=r;rw[h1]at ha;obtain⟨e,a,c⟩:=ha;subst e;exact⟨tn (by omega) ((qK hp).2 ⟨V,a,c⟩),by omega,a,c⟩
  | some r=>
   obtain⟨j,V⟩:=r;rw[h0]at ih;obtain⟨e0,e,a,c⟩:=ih;have h1:en w p (n+1)=some (j,V):=by
    unfold en at *;rw[range_succ,findSome?_append,h0,Option.some_or]
   rw[h1];refine⟨tn (show j<n+1 by omega) ((qK hp).2 ⟨V,a,c⟩),by omega,a,c⟩
theorem y9{w p:List UInt8}(hp:∀ c∈p,aE c<3)(hp1:p≠[]):match iV w p with
  | none=>hasB w p=false
  | some (j,V)=>hasB w p=true/\j<w.length/\qz p V0 V/\fC p V <+: w.drop j:=zk (w:=w) hp hp1 w.length
theorem Sf(w p:List UInt8):(plL w p).length<=3:=by
 unfold plL;cases hb:isWord w&&aY p with
 | false=>simp
 | true=>
  rw[if_pos rfl];rw[Bool.and_eq_true]at hb;obtain⟨hp1,hp8,hpv⟩:=bK hb.2;have hne:p≠[]:=by rintro rfl;simp at hp1
  have hpl:=y9 (w:=w) (qp hb.2) hne;cases hf:iV w p with
  | none=>simp
  | some r=>
   obtain⟨j,V⟩:=r;rw[hf]at hpl;obtain⟨_,_,hg,_⟩:=hpl;have hV3:V.length=3:=hg.len;have:(jw V).length<=V.length:=length_filter_le _ _;show (jw V).length<=3;omega
theorem mJ(sep:List UInt8)(L:Nat):∀ xs:List (List UInt8),(∀ x∈xs,x.length<=L)->(Lib.join xs sep).length<=xs.length*(L+sep.length)
 | [],_=>by rw[Lib.join_nil];exact Nat.zero_le _
 | x::r,h=>by
  have hx:=h x (mem_cons_self ..);have key:∀ r:List (List UInt8),(∀ x∈r,x.length<=L)->(Lib.joinTail sep r).length<=r.length*(L+sep.length):=by
   intro r
   induction r with
   | nil=>intro _;exact Nat.zero_le _
   | cons y r ih=>
    intro hr;have h1:=hr y (mem_cons_self ..);have h2:=ih (fun z hz=>hr z (mem_cons_of_mem _ hz));have e:Lib.joinTail sep (y::r)=(sep++y)++Lib.joinTail sep r:=by simp[Lib.joinTail]
    rw[e,length_append,length_append,length_cons,Nat.succ_mul];omega
  have h2:=key r (fun z hz=>h z (mem_cons_of_mem _ hz));rw[Lib.join_cons,length_append,length_cons,Nat.succ_mul];omega
structure mw(l:List (List UInt8)):Prop where
 few:l.length<=4000
 short:∀ x∈l,x.length<=100
structure kK(l:List Int):Prop where
 few:l.length<=4000
 low:∀ x∈l,-9223372036854775807<=x/\x<=9223372036854775807
theorem mw.nil:mw []:=⟨Nat.zero_le _,fun _ h=>by cases h⟩
theorem kK.nil:kK []:=⟨Nat.zero_le _,fun _ h=>by cases h⟩
theorem dC(w:List UInt8):(qt w).length=w.length+2:=by simp[qt]
theorem mw.join{l:List (List UInt8)}(h:mw l):(Lib.join (l.map qt) [32]).length<=1000000:=by
 have h1:(Lib.join (l.map qt) [32]).length<=(l.map qt).length*103:=mJ [32] 102 (l.map qt) (fun x hx=>by
  obtain⟨y,hy,rfl⟩:=List.mem_map.1 hx;rw[dC];have:=h.short y hy;omega)
 rw[length_map]at h1;have:=Nat.mul_le_mul_right 103 h.few;omega
theorem kK.join{l:List Int}(h:kK l):(Lib.join (l.map Lib.itoa) [32]).length<=1000000:=by
 have h1:(Lib.join (l.map Lib.itoa) [32]).length<=(l.map Lib.itoa).length*22:=mJ [32] 21 (l.map Lib.itoa) (fun x hx=>by
  obtain⟨y,hy,rfl⟩:=List.mem_map.1 hx;exact dh y (h.low y hy).1 (h.low y hy).2)
 rw[length_map]at h1;have:=Nat.mul_le_mul_right 22 h.few;omega
theorem mw.text{l:List (List UInt8)}(h:mw l):(dm l).length<=1000000:=by
 unfold dm;split
 ·exact of_decide_eq_true rfl
 ·exact h.join
theorem kK.text{l:List Int}(h:kK l):(dF l).length<=1000000:=by
 unfold dF;split
 ·exact of_decide_eq_true rfl
 ·exact h.join
theorem OE{b:Bool}{l:List (List UInt8)}(h:b=true->mw l):mw (if b then l else []):=by
 cases b
 ·exact mw.nil
 ·exact h rfl
theorem Jg{b:Bool}{l:List Int}(h:b=true->kK l):kK (if b then l else []):=by
 cases b
 ·exact kK.nil
 ·exact h rfl
theorem xN:∀(f:Nat) (w:List UInt8),∀ x∈sU f w,x.length<=w.length
 | 0,_,_,h=>by cases h
 | f+1,w,x,h=>by
  unfold sU at h;split at h
  ·cases h
  ·rcases List.mem_cons.1 h with rfl|h
   ·rw[length_take];omega
   ·have:=xN f _ x h;rw[length_drop]at this;omega
theorem ID(w:List UInt8):mw (if isWord w then kI w else []):=OE fun h=>by
 have h60:=au h;refine⟨?_,fun x hx=>?_⟩
 ·have:=Gs w.length w;unfold kI;omega
 ·have:=xN _ _ x hx;omega
theorem Iw{w:List UInt8}{m:Nat}:∀ x∈qX w m,x.length<=m:=by
 intro x hx;unfold qX at hx;split at hx
 ·have hx:=(oD _ _).1 hx;unfold dq at hx;obtain⟨i,_,rfl⟩:=List.mem_map.1 hx;unfold seg;rw[length_drop,length_take];omega
 ·cases hx
theorem IB(w:List UInt8):mw (if isWord w then eT w w.length else []):=OE fun h=>by
 have h60:=au h;refine⟨?_,fun x hx=>?_⟩
 ·have:=fY h60 w.length;omega
 ·unfold eT at hx;obtain⟨m,hm,hx⟩:=List.mem_flatMap.1 hx;have:=Iw x (List.mem_filter.1 hx).1;have:=List.mem_range.1 hm;omega
theorem xr(w:List UInt8):∀(f i:Nat),∀ x∈pX w f i,x.length<=w.length
 | 0,_,_,h=>by cases h
 | f+1,i,x,h=>by
  unfold pX at h;split at h
  ·rcases List.mem_cons.1 h with rfl|h
   ·unfold seg;rw[length_drop,length_take];omega
   ·exact xr w f _ x h
  ·cases h
theorem HM(w:List UInt8):mw (if isWord w then ie w 0 else []):=OE fun h=>by
 have h60:=au h;refine⟨?_,fun x hx=>?_⟩
 ·have:=FK w w.length 0;unfold ie;omega
 ·have:=xr w _ _ x hx;omega
theorem Lu{p:List UInt8}{V:bA}{k:Nat}(h:occ p k):(V.getD k []).length<=(fC p V).length:=by
 obtain⟨c,hc,rfl⟩:=h;unfold fC
 induction p with
 | nil=>cases hc
 | cons a p ih=>
  rw[flatMap_cons,length_append];rcases List.mem_cons.1 hc with rfl|hc
  ·omega
  ·have:=ih hc;omega
theorem Fg(w p:List UInt8):mw (plL w p):=by
 refine⟨by have:=Sf w p;omega,fun x hx=>?_⟩;unfold plL at hx;cases hb:isWord w&&aY p with
 | false=>rw[hb]at hx;cases hx
 | true=>
  rw[hb,if_pos rfl]at hx;rw[Bool.and_eq_true]at hb;have h60:=au hb.1;obtain⟨hp1,hp8,hpv⟩:=bK hb.2;have hne:p≠[]:=by rintro rfl;simp at hp1
  have hpl:=y9 (w:=w) (qp hb.2) hne;cases hf:iV w p with
  | none=>rw[hf]at hx;cases hx
  | some r=>
   obtain⟨j,V⟩:=r;rw[hf]at hpl hx;obtain⟨_,hj,hg,hpre⟩:=hpl;have hx:x∈jw V:=hx;obtain⟨hx1,hx2⟩:=List.mem_filter.1 hx;obtain⟨k,hk,rfl⟩:=getElem_of_mem hx1;have hgk:V.getD k []=V[k]:=by rw[getD_eq_getElem?_getD,getElem?_eq_getElem hk];rfl
   have hne2:V.getD k []≠[]:=by
    rw[hgk];intro e;rw[e]at hx2;cases hx2
   have h0:V0.getD k []=[]:=by
    have:V.length=3:=hg.len
    match k,(by omega:k<3) with
    | 0,_=>rfl
    | 1,_=>rfl
    | 2,_=>rfl
   have hocc:=(hg.new k h0).1 hne2;have h1:=Lu (V:=V) hocc;have h2:=hpre.length_le;rw[length_drop]at h2;rw[hgk]at h1;omega
theorem pl_int(w p:List UInt8):0<=plI w p/\plI w p<=60:=by
 unfold plI;cases hb:isWord w&&aY p with
 | false=>rw[if_neg (by decide)];decide
 | true=>
  rw[if_pos rfl];rw[Bool.and_eq_true]at hb;have h60:=au hb.1;obtain⟨hp1,hp8,hpv⟩:=bK hb.2;have hne:p≠[]:=by rintro rfl;simp at hp1
  have hpl:=y9 (w:=w) (qp hb.2) hne;cases hf:iV w p with
  | none=>exact⟨Int.le_refl _,by decide⟩
  | some r=>
   obtain⟨j,V⟩:=r;rw[hf]at hpl;obtain⟨_,hj,_⟩:=hpl;exact⟨by show (0:Int)<=(j:Nat);omega,by show ((j:Nat):Int)<=60;omega⟩
theorem th(w:List UInt8):kK (if isWord w then counts w else []):=Jg fun h=>by
 have h60:=au h;refine⟨by rw[dT];decide,fun x hx=>?_⟩;have hc:∀ k,0<=cnt w k/\cnt w k<=60:=fun k=>by
  have:w.countP (fun u=>u.toNat==97+k)<=w.length:=countP_le_length;unfold cnt;omega
 unfold counts at hx;have:∃ k,x=cnt w k:=by
  simp only[mem_cons,not_mem_nil,or_false]at hx;rcases hx with rfl|rfl|rfl|rfl|rfl
  ·exact⟨_,rfl⟩
  ·exact⟨_,rfl⟩
  ·exact⟨_,rfl⟩
  ·exact⟨_,rfl⟩
  ·exact⟨_,rfl⟩
 obtain⟨k,rfl⟩:=this;have:=hc k;omega
theorem Gj{w:List UInt8}{x:Int}(h:x∈cy w):1<=x/\x<=w.length:=by
 unfold cy jx at h;obtain⟨k,hk,rfl⟩:=List.mem_map.1 h;have:=List.mem_range.1 (List.mem_filter.1 hk).1;omega
theorem El(w:List UInt8):(cy w).length<=w.length:=by
 unfold cy jx;rw[length_map];exact Nat.le_trans (length_filter_le _ _) (by rw[length_range];exact Nat.le_refl _)
theorem Hw(w:List UInt8):kK (if isWord w then cy w else []):=Jg fun h=>by
 have h60:=au h;refine⟨by have:=El w;omega,fun x hx=>by have:=Gj hx;omega⟩
theorem C7(w:List UInt8):kK (if isWord w then ij w else []):=Jg fun h=>by
 have h60:=au h;unfold ij;refine⟨by rw[length_reverse,length_map];have:=El w;omega,fun x hx=>?_⟩;rw[mem_reverse]at hx;obtain⟨y,hy,rfl⟩:=List.mem_map.1 hx;have:=Gj hy;omega
theorem Hi(w:List UInt8):kK (if isWord w then gY w (w.length-1) else []):=Jg fun h=>by
 have h60:=au h;refine⟨by have:=uh w (w.length-1);omega,fun x hx=>?_⟩;unfold gY at hx;obtain⟨k,hk,rfl⟩:=List.mem_map.1 hx;have:=List.mem_range.1 (List.mem_filter.1 hk).1;omega
theorem Ru{l:List Nat}(h1:l.length<=4000)(h2:∀ x∈l,x<=1000000000000000):kK (nI l):=by
 unfold nI;refine⟨by rw[length_map];exact h1,fun x hx=>?_⟩;obtain⟨y,hy,rfl⟩:=List.mem_map.1 hx;have:=h2 y hy;omega
theorem PZ(w:List UInt8):∀ x∈jo w,x<=60:=by
 intro x hx;by_cases h:qR w=0
 ·obtain⟨h1,_,_⟩:=Kb h;unfold q8 at h1;split at h1
  ·rename_i ho;unfold lV at ho;rw[Bool.and_eq_true,all_eq_true]at ho;obtain⟨k,hk,rfl⟩:=getElem_of_mem hx;have hk2:k<(nI (jo w)).length:=by unfold nI;rw[length_map];exact hk
   have:=ho.2 k (List.mem_range.2 hk2);unfold lZ at this;rw[decide_eq_true_eq]at this;have e:(nI (jo w)).getD k 0=((jo w)[k]:Nat):=by
    rw[getD_eq_getElem?_getD,getElem?_eq_getElem hk2];exact getElem_map ..
   rw[e]at this;omega
  ·cases h1
 ·have:jo w=[]:=by
   unfold qR at h;unfold jo;split
   ·rename_i hab;rw[if_pos hab]at h;cases hc:cntF w 21 0 with
    | none=>rfl
    | some y=>rw[hc]at h;exact absurd rfl h
   ·rfl
  rw[this]at hx;cases hx
theorem IF(w:List UInt8):kK (nI (jo w)):=Ru (by have:=ML w;omega) (fun x hx=>by have:=PZ w x hx;omega)
theorem yv(ws:List (List UInt8))(a k:Int):kK (nI (iQ ws a k)):=by
 have h:(iQ ws a k).length<=4000/\∀ x∈iQ ws a k,x<=1000000000000000:=by
  unfold iQ;split
  ·rename_i hc;obtain⟨_,_,_,h0,h1⟩:=gb hc;split
   ·rename_i ho;refine⟨by rw[nh];omega,fun x hx=>?_⟩;unfold zX at hx;obtain⟨i,hi,rfl⟩:=List.mem_map.1 hx;unfold okS at ho;rw[all_eq_true]at ho;have:=ho i hi;rw[decide_eq_true_eq]at this;exact this
   ·exact⟨Nat.zero_le _,fun x hx=>by cases hx⟩
  ·exact⟨Nat.zero_le _,fun x hx=>by cases hx⟩
 exact Ru h.1 h.2
def IOk(n:Int):Prop:=-9223372036854775807<=n/\n<=9223372036854775807
theorem EU(w p:List UInt8):IOk (plI w p):=by have:=pl_int w p;unfold IOk;omega
theorem xy(w:List UInt8):IOk (vS w)/\IOk (vP w):=by
 unfold IOk vS vP;have h60:cg w=0->w.length<=60:=fun h=>by
  unfold cg at h;split at h
  ·rename_i hw;exact au hw
  ·cases h
 by_cases h:cg w=0
 ·rw[if_pos h,if_pos h];have:=h60 h;have h1:w.length/Nat.gcd w.length (cB w)<=w.length:=Nat.div_le_self _ _;have h2:cB w/Nat.gcd w.length (cB w)<=cB w:=Nat.div_le_self _ _;have h3:cB w<=w.length+1:=by
   unfold cB;cases hf:(range w.length).find? (fun q=>hp w (q+1)) with
   | none=>exact Nat.le_add_left 1 _
   | some q=>
    have:=List.mem_range.1 (mem_of_find?_eq_some hf);show q+1<=_;omega
  generalize w.length/Nat.gcd w.length (cB w)=x at *;generalize cB w/Nat.gcd w.length (cB w)=y at *;omega
 ·rw[if_neg h,if_neg h];decide
theorem rE(w:List UInt8):IOk (pa w):=by
 unfold IOk pa;by_cases h:cg w=0
 ·rw[if_pos h];have:w.length<=60:=by
   unfold cg at h;split at h
   ·rename_i hw;exact au hw
   ·cases h
  have h1:w.length/(eh w).length<=w.length:=Nat.div_le_self _ _;generalize w.length/(eh w).length=x at *;omega
 ·rw[if_neg h];decide
theorem EI(w:List UInt8):IOk (if isWord w then (((ltF w w.length).2:Nat):Int) else 0):=by
 unfold IOk;cases h:isWord w with
 | false=>rw[if_neg (by decide)];decide
 | true=>
  have:=au h;have:=(qG w w.length).2;rw[if_pos rfl];omega
theorem Gz(w:List UInt8):IOk (lpK w):=by
 unfold IOk lpK;by_cases h:cg w=0
 ·rw[if_pos h];have:w.length<=60:=by
   unfold cg at h;split at h
   ·rename_i hw;exact au hw
   ·cases h
  have h1:=(rN ca w w.length (Nat.le_refl _)).2;omega
 ·rw[if_neg h];decide
theorem Ic(w:List UInt8):IOk (DU w):=by
 unfold IOk DU;cases h:isWord w with
 | false=>rw[if_neg (by decide)];decide
 | true=>
  have h60:=au h;have:=fY h60 w.length;rw[if_pos rfl];omega
theorem HV(p:List UInt8)(k n:Int):IOk (FD p k n):=by
 unfold IOk FD;split
 ·rename_i h;obtain⟨_,hk,hn⟩:=rq h;have h1:=oI (p:=p) (k:=k.toNat) (n:=n.toNat) (by omega) (by omega) [];unfold pw;omega
 ·decide
theorem jH{t:List UInt8}{c:Int}(h:c=0->isWord t=true)(h':c≠0->t=[]):t.length<=60:=by
 by_cases e:c=0
 ·exact au (h e)
 ·rw[h' e];exact Nat.zero_le _
theorem HJ(w:List UInt8):(if isWord w then w.reverse else []).length<=60:=jH (c:=aJ w) (fun h=>sX h) (fun h=>by
 unfold aJ at h;split
 ·rename_i hw;rw[if_pos hw]at h;exact absurd rfl h
 ·rfl)
theorem CU(w:List UInt8):(ph w).length<=60:=jH (c:=pq w) Bk (fun h=>by
 unfold pq at h;unfold ph;(repeat' split)<;>simp_all)
theorem Cz(ws:List (List UInt8))(w:List UInt8)(k:Int):(nJ ws w k).length<=60:=jH (c:=nv ws w k) A5 (fun h=>by
 unfold nv at h;unfold nJ;(repeat' split)<;>simp_all)
theorem B9(ws:List (List UInt8))(w:List UInt8):(pr ws w).length<=60:=jH (c:=pA ws w) BL (fun h=>by
 unfold pA at h;unfold pr;(repeat' split)<;>simp_all)
theorem Ip(w:List UInt8)(i m:Int):(Ak w i m).length<=60:=jH (c:=zZ w i m) EZ (fun h=>by
 unfold zZ at h;unfold Ak;(repeat' split)<;>simp_all)
theorem I4(p q:Int):(iw p q).length<=60:=jH (c:=gP p q) FN (fun h=>by
 unfold iw;rw[if_neg h])
theorem Oq(ws:List (List UInt8))(a n:Int):(grT ws a n).length<=60:=jH (c:=grC ws a n) JH (fun h=>by
 unfold grC at h;unfold grT;(repeat' split)<;>simp_all)
theorem Ib(p q:Int):(z7 p q).length<=60:=jH (c:=se p q) Gk (fun h=>by
 unfold z7;rw[if_neg h])
theorem Cq(w u:List UInt8):(lU w u).length<=60:=jH (c:=mh w u) B7 (fun h=>by
 unfold mh at h;unfold lU;(repeat' split)<;>simp_all)
theorem x9(l:List UInt8)(m:Int):(fS l m).length<=60:=jH (c:=ia l m) yp (fun h=>by
 unfold ia at h;unfold fS;(repeat' split)<;>simp_all)
theorem qb(zs:List Int):(qB zs).length<=60:=jH (c:=q8 zs) Pq (fun h=>by
 unfold q8 at h;unfold qB;(repeat' split)<;>simp_all)
theorem zo(w:List UInt8)(k:Int):(vM w k).length<=60:=jH (c:=zM w k) Ei (fun h=>by
 unfold zM at h;unfold vM;(repeat' split)<;>simp_all)
theorem x7(n:Int):(we n).length<=60:=jH (c:=Ae n) Gy (fun h=>by
 unfold Ae at h;unfold we;(repeat' split)<;>simp_all)
theorem CW{w:List UInt8}(h:cg w=0):w.length<=60:=by
 unfold cg at h;split at h
 ·rename_i hw;exact au hw
 ·cases h
theorem CK(w:List UInt8):(l0 w).length<=60:=by
 unfold l0;split
 ·rename_i h;have:=CW h;unfold eh;split
  ·rw[length_take];omega
  ·exact this
 ·exact Nat.zero_le _
theorem Po(w:List UInt8):(if isWord w then (ltF w w.length).1 else []).length<=60:=by
 split
 ·rename_i h;have:=au h;rw[(qG w w.length).1];exact this
 ·exact Nat.zero_le _
theorem Nv(w:List UInt8):(ubT w).length<=60:=by
 unfold ubT;split
 ·rename_i h;have:=CW h;have:=(rN kW w w.length (Nat.le_refl _)).1;omega
 ·exact Nat.zero_le _
theorem OO(w:List UInt8):(lpT w).length<=60:=by
 unfold lpT;split
 ·rename_i h;have:=CW h;have:=(rN ca w w.length (Nat.le_refl _)).1;omega
 ·exact Nat.zero_le _
theorem Hc(p q:Int):(Ce p q).length<=60:=by
 unfold Ce;split
 ·rename_i h;unfold Gq at h;split at h
  ·split at h
   ·assumption
   ·cases h
  ·cases h
 ·exact Nat.zero_le _
theorem y8(p:List UInt8)(k n:Int):(firstT p k n).length<=60:=jH (c:=jh p k n) (fun h=>(Pj h).2.2.1) Ns
theorem Dq(ws:List (List UInt8)):(nf ws).length<=100:=by
 unfold nf;split
 ·rename_i h;have h5:=(aX h).2;have h12:∀ w∈ws,w.length<=12:=fun w hw=>(bL h hw).1;have h1:(Lib.join ws [44]).length<=ws.length*13:=mJ [44] 12 ws h12;have e:txt ws=Lib.join ws [44]:=by
   cases ws with
   | nil=>rfl
   | cons x r=>rw[Lib.join_cons];rfl
  rw[e];have:=Nat.mul_le_mul_right 13 h5;omega
 ·exact Nat.zero_le _
theorem DF(ws:List (List UInt8)):(oZ ws).length<=60:=by
 unfold oZ;split
 ·split
  ·rename_i hn;cases hm:jk ws (ja ws+1) with
   | none=>exact Nat.zero_le _
   | some u=>
    unfold jk at hm;obtain⟨m,hm1,hm2⟩:=exists_of_findSome?_eq_some hm;have h1:=List.mem_range.1 hm1;unfold tS at hm2;have h2:=(GY _ _ _ _ (mem_of_find?_eq_some hm2)).1;rw[length_nil,Nat.zero_add]at h2;show u.length<=60;omega
  ·exact Nat.zero_le _
 ·exact Nat.zero_le _
end Go.Proofs.YtapimhjbilkfpaaGreatDoor
