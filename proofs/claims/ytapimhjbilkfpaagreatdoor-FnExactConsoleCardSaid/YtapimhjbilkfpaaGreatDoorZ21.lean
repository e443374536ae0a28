/- Lemmas for FnExactConsole, part 22 of 46. -/
import Derived.Test.YtapimhjbilkfpaaGreatDoorZ20
import Derived.Test.YtapimhjbilkfpaaGreatDoorZ11
import Derived.Test.YtapimhjbilkfpaaGreatDoorZ04
set_option linter.unusedVariables false
set_option linter.unusedSimpArgs false
namespace Go.Proofs.YtapimhjbilkfpaaGreatDoor
open Go Go.Proofs.Tryz Go.RowKit List
theorem jf{p q low:Int}(h0:0<=low)(h:ek p q low=true):∃ a b:Nat,p=a/\q=b/\low<=p/\low<=q/\a<=1000/\b<=1000/\Nat.gcd a b=1:=by
 unfold ek at h;simp only[Bool.and_eq_true,decide_eq_true_eq]at h;obtain⟨⟨h1,h2⟩,⟨h3,h4⟩,h5⟩:=h;exact⟨p.toNat,q.toNat,by omega,by omega,h1,h3,by omega,by omega,h5⟩
theorem s7(p q low:Int)(M:Mem)(R:VP)(hle:0<=low)(h:R (.int .i64 (if ek p q low=true then 0 else 2)) M):ar prog 199 [.int .i64 p,.int .i64 q,.int .i64 low] M R:=by
 unfold ek at h;refine fnS func199 rfl ntmps199 results199 ?_;simp(disch:=omega);refine bZ _ _ _ _ _ ?_;by_cases h1:low<=p/\p<=1000
 ·rw[decide_eq_true h1]at h ⊢;simp(disch:=omega);refine bZ _ _ _ _ _ ?_;by_cases h2:low<=q/\q<=1000
  ·rw[decide_eq_true h2]at h ⊢;obtain⟨a,rfl⟩:∃ a:Nat,p=a:=⟨p.toNat,by omega⟩;obtain⟨b,rfl⟩:∃ b:Nat,q=b:=⟨q.toNat,by omega⟩;rw[Int.toNat_natCast,Int.toNat_natCast]at h;simp(disch:=omega);refine mq a b _ _ (by omega) (by omega) ?_;by_cases h3:Nat.gcd a b=1
   ·rw[decide_eq_true h3]at h;simp only[Bool.and_self,if_true]at h;rw[h3];simp(disch:=omega);exact ad h
   ·rw[decide_eq_false h3]at h;simp only[Bool.and_false,Bool.false_eq_true,if_false]at h;have h4:¬((Nat.gcd a b:Nat):Int)=1:=by omega
    have h5:(((Nat.gcd a b:Nat):Int)==1)=false:=beq_eq_false_iff_ne.2 h4;generalize Nat.gcd a b=G at *;simp(disch:=omega)[h5];exact ad h
  ·rw[decide_eq_false h2]at h ⊢;simp only[Bool.and_false,Bool.false_and,Bool.false_eq_true,if_false]at h;simp(disch:=omega);exact ad h
 ·rw[decide_eq_false h1]at h ⊢;simp only[Bool.false_and,Bool.false_eq_true,if_false]at h;simp(disch:=omega);exact ad h
def se(p q:Int):Int:=if ek p q 0=true then (if 60<p+q then 3 else 0) else 2
def z7(p q:Int):List UInt8:=if se p q=0 then mQ p.toNat q.toNat else []
theorem Qt{p q:Int}(h:se p q=0):ek p q 0=true/\p+q<=60:=by
 unfold se at h;split at h
 ·rename_i h1;split at h
  ·cases h
  ·exact⟨h1,by omega⟩
 ·cases h
theorem yz(p q:Int)(M:Mem)(R:VP)(h:R (.int .i64 (se p q)) M):ar prog 258 [.int .i64 p,.int .i64 q] M R:=by
 unfold se at h;refine fnS func258 rfl ntmps258 results258 ?_;simp(disch:=omega);refine pG p q 0 _ _ (by omega) ?_;cases h1:ek p q 0
 ·rw[h1]at h;simp only[Bool.false_eq_true,if_false]at h;simp(disch:=omega);exact ad h
 ·rw[h1]at h;simp only[if_true]at h;obtain⟨a,b,rfl,rfl,_,_,ha,hb,_⟩:=jf (by omega) h1;by_cases h2:(60:Int)<a+b
  ·rw[if_pos h2]at h;simp(disch:=omega)[h2];exact ad h
  ·rw[if_neg h2]at h;simp(disch:=omega)[h2];exact ad h
theorem ue(p q:Int)(M:Mem)(R:VP)(h:R (aD (str (z7 p q)) (se p q)) M):ar prog 167 [.int .i64 p,.int .i64 q] M R:=by
 unfold z7 aD at h;refine fnS func167 rfl ntmps167 results167 ?_;simp(disch:=omega);refine yz p q _ _ ?_;by_cases h1:se p q=0
 ·rw[if_pos h1]at h;obtain⟨h2,h3⟩:=Qt h1;obtain⟨a,b,rfl,rfl,_,_,ha,hb,hg⟩:=jf (by omega) h2;rw[h1]at h ⊢;rw[Int.toNat_natCast,Int.toNat_natCast]at h;simp(disch:=omega);refine yW a b _ _ ha hb (Hu hg) ?_;simp(disch:=omega);exact ad h
 ·rw[if_neg h1]at h;simp(disch:=omega);exact ad h
theorem uu(p q:Int)(M:Mem)(R:VP)(h:R (aD (str (z7 p q)) (se p q)) M):ar prog 125 [.int .i64 p,.int .i64 q] M R:=by
 unfold z7 aD se at h;refine fnS func125 rfl ntmps125 results125 ?_;simp(disch:=omega);refine s7 p q 0 _ _ (by omega) ?_;cases h1:ek p q 0
 ·rw[h1]at h;simp only[Bool.false_eq_true,if_false]at h ⊢;simp(disch:=omega);exact ad (by simpa using h)
 ·rw[h1]at h;simp only[if_true]at h ⊢;obtain⟨a,b,rfl,rfl,_,_,ha,hb,hg⟩:=jf (by omega) h1;by_cases h2:(60:Int)<a+b
  ·rw[if_pos h2,if_neg (by decide)]at h;simp(disch:=omega)[h2];exact ad h
  ·rw[if_neg h2,if_pos rfl,Int.toNat_natCast,Int.toNat_natCast]at h;simp(disch:=omega)[h2];refine C5 a b _ _ ha hb ?_;simp(disch:=omega);exact ad h
def Cd:Nat->Nat->Nat->List UInt8
 | 0,_,_=>[]
 | f+1,p,q=>if p=q then [] else if q<p then 98::Cd f (p-q) q else 97::Cd f p (q-p)
def pth(p q:Nat):List UInt8:=Cd (p+q) p q
def Gq(p q:Int):Int:=if ek p q 1=true then (if (pth p.toNat q.toNat).length<=60 then 0 else 3) else 2
def Ce(p q:Int):List UInt8:=if Gq p q=0 then pth p.toNat q.toNat else []
theorem FL(p q:Int)(M:Mem)(R:VP)(h:R (aD (str (Ce p q)) (Gq p q)) M):ar prog 170 [.int .i64 p,.int .i64 q] M R:=by
 unfold Ce aD Gq at h;refine fnS func170 rfl ntmps170 results170 ?_;simp(disch:=omega);refine pG p q 1 _ _ (by omega) ?_;cases h1:ek p q 1
 ·rw[h1]at h;simp only[Bool.false_eq_true,if_false]at h ⊢;simp(disch:=omega);exact ad (by simpa using h)
 ·rw[h1]at h;simp only[if_true]at h ⊢;obtain⟨a,b,rfl,rfl,h3,h4,ha,hb,hg⟩:=jf (by omega) h1;rw[Int.toNat_natCast,Int.toNat_natCast]at h;simp(disch:=omega);refine lupS [0,1,4,5,6,11,12,13,14,15,16,17,18,19,20,21,22,23,24,25,26,27,28,29] (fun x:List UInt8×Nat×Nat×Nat=>[(0,.int .i64 (x.2.1:Nat)),(1,.int .i64 (x.2.2.1:Nat)),(6,str x.1)]) (fun x M'=>M=M'/\x.1++Cd x.2.2.2 x.2.1 x.2.2.1=pth a b/\x.2.1+x.2.2.1<=x.2.2.2/\1<=x.2.1/\1<=x.2.2.1/\x.2.1<=1000/\x.2.2.1<=1000/\x.1.length<=60) (fun x=>x.2.2.2) ([],a,b,a+b) ⟨rfl,rfl,Nat.le_refl _,by simp only;omega,by simp only;omega,ha,hb,Nat.zero_le _⟩ ?_
  rintro⟨out,x,y,f⟩ M' g ⟨rfl,hP,hf,hx,hy,hx2,hy2,ho⟩
  simp only at hP hf hx hy hx2 hy2 ho;obtain⟨f,rfl⟩:∃ f',f=f'+1:=⟨f-1,by omega⟩;by_cases hxy:x=y
  ·have hxI:(x:Int)=y:=by omega
   rw[Cd,if_pos hxy,append_nil]at hP;rw[<-hP,if_pos ho,if_pos rfl]at h;simp(disch:=omega)[hxI];exact ad h
  ·have hxI:¬(x:Int)=y:=by omega
   rw[Cd,if_neg hxy]at hP;by_cases h60:out.length=60
   ·have h60':(out.length:Int)=60:=by omega
    have hbig:¬(pth a b).length<=60:=by
     rw[<-hP,length_append];split
     ·rw[length_cons];omega
     ·rw[length_cons];omega
    rw[if_neg hbig,if_neg (by decide)]at h;simp(disch:=omega)[h60];exact ad h
   ·have h60':¬(out.length:Int)=60:=by omega
    by_cases hlt:y<x
    ·rw[if_pos hlt]at hP;have hl2:¬(x:Int)<y:=by omega
     have hl3:¬ x<y:=by omega
     obtain⟨d,hd⟩:∃ d,x-y=d:=⟨_,rfl⟩;have hdI:(x:Int)-y=d:=by omega
     rw[hd]at hP;simp(disch:=omega)[hl2,hdI];refine rndS (out++[98],d,y,f) ⟨rfl,by simpa using hP,by simp only;omega,by simp only;omega,hy,by simp only;omega,hy2,by simp only[length_append,length_singleton];omega⟩
    ·rw[if_neg hlt]at hP;have hl2:(x:Int)<y:=by omega
     have hl3:x<y:=by omega
     obtain⟨d,hd⟩:∃ d,y-x=d:=⟨_,rfl⟩;have hdI:(y:Int)-x=d:=by omega
     rw[hd]at hP;simp(disch:=omega)[hl2,hdI];refine rndS (out++[97],x,d,f) ⟨rfl,by simpa using hP,by simp only;omega,hx,by simp only;omega,hx2,by simp only;omega,by simp only[length_append,length_singleton];omega⟩
theorem EX(p q:Int)(M:Mem)(R:VP)(h:R (aD (str (Ce p q)) (Gq p q)) M):ar prog 128 [.int .i64 p,.int .i64 q] M R:=by
 unfold Ce aD Gq at h;refine fnS func128 rfl ntmps128 results128 ?_;simp(disch:=omega);refine s7 p q 1 _ _ (by omega) ?_;cases h1:ek p q 1
 ·rw[h1]at h;simp only[Bool.false_eq_true,if_false]at h ⊢;simp(disch:=omega);exact ad (by simpa using h)
 ·rw[h1]at h;simp only[if_true]at h ⊢;obtain⟨a,b,rfl,rfl,h3,h4,ha,hb,hg⟩:=jf (by omega) h1;rw[Int.toNat_natCast,Int.toNat_natCast]at h;simp(disch:=omega);refine lupS [0,1,4,5,7,14,15,16,17,18,19,20,21,22,23,24,25,26,27,28,29,30,31,32] (fun x:List UInt8×Nat×Nat×Nat=>[(0,.int .i64 (x.2.1:Nat)),(1,.int .i64 (x.2.2.1:Nat)),(7,str x.1)]) (fun x M'=>M=M'/\x.1++Cd x.2.2.2 x.2.1 x.2.2.1=pth a b/\x.2.1+x.2.2.1<=x.2.2.2/\1<=x.2.1/\1<=x.2.2.1/\x.2.1<=1000/\x.2.2.1<=1000/\x.1.length<=60) (fun x=>x.2.2.2) ([],a,b,a+b) ⟨rfl,rfl,Nat.le_refl _,by simp only;omega,by simp only;omega,ha,hb,Nat.zero_le _⟩ ?_
  rintro⟨out,x,y,f⟩ M' g ⟨rfl,hP,hf,hx,hy,hx2,hy2,ho⟩
  simp only at hP hf hx hy hx2 hy2 ho;obtain⟨f,rfl⟩:∃ f',f=f'+1:=⟨f-1,by omega⟩;by_cases hxy:x=y
  ·have hxI:(x:Int)=y:=by omega
   rw[Cd,if_pos hxy,append_nil]at hP;rw[<-hP,if_pos ho,if_pos rfl]at h;simp(disch:=omega)[hxI];exact ad h
  ·have hxI:¬(x:Int)=y:=by omega
   rw[Cd,if_neg hxy]at hP;by_cases hlt:y<x
   ·rw[if_pos hlt]at hP;have hl2:(y:Int)<x:=by omega
    obtain⟨d,hd⟩:∃ d,x-y=d:=⟨_,rfl⟩;have hdI:(x:Int)-y=d:=by omega
    rw[hd]at hP;by_cases h60:out.length=60
    ·have hbig:¬(pth a b).length<=60:=by
      rw[<-hP,length_append,length_cons];omega
     rw[if_neg hbig,if_neg (by decide)]at h;simp(disch:=omega)[h60,hl2,hdI];exact ad h
    ·have h61:¬ 60<out.length+1:=by omega
     have h61':¬(60:Int)<(out.length:Int)+1:=by omega
     simp(disch:=omega)[h61',hl2,hdI];refine rndS (out++[98],d,y,f) ⟨rfl,by simpa using hP,by simp only;omega,by simp only;omega,hy,by simp only;omega,hy2,by simp only[length_append,length_singleton];omega⟩
   ·rw[if_neg hlt]at hP;have hl2:¬(y:Int)<x:=by omega
    obtain⟨d,hd⟩:∃ d,y-x=d:=⟨_,rfl⟩;have hdI:(y:Int)-x=d:=by omega
    rw[hd]at hP;by_cases h60:out.length=60
    ·have hbig:¬(pth a b).length<=60:=by
      rw[<-hP,length_append,length_cons];omega
     rw[if_neg hbig,if_neg (by decide)]at h;simp(disch:=omega)[h60,hl2,hdI];exact ad h
    ·have h61:¬ 60<out.length+1:=by omega
     have h61':¬(60:Int)<(out.length:Int)+1:=by omega
     simp(disch:=omega)[h61',hl2,hdI];refine rndS (out++[97],x,d,f) ⟨rfl,by simpa using hP,by simp only;omega,hx,by simp only;omega,hx2,by simp only;omega,by simp only[length_append,length_singleton];omega⟩
theorem fu(w:List UInt8)(k:Nat):(dD w k).length=k*w.length:=by
 unfold dD;rw[length_flatten,map_replicate,sum_replicate_nat]
theorem He(w:List UInt8)(k:Nat):dD w (k+1)=dD w k++w:=by
 unfold dD;rw[replicate_succ',flatten_append];simp
def jV:List Int->List UInt8->List UInt8->Option (List UInt8)
 | [],_,own=>some own
 | d::ds,last,own=>if d.toNat*own.length+last.length<=60 then jV ds own (dD own d.toNat++last) else none
def lZ(zs:List Int)(i:Nat):Bool:=decide ((if i=0 then 0 else 1)<=zs.getD i 0/\zs.getD i 0<=60)
def lV(zs:List Int):Bool:=decide (zs.length<=20)&&(range zs.length).all (lZ zs)
def q8(zs:List Int):Int:=if lV zs=true then (match jV zs [98] [97] with|some _=>0|none=>3) else 2
def qB(zs:List Int):List UInt8:=if lV zs=true then (match jV zs [98] [97] with|some w=>w|none=>[]) else []
theorem yn{zs:List Int}{i:Nat}(hi:i<zs.length)(h:lZ zs i=false):lV zs=false:=by
 unfold lV;have:(range zs.length).all (lZ zs)=false:=by
  rw[all_eq_false];exact⟨i,List.mem_range.2 hi,by rw[h];decide⟩
 rw[this,Bool.and_false]
theorem tu{zs:List Int}(hl:zs.length<=20)(h:∀ j,j<zs.length->lZ zs j=true):lV zs=true:=by
 unfold lV;rw[decide_eq_true hl,Bool.true_and,all_eq_true];exact fun j hj=>h j (List.mem_range.1 hj)
theorem xG{zs:List Int}{i:Nat}{z:Int}(hi:zs[i]?=some z):lZ zs i=decide ((if i=0 then 0 else 1)<=z/\z<=60):=by
 unfold lZ;rw[getD_eq_getElem?_getD,hi];rfl
theorem ints_at{N:Mem}{a:Option Addr}{c n:Nat}{zs:List Int}(h:Rd N (.slice a n c) (ints zs))(h1:1<=zs.length):∃ b o,a=some ⟨b,o,none⟩/\∀ i,i<zs.length->N.get? b (o+i)=some (.int .i64 (zs.getD i 0)):=by
 obtain⟨a',c',he,hat⟩:=h.opened;rw[ay]at he hat;injection he with e1 e2 e3
 rcases hat with h0|⟨b,o,e4,hat⟩
 ·omega
 ·refine⟨b,o,by rw[e1,e4],fun i hi=>?_⟩;rw[hat i hi,cJ,getElem?_eq_getElem hi,getD_eq_getElem?_getD,getElem?_eq_getElem hi];rfl
theorem drop_cons{zs:List Int}{i:Nat}(h:i<zs.length):zs.drop i=zs.getD i 0::zs.drop (i+1):=by
 rw[getD_eq_getElem?_getD,getElem?_eq_getElem h];exact drop_eq_getElem_cons h
theorem tL(v:Value)(zs:List Int)(M:Mem)(R:VP)(hv:Rd M v (ints zs))(hl:zs.length<=20)(hz:∀ j,j<zs.length->0<=zs.getD j 0/\zs.getD j 0<=60)
  (h:R (.tuple #[str (match jV zs [98] [97] with|some w=>w|none=>[]),.bool (jV zs [98] [97]).isSome]) M):ar prog 114 [v] M R:=by
 obtain⟨a,c,rfl,_⟩:=hv.opened;have hv':=hv;rw[ay]at hv' ⊢;refine fnS func114 rfl ntmps114 results114 ?_;simp(disch:=omega);refine lupS [2,3,4,5,6,7,8,9,10,11,12,13,14,15,16,17,18,19,20,21,22,23,24,25,26,27,28,29,30,31,32,33,34,35,36,37,38] (fun x:Nat×List UInt8×List UInt8=>[(6,.int .i64 (x.1:Nat)),(4,str x.2.1),(5,str x.2.2)]) (fun x M'=>M=M'/\x.1<=zs.length/\jV (zs.drop x.1) x.2.1 x.2.2=jV zs [98] [97]/\x.2.1.length<=60/\x.2.2.length<=60) (fun x=>zs.length-x.1) (0,[98],[97]) ⟨rfl,by simp only;omega,rfl,by decide,by decide⟩ ?_
 rintro⟨i,be,now⟩ M' g ⟨rfl,hi,hS,hb,hn⟩
 simp only at hi hS hb hn;by_cases hlt:i<zs.length
 ·obtain⟨b,o,rfl,hat⟩:=ints_at hv' (by omega);have hg:=hat i hlt;have hzi:=hz i hlt;rw[drop_cons hlt,jV]at hS;obtain⟨d,hd⟩:∃ d:Nat,zs.getD i 0=d:=⟨(zs.getD i 0).toNat,by omega⟩;rw[hd]at hg hzi hS;rw[Int.toNat_natCast]at hS;simp(disch:=omega);refine aQ aR [7,8,15,16,17,18,19,20,21,22,23,24,25,26,27,28,29,30] (fun k:Nat=>[(8,.int .i64 k),(7,str (dD now k))]) (fun k M'=>M=M'/\k<=d/\(dD now k).length<=120) (fun k=>d-k) 0 (by kernel_rfl) (by simp(disch:=omega)[dD]) ⟨rfl,by omega,by simp[dD]⟩ ?_
  rintro k M' g ⟨rfl,hk,hkl⟩
  have hrl:=fu now k;have hmul:k*now.length<=d*now.length:=Nat.mul_le_mul_right _ hk;generalize hX:dD now k=X at *;by_cases hkd:k<d
  ·by_cases h60:X.length<=60
   ·have e:dD now (k+1)=X++now:=by rw[He,hX]
    have h60I:(X.length:Int)<=60:=by omega
    simp(disch:=omega)[hg,h60I,hkd];refine rndA (k+1) (by simp(disch:=omega)[e]) ⟨rfl,by omega,?_⟩;rw[e,length_append];omega
   ·have hno:¬ d*now.length+be.length<=60:=by omega
    rw[if_neg hno]at hS;rw[<-hS]at h;have h61:¬((X.length:Int)<=60):=by omega
    have h62:60<X.length+be.length:=by omega
    have h63:(60:Int)<(X.length:Int)+be.length:=by omega
    simp(disch:=omega)[hg,h61,h63];exact ad h
  ·have hkd':k=d:=by omega
   subst hkd';by_cases h60:k*now.length+be.length<=60
   ·rw[if_pos h60,hX]at hS;have h62:¬ 60<X.length+be.length:=by omega
    have h63:¬(60:Int)<(X.length:Int)+be.length:=by omega
    simp(disch:=omega)[hg,h63];refine rndS (i+1,now,X++be) ⟨rfl,by simp only;omega,hS,hn,by simp only[length_append];omega⟩
   ·rw[if_neg h60]at hS;rw[<-hS]at h;have h62:60<X.length+be.length:=by omega
    have h63:(60:Int)<(X.length:Int)+be.length:=by omega
    simp(disch:=omega)[hg,h63];exact ad h
 ·have hi':i=zs.length:=by omega
  subst hi';rw[drop_length,jV]at hS;rw[<-hS]at h;simp(disch:=omega);exact ad h
theorem eo(v:Value)(zs:List Int)(M:Mem)(R:VP)(hv:Rd M v (ints zs))(hn:zs.length<=1099511627776)(h:R (aD (str (qB zs)) (q8 zs)) M):ar prog 64 [v] M R:=by
 unfold aD qB q8 at h;obtain⟨a,c,rfl,_⟩:=hv.opened;have hv':=hv;rw[ay]at hv' ⊢;refine fnS func64 rfl ntmps64 results64 ?_;by_cases hl:zs.length<=20
 ·have hl':¬(20:Int)<zs.length:=by omega
  have hl2:¬ 20<zs.length:=by omega
  simp(disch:=omega)[hl'];refine lupS [2,3,4,10,11,12,13,14,15,16,17,18,19,20,21,22,23,24,25,26,27,28,29,30,31,32] (fun i:Nat=>[(4,.int .i64 i)]) (fun i M'=>M=M'/\i<=zs.length/\∀ j,j<i->lZ zs j=true) (fun i=>zs.length-i) 0 ⟨rfl,by omega,fun j hj=>by omega⟩ ?_
  rintro i M' g ⟨rfl,hi,hS⟩
  by_cases hlt:i<zs.length
  ·obtain⟨b,o,rfl,hat⟩:=ints_at hv' (by omega);have hg:=hat i hlt;have hzi:=xG (zs:=zs) (i:=i) (z:=zs.getD i 0) (by rw[getElem?_eq_getElem hlt,getD_eq_getElem?_getD,getElem?_eq_getElem hlt];rfl);generalize zs.getD i 0=z at *;simp(disch:=omega)[hg];refine bZ _ _ _ _ _ ?_;by_cases h1:0<=z/\z<=60
   ·rw[decide_eq_true h1];by_cases h0:i=0
    ·subst h0;rw[if_pos rfl,decide_eq_true h1]at hzi;simp(disch:=omega);refine rndS (0+1) ⟨rfl,by omega,fun j hj=>?_⟩;rw[show j=0 by omega];exact hzi
    ·have hpos:(0:Int)<i:=by omega
     have hpos':0<i:=by omega
     rw[if_neg h0]at hzi;by_cases hz0:z=0
     ·rw[decide_eq_false (by omega)]at hzi;rw[yn hlt hzi]at h;simp only[Bool.false_eq_true,if_false]at h;simp(disch:=omega)[hpos',hg,hz0];exact ad h
     ·rw[decide_eq_true (by omega)]at hzi;have hz0':(z==0)=false:=beq_eq_false_iff_ne.2 hz0;simp(disch:=omega)[hpos',hg,hz0'];refine rndS (i+1) ⟨rfl,by omega,fun j hj=>?_⟩;rcases Nat.lt_or_ge j i with h|h
      ·exact hS j h
      ·rw[show j=i by omega];exact hzi
   ·rw[decide_eq_false h1];have h2:lZ zs i=false:=by
     rw[hzi];refine decide_eq_false fun hh=>h1 ⟨?_,hh.2⟩;have:=hh.1;split at this<;>omega
    rw[yn hlt h2]at h;simp only[Bool.false_eq_true,if_false]at h;simp(disch:=omega)[undef];exact ad h
  ·have hi':i=zs.length:=by omega
   subst hi';have hok:=tu hl hS;rw[hok]at h;simp only[if_true]at h;simp(disch:=omega);refine tL _ zs _ _ hv' hl (fun j hj=>?_) ?_
   ·have:=hS j hj;unfold lZ at this;rw[decide_eq_true_eq]at this;have h3:=this.1;split at h3<;>omega
   ·cases hF:jV zs [98] [97] with
    | none=>
     rw[hF]at h;simp only[Option.isSome]at h ⊢;simp(disch:=omega);exact ad h
    | some w=>
     rw[hF]at h;simp only[Option.isSome]at h ⊢;simp(disch:=omega);exact ad h
 ·have hl':(20:Int)<zs.length:=by omega
  have hl2:20<zs.length:=by omega
  have hno:lV zs=false:=by unfold lV;rw[decide_eq_false hl,Bool.false_and]
  rw[hno]at h;simp only[Bool.false_eq_true,if_false]at h;simp(disch:=omega)[hl'];exact ad h
theorem jQ(v:Value)(zs:List Int)(M:Mem)(R:VP)(hv:Rd M v (ints zs))(hn:zs.length<=1099511627776)(h:R (aD (str (qB zs)) (q8 zs)) M):ar prog 104 [v] M R:=by
 unfold aD qB q8 at h;obtain⟨a,c,rfl,_⟩:=hv.opened;have hv':=hv;rw[ay]at hv' ⊢;refine fnS func104 rfl ntmps104 results104 ?_;by_cases hl:zs.length<=20
 ·have hl':¬(20:Int)<zs.length:=by omega
  have hl2:¬ 20<zs.length:=by omega
  simp(disch:=omega)[hl'];refine lupS [2,3,4,5,15,16,17,18,19,20,21,22,23,24,25] (fun i:Nat=>[(15,.int .i64 i)]) (fun i M'=>M=M'/\i<=zs.length/\∀ j,j<i->lZ zs j=true) (fun i=>zs.length-i) 0 ⟨rfl,by omega,fun j hj=>by omega⟩ ?_
  rintro i M' g ⟨rfl,hi,hS⟩
  by_cases hlt:i<zs.length
  ·obtain⟨b,o,rfl,hat⟩:=ints_at hv' (by omega);have hg:=hat i hlt;have hzi:=xG (zs:=zs) (i:=i) (z:=zs.getD i 0) (by rw[getElem?_eq_getElem hlt,getD_eq_getElem?_getD,getElem?_eq_getElem hlt];rfl);generalize zs.getD i 0=z at *;have hm:(if (i:Int)<1 then (i:Int) else 1)=if i=0 then 0 else 1:=by split<;>split<;>omega
   have hm2:(if (1:Int)<i then (1:Int) else i)=if i=0 then 0 else 1:=by split<;>split<;>omega
   obtain⟨y,hy⟩:∃ y:Int,y=if i=0 then 0 else 1:=⟨_,rfl⟩
   rw[<-hy]at hm hm2 hzi;simp(disch:=omega)[hg,hm2];refine bE _ y _ _ _ ?_;by_cases h1:y<=z/\z<=60
   ·rw[decide_eq_true h1]at hzi ⊢;simp(disch:=omega);refine rndS (i+1) ⟨rfl,by omega,fun j hj=>?_⟩;rcases Nat.lt_or_ge j i with h|h
    ·exact hS j h
    ·rw[show j=i by omega];exact hzi
   ·rw[decide_eq_false h1]at hzi ⊢;rw[yn hlt hzi]at h;simp only[Bool.false_eq_true,if_false]at h;simp(disch:=omega);exact ad h
  ·have hi':i=zs.length:=by omega
   subst hi';have hok:=tu hl hS;have hz:∀ j,j<zs.length->0<=zs.getD j 0/\zs.getD j 0<=60:=fun j hj=>by
    have:=hS j hj;unfold lZ at this;rw[decide_eq_true_eq]at this;have h3:=this.1;split at h3<;>omega
   rw[hok]at h;simp only[if_true]at h;simp(disch:=omega);refine lupS [2,3,6,7,9,28,29,30,31,32,33,34,35,36,37,38,39,40,41,42,43,44,45,46] (fun x:Nat×List UInt8×List UInt8=>[(28,.int .i64 (x.1:Nat)),(6,str x.2.1),(7,str x.2.2)]) (fun x M'=>M=M'/\x.1<=zs.length/\jV (zs.drop x.1) x.2.1 x.2.2=jV zs [98] [97]/\x.2.1.length<=60/\x.2.2.length<=60) (fun x=>zs.length-x.1) (0,[98],[97]) ⟨rfl,by simp only;omega,rfl,by decide,by decide⟩ ?_
   rintro⟨i,be,now⟩ M' g ⟨rfl,hi,hS2,hb,hnw⟩
   simp only at hi hS2 hb hnw;by_cases hlt:i<zs.length
   ·obtain⟨b,o,rfl,hat⟩:=ints_at hv' (by omega);have hg:=hat i hlt;have hzi:=hz i hlt;rw[drop_cons hlt,jV]at hS2;obtain⟨d,hd⟩:∃ d:Nat,zs.getD i 0=d:=⟨(zs.getD i 0).toNat,by omega⟩;rw[hd]at hg hzi hS2;rw[Int.toNat_natCast]at hS2;obtain⟨m,hm⟩:∃ m,d*now.length=m:=⟨_,rfl⟩;have hmb:m<=60*60:=by rw[<-hm];exact Nat.mul_le_mul (by omega) hnw
    have hmI:(now.length:Int)*(d:Int)=m:=by rw[<-hm,Nat.mul_comm];push_cast;rfl
    rw[hm]at hS2;simp(disch:=omega)[hg];refine bV now _ _ (by omega) ?_;simp(disch:=omega)[hmI];refine bV be _ _ (by omega) ?_;by_cases h60:m+be.length<=60
    ·rw[if_pos h60]at hS2;have h61:¬ 60<m+be.length:=by omega
     have h62:¬(60:Int)<(m:Int)+be.length:=by omega
     simp(disch:=omega)[h62];refine gO now d _ _ hnw (by omega) ?_;have hrl:=fu now d;generalize dD now d=X at *;simp(disch:=omega);refine rndS (i+1,now,X++be) ⟨rfl,by simp only;omega,hS2,hnw,by simp only[length_append];omega⟩
    ·rw[if_neg h60]at hS2;rw[<-hS2]at h;have h61:60<m+be.length:=by omega
     have h62:(60:Int)<(m:Int)+be.length:=by omega
     simp(disch:=omega)[h62];exact ad h
   ·have hi':i=zs.length:=by omega
    subst hi';rw[drop_length,jV]at hS2;rw[<-hS2]at h;simp(disch:=omega);exact ad h
 ·have hl':(20:Int)<zs.length:=by omega
  have hl2:20<zs.length:=by omega
  have hno:lV zs=false:=by unfold lV;rw[decide_eq_false hl,Bool.false_and]
  rw[hno]at h;simp only[Bool.false_eq_true,if_false]at h;simp(disch:=omega)[hl'];exact ad h
end Go.Proofs.YtapimhjbilkfpaaGreatDoor
