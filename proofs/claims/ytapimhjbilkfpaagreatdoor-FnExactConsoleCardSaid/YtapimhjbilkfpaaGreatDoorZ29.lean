/- Lemmas for FnExactConsole, part 30 of 46. -/
import Derived.Test.YtapimhjbilkfpaaGreatDoorZ06
import Derived.Test.YtapimhjbilkfpaaGreatDoorZ28
import Derived.Test.YtapimhjbilkfpaaGreatDoorZ14
import Derived.Test.YtapimhjbilkfpaaGreatDoorZ03
import Derived.Test.YtapimhjbilkfpaaGreatDoorZ04
set_option linter.unusedVariables false
set_option linter.unusedSimpArgs false
namespace Go.Proofs.YtapimhjbilkfpaaGreatDoor
open Go Go.Proofs.Tryz Go.RowKit List
theorem jj{M N:Mem}{b i:Nat}{v:Value}(h:M.get? b i=some v)(hs:Sub M N):N.get? b i=some v:=by
 unfold Mem.get? at *;cases hM:M b with
 | none=>rw[hM]at h;cases h
 | some B=>rw[hM]at h;rw[hs _ _ hM];exact h
def a8(d:Dk)(v:Value)(t:List UInt8)(c:Int):Value:=.agg #[str d.w,str d.p,v,str t,.int .i64 c]
def dkV(d:Dk)(v:Value):Value:=.agg #[str d.w,str d.p,v]
def Gv(M:Mem)(v:Value)(d:Dk)(v':Value)(d':Dk)(M':Mem):Prop:=(v'=v/\d'.ms=d.ms/\M'=M)\/Own M v' (strs d'.ms) M'
theorem Jm(l:List Nat):aB l=ints (nI l):=by simp[aB,ints,nI]
theorem yh(l:List (List UInt8)){i:Nat}(h:i<l.length):(l.map qt).take (i+1)=(l.map qt).take i++[qt l[i]]:=by
 rw[<-map_take,<-map_take,az l h,map_append];rfl
theorem zu(l:List Int){i:Nat}(h:i<l.length):(l.map Lib.itoa).take (i+1)=(l.map Lib.itoa).take i++[Lib.itoa l[i]]:=by
 rw[<-map_take,<-map_take,az l h,map_append];rfl
theorem mT(w:List UInt8)(M:Mem)(R:VP)(hl:w.length<=1099511627776)(h:R (str (qt w)) M):ar prog 214 [str w] M R:=by
 unfold qt at h;refine fnS func214 rfl ntmps214 results214 ?_;simp(disch:=omega);exact ad h
theorem sf(v:Value)(l:List (List UInt8))(M:Mem)(R:VP)(hvar:ch M)(hv:Rd M v (strs l))(hok:mw l)(h:R (str (dm l)) M):ar prog 232 [v,.func (.func 214) #[] #[]] M R:=by
 unfold dm at h;refine fnS func232 rfl ntmps232 results232 ?_;obtain⟨a,c,rfl,ha⟩:=hv.opened;rw[ah]at ha ⊢;have hfew:=hok.few;by_cases h0:l=[]
 ·rw[if_pos h0]at h;subst h0;simp(disch:=omega);exact ad h
 ·rw[if_neg h0]at h;have h1:1<=l.length:=List.length_pos_iff.2 h0;have h1I:¬(l.length:Int)=0:=by omega
  rcases ha with hz|⟨b,o,rfl,ha⟩
  ·omega
  simp(disch:=omega);refine lupS [5,7,13,14,15,16,17,18,19,20,21,22,23] (fun x:Nat×Value=>[(13,.int .i64 (x.1:Nat)),(5,x.2)]) (fun x N=>x.1<=l.length/\Own M x.2 (strs ((l.map qt).take x.1)) N) (fun x=>l.length-x.1) (0,.slice none 0 0) ⟨Nat.zero_le _,by simp only[take_zero];exact Own.nil M⟩ ?_
  rintro⟨i,u⟩ N q ⟨hi,ho⟩
  simp only at hi ho;by_cases hlt:i<l.length
  ·have hltI:(i:Int)<(l.length:Nat):=by omega
   have hg:=ha i hlt;have hsn:=yh l hlt;have hm:l[i]∈l:=getElem_mem hlt;rw[bg,getElem?_eq_getElem hlt,Option.map_some]at hg;have hg2:=jj hg ho.sub;have hvar:=hvar.sub ho.sub;generalize l[i]=x at *;simp(disch:=omega)[hltI,hg2];refine mT x _ _ (by have:=hok.short _ hm;omega) ?_;simp(disch:=omega);intro b' hb';simp(disch:=omega);refine aN ho ((Sub.refl _).put hb' _) (by simp(disch:=omega);rfl) rfl rfl (by first|omega|(simp(disch:=omega)<;>omega)) (by simp(disch:=omega)) (by simp(disch:=omega);omega) ?_;intro v' M'' N'' ho' hs';rw[cO,<-hsn]at ho';simp(disch:=omega);exact rndM M'' (i+1,v') hs' ⟨by omega,ho'⟩
  ·have hltI:¬(i:Int)<(l.length:Nat):=by omega
   have hie:i=l.length:=by omega
   rw[hie,take_of_length_le (by rw[length_map];exact Nat.le_refl _)]at ho;have hj:=hok.join;simp(disch:=omega);refine uK u (l.map qt) [32] _ _ ho.rd (by rw[length_map];exact h1) (by rw[length_map];omega) (by omega) ?_;simp(disch:=omega);exact ae ho.sub h
theorem Dr(v:Value)(l:List (Int))(M:Mem)(R:VP)(hvar:ch M)(hv:Rd M v (ints l))(hok:kK l)(h:R (str (dF l)) M):ar prog 260 [v,.func (.func 154) #[] #[]] M R:=by
 unfold dF at h;refine fnS func260 rfl ntmps260 results260 ?_;obtain⟨a,c,rfl,ha⟩:=hv.opened;rw[ay]at ha ⊢;have hfew:=hok.few;by_cases h0:l=[]
 ·rw[if_pos h0]at h;subst h0;simp(disch:=omega);exact ad h
 ·rw[if_neg h0]at h;have h1:1<=l.length:=List.length_pos_iff.2 h0;have h1I:¬(l.length:Int)=0:=by omega
  rcases ha with hz|⟨b,o,rfl,ha⟩
  ·omega
  simp(disch:=omega);refine lupS [5,7,13,14,15,16,17,18,19,20,21,22,23] (fun x:Nat×Value=>[(13,.int .i64 (x.1:Nat)),(5,x.2)]) (fun x N=>x.1<=l.length/\Own M x.2 (strs ((l.map Lib.itoa).take x.1)) N) (fun x=>l.length-x.1) (0,.slice none 0 0) ⟨Nat.zero_le _,by simp only[take_zero];exact Own.nil M⟩ ?_
  rintro⟨i,u⟩ N q ⟨hi,ho⟩
  simp only at hi ho;by_cases hlt:i<l.length
  ·have hltI:(i:Int)<(l.length:Nat):=by omega
   have hg:=ha i hlt;have hsn:=zu l hlt;have hm:l[i]∈l:=getElem_mem hlt;rw[cJ,getElem?_eq_getElem hlt,Option.map_some]at hg;have hg2:=jj hg ho.sub;have hvar:=hvar.sub ho.sub;generalize l[i]=x at *;simp(disch:=omega)[hltI,hg2];refine dM x _ _ hvar (hok.low _ hm).1 (hok.low _ hm).2 ?_;simp(disch:=omega);intro b' hb';simp(disch:=omega);refine aN ho ((Sub.refl _).put hb' _) (by simp(disch:=omega);rfl) rfl rfl (by first|omega|(simp(disch:=omega)<;>omega)) (by simp(disch:=omega)) (by simp(disch:=omega);omega) ?_;intro v' M'' N'' ho' hs';rw[cO,<-hsn]at ho';simp(disch:=omega);exact rndM M'' (i+1,v') hs' ⟨by omega,ho'⟩
  ·have hltI:¬(i:Int)<(l.length:Nat):=by omega
   have hie:i=l.length:=by omega
   rw[hie,take_of_length_le (by rw[length_map];exact Nat.le_refl _)]at ho;have hj:=hok.join;simp(disch:=omega);refine uK u (l.map Lib.itoa) [32] _ _ ho.rd (by rw[length_map];exact h1) (by rw[length_map];omega) (by omega) ?_;simp(disch:=omega);exact ae ho.sub h
theorem By(xs:List (List UInt8))(y sep:List UInt8)(h:xs≠[]):Lib.join (xs++[y]) sep=Lib.join xs sep++sep++y:=by
 cases xs with
 | nil=>exact absurd rfl h
 | cons x r=>
  rw[cons_append,Lib.join_cons,Lib.join_cons];unfold Lib.joinTail;simp
theorem join_none(y sep:List UInt8):Lib.join ([]++[y]) sep=y:=by rw[nil_append,Lib.join_one]
theorem bI(w:List UInt8)(M:Mem)(R:VP)(hl:w.length<=1099511627776)(h:R (str (qt w)) M):ar prog 110 [str w] M R:=by
 unfold qt at h;refine fnS func110 rfl ntmps110 results110 ?_;simp(disch:=omega);exact ad h
theorem K6(q:Bool)(M:Mem)(R:VP)(h:R (str (gX q)) M):ar prog 195 [.bool q] M R:=by
 unfold gX at h;refine fnS func195 rfl ntmps195 results195 ?_;cases q
 ·simp(disch:=omega);exact ad h
 ·simp(disch:=omega);exact ad h
theorem BK(n:Nat):∀(M:Mem) (R:VP),n<=9223372036854775807->R (str (Lib.decDigits n)) M->ar prog 74 [.int .i64 n] M R:=by
 induction n using Nat.strongRecOn with
 | _ n ih=>
  intro M R hn h;refine fnS func74 rfl ntmps74 results74 ?_;have h0:¬(n:Int)<0:=by omega
  by_cases h10:n<10
  ·rw[Lib.decDigits_one h10]at h;have h10I:(n:Int)<10:=by omega
   simp(disch:=omega)[h0,h10I];intro b hb;simp(disch:=omega);have e:((48:Int)+(n:Nat)).toNat=48+n:=by omega
   rw[<-e]at h;exact ae ((Sub.refl M).put hb _) h
  ·rw[Lib.decDigits,dif_neg h10]at h;have h10I:¬(n:Int)<10:=by omega
   obtain⟨q,hq⟩:∃ q,q=n/10:=⟨_,rfl⟩;obtain⟨r,hr⟩:∃ r,r=n%10:=⟨_,rfl⟩;rw[<-hq,<-hr]at h;have hqI:(n:Int)/10=(q:Nat):=by omega
   have hrI:(n:Int).tmod 10=(r:Nat):=by
    rw[Int.tmod_eq_emod_of_nonneg (by omega)];omega
   have hql:=dh (q:Nat) (by omega) (by omega);rw[Lib.itoa_nonneg]at hql;have ihq:=ih q (by omega);have e:((48:Int)+(r:Nat)).toNat=48+r:=by omega
   have hr9:r<=9:=by omega
   rw[<-e]at h;clear ih;generalize Lib.decDigits q=y at *;simp(disch:=omega)[h0,h10I];refine plyS (ak [0,1,3,4,5,6] (.alt 2 1 (.one 7 1 (.one 8 1 (ak [9,10] .fin))) (.one 7 1 (.alt 2 1 (.one 8 1 (ak [9,10] .fin)) (.one 8 1 (.one 2 1 (ak [9,10] .fin))))))) ?_;simp(disch:=omega)[hqI,hrI,jW];refine⟨ihq _ _ (by omega) ?_,?_⟩
   ·simp(disch:=omega);intro b hb;have s:=(Sub.refl M).put hb (.cells true [.int .u8 (48+(r:Nat))] 1);simp(disch:=omega)[s];exact ae s h
   ·intro b hb;have s:=(Sub.refl M).put hb (.cells true [.int .u8 (48+(r:Nat))] 1);simp(disch:=omega)[jW,s];refine⟨ihq _ _ (by omega) ?_,?_⟩
    ·simp(disch:=omega);exact ae s h
    ·refine ihq _ _ (by omega) ?_;simp(disch:=omega);exact ae s h
theorem fx(n:Int)(M:Mem)(R:VP)(hn:IOk n)(h:R (str (Lib.itoa n)) M):ar prog 74 [.int .i64 n] M R:=by
 by_cases h0:n<0
 ·obtain⟨k,hk⟩:∃ k:Nat,-n=k:=⟨n.natAbs,by omega⟩;have hnk:n.natAbs=k:=by omega
  unfold Lib.itoa at h;rw[if_pos h0,hnk]at h;have hmin:k<=9223372036854775807:=by have:=hn.1;omega
  have hi:=dh (k:Nat) (by omega) (by omega);rw[Lib.itoa_nonneg]at hi;refine fnS func74 rfl ntmps74 results74 ?_;simp(disch:=omega)[h0,hk];refine BK k _ _ hmin ?_;generalize Lib.decDigits k=y at *;simp(disch:=omega);exact ad h
 ·obtain⟨k,rfl⟩:∃ k:Nat,n=k:=⟨n.toNat,by omega⟩;rw[Lib.itoa_nonneg]at h;exact BK k M R (by have:=hn.2;omega) h
theorem jE(v:Value)(l:List (List UInt8))(M:Mem)(R:VP)(hv:Rd M v (strs l))(hok:mw l)(h:R (str (dm l)) M):ar prog 191 [v] M R:=by
 unfold dm at h;refine fnS func191 rfl ntmps191 results191 ?_;obtain⟨a,c,rfl,ha⟩:=hv.opened;rw[ah]at ha ⊢;have hfew:=hok.few;by_cases h0:l=[]
 ·rw[if_pos h0]at h;subst h0;simp(disch:=omega);exact ad h
 ·rw[if_neg h0]at h;have h1:1<=l.length:=List.length_pos_iff.2 h0;have h1I:¬(l.length:Int)=0:=by omega
  rcases ha with hz|⟨b,o,rfl,ha⟩
  ·omega
  have hall:∀ i,∀ x∈(l.map qt).take i,x.length<=102:=fun i x hx=>by
   obtain⟨y,hy,rfl⟩:=List.mem_map.1 (mem_of_mem_take hx)
   (rw[dC];have:=hok.short y hy;omega)
  have hjl:∀ i,i<=l.length->(Lib.join ((l.map qt).take i) [32]).length<=1000000:=fun i hi=>by
   have h2:(Lib.join ((l.map qt).take i) [32]).length<=((l.map qt).take i).length*(102+1):=mJ [32] 102 _ (hall i);have h3:((l.map qt).take i).length<=4000:=by rw[length_take,length_map];omega
   have h4:=Nat.mul_le_mul_right (102+1) h3;omega
  simp(disch:=omega);refine aQ aR [3,4,8,9,10,11,12,13,14,15,16,17,18,19,20,21,22,23,24] (fun i:Nat=>[(4,.int .i64 (i:Nat)),(3,str (Lib.join ((l.map qt).take i) [32]))]) (fun i N=>M=N/\i<=l.length) (fun i=>l.length-i) 0 (by kernel_rfl) (by simp(disch:=omega)[Lib.join_nil]) ⟨rfl,Nat.zero_le _⟩ ?_
  rintro i N q ⟨rfl,hi⟩
  by_cases hlt:i<l.length
  ·have hltI:(i:Int)<(l.length:Nat):=by omega
   have hg:=ha i hlt;have hsn:=yh l hlt;have hm:l[i]∈l:=getElem_mem hlt;rw[bg,getElem?_eq_getElem hlt,Option.map_some]at hg;have hj:=hjl i (by omega);have hj2:=hjl (i+1) (by omega);have hgx:(qt l[i]).length<=102:=by
    have hy:=hm;generalize l[i]=y at hy
    (rw[dC];have:=hok.short y hy;omega)
   have hne:0<i->(l.map qt).take i≠[]:=fun hi0 e=>by
    have:=congrArg length e;rw[length_take,length_map,length_nil]at this;omega
   generalize l[i]=x at *;by_cases hi0:0<i
   ·have hi0I:(0:Int)<(i:Nat):=by omega
    have hjn:=By ((l.map qt).take i) (qt x) [32] (hne hi0);rw[<-hsn]at hjn;obtain⟨J,hJ⟩:∃ J,J=Lib.join ((l.map qt).take i) [32]:=⟨_,rfl⟩;rw[<-hJ]at hjn hj ⊢;simp(disch:=omega)[hltI,hg];refine bI x _ _ (by have:=hok.short _ hm;omega) ?_;generalize hG:qt x=G at *;simp(disch:=omega);exact rndA (i+1) (by simp(disch:=omega)[hjn]) ⟨rfl,by omega⟩
   ·have hi0I:¬(0:Int)<(i:Nat):=by omega
    have hie:i=0:=by omega
    subst hie;have hjn:Lib.join ((l.map qt).take (0+1)) [32]=qt x:=by
     rw[hsn,take_zero];exact join_none _ _
    simp(disch:=omega);rw[Nat.add_zero]at hg;simp(disch:=omega)[hg];refine bI x _ _ (by have:=hok.short _ hm;omega) ?_;generalize hG:qt x=G at *;simp(disch:=omega)[Lib.join_nil];exact rndA 1 (by simp(disch:=omega)[hjn]) ⟨rfl,by omega⟩
  ·have hltI:¬(i:Int)<(l.length:Nat):=by omega
   have hie:i=l.length:=by omega
   rw[hie,take_of_length_le (by rw[length_map];exact Nat.le_refl _)];simp(disch:=omega);exact ad h
theorem fb(v:Value)(l:List (Int))(M:Mem)(R:VP)(hv:Rd M v (ints l))(hok:kK l)(h:R (str (dF l)) M):ar prog 127 [v] M R:=by
 unfold dF at h;refine fnS func127 rfl ntmps127 results127 ?_;obtain⟨a,c,rfl,ha⟩:=hv.opened;rw[ay]at ha ⊢;have hfew:=hok.few;by_cases h0:l=[]
 ·rw[if_pos h0]at h;subst h0;simp(disch:=omega);exact ad h
 ·rw[if_neg h0]at h;have h1:1<=l.length:=List.length_pos_iff.2 h0;have h1I:¬(l.length:Int)=0:=by omega
  rcases ha with hz|⟨b,o,rfl,ha⟩
  ·omega
  have hall:∀ i,∀ x∈(l.map Lib.itoa).take i,x.length<=21:=fun i x hx=>by
   obtain⟨y,hy,rfl⟩:=List.mem_map.1 (mem_of_mem_take hx);exact dh y (hok.low y hy).1 (hok.low y hy).2
  have hjl:∀ i,i<=l.length->(Lib.join ((l.map Lib.itoa).take i) [32]).length<=1000000:=fun i hi=>by
   have h2:(Lib.join ((l.map Lib.itoa).take i) [32]).length<=((l.map Lib.itoa).take i).length*(21+1):=mJ [32] 21 _ (hall i);have h3:((l.map Lib.itoa).take i).length<=4000:=by rw[length_take,length_map];omega
   have h4:=Nat.mul_le_mul_right (21+1) h3;omega
  simp(disch:=omega);refine aQ aR [3,4,8,9,10,11,12,13,14,15,16,17,18,19,20,21,22,23,24] (fun i:Nat=>[(4,.int .i64 (i:Nat)),(3,str (Lib.join ((l.map Lib.itoa).take i) [32]))]) (fun i N=>M=N/\i<=l.length) (fun i=>l.length-i) 0 (by kernel_rfl) (by simp(disch:=omega)[Lib.join_nil]) ⟨rfl,Nat.zero_le _⟩ ?_
  rintro i N q ⟨rfl,hi⟩
  by_cases hlt:i<l.length
  ·have hltI:(i:Int)<(l.length:Nat):=by omega
   have hg:=ha i hlt;have hsn:=zu l hlt;have hm:l[i]∈l:=getElem_mem hlt;rw[cJ,getElem?_eq_getElem hlt,Option.map_some]at hg;have hj:=hjl i (by omega);have hj2:=hjl (i+1) (by omega);have hgx:(Lib.itoa l[i]).length<=21:=by
    have hy:=hm;generalize l[i]=y at hy;exact dh y (hok.low y hy).1 (hok.low y hy).2
   have hne:0<i->(l.map Lib.itoa).take i≠[]:=fun hi0 e=>by
    have:=congrArg length e;rw[length_take,length_map,length_nil]at this;omega
   generalize l[i]=x at *;by_cases hi0:0<i
   ·have hi0I:(0:Int)<(i:Nat):=by omega
    have hjn:=By ((l.map Lib.itoa).take i) (Lib.itoa x) [32] (hne hi0);rw[<-hsn]at hjn;obtain⟨J,hJ⟩:∃ J,J=Lib.join ((l.map Lib.itoa).take i) [32]:=⟨_,rfl⟩;rw[<-hJ]at hjn hj ⊢;simp(disch:=omega)[hltI,hg];refine fx x _ _ (hok.low _ hm) ?_;generalize hG:Lib.itoa x=G at *;simp(disch:=omega);exact rndA (i+1) (by simp(disch:=omega)[hjn]) ⟨rfl,by omega⟩
   ·have hi0I:¬(0:Int)<(i:Nat):=by omega
    have hie:i=0:=by omega
    subst hie;have hjn:Lib.join ((l.map Lib.itoa).take (0+1)) [32]=Lib.itoa x:=by
     rw[hsn,take_zero];exact join_none _ _
    simp(disch:=omega);rw[Nat.add_zero]at hg;simp(disch:=omega)[hg];refine fx x _ _ (hok.low _ hm) ?_;generalize hG:Lib.itoa x=G at *;simp(disch:=omega)[Lib.join_nil];exact rndA 1 (by simp(disch:=omega)[hjn]) ⟨rfl,by omega⟩
  ·have hltI:¬(i:Int)<(l.length:Nat):=by omega
   have hie:i=l.length:=by omega
   rw[hie,take_of_length_le (by rw[length_map];exact Nat.le_refl _)];simp(disch:=omega);exact ad h
end Go.Proofs.YtapimhjbilkfpaaGreatDoor
namespace Go.Proofs.YtapimhjbilkfpaaGreatDoor
open Go Go.Proofs.Tryz List
theorem aZ{M:Mem}{v:Value}{xs:List Value}(h:Rd M v xs):bF v=true:=by
 obtain⟨a,c,rfl,_⟩:=h.opened;rfl
theorem bh{P:Program}{f:FuncId}{args:List Value}{M:Mem}{R:VP}(h:ar P f args M (fun v M'=>Sub M M'/\R v M)):ar P f args M R:=
 ⟨h.1,fun w hw=>(h.2 w hw).mono fun e w' ⟨v,M',h1,h2,h3,hs,h4⟩=>⟨v,M,h1,h2.sub hs,h3.sub hs,h4⟩⟩
theorem dV(d:Dk)(v:Value)(hf:bF v=true)(t:List UInt8)(c:Int)(M:Mem)(R:VP)(h:R (a8 d v t c) M):ar prog 162 [dkV d v,str t,.int .i64 c] M R:=by
 unfold dkV;refine fnS func162 rfl ntmps162 results162 ?_;simp(disch:=omega);intro b1 hb1;have h1:Sub M (M.put b1 (.cells true [str d.w,str d.p,v] 3)):=(Sub.refl M).put hb1 _;simp(disch:=omega);intro b2 hb2;have h2:=hb2;rw[aF]at h2;unfold a8 at h;simp(disch:=omega)[hf];exact ae (h1.putN hb2 _) h
theorem cq(d:Dk)(v:Value)(hf:bF v=true)(M:Mem)(R:VP)(h:R (a8 d v [] 6) M):ar prog 100 [dkV d v] M R:=by
 unfold dkV;refine fnS func100 rfl ntmps100 results100 ?_;simp(disch:=omega);intro b1 hb1;have h1:Sub M (M.put b1 (.cells true [str d.w,str d.p,v] 3)):=(Sub.refl M).put hb1 _;simp(disch:=omega);intro b2 hb2;have h2:=hb2;rw[aF]at h2;unfold a8 at h;simp(disch:=omega)[hf];exact ae (h1.putN hb2 _) h
theorem eD(d:Dk)(v:Value)(hf:bF v=true)(t:List UInt8)(c:Int)(M:Mem)(R:VP)(hl:t.length<=1099511627776)(h:R (a8 d v (qt t) c) M):ar prog 149 [dkV d v,str t,.int .i64 c] M R:=by
 unfold dkV;refine fnS func149 rfl ntmps149 results149 ?_;simp(disch:=omega);intro b1 hb1;have h1:Sub M (M.put b1 (.cells true [str d.w,str d.p,v] 3)):=(Sub.refl M).put hb1 _;simp(disch:=omega);intro b2 hb2;have h2:=hb2;rw[aF]at h2;simp(disch:=omega);refine plyS (ak [0,1,3] (.one 2 1 (.one 4 1 (.one 5 2 .fin)))) ?_;simp(disch:=omega);refine mT _ _ _ hl ?_;simp(disch:=omega);refine dV d v hf _ _ _ _ ?_;unfold a8 at h ⊢;simp(disch:=omega)[hf];exact ae (h1.putN hb2 _) h
theorem pQ(d:Dk)(v:Value)(hf:bF v=true)(x:Value)(l:List (List UInt8))(c:Int)(M:Mem)(R:VP)(hvar:ch M)(hx:Rd M x (strs l))(hok:mw l)(h:R (a8 d v (dm l) c) M):ar prog 240 [dkV d v,x,.int .i64 c] M R:=by
 unfold dkV;refine fnS func240 rfl ntmps240 results240 ?_;simp(disch:=omega);intro b1 hb1;have h1:Sub M (M.put b1 (.cells true [str d.w,str d.p,v] 3)):=(Sub.refl M).put hb1 _;simp(disch:=omega);intro b2 hb2;have h2:=hb2;rw[aF]at h2;simp(disch:=omega);refine plyS (ak [0,1,3] (.one 2 1 (.one 4 1 (.one 5 2 .fin)))) ?_;simp(disch:=omega);refine sf x l _ _ (hvar.sub (h1.putN hb2 _)) (hx.sub (h1.putN hb2 _)) hok ?_;simp(disch:=omega);refine dV d v hf _ _ _ _ ?_;unfold a8 at h ⊢;simp(disch:=omega)[hf];exact ae (h1.putN hb2 _) h
theorem eK(d:Dk)(v:Value)(hf:bF v=true)(x:Value)(l:List Int)(c:Int)(M:Mem)(R:VP)(hvar:ch M)(hx:Rd M x (ints l))(hok:kK l)(h:R (a8 d v (dF l) c) M):ar prog 168 [dkV d v,x,.int .i64 c] M R:=by
 unfold dkV;refine fnS func168 rfl ntmps168 results168 ?_;simp(disch:=omega);intro b1 hb1;have h1:Sub M (M.put b1 (.cells true [str d.w,str d.p,v] 3)):=(Sub.refl M).put hb1 _;simp(disch:=omega);intro b2 hb2;have h2:=hb2;rw[aF]at h2;simp(disch:=omega);refine plyS (ak [0,1,3] (.one 2 1 (.one 4 1 (.one 5 2 .fin)))) ?_;simp(disch:=omega);refine Dr x l _ _ (hvar.sub (h1.putN hb2 _)) (hx.sub (h1.putN hb2 _)) hok ?_;simp(disch:=omega);refine dV d v hf _ _ _ _ ?_;unfold a8 at h ⊢;simp(disch:=omega)[hf];exact ae (h1.putN hb2 _) h
theorem GH(d:Dk)(v:Value)(hf:bF v=true)(n:Int)(c:Int)(M:Mem)(R:VP)(hvar:ch M)(hn:IOk n)(h:R (a8 d v (Lib.itoa n) c) M):ar prog 172 [dkV d v,.int .i64 n,.int .i64 c] M R:=by
 unfold dkV;refine fnS func172 rfl ntmps172 results172 ?_;simp(disch:=omega);intro b1 hb1;have h1:Sub M (M.put b1 (.cells true [str d.w,str d.p,v] 3)):=(Sub.refl M).put hb1 _;simp(disch:=omega);intro b2 hb2;have h2:=hb2;rw[aF]at h2;simp(disch:=omega);refine plyS (ak [0,1,3] (.one 2 1 (.one 4 1 (.one 5 2 .fin)))) ?_;simp(disch:=omega);refine dM n _ _ (hvar.sub (h1.putN hb2 _)) hn.1 hn.2 ?_;simp(disch:=omega);refine dV d v hf _ _ _ _ ?_;unfold a8 at h ⊢;simp(disch:=omega)[hf];exact ae (h1.putN hb2 _) h
theorem lC(d:Dk)(v:Value)(hf:bF v=true)(t:List UInt8)(n c:Int)(M:Mem)(R:VP)(hvar:ch M)(hl:t.length<=1000000)(hn:IOk n)(h:R (a8 d v (qt t++32::Lib.itoa n) c) M):ar prog 236 [dkV d v,str t,.int .i64 n,.int .i64 c] M R:=by
 unfold dkV;refine fnS func236 rfl ntmps236 results236 ?_;simp(disch:=omega);intro b1 hb1;have h1:Sub M (M.put b1 (.cells true [str d.w,str d.p,v] 3)):=(Sub.refl M).put hb1 _;simp(disch:=omega);intro b2 hb2;have h2:=hb2;rw[aF]at h2;have hq:=dC t;have hi:=dh n hn.1 hn.2;simp(disch:=omega);refine plyS (ak [0,1,4,7] (.one 2 1 (ak [3] (.one 5 1 (ak [6] (.one 8 1 (.one 9 2 .fin))))))) ?_;simp(disch:=omega);refine mT _ _ _ (by omega) ?_;generalize qt t=q at *;simp(disch:=omega);refine dM n _ _ (hvar.sub (h1.putN hb2 _)) hn.1 hn.2 ?_;generalize Lib.itoa n=z at *;simp(disch:=omega);refine dV d v hf _ _ _ _ ?_;unfold a8 at h ⊢;simp(disch:=omega)[hf];exact ae (h1.putN hb2 _) h
theorem fA(d:Dk)(v:Value)(hf:bF v=true)(q:Bool)(c:Int)(M:Mem)(R:VP)(h:R (a8 d v (gX q) c) M):ar prog 344 [dkV d v,.bool q,.int .i64 c] M R:=by
 unfold dkV;refine fnS func344 rfl ntmps344 results344 ?_;simp(disch:=omega);intro b1 hb1;have h1:Sub M (M.put b1 (.cells true [str d.w,str d.p,v] 3)):=(Sub.refl M).put hb1 _;simp(disch:=omega);intro b2 hb2;have h2:=hb2;rw[aF]at h2;cases q
 ·simp(disch:=omega);refine dV d v hf _ _ _ _ ?_;unfold a8 gX at h;unfold a8;simp(disch:=omega)[hf];exact ae (h1.putN hb2 _) h
 ·simp(disch:=omega);refine dV d v hf _ _ _ _ ?_;unfold a8 gX at h;unfold a8;simp(disch:=omega)[hf];exact ae (h1.putN hb2 _) h
theorem bN(d:Dk)(v:Value)(hf:bF v=true)(t:List UInt8)(c:Int)(M:Mem)(R:VP)(hl:t.length<=1099511627776)(h:R (a8 ⟨t,d.p,d.ms⟩ v (qt t) c) M):ar prog 103 [dkV d v,str t,.int .i64 c] M R:=by
 unfold dkV;refine fnS func103 rfl ntmps103 results103 ?_;simp(disch:=omega);intro b1 hb1;have h1:Sub M (M.put b1 (.cells true [str d.w,str d.p,v] 3)):=(Sub.refl M).put hb1 _;simp(disch:=omega);intro b2 hb2;have h2:=hb2;rw[aF]at h2;simp(disch:=omega)[al];refine eD ⟨t,d.p,d.ms⟩ v hf t c _ _ hl ?_;unfold a8 at h ⊢;simp(disch:=omega)[hf,al];exact ae (((h1.putN hb2 _).ovr hb1 _).ovr h2.2 _) h
theorem pF(d:Dk)(v:Value)(hf:bF v=true)(M:Mem)(R:VP)(hv:Rd M v (strs d.ms))(hm:aW d.ms=true)(h:R (a8 d v (qt (nf d.ms)) (kC d.ms)) M):ar prog 151 [dkV d v] M R:=by
 unfold dkV;refine fnS func151 rfl ntmps151 results151 ?_;simp(disch:=omega);intro b1 hb1;have h1:Sub M (M.put b1 (.cells true [str d.w,str d.p,v] 3)):=(Sub.refl M).put hb1 _;simp(disch:=omega);intro b2 hb2;have h2:=hb2;rw[aF]at h2;have hv2:=hv.sub (h1.putN hb2 (.cells true [str [],str [],.slice none 0 0,str [],.int .i64 0] 5));have hfi:df d.ms:=fun w hw=>by have:=(bL hm hw).1;omega
 have h5:=(aX hm).2;have ht:=Dq d.ms;simp(disch:=omega);refine plyS (ak [0,1,2] (.one 3 1 (ak [4,5] (.one 6 1 (.one 7 2 .fin))))) ?_;simp(disch:=omega);refine sj v d.ms _ _ hv2 hfi (by omega) ?_;unfold aD;simp(disch:=omega);refine eD d v hf _ _ _ _ (by omega) ?_;unfold a8 at h ⊢;simp(disch:=omega)[hf];exact ae (h1.putN hb2 _) h
theorem Ac(d:Dk)(v:Value)(hf:bF v=true)(M:Mem)(R:VP)(hvar:ch M)(hd:d.w.length<=1000)(h:R (a8 d v (Lib.itoa (vS d.w)++32::Lib.itoa (vP d.w)) (cg d.w)) M):ar prog 160 [dkV d v] M R:=by
 unfold dkV;refine fnS func160 rfl ntmps160 results160 ?_;simp(disch:=omega);intro b1 hb1;have h1:Sub M (M.put b1 (.cells true [str d.w,str d.p,v] 3)):=(Sub.refl M).put hb1 _;simp(disch:=omega);intro b2 hb2;have h2:=hb2;rw[aF]at h2;simp(disch:=omega);refine bh (vY d.w _ _ (by omega) fun M' s'=>⟨s',?_⟩);obtain⟨⟨e1,e2⟩,e3,e4⟩:=xy d.w;have hi:=dh _ e1 e2;have hj:=dh _ e3 e4;simp(disch:=omega);refine plyS (ak [0,1,4,7] (.one 2 1 (ak [3] (.one 5 1 (ak [6] (.one 8 1 (.one 9 2 .fin))))))) ?_;simp(disch:=omega);refine dM _ _ _ (hvar.sub (h1.putN hb2 _)) e1 e2 ?_;generalize Lib.itoa (vS d.w)=y at *;simp(disch:=omega);refine dM _ _ _ (hvar.sub (h1.putN hb2 _)) e3 e4 ?_;generalize Lib.itoa (vP d.w)=z at *;simp(disch:=omega);refine dV d v hf _ _ _ _ ?_;unfold a8 at h ⊢;simp(disch:=omega)[hf];exact ae (h1.putN hb2 _) h
theorem Ir(d:Dk)(v:Value)(hf:bF v=true)(M:Mem)(R:VP)(hvar:ch M)(hw:d.w.length<=1000)(hp:d.p.length<=1000)(h:R (a8 d v (Lib.itoa (plI d.w d.p)++32::dm (plL d.w d.p)) (plC d.w d.p)) M):ar prog 161 [dkV d v] M R:=by
 unfold dkV;refine fnS func161 rfl ntmps161 results161 ?_;simp(disch:=omega);intro b1 hb1;have h1:Sub M (M.put b1 (.cells true [str d.w,str d.p,v] 3)):=(Sub.refl M).put hb1 _;simp(disch:=omega);intro b2 hb2;have h2:=hb2;rw[aF]at h2;simp(disch:=omega);refine vW d.w d.p _ _ (by omega) (by omega) ?_;intro x M' o;obtain⟨e1,e2⟩:=EU d.w d.p;have hi:=dh _ e1 e2;have hj:=(Fg d.w d.p).text;have hvM:=(hvar.sub (h1.putN hb2 _)).sub o.sub;have k1:=o.sub _ _ (show ((M.put b1 (.cells true [str d.w,str d.p,v] 3)).put b2 (.cells true [str [],str [],.slice none 0 0,str [],.int .i64 0] 5)) b1=some (.cells true [str d.w,str d.p,v] 3) by simp(disch:=omega));have k2:=o.sub _ _ (ag (M.put b1 (.cells true [str d.w,str d.p,v] 3)) b2 (.cells true [str [],str [],.slice none 0 0,str [],.int .i64 0] 5));have sM:=(h1.putN hb2 (.cells true [str [],str [],.slice none 0 0,str [],.int .i64 0] 5)).trans o.sub;simp(disch:=omega);refine plyS (ak [0,1,4,7] (.one 2 1 (ak [3] (.one 5 1 (ak [6] (.one 8 1 (.one 9 2 .fin))))))) ?_;simp(disch:=omega)[aq k1];refine dM _ _ _ hvM e1 e2 ?_;generalize Lib.itoa (plI d.w d.p)=y at *;simp(disch:=omega);refine sf x (plL d.w d.p) _ _ hvM o.rd (Fg d.w d.p) ?_;generalize dm (plL d.w d.p)=z at *;simp(disch:=omega);refine dV d v hf _ _ _ _ ?_;unfold a8 at h ⊢;simp(disch:=omega)[k2,al,hf];exact ae (sM.ovr h2.2 _) h
end Go.Proofs.YtapimhjbilkfpaaGreatDoor
