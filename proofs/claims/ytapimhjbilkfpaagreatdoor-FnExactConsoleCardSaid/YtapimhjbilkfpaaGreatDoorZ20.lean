/- Lemmas for FnExactDeskAfter, part 21 of 33. -/
import Derived.Test.YtapimhjbilkfpaaGreatDoorZ19
set_option linter.unusedVariables false
set_option linter.unusedSimpArgs false
namespace Go.Proofs.YtapimhjbilkfpaaGreatDoor
open Go Go.Proofs.Tryz List
theorem P9(a b:B8):a<b\/Op.bytesLess b a=true\/b=a:=by
 by_cases h:a<b
 ·exact .inl h
 ·rcases List.le_iff_lt_or_eq.1 (List.not_lt.1 h) with h1|h1
  ·exact .inr (.inl ((kF _ _).2 h1))
  ·exact .inr (.inr h1)
theorem SI{a b:B8}(h:a<b):Op.bytesLess b a=false/\¬ b=a:=by
 constructor
 ·cases hq:Op.bytesLess b a
  ·rfl
  ·exact absurd ((kF _ _).1 hq) (List.lt_asymm h)
 ·rintro rfl;exact List.lt_irrefl _ h
theorem Sj{w:B8}{k:Nat}(hk:k+1<w.length)(h:¬ w<w.drop (k+1)++w.take (k+1)):Od w=false:=by
 unfold Od;rw[all_eq_false];exact⟨k,List.mem_range.2 (by omega),by rw[decide_eq_false h];simp⟩
theorem SF{w:B8}{k:Nat}(hk:k+1<w.length)(h:¬ w<w.drop (k+1)):uY w=false:=by
 unfold uY;rw[all_eq_false];exact⟨k,List.mem_range.2 (by omega),by rw[decide_eq_false h];simp⟩
theorem oV{w:B8}(h:1<=w.length):¬ w=[]/\w.isEmpty=false:=by
 cases w with
 | nil=>simp at h
 | cons a b=>exact⟨(fun e=>by cases e),rfl⟩
theorem C4{a b:B8}(h:Op.bytesLess b a=true\/b=a):¬ a<b:=by
 rcases h with h|h
 ·exact List.lt_asymm ((kF _ _).1 h)
 ·rw[h];exact List.lt_irrefl _
theorem zq(w:B8)(M:Mem)(R:VP)(hl:w.length<=60)(h1:1<=w.length)(h:R (.bool (uY w)) M):ar prog 333 [str w] M R:=by
 rw[<-QT]at h;obtain⟨hn1,hn2⟩:=oV h1;refine fnS func333 rfl ntmps333 results333 ?_;simp(disch:=omega);refine lupS (rlA [] 2 17) (fun i:Nat=>[(3,.int .i64 i)]) (fun i M'=>M=M'/\1<=i/\i<=w.length/\∀ k,k+1<i->w<w.drop (k+1)++w.take (k+1)) (fun i=>w.length-i) 1 ⟨rfl,by omega,by omega,fun k hk=>by omega⟩ ?_
 rintro i M' g ⟨rfl,hi1,hi,hall⟩
 by_cases hlt:i<w.length
 ·rcases P9 w (w.drop i++w.take i) with hc|hc
  ·obtain⟨c1,c2⟩:=SI hc;have c3:(w.drop i++w.take i==w)=false:=bNe.2 c2;simp(disch:=omega);refine drwS ?_;simp(disch:=omega)[c1,c3];exact rndS (i+1) ⟨rfl,by omega,by omega,fun k hk=>by
    by_cases e:k+1=i
    ·rw[e];exact hc
    ·exact hall k (by omega)⟩
  ·obtain⟨k,rfl⟩:∃ k,i=k+1:=⟨i-1,by omega⟩;rw[Sj hlt (C4 hc)]at h;obtain⟨i,hi2⟩:∃ i,i=k+1:=⟨_,rfl⟩;rw[<-hi2]at hc hlt ⊢;rcases hc with hc|hc
   ·simp(disch:=omega);refine drwS ?_;simp(disch:=omega)[hc];exact ad h
   ·simp(disch:=omega);refine drwS ?_;simp(disch:=omega)[hc];exact ad h
 ·have:Od w=true:=by
   unfold Od;rw[all_eq_true];intro k hk;exact decide_eq_true (hall k (by have:=List.mem_range.1 hk;omega))
  rw[this]at h;simp(disch:=omega)[hn2];exact ad h
theorem wJ(w:B8)(M:Mem)(R:VP)(hl:w.length<=60)(h1:1<=w.length)(h:R (.bool (uY w)) M):ar prog 361 [str w] M R:=by
 obtain⟨hn1,hn2⟩:=oV h1;refine fnS func361 rfl ntmps361 results361 ?_;simp(disch:=omega);refine lupS (rlA [] 2 13) (fun i:Nat=>[(3,.int .i64 i)]) (fun i M'=>M=M'/\1<=i/\i<=w.length/\∀ k,k+1<i->w<w.drop (k+1)) (fun i=>w.length-i) 1 ⟨rfl,by omega,by omega,fun k hk=>by omega⟩ ?_
 rintro i M' g ⟨rfl,hi1,hi,hall⟩
 by_cases hlt:i<w.length
 ·rcases P9 w (w.drop i) with hc|hc
  ·obtain⟨c1,c2⟩:=SI hc;have c3:(w.drop i==w)=false:=bNe.2 c2;simp(disch:=omega)[c1,c3];exact rndS (i+1) ⟨rfl,by omega,by omega,fun k hk=>by
    by_cases e:k+1=i
    ·rw[e];exact hc
    ·exact hall k (by omega)⟩
  ·obtain⟨k,rfl⟩:∃ k,i=k+1:=⟨i-1,by omega⟩;rw[SF hlt (C4 hc)]at h;obtain⟨i,hi2⟩:∃ i,i=k+1:=⟨_,rfl⟩;rw[<-hi2]at hc hlt ⊢;rcases hc with hc|hc
   ·simp(disch:=omega)[hc];exact ad h
   ·have:=congrArg length hc;rw[length_drop]at this;omega
 ·have:uY w=true:=by
   unfold uY;rw[all_eq_true];intro k hk;exact decide_eq_true (hall k (by have:=List.mem_range.1 hk;omega))
  rw[this]at h;have h1I:(0:Int)<w.length:=by omega
  simp(disch:=omega)
  first|exact ad h|(rw[decide_eq_true (show 0<w.length by omega)];exact ad h)
theorem tZ(w:B8)(M:Mem)(R:VP)(hl:w.length<=1099511627776)(h:∀ v M',Sub M M'->Rd M' v (strs (if isWord w then ld w else []))->R (aE v (aJ w)) M'):ar prog 241 [str w] M R:=by
 unfold aE aJ at h;refine fnS func241 rfl ntmps241 results241 ?_;simp(disch:=omega);intro b1 hb1;simp(disch:=omega);have hs1:Sub M (M.put b1 (.cells true [str w] 1)):=(Sub.refl _).put hb1 _;refine bt _ _ [w] true (fun _=>True) _ _ (Rd.new rfl (lRf 1)) (gg hl) (by simp) trivial bV (bI _) ?_;rw[db];cases hw:isWord w
 ·rw[hw]at h;simp(disch:=omega);exact ad (h _ _ hs1 (.inl ⟨none,0,rfl,rfl⟩))
 ·rw[hw,if_pos rfl,if_pos rfl]at h;have h60:=au hw;generalize M.put b1 (.cells true [str w] 1)=M0 at *;simp(disch:=omega);refine lupS (rlA [0,5,6] 13 20) (fun x:B8×Value=>[(0,str x.1),(5,x.2)]) (fun x N=>x.1.length<=60/\∃ L,L.length+x.1.length<=60/\ld w=L++ld x.1/\Own M0 x.2 (strs L) N) (fun x=>x.1.length) (w,.slice none 0 0) ⟨h60,[],by simpa using h60,rfl,Own.nil _⟩ ?_
  rintro⟨u,v⟩ N g ⟨hu,L,hLl,hL,ho⟩
  simp only at hu hLl hL ho;by_cases h0:u=[]
  ·subst h0;rw[HW,append_nil]at hL;rw[<-hL]at ho;simp(disch:=omega);exact ad (h _ _ (hs1.trans ho.sub) ho.rd)
  ·have h1:1<=u.length:=List.length_pos_iff.2 h0;obtain⟨n1,n2⟩:=oV h1;have hc:=BN h0;have hb1:=ik h1 u.length h1;have hb2:=qw u u.length;simp(disch:=omega)[n2];refine lupS (rlA [6] 17 7) (fun n:Nat=>[(6,.int .i64 n)]) (fun n N'=>N=N'/\1<=n/\n<=u.length/\ca u u.length=ca u n) (fun n=>n) u.length ⟨rfl,h1,lRf _,rfl⟩ ?_
   rintro n N' g2 ⟨rfl,hn1,hn,hbn⟩
   obtain⟨m,rfl⟩:∃ m,n=m+1:=⟨n-1,by omega⟩;have hstep:ca u (m+1)=if uY (u.take (m+1)) then m+1 else ca u m:=rfl
   have htl:(u.take (m+1)).length=m+1:=by rw[lTa];omega
   obtain⟨n,hnE⟩:∃ n,n=m+1:=⟨_,rfl⟩;rw[<-hnE]at hstep htl hn hbn ⊢;have hmI:(n:Int)-1=(m:Nat):=by omega
   simp(disch:=omega);refine zq (u.take n) _ _ (by omega) (by omega) ?_;cases hly:uY (u.take n)
   ·rw[hly,if_neg (by decide)]at hstep;have hm1:1<=m:=by
     rcases Nat.eq_zero_or_pos m with e|e
     ·rw[<-hbn,e]at hstep;have e0:ca u 0=0:=rfl;omega
     ·exact e
    simp(disch:=omega);exact rndA m (by simp(disch:=omega)[hmI]) ⟨rfl,hm1,by omega,by rw[hbn,hstep]⟩
   ·rw[hly,if_pos rfl]at hstep;have hbE:ca u u.length=n:=by rw[hbn,hstep,hnE]
    rw[hbE]at hc;rw[hc]at hL;have hL2:ld w=(L++[u.take n])++ld (u.drop n):=by rw[hL];simp
    simp(disch:=omega);intro b' hb';simp(disch:=omega);refine aN ho ((Sub.refl _).put hb' _) (by simp(disch:=omega);rfl) rfl rfl (by omega) (by simp(disch:=omega)) (by simp(disch:=omega);omega) ?_;intro v' M'' N'' ho' hs';rw[cK]at ho';simp(disch:=omega);exact Rnd.mk'' M'' (u.drop n,v') hs' (by simp only[length_drop];omega) (by (repeat (first|exact km|refine kp rfl ?_|refine km' rfl ?_))) (by simp(disch:=omega)) ⟨by simp only[length_drop];omega,_,by simp only[lAp,length_singleton,length_drop];omega,hL2,ho'⟩
theorem vL(w:B8)(M:Mem)(R:VP)(hl:w.length<=1099511627776)(h:∀ v M',Sub M M'->Rd M' v (strs (if isWord w then ld w else []))->R (aE v (aJ w)) M'):ar prog 280 [str w] M R:=by
 unfold aE aJ at h;refine fnS func280 rfl ntmps280 results280 ?_;simp(disch:=omega);refine bg w _ _ hl ?_;cases hw:isWord w
 ·rw[hw]at h;simp(disch:=omega);exact ad (h _ _ (Sub.refl M) (.inl ⟨none,0,rfl,rfl⟩))
 ·rw[hw,if_pos rfl,if_pos rfl]at h;have h60:=au hw;simp(disch:=omega);intro b0 hb0;simp(disch:=omega);refine lupS (rlA [0,4,5,6] 11 23) (fun x:B8×Value=>[(0,str x.1),(4,x.2)]) (fun x N=>x.1.length<=60/\∃ L,L.length+x.1.length<=60/\ld w=L++ld x.1/\Own M x.2 (strs L) N) (fun x=>x.1.length) (w,.slice (some ⟨b0,0,none⟩) 0 0) ⟨h60,[],by simpa using h60,rfl,Own.new hb0 rfl (lRf 0)⟩ ?_
  rintro⟨u,v⟩ N g ⟨hu,L,hLl,hL,ho⟩
  simp only at hu hLl hL ho;by_cases h0:u=[]
  ·subst h0;rw[HW,append_nil]at hL;rw[<-hL]at ho;simp(disch:=omega);exact ad (h _ _ ho.sub ho.rd)
  ·have h1:1<=u.length:=List.length_pos_iff.2 h0;obtain⟨n1,n2⟩:=oV h1;have hc:=BN h0;have hb1:=ik h1 u.length h1;have hb2:=qw u u.length;have h1I:(0:Int)<u.length:=by omega
   have hone:=wD h1;simp(disch:=omega);refine aP aR (rlA [5,6] 14 11) (fun m:Nat=>[(6,.int .i64 ((m:Int)+1)),(5,.int .i64 (ca u m:Nat))]) (fun m N'=>N=N'/\1<=m/\m<=u.length) (fun m=>u.length-m) 1 (by kernel_rfl) (by simp(disch:=omega)[hone]) ⟨rfl,lRf _,h1⟩ ?_
   rintro m N' g2 ⟨rfl,hm1,hm⟩
   by_cases hlt:m<u.length
   ·have hltI:(m:Int)+1<=(u.length:Nat):=by omega
    have hstep:ca u (m+1)=if uY (u.take (m+1)) then m+1 else ca u m:=rfl
    have htl:(u.take (m+1)).length=m+1:=by rw[lTa];omega
    obtain⟨n,hnE⟩:∃ n,n=m+1:=⟨_,rfl⟩;rw[<-hnE]at hstep htl;have hnI:(m:Int)+1=(n:Nat):=by omega
    rw[hnI]at hltI ⊢;simp(disch:=omega)[hltI];refine wJ (u.take n) _ _ (by omega) (by omega) ?_;cases hly:uY (u.take n)
    ·rw[hly,if_neg (by decide)]at hstep;simp(disch:=omega);exact rndA n (by simp(disch:=omega)[hstep]) ⟨rfl,by omega,by omega⟩
    ·rw[hly,if_pos rfl]at hstep;simp(disch:=omega);exact rndA n (by simp(disch:=omega)[hstep]) ⟨rfl,by omega,by omega⟩
   ·have hltI:¬(m:Int)+1<=(u.length:Nat):=by omega
    have hmE:m=u.length:=by omega
    subst hmE;rw[hc]at hL;generalize ca u u.length=n at *;have hL2:ld w=(L++[u.take n])++ld (u.drop n):=by rw[hL];simp
    simp(disch:=omega)[hltI];intro b' hb';simp(disch:=omega);refine aN ho ((Sub.refl _).put hb' _) (by simp(disch:=omega);rfl) rfl rfl (by omega) (by simp(disch:=omega)) (by simp(disch:=omega);omega) ?_;intro v' M'' N'' ho' hs';rw[cK]at ho';simp(disch:=omega);exact Rnd.mk'' M'' (u.drop n,v') hs' (by simp only[length_drop];omega) (by (repeat (first|exact km|refine kp rfl ?_|refine km' rfl ?_))) (by simp(disch:=omega)) ⟨by simp only[length_drop];omega,_,by simp only[lAp,length_singleton,length_drop];omega,hL2,ho'⟩
def ubT(w:B8):B8:=if ck w=0 then (kI lj w w.length).1 else []
theorem l9(w:B8)(M:Mem)(R:VP)(hl:w.length<=1099511627776)(h:∀ M',Sub M M'->R (aE (str (ubT w)) (ck w)) M'):ar prog 242 [str w] M R:=by
 unfold aE ubT at h;refine fnS func242 rfl ntmps242 results242 ?_;simp(disch:=omega);refine fm w _ _ hl ?_;intro M1 s1;by_cases hc:ck w=0
 ·rw[if_pos hc,hc]at h;obtain⟨hw,h0,h1,h60⟩:=gz hc;rw[hc];have h:=h _ s1;simp(disch:=omega);refine lupS (rlA [2,3,5,6,7] 15 21) (fun n:Nat=>[(5,.int .i64 n)]) (fun n N=>M1=N/\1<=n/\n<=w.length/\kI lj w w.length=kI lj w n) (fun n=>n) w.length ⟨rfl,h1,lRf _,rfl⟩ ?_
  rintro n N g ⟨rfl,hn1,hn,hbn⟩
  obtain⟨m,hm⟩:∃ m,n=m+1:=⟨n-1,by omega⟩;have hmI:(n:Int)-1=(m:Nat):=by omega
  simp(disch:=omega);refine lupS (rlA [2,3,6,7] 17 19) (fun i:Nat=>[(6,.int .i64 i)]) (fun i N=>M1=N/\i<=w.length-m/\∀ j,j<i->lj (seg w j n)=false) (fun i=>w.length-m-i) 0 ⟨rfl,lZe _,fun j hj=>by omega⟩ ?_
  rintro i N g2 ⟨rfl,hi,hno⟩
  by_cases hlt:i<w.length-m
  ·have hltI:(i:Int)+n<=(w.length:Nat):=by omega
   have hsg:=ga (w:=w) (a:=i) (m:=n);have hsl:=eB (w:=w) (a:=i) (m:=n) (by omega);have hub:lj (seg w i n)=(cE (seg w i n)==n):=by unfold lj;rw[hsl]
   have hyes:=oD (P:=lj) (w:=w) (n:=m) (i:=i) hlt;rw[<-hm]at hyes;generalize hSu:seg w i n=u at *;simp(disch:=omega)[hltI,hsg];refine j0 u _ _ (by omega) (by omega) ?_;intro p1 p2;by_cases he:cE u=n
   ·have hy:=hyes (by rw[hub,he];exact beq_self_eq_true _) hno;rw[hbn,hy]at h;simp(disch:=omega)[he];exact ad h
   ·have heb:(((cE u:Nat):Int)==(n:Nat))=false:=bNe.2 (by omega);have hub2:lj u=false:=by rw[hub];exact bNe.2 he
    simp(disch:=omega)[heb];exact rndS (i+1) ⟨rfl,by omega,fun j hj=>by
     by_cases e:j=i
     ·rw[e,hSu];exact hub2
     ·exact hno j (by omega)⟩
  ·have hltI:¬(i:Int)+n<=(w.length:Nat):=by omega
   have hnoA:=xv (P:=lj) (w:=w) (n:=m) (fun j hj=>by rw[<-hm];exact hno j (by omega));rw[<-hm]at hnoA;have hm1:1<=m:=by
    rcases Nat.eq_zero_or_pos m with e|e
    ·exfalso;have:=hno 0 (by omega);rw[hm,e]at this;obtain⟨u,hu⟩:=Kx h1;rw[show 0+1=1 from rfl,se,hu,GX]at this;cases this
    ·exact e
   simp(disch:=omega)[hltI];exact rndA m (by simp(disch:=omega)[hmI]) ⟨rfl,hm1,by omega,by rw[hbn,hnoA]⟩
 ·rw[if_neg hc]at h;generalize ck w=c at *;simp(disch:=omega);exact ad (h _ s1)
def qK(w u:B8)(n:Nat):List Nat:=(range n).filter fun i=>u.isPrefixOf (w.drop i)
def HI(w u:B8):List Nat:=qK w u (w.length+1)
theorem lf(w u:B8)(n:Nat):qK w u (n+1)=qK w u n++if u.isPrefixOf (w.drop n) then [n] else []:=by
 unfold qK;rw[range_succ,filter_append]
 congr 1
 by_cases h:u.isPrefixOf (w.drop n)=true
 ·rw[if_pos h];simp[h]
 ·rw[if_neg h];simp[h]
theorem FX{w u:B8}{n:Nat}(h:w.length<n+u.length):∀ d,n+d<=w.length+1->qK w u (n+d)=qK w u n
 | 0,_=>rfl
 | d+1,hd=>by
  rw[show n+(d+1)=n+d+1 by omega,lf,FX h d (by omega)];have:u.isPrefixOf (w.drop (n+d))=false:=by
   cases hp:u.isPrefixOf (w.drop (n+d)) with
   | false=>rfl
   | true=>
    have:=(List.isPrefixOf_iff_prefix.1 hp).length_le;rw[length_drop]at this;omega
  rw[this];simp
theorem PO{w u:B8}{n:Nat}(h:w.length<n+u.length)(hn:n<=w.length+1):HI w u=qK w u n:=by
 unfold HI;rw[show w.length+1=n+(w.length+1-n) by omega];exact FX h _ (by omega)
theorem Ft(w u:B8)(n:Nat):(qK w u n).length<=n:=by
 unfold qK;have:=length_filter_le (fun i=>u.isPrefixOf (w.drop i)) (range n);rw[length_range]at this;exact this
def sS(w:B8)(m:Nat):List B8:=if m<=w.length then srt (dx w m (w.length-m+1)) else []
theorem GF(w:B8)(m:Nat):fw (sS w m):=by
 unfold sS;split
 ·exact qE _
 ·exact List.Pairwise.nil
theorem Gg{w:B8}(h:w.length<=60)(m:Nat):(sS w m).length<=61:=by
 unfold sS;split
 ·have:=Qt (dx w m (w.length-m+1));rw[fX]at this;omega
 ·simp
end Go.Proofs.YtapimhjbilkfpaaGreatDoor
namespace Go.Proofs.YtapimhjbilkfpaaGreatDoor
open Go Go.Proofs.Tryz Go.RowKit List
def BW(l:List Nat):List Int:=l.map fun n:Nat=>(n:Int)
theorem CY(l:List Nat):(BW l).length=l.length:=length_map _
theorem Jk(l:List Nat)(n:Nat):BW (l++[n])=BW l++[(n:Int)]:=by simp[BW]
theorem F7(w u:B8)(M:Mem)(R:VP)(hw:w.length<=60)(hu:u.length<=60)(h:∀ v M',Own M v (ints (BW (HI w u))) M'->R v M'):ar prog 438 [str w,str u] M R:=by
 refine fnS func438 rfl ntmps438 results438 ?_;simp(disch:=omega);refine lupS (rlA [5,6] 10 13) (fun x:Nat×Value=>[(10,.int .i64 x.1),(5,x.2)]) (fun x M'=>x.1<=w.length+1/\Own M x.2 (ints (BW (qK w u x.1))) M') (fun x=>w.length+1-x.1) (0,.slice none 0 0) ⟨by omega,Own.nil _⟩ ?_
 rintro⟨i,v⟩ M' g ⟨hi,ho⟩
 simp only at hi ho;have hln:=Ft w u i;have hsu:=lf w u i;by_cases hlt:i<w.length+1
 ·have hlt':(i:Int)<(w.length:Int)+1:=by omega
  simp(disch:=omega)[hlt'];refine dG _ _ _ _ (by rw[length_drop];omega) (by omega) ?_;cases hp:u.isPrefixOf (w.drop i)
  ·rw[hp,if_neg (by decide),append_nil]at hsu;simp(disch:=omega);exact rndS (i+1,v) ⟨by simp only;omega,by simp only;rw[hsu];exact ho⟩
  ·rw[hp,if_pos rfl]at hsu;generalize qK w u i=L at *;simp(disch:=omega);intro b' hb';simp(disch:=omega);refine aN ho ((Sub.refl _).put hb' _) (by simp(disch:=omega);rfl) rfl rfl (by omega) (by simp(disch:=omega)) (by simp(disch:=omega)[CY];omega) ?_;intro v' M'' N'' ho' hs';simp(disch:=omega);refine rndM M'' (i+1,v') hs' ⟨by simp only;omega,?_⟩;simp only;rw[hsu,Jk,<-cv];exact ho'
 ·have hi':i=w.length+1:=by omega
  have hlt':¬(i:Int)<(w.length:Int)+1:=by omega
  subst hi';simp(disch:=omega);exact ad (h v M' ho)
theorem AY(w:B8)(i m:Int)(M:Mem)(R:VP)(hl:w.length<=1099511627776)(hi : -9223372036854775808<=i/\i<=9223372036854775807)(hm : -9223372036854775808<=m/\m<=9223372036854775807)(h:R (aE (str (Bp w i m)) (A2 w i m)) M):ar prog 122 [str w,.int .i64 i,.int .i64 m] M R:=by
 unfold aE Bp A2 at h;refine fnS func122 rfl ntmps122 results122 ?_;simp(disch:=omega);refine bg w _ _ hl ?_;cases hw:isWord w
 ·rw[hw]at h;simp(disch:=omega);exact ad h
 ·have h60:=au hw;rw[hw,if_pos rfl,if_pos rfl]at h;unfold wE at h;simp(disch:=omega);refine cg _ _ _ _ _ ?_;by_cases h1:0<=i/\i<=(w.length:Int)
  ·rw[decide_eq_true h1,Bool.true_and]at h;rw[decide_eq_true h1];simp(disch:=omega);refine cg _ _ _ _ _ ?_;by_cases h2:0<=m/\m<=(w.length:Int)-i
   ·rw[decide_eq_true h2,if_pos rfl,if_pos rfl]at h;rw[decide_eq_true h2];obtain⟨i,rfl⟩:∃ j:Nat,i=j:=⟨i.toNat,by omega⟩;obtain⟨m,rfl⟩:∃ j:Nat,m=j:=⟨m.toNat,by omega⟩;have hsg:=ga (w:=w) (a:=i) (m:=m);rw[Int.toNat_natCast,Int.toNat_natCast]at h;simp(disch:=omega);rw[hsg];exact ad h
   ·rw[decide_eq_false h2]at h;rw[decide_eq_false h2];simp(disch:=omega);exact ad h
  ·rw[decide_eq_false h1,Bool.false_and]at h;rw[decide_eq_false h1];simp(disch:=omega);exact ad h
theorem rM{M N:Mem}{b o n:Nat}{xs:List Value}(h:M.sub? b o n=some xs)(hs:Sub M N):N.sub? b o n=some xs:=by
 unfold Mem.sub? at *;split at h
 ·rename_i own ys tot hb;rw[hs _ _ hb];exact h
 ·cases h
theorem yr(L:List B8)(n:Nat):strs (L.take n)=(strs L).take n:=by simp[strs,map_take]
theorem I9(L:List B8)(n:Nat):strs (L.drop n)=(strs L).drop n:=by simp[strs,map_drop]
def RdN(M:Mem)(v:Value)(xs:List Value):Prop:=∃ b o c,v=.slice (some ⟨b,o,none⟩) xs.length c/\M.sub? b o xs.length=some xs/\xs.length<=c
theorem RdN.of{M:Mem}{v:Value}{xs:List Value}(h:Rd M v xs)(hne:xs≠[]):RdN M v xs:=by
 rcases h with ⟨_,_,_,h2⟩|⟨b,o,c,h1,h2,h3⟩
 ·exact absurd h2 hne
 ·exact⟨b,o,c,h1,h2,h3⟩
theorem C3{M:Mem}{b o k n:Nat}{xs:List Value}(h:M.sub? b o k=some xs)(hn:n<=k):M.sub? b o n=some (xs.take n):=by
 unfold Mem.sub? at *;split at h
 ·rename_i own ys tot hb;split at h
  ·rename_i hle;injection h with h
   rw[if_pos (by omega),<-h,take_take,Nat.min_eq_left hn]
  ·cases h
 ·cases h
theorem Gy{M:Mem}{b o k n c:Nat}{xs:List Value}(h:M.sub? b o k=some xs)(hn:n<=k)(hc:k<=c):M.sub? b (dZ o n c 1) (k-n)=some (xs.drop n):=by
 unfold Mem.sub? at *;split at h
 ·rename_i own ys tot hb;split at h
  ·rename_i hle;injection h with h
   unfold dZ;by_cases hcn:c=n
   ·rw[if_pos hcn,if_pos (by omega),show k-n=0 by omega,<-h,take_zero,drop_of_length_le (by rw[lTa,length_drop];omega)]
   ·rw[if_neg hcn,Nat.mul_one,if_pos (by omega),<-h,drop_take,drop_drop]
  ·cases h
 ·cases h
theorem FA(v:Value)(L:List B8)(w:B8)(M:Mem)(R:VP)(hv:RdN M v (strs L))(hl:L.length<=1000000)(h:∀ v' M',Sub M M'->RdN M' v' (strs (mI L w))->R v' M'):ar prog 356 [v,str w] M R:=by
 have hv0:=hv;obtain⟨b,o,c,rfl,hsb,hcL⟩:=hv;rw[ah]at hsb hcL hv0 ⊢;have ha:∀ i,i<L.length->M.get? b (o+i)=(strs L)[i]?:=by
  intro i hi;have:=ni (M:=M) (b:=b) (o:=o) (xs:=strs L) (by rw[ah];exact hsb) (i:=i) (by rw[ah];exact hi);exact this
 refine fnS func356 rfl ntmps356 results356 ?_;simp(disch:=omega);refine lupS (rlA [5] 9 13) (fun n:Nat=>[(5,.int .i64 n)]) (fun n M'=>M=M'/\n<=L.length/\jF L w n=jF L w L.length) (fun n=>n) L.length ⟨rfl,lRf _,rfl⟩ ?_
 rintro n M' g ⟨rfl,hn,hpos⟩
 have stop:(n=0\/(0<n/\Op.bytesLess w (L.getD (n-1) [])=false))->jF L w L.length=n:=by
  intro hs;rw[<-hpos];rcases hs with rfl|⟨h0,hb⟩
  ·rfl
  ·obtain⟨q,rfl⟩:∃ q,n=q+1:=⟨n-1,by omega⟩;rw[Nat.add_sub_cancel]at hb;unfold jF;rw[hb,if_neg (by decide)]
 have put:∀(L1:List B8),L1=L.take n->∀ L2:List B8,L2=L.drop n->jF L w L.length=n->¬(n≠0/\L.getD (n-1) []=w)->mI L w=L1++w::L2:=by
  rintro _ rfl _ rfl hp hne
  unfold mI;rw[hp,if_neg hne]
 by_cases h0:0<n
 ·obtain⟨q,rfl⟩:∃ q,n=q+1:=⟨n-1,by omega⟩;have hg:=ha q (by omega);have hgd:L.getD q []=L[q]'(by omega):=oS (by omega);rw[ba,gEl (by omega),Option.map_some]at hg;rw[Nat.add_sub_cancel]at stop put;rw[hgd]at stop put;have hgt:(Op.bytesLess (L[q]'(by omega)) w||(L[q]'(by omega))==w) = !Op.bytesLess w (L[q]'(by omega)):=by
   rw[Bool.eq_iff_iff,Bool.or_eq_true,kF,beq_iff_eq,Bool.not_eq_true',Tf];constructor
   ·rintro(hh|hh)
    ·exact List.le_of_lt hh
    ·rw[hh];exact List.le_refl _
   ·intro hh;by_cases e:(L[q]'(by omega))=w
    ·exact .inr e
    ·exact .inl (lt_of_le_ne hh e)
  have e1:((q+1:Nat):Int)-1=q:=by omega
  generalize hx:L[q]'(by omega)=x at *;simp(disch:=omega)[hg,hgt];cases hb:Op.bytesLess w x
  ·simp(disch:=omega);have hp:=stop (.inr ⟨by omega,hb⟩);by_cases hxw:x=w
   ·have hxb:(x==w)=true:=by rw[hxw];exact beq_self_eq_true _
    simp(disch:=omega)[hg,hxb];refine ad (h _ _ (Sub.refl _) ?_);have:mI L w=L:=by
     unfold mI;rw[hp,if_pos ⟨by omega,by rw[Nat.add_sub_cancel,hgd];exact hxw⟩]
    rw[this];exact hv0
   ·have hxb:(x==w)=false:=bNe.2 hxw;have hpt:=put _ rfl _ rfl hp (fun hh=>hxw hh.2);simp(disch:=omega)[hg,hxb];intro b1 hb1;have o0:Own M (.slice (some ⟨b1,0,none⟩) 0 0) (strs []) (M.put b1 (.cells true [] 0)):=Own.new hb1 rfl (lRf 0);have s0:=o0.sub;dsimp only;generalize M.put b1 (.cells true [] 0)=N0 at *;generalize Value.slice (some ⟨b1,0,none⟩) 0 0=v0 at *;simp(disch:=omega);refine aN (news:=strs (L.take (q+1))) o0 (Sub.refl _) (by
     show Mem.sub? _ b o (q+1)=_;rw[yr];exact rM (C3 hsb hn) s0) rfl rfl (by omega) (dB _) (by simp(disch:=omega);omega) ?_
    intro v2 M2 N2 o2 s2;simp(disch:=omega);intro b2 hb2;simp(disch:=omega);refine aN o2 (s2.putN hb2 _) (by simp(disch:=omega);rfl) rfl rfl (by omega) (by simp(disch:=omega)) (by simp(disch:=omega);omega) ?_;intro v3 M3 N3 o3 s3;simp(disch:=omega);refine aN (news:=strs (L.drop (q+1))) o3 s3 (by
     show Mem.sub? _ b (dZ o (q+1) c 1) (L.length-(q+1))=_;rw[I9];exact rM (Gy hsb hn hcL) (o3.sub.trans s3)) rfl rfl (by omega) (dB _) (by simp(disch:=omega);omega) ?_
    intro v4 M4 N4 o4 s4;simp(disch:=omega);have e4:strs []++strs (L.take (q+1))++[str w]++strs (L.drop (q+1))=strs (L.take (q+1)++w::L.drop (q+1)):=by simp[strs]
    rw[e4,<-hpt]at o4;refine ae s4 (h _ _ o4.sub (RdN.of o4.rd ?_));rw[hpt];simp[strs]
  ·have hpos2:jF L w q=jF L w L.length:=by
    rw[<-hpos];have e:jF L w (q+1)=if Op.bytesLess w (L.getD q []) then jF L w q else q+1:=rfl
    rw[e,hgd,hb,if_pos rfl]
   simp(disch:=omega);exact rndS q ⟨rfl,by omega,hpos2⟩
 ·have hn0:n=0:=by omega
  subst hn0;have hp:=stop (.inl rfl);have hpt:=put _ rfl _ rfl hp (fun hh=>hh.1 rfl);simp(disch:=omega);intro b1 hb1;have o0:Own M (.slice (some ⟨b1,0,none⟩) 0 0) (strs []) (M.put b1 (.cells true [] 0)):=Own.new hb1 rfl (lRf 0);have s0:=o0.sub;dsimp only;generalize M.put b1 (.cells true [] 0)=N0 at *;generalize Value.slice (some ⟨b1,0,none⟩) 0 0=v0 at *;simp(disch:=omega);refine aN (news:=strs (L.take 0)) o0 (Sub.refl _) (by
   show Mem.sub? _ b o 0=_;rw[yr];exact rM (C3 hsb hn) s0) rfl rfl (by omega) (dB _) (by first|(simp(disch:=omega);omega)|simp(disch:=omega)) ?_
  intro v2 M2 N2 o2 s2;simp(disch:=omega);intro b2 hb2;simp(disch:=omega);refine aN o2 (s2.putN hb2 _) (by simp(disch:=omega);rfl) rfl rfl (by omega) (by simp(disch:=omega)) (by first|(simp(disch:=omega);omega)|simp(disch:=omega)) ?_;intro v3 M3 N3 o3 s3;simp(disch:=omega);refine aN (news:=strs (L.drop 0)) o3 s3 (by
   show Mem.sub? _ b o L.length=_;exact rM hsb (o3.sub.trans s3)) rfl rfl (by omega) (dB _) (by first|(simp(disch:=omega);omega)|simp(disch:=omega)) ?_
  intro v4 M4 N4 o4 s4;simp(disch:=omega);have e4:strs []++strs (L.take 0)++[str w]++strs (L.drop 0)=strs (L.take 0++w::L.drop 0):=by simp[strs]
  rw[e4,<-hpt]at o4;refine ae s4 (h _ _ o4.sub (RdN.of o4.rd ?_));rw[hpt];simp[strs]
end Go.Proofs.YtapimhjbilkfpaaGreatDoor
namespace Go.Proofs.YtapimhjbilkfpaaGreatDoor
open Go Go.Proofs.Tryz List
def SV(w:B8)(i:Nat):Prop:=∀ j,j<i->w.getD j 0=w.getD (w.length-1-j) 0
theorem gh(w:B8)(M:Mem)(R:VP)(hl:w.length<=1000000)(h:R (.bool (ch w)) M):ar prog 273 [str w] M R:=by
 refine fnS func273 rfl ntmps273 results273 ?_;simp(disch:=omega);refine lupS (rlA [2,3,4] 8 14) (fun i:Nat=>[(3,.int .i64 i),(4,.int .i64 ((w.length:Int)-1-i))]) (fun i M'=>M=M'/\2*i<=w.length+1/\SV w i) (fun i=>w.length+1-i) 0 ⟨rfl,by omega,fun j hj=>by omega⟩ ?_
 rintro i M' g ⟨rfl,hi,hall⟩
 by_cases hlt:2*i+1<w.length
 ·have hc:(i:Int)<(w.length:Int)-1-i:=by omega
  obtain⟨q,hq⟩:∃ q:Nat,q=w.length-1-i:=⟨_,rfl⟩;have hqi:(w.length:Int)-1-i=q:=by omega
  have hnx:(w.length:Int)-1-((i:Int)+1)=(q:Int)-1:=by omega
  have hil:i<w.length:=by omega
  have hql:q<w.length:=by omega
  have g1:w[i]?=some (w.getD i 0):=by rw[gDe,gEl hil];rfl
  have g2:w[q]?=some (w.getD q 0):=by rw[gDe,gEl hql];rfl
  have at1:w[i]=w.getD i 0:=by rw[gEl hil]at g1;exact Option.some.inj g1
  have at2:w[q]=w.getD q 0:=by rw[gEl hql]at g2;exact Option.some.inj g2
  have hall2:=hall;have hno:=Om (w:=w) (j:=i) hil;rw[<-hq]at hno;have hyes:w.getD i 0=w.getD q 0->SV w (i+1):=fun e j hj=>by
   by_cases ej:j=i
   ·rw[ej,<-hq];exact e
   ·exact hall j (by omega)
  rw[hqi]at hc ⊢;generalize w.getD i 0=x at *;generalize w.getD q 0=y at *;simp(disch:=omega)[hc];refine drwS ?_;by_cases hxy:x=y
  ·have hy2:=hyes hxy;subst hxy;simp(disch:=omega)[hil,hql,at1,at2];exact rndA (i+1) (by simp(disch:=omega)[hnx]) ⟨rfl,by omega,hy2⟩
  ·rw[hno hxy]at h;have hxn:¬ x.toNat=y.toNat:=fun e=>hxy (UInt8.toNat_inj.1 e);have hxb:((x.toNat:Int)==(y.toNat:Int))=false:=bNe.2 (by omega);simp(disch:=omega)[hil,hql,at1,at2,hxb];exact ad h
 ·have hc:¬(i:Int)<(w.length:Int)-1-i:=by omega
  have hp:ch w=true:=No (n:=i) (by omega) hall;rw[hp]at h;simp(disch:=omega)[hc];exact ad h
theorem MB{M:Mem}{b c:Nat}{xs ys:List Value}:Gi (M.put b (.cells true xs c)) (M.put b (.cells true (xs++ys) c)):=by
 intro i X hX;unfold Mem.put at hX ⊢;split at hX
 ·rename_i e;injection hX with hX
  subst hX;rw[if_pos e];exact⟨_,rfl,.inr ⟨true,xs,ys,c,rfl,rfl⟩⟩
 ·rename_i e;rw[if_neg e];exact⟨X,hX,.inl rfl⟩
theorem ER(v:Value)(ss:List B8)(M0 M:Mem)(R:VP)(ho:Own M0 v (strs ss) M)(h1:1<=ss.length)(hn:ss.length<=1000000)
  (h:∀ v' M',Own M0 v' (strs (srt ss)) M'->R v' M'):ar prog 413 [v] M R:=by
 rcases ho with ⟨_,e,_⟩|⟨b,c,rfl,hb,hc,rfl⟩
 ·have:=congrArg length e;rw[ah,length_nil]at this;omega
 rw[ah]at hc ⊢;have hm:(ss.mergeSort fun x y=>decide (x<=y)).length=ss.length:=length_mergeSort _;have hsr:srt ss=Lib.compact (ss.mergeSort fun x y=>decide (x<=y)):=rfl;have hle:=lZ (ss.mergeSort fun x y=>decide (x<=y));refine ar.less (R':=fun v' M'=>v'=.slice (some ⟨b,0,none⟩) (srt ss).length c/\∃ ys,M'=M0.put b (.cells true (strs (srt ss)++ys) c)) ?_ ?_
 ·refine fnS func413 rfl ntmps413 results413 ?_;simp(disch:=omega);refine mz b c ss _ _ (ag _ _ _) hn ?_;simp(disch:=omega);rw[hsr];generalize (ss.mergeSort fun x y=>decide (x<=y))=zs at *;rw[<-hm];refine jr b c zs _ _ (ag _ _ _) (by omega) (by omega) ?_;simp(disch:=omega);refine ad ⟨rfl,strs (replicate (zs.length-(Lib.compact zs).length) []),?_⟩;rw[aW,aW];simp[strs]
 ·rintro v' M' ⟨rfl,ys,rfl⟩
  refine⟨M0.put b (.cells true (strs (srt ss)) c),MB,h _ _ (.inr ⟨b,c,by rw[ah],hb,by rw[ah,hsr];omega,rfl⟩)⟩
theorem A1(w:B8)(m:Nat)(M:Mem)(R:VP)(hl:w.length<=60)(hm:m<=w.length)
  (h:∀ v' M',Own M v' (strs (sS w m)) M'->R v' M'):ar prog 385 [str w,.int .i64 m] M R:=by
 unfold sS at h;rw[if_pos hm]at h;refine fnS func385 rfl ntmps385 results385 ?_;simp(disch:=omega);refine lupS (rlA [] 5 19) (fun x:Nat×Value=>[(6,.int .i64 x.1),(5,x.2)]) (fun x M'=>x.1<=w.length-m+1/\Own M x.2 (strs (dx w m x.1)) M') (fun x=>w.length-m+1-x.1) (0,.slice none 0 0) ⟨by omega,Own.nil _⟩ ?_
 rintro⟨i,v⟩ M' g ⟨hi,ho⟩
 simp only at hi ho;have hln:=fX w m i;by_cases hlt:i<w.length-m+1
 ·have hsg:=ga (w:=w) (a:=i) (m:=m);have hsu:=qV w m i;generalize seg w i m=u at *;generalize dx w m i=L at *;simp(disch:=omega)[hsg];intro b' hb';simp(disch:=omega);refine aN ho ((Sub.refl _).put hb' _) (by simp(disch:=omega);rfl) rfl rfl (by omega) (by simp(disch:=omega)) (by simp(disch:=omega);omega) ?_;intro v' M'' N'' ho' hs';simp(disch:=omega);refine rndM M'' (i+1,v') hs' ⟨by simp only;omega,?_⟩;simp only;rw[hsu,<-cK];exact ho'
 ·have hi':i=w.length-m+1:=by omega
  subst hi';generalize dx w m (w.length-m+1)=L at *;simp(disch:=omega);refine ER v L M _ _ ho (by omega) (by omega) ?_;intro v' M1 o1;simp(disch:=omega);exact ad (h v' M1 o1)
theorem Sk{M M':Mem}{v:Value}{xs:List Value}(o:Own M v xs M'):dw M' v=some xs:=by
 rcases o with ⟨rfl,rfl,rfl⟩|⟨b,c,rfl,hb,hc,rfl⟩
 ·rfl
 ·show Mem.sub? _ b 0 xs.length=some xs;rw[aq (ag _ _ _)];simp[mq]
theorem zH(ws:List B8):∀ v∈strs ws,bH v=true:=fun v hv=>by
 obtain⟨z,_,rfl⟩:=List.mem_map.1 hv;rfl
def ET(w:B8)(m:Nat):List B8:=(sS w m).filter ch
def fe(w:B8)(n:Nat):List B8:=(range n).flatMap fun m=>ET w (m+1)
theorem qk(w:B8)(n:Nat):fe w (n+1)=fe w n++ET w (n+1):=by simp[fe,range_succ]
theorem zv{w:B8}(h:w.length<=60)(m:Nat):(ET w m).length<=61:=Nat.le_trans (length_filter_le _ _) (Gg h m)
theorem gH{w:B8}(h:w.length<=60):∀ n,(fe w n).length<=n*61
 | 0=>lZe _
 | n+1=>by
  rw[qk,lAp];have:=gH h n;have:=zv h (n+1);omega
theorem AZ{l:List B8}(h:fw l)(p:B8->Bool):fw (l.filter p):=List.Pairwise.filter p h
theorem St{w:B8}{m:Nat}(hm:m<=w.length):eY [] ((dx w m (w.length-m+1)).filter ch)=ET w m:=by
 rw[II];refine lW (qE _) (AZ (GF w m) _) fun x=>?_;unfold ET sS;rw[if_pos hm,oJ,mem_filter,mem_filter,oJ]
theorem Kc(ss:List B8)(h:∀ u∈ss,u.length<=60):DW prog (.func (.func 386) #[] #[]) ss fun u=>!ch u:=by
 intro u hu M R hR;have:=h u hu;simp(disch:=omega);refine fnS func386 rfl ntmps386 results386 ?_;simp(disch:=omega);refine jh u _ _ (by omega) ?_;simp(disch:=omega);exact ad (hR _ (Sub.refl M))
theorem lb(w:B8)(M:Mem)(R:VP)(h60:w.length<=60)(h:∀ v M',Sub M M'->Rd M' v (strs (fe w w.length))->R v M'):ar prog 334 [str w] M R:=by
 refine fnS func334 rfl ntmps334 results334 ?_;simp(disch:=omega);refine lupS (rlA [] 3 14) (fun x:Nat×Value=>[(4,.int .i64 ((x.1:Int)+1)),(3,x.2)]) (fun x N=>x.1<=w.length/\∃ Mb,Sub M Mb/\Own Mb x.2 (strs (fe w x.1)) N) (fun x=>w.length-x.1) (0,.slice none 0 0) ⟨lZe _,M,Sub.refl _,Own.nil _⟩ ?_
 rintro⟨i,v⟩ N g ⟨hi,Mb,sB,ho⟩
 simp only at hi ho;have hal:=gH h60 i;by_cases hlt:i<w.length
 ·have hltI:(i:Int)+1<=(w.length:Nat):=by omega
  have hs:=qk w i;obtain⟨m,hm⟩:∃ m,m=i+1:=⟨_,rfl⟩;have hmI:(i:Int)+1=(m:Nat):=by omega
  rw[<-hm]at hs;rw[hmI]at hltI ⊢;have hpl:=zv h60 m;simp(disch:=omega)[hltI];refine A1 w m _ _ h60 (by omega) ?_;intro v1 N1 o1;have hfx:∀ u∈sS w m,u.length<=60:=fun u hu=>by
   unfold sS at hu;rw[if_pos (by omega)]at hu;rw[oJ]at hu;obtain⟨t,_,rfl⟩:=List.mem_map.1 hu;unfold seg;rw[length_drop,lTa];omega
  have hfl:=Gg h60 m;simp(disch:=omega);refine mj v1 _ (sS w m) (fun u=>!ch u) N _ _ o1 (Kc _ hfx) (by omega) ?_;have hfe:((sS w m).filter fun u=>!(!ch u))=ET w m:=by unfold ET;congr 1;funext u;simp
  rw[hfe];intro v2 N2 o2;have r2:=o2.rd;have s2:=o2.sub;generalize ET w m=P at *;generalize fe w i=Q at *;simp(disch:=omega);have src:=Sk o2;refine aN ho s2 src rfl rfl (by omega) (zH _) (by rw[ah,ah];omega) ?_;intro v' M'' N'' ho' hs';have e:strs Q++strs P=strs (Q++P):=by simp[strs]
  rw[e,<-hs]at ho';simp(disch:=omega);exact rndM M'' (m,v') hs' ⟨by simp only;omega,Mb,sB,ho'⟩
 ·have hltI:¬(i:Int)+1<=(w.length:Nat):=by omega
  have hiE:i=w.length:=by omega
  subst hiE;simp(disch:=omega)[hltI];exact ad (h _ _ (sB.trans ho.sub) ho.rd)
def EI(w:B8):Int:=if isWord w then (w.length:Int)-((fe w w.length).length:Nat) else 0
theorem wo(w:B8)(M:Mem)(R:VP)(h60:w.length<=60)(h:∀ v M',Sub M M'->Rd M' v (strs (fe w w.length))->R v M'):ar prog 274 [str w] M R:=by
 refine fnS func274 rfl ntmps274 results274 ?_;simp(disch:=omega);intro b0 hb0;simp(disch:=omega);refine lupS (rlA [3,4,5,6] 8 33) (fun x:Nat×Value=>[(4,.int .i64 ((x.1:Int)+1)),(3,x.2)]) (fun x N=>x.1<=w.length/\∃ Mb,Sub M Mb/\Own Mb x.2 (strs (fe w x.1)) N) (fun x=>w.length-x.1) (0,.slice (some ⟨b0,0,none⟩) 0 0) ⟨lZe _,M,Sub.refl _,Own.new hb0 rfl (lRf 0)⟩ ?_
 rintro⟨i,v⟩ N g ⟨hi,Mb,sB,ho⟩
 simp only at hi ho;have hal:=gH h60 i;by_cases hlt:i<w.length
 ·have hltI:(i:Int)+1<=(w.length:Nat):=by omega
  have hs:=qk w i;obtain⟨m,hm⟩:∃ m,m=i+1:=⟨_,rfl⟩;have hmI:(i:Int)+1=(m:Nat):=by omega
  rw[<-hm]at hs;rw[hmI]at hltI ⊢;have hpl:=zv h60 m;have hpp:=St (w:=w) (m:=m) (by omega);simp(disch:=omega)[hltI];intro b1 hb1;have s1:=(Sub.refl N).put hb1 (.cells true [] 0);have r1:RdN (N.put b1 (.cells true [] 0)) (.slice (some ⟨b1,0,none⟩) 0 0) (strs (eY [] ((dx w m 0).filter ch))):=⟨b1,0,0,rfl,by
   show Mem.sub? _ b1 0 0=some [];unfold Mem.sub?;rw[ag];rfl,lRf 0⟩
  simp(disch:=omega);refine lupS (rlA [5,6] 15 23) (fun x:Nat×Value=>[(6,.int .i64 (x.1:Nat)),(5,x.2)]) (fun x N'=>x.1<=w.length-m+1/\Sub N N'/\RdN N' x.2 (strs (eY [] ((dx w m x.1).filter ch)))) (fun x=>w.length-m+1-x.1) (0,.slice (some ⟨b1,0,none⟩) 0 0) ⟨lZe _,s1,r1⟩ ?_
  rintro⟨j,vi⟩ N' g2 ⟨hj,sN,ri⟩
  simp only at hj ri;have hpl2:=Aa ((dx w m j).filter ch) [];have hfl2:=length_filter_le ch (dx w m j);rw[fX]at hfl2;simp only[length_nil]at hpl2;by_cases hjm:j+m<=w.length
  ·have hjmI:(j:Int)+m<=(w.length:Nat):=by omega
   have hsg:=ga (w:=w) (a:=j) (m:=m);have hsl:=eB (w:=w) (a:=j) (m:=m) hjm;have hst:(dx w m (j+1)).filter ch=(dx w m j).filter ch++if ch (seg w j m) then [seg w j m] else []:=by
    rw[qV,filter_append];cases hp:ch (seg w j m)<;>simp[hp]
   generalize (dx w m j).filter ch=L at *;generalize seg w j m=u at *;simp(disch:=omega)[hjmI,hsg];refine gh u _ _ (by omega) ?_;cases hp:ch u
   ·rw[hp,if_neg (by decide),append_nil]at hst;rw[<-hst]at ri;simp(disch:=omega);exact rndS (j+1,vi) ⟨by simp only;omega,sN,ri⟩
   ·rw[hp,if_pos rfl]at hst;have hst2:eY [] (L++[u])=mI (eY [] L) u:=by first|exact(vZ _ _ _).symm|exact vZ _ _ _
    simp(disch:=omega)[hsg];refine FA vi (eY [] L) u _ _ ri (by omega) ?_;intro v4 N4 s4 r4;rw[<-hst2,<-hst]at r4;simp(disch:=omega);exact rndS (j+1,v4) ⟨by simp only;omega,sN.trans s4,r4⟩
  ·have hjmI:¬(j:Int)+m<=(w.length:Nat):=by omega
   have hjE:j=w.length-m+1:=by omega
   rw[hjE,hpp]at ri;obtain⟨bz,oz,cz,hve,hsub,hcz⟩:=ri;rw[ah]at hve hsub;subst hve;generalize ET w m=P at *;generalize fe w i=Q at *;have src:dw N' (.slice (some ⟨bz,oz,none⟩) P.length cz)=some (strs P):=hsub;simp(disch:=omega)[hjmI];refine aN ho sN src rfl rfl (by omega) (zH _) (by rw[ah,ah];omega) ?_;intro v' M'' N'' ho' hs';have e:strs Q++strs P=strs (Q++P):=by simp[strs]
   rw[e,<-hs]at ho';simp(disch:=omega);exact rndM M'' (m,v') hs' ⟨by simp only;omega,Mb,sB,ho'⟩
 ·have hltI:¬(i:Int)+1<=(w.length:Nat):=by omega
  have hiE:i=w.length:=by omega
  subst hiE;simp(disch:=omega)[hltI];exact ad (h _ _ (sB.trans ho.sub) ho.rd)
theorem qs(w:B8)(M:Mem)(R:VP)(hl:w.length<=1099511627776)(h:∀ v M',Sub M M'->Rd M' v (strs (if isWord w then fe w w.length else []))->R (aE v (aJ w)) M'):ar prog 281 [str w] M R:=by
 unfold aE aJ at h;refine fnS func281 rfl ntmps281 results281 ?_;simp(disch:=omega);refine bg w _ _ hl ?_;cases hw:isWord w
 ·rw[hw]at h;simp(disch:=omega);exact ad (h _ _ (Sub.refl M) (.inl ⟨none,0,rfl,rfl⟩))
 ·rw[hw,if_pos rfl,if_pos rfl]at h;simp(disch:=omega);refine wo w _ _ (au hw) ?_;intro v N s r;simp(disch:=omega);exact ad (h _ _ s r)
theorem rm(w:B8)(M:Mem)(R:VP)(hl:w.length<=1099511627776)(h:∀ v M',Sub M M'->Rd M' v (strs (if isWord w then fe w w.length else []))->R (aE v (aJ w)) M'):ar prog 243 [str w] M R:=by
 unfold aE aJ at h;refine fnS func243 rfl ntmps243 results243 ?_;simp(disch:=omega);intro b1 hb1;simp(disch:=omega);have hs1:Sub M (M.put b1 (.cells true [str w] 1)):=(Sub.refl _).put hb1 _;refine bt _ _ [w] true (fun _=>True) _ _ (Rd.new rfl (lRf 1)) (gg hl) (by simp) trivial bV (bI _) ?_;rw[db];cases hw:isWord w
 ·rw[hw]at h;simp(disch:=omega);exact ad (h _ _ hs1 (.inl ⟨none,0,rfl,rfl⟩))
 ·rw[hw,if_pos rfl,if_pos rfl]at h;simp(disch:=omega);refine lb w _ _ (au hw) ?_;intro v N s r;simp(disch:=omega);exact ad (h _ _ (hs1.trans s) r)
theorem Bx(w:B8)(M:Mem)(R:VP)(hl:w.length<=1099511627776)(h:∀ M',Sub M M'->R (aE (.int .i64 (EI w)) (aJ w)) M'):ar prog 187 [str w] M R:=by
 unfold aE aJ EI at h;refine fnS func187 rfl ntmps187 results187 ?_;simp(disch:=omega);refine bg w _ _ hl ?_;cases hw:isWord w
 ·rw[hw]at h;simp(disch:=omega);exact ad (h _ (Sub.refl M))
 ·rw[hw,if_pos rfl,if_pos rfl]at h;have h60:=au hw;have hpl:=gH h60 w.length;simp(disch:=omega);refine wo w _ _ h60 ?_;intro v N s r;obtain⟨a,c,rfl,_⟩:=r.opened;rw[ah];generalize (fe w w.length).length=n at *;simp(disch:=omega);exact ad (h _ s)
theorem Bl(w:B8)(M:Mem)(R:VP)(hl:w.length<=1099511627776)(h:∀ M',Sub M M'->R (aE (.int .i64 (EI w)) (aJ w)) M'):ar prog 244 [str w] M R:=by
 unfold aE aJ EI at h;refine fnS func244 rfl ntmps244 results244 ?_;simp(disch:=omega);intro b1 hb1;simp(disch:=omega);have hs1:Sub M (M.put b1 (.cells true [str w] 1)):=(Sub.refl _).put hb1 _;refine bt _ _ [w] true (fun _=>True) _ _ (Rd.new rfl (lRf 1)) (gg hl) (by simp) trivial bV (bI _) ?_;rw[db];cases hw:isWord w
 ·rw[hw]at h;simp(disch:=omega);exact ad (h _ hs1)
 ·rw[hw,if_pos rfl,if_pos rfl]at h;have h60:=au hw;have hpl:=gH h60 w.length;simp(disch:=omega);refine bY w _ _ hl ?_;simp(disch:=omega);refine lb w _ _ h60 ?_;intro v N s r;obtain⟨a,c,rfl,_⟩:=r.opened;rw[ah];generalize (fe w w.length).length=n at *;simp(disch:=omega);exact ad (h _ (hs1.trans s))
theorem lS(w:B8)(M:Mem)(R:VP)(hl:w.length<=1099511627776)(h:∀ M',Sub M M'->R (aE (str (ubT w)) (ck w)) M'):ar prog 188 [str w] M R:=by
 unfold aE ubT at h;refine fnS func188 rfl ntmps188 results188 ?_;simp(disch:=omega);refine hU w _ _ hl ?_;by_cases hc:ck w=0
 ·rw[if_pos hc,hc]at h;obtain⟨hw,h0,h1,h60⟩:=gz hc;rw[hc];simp(disch:=omega);refine lupS (rlA [2,3,5,6] 14 29) (fun n:Nat=>[(5,.int .i64 n)]) (fun n N=>Sub M N/\1<=n/\n<=w.length/\kI lj w w.length=kI lj w n) (fun n=>n) w.length ⟨Sub.refl M,h1,lRf _,rfl⟩ ?_
  rintro n N g ⟨sN,hn1,hn,hbn⟩
  by_cases hn2:1<n
  ·have hn2I:(1:Int)<n:=by omega
   obtain⟨m,hm⟩:∃ m,n=m+1:=⟨n-1,by omega⟩;have hmI:(n:Int)-1=(m:Nat):=by omega
   simp(disch:=omega)[hn2I];refine lupS (rlA [2,3,6] 18 25) (fun i:Nat=>[(6,.int .i64 i)]) (fun i N=>Sub M N/\i<=w.length-m/\∀ j,j<i->lj (seg w j n)=false) (fun i=>w.length-m-i) 0 ⟨sN,lZe _,fun j hj=>by omega⟩ ?_
   rintro i N2 g2 ⟨sN2,hi,hno⟩
   by_cases hlt:i<w.length-m
   ·have hltI:(i:Int)+n<=(w.length:Nat):=by omega
    have hsg:=ga (w:=w) (a:=i) (m:=n);have hsl:=eB (w:=w) (a:=i) (m:=n) (by omega);have hub:lj (seg w i n)=(cE (seg w i n)==n):=by unfold lj;rw[hsl]
    have hyes:=oD (P:=lj) (w:=w) (n:=m) (i:=i) hlt;rw[<-hm]at hyes;generalize hSu:seg w i n=u at *;simp(disch:=omega)[hltI,hsg];refine dk u _ _ (by omega) ?_;intro vp N3 op;obtain⟨p1,p2,p3⟩:=lq (w:=u) (by omega);obtain⟨ap,cp,rfl,hap⟩:=op.rd.opened;rw[az]at hap ⊢;rcases hap with hz|⟨bp,o',rfl,hap⟩
    ·omega
    have hg:=hap 0 (by omega);rw[cD,p1,Option.map_some,Nat.add_zero]at hg;have sN3:=sN2.trans op.sub;clear hap op;by_cases he:cE u=n
    ·have hy:=hyes (by rw[hub,he];exact beq_self_eq_true _) hno;rw[hbn,hy]at h;have heI:((cE u:Nat):Int)=(n:Nat):=by omega
     simp(disch:=omega)[hg,he,hsg];exact ad (h _ sN3)
    ·have heb:(((cE u:Nat):Int)==(n:Nat))=false:=bNe.2 (by omega);have hub2:lj u=false:=by rw[hub];exact bNe.2 he
     simp(disch:=omega)[hg,heb];exact rndS (i+1) ⟨sN3,by omega,fun j hj=>by
      by_cases e:j=i
      ·rw[e,hSu];exact hub2
      ·exact hno j (by omega)⟩
   ·have hltI:¬(i:Int)+n<=(w.length:Nat):=by omega
    have hnoA:=xv (P:=lj) (w:=w) (n:=m) (fun j hj=>by rw[<-hm];exact hno j (by omega));rw[<-hm]at hnoA;simp(disch:=omega)[hltI];exact rndA m (by simp(disch:=omega)[hmI]) ⟨sN2,by omega,by omega,by rw[hbn,hnoA]⟩
  ·have hn2I:¬(1:Int)<n:=by omega
   have hnE:n=1:=by omega
   subst hnE;rw[hbn,Hi GX h1]at h;have h1I:¬(w.length:Int)<1:=by omega
   simp(disch:=omega);exact ad (h _ sN)
 ·rw[if_neg hc]at h;generalize ck w=c at *;simp(disch:=omega);exact ad (h _ (Sub.refl M))
def lpT(w:B8):B8:=if ck w=0 then (kI ch w w.length).1 else []
def lpK(w:B8):Int:=if ck w=0 then (((kI ch w w.length).2:Nat):Int) else 0
theorem lT(w:B8)(M:Mem)(R:VP)(hl:w.length<=1099511627776)(h:∀ M',Sub M M'->R (.tuple #[str (lpT w),.int .i64 (lpK w),.int .i64 (ck w)]) M'):ar prog 245 [str w] M R:=by
 unfold lpT lpK at h;refine fnS func245 rfl ntmps245 results245 ?_;simp(disch:=omega);refine fm w _ _ hl ?_;intro M1 s1;by_cases hc:ck w=0
 ·rw[if_pos hc,if_pos hc,hc]at h;obtain⟨hw,h0,h1,h60⟩:=gz hc;rw[hc];have h:=h _ s1;simp(disch:=omega);refine lupS (rlA [2,3,4,6,7] 15 24) (fun n:Nat=>[(6,.int .i64 n)]) (fun n N=>M1=N/\1<=n/\n<=w.length/\kI ch w w.length=kI ch w n) (fun n=>n) w.length ⟨rfl,h1,lRf _,rfl⟩ ?_
  rintro n N g ⟨rfl,hn1,hn,hbn⟩
  obtain⟨m,hm⟩:∃ m,n=m+1:=⟨n-1,by omega⟩;have hmI:(n:Int)-1=(m:Nat):=by omega
  simp(disch:=omega);refine lupS (rlA [2,3,4,7] 17 22) (fun i:Nat=>[(7,.int .i64 i)]) (fun i N=>M1=N/\i<=w.length-m/\∀ j,j<i->ch (seg w j n)=false) (fun i=>w.length-m-i) 0 ⟨rfl,lZe _,fun j hj=>by omega⟩ ?_
  rintro i N g2 ⟨rfl,hi,hno⟩
  by_cases hlt:i<w.length-m
  ·have hltI:(i:Int)+n<=(w.length:Nat):=by omega
   have hsg:=ga (w:=w) (a:=i) (m:=n);have hsl:=eB (w:=w) (a:=i) (m:=n) (by omega);have hyes:=oD (P:=ch) (w:=w) (n:=m) (i:=i) hlt;rw[<-hm]at hyes;generalize hSu:seg w i n=u at *;simp(disch:=omega)[hltI,hsg];refine jh u _ _ (by omega) ?_;cases hp:ch u
   ·simp(disch:=omega);exact rndS (i+1) ⟨rfl,by omega,fun j hj=>by
     by_cases e:j=i
     ·rw[e,hSu];exact hp
     ·exact hno j (by omega)⟩
   ·have hy:=hyes hp hno;rw[hbn,hy]at h;simp(disch:=omega)[hsg];exact ad h
  ·have hltI:¬(i:Int)+n<=(w.length:Nat):=by omega
   have hnoA:=xv (P:=ch) (w:=w) (n:=m) (fun j hj=>by rw[<-hm];exact hno j (by omega));rw[<-hm]at hnoA;have hm1:1<=m:=by
    rcases Nat.eq_zero_or_pos m with e|e
    ·exfalso;have:=hno 0 (by omega);rw[hm,e]at this;obtain⟨u,hu⟩:=Kx h1;rw[show 0+1=1 from rfl,se,hu,sH]at this;cases this
    ·exact e
   simp(disch:=omega)[hltI];exact rndA m (by simp(disch:=omega)[hmI]) ⟨rfl,hm1,by omega,by rw[hbn,hnoA]⟩
 ·rw[if_neg hc,if_neg hc]at h;generalize ck w=c at *;simp(disch:=omega);exact ad (h _ s1)
theorem lK(w:B8)(M:Mem)(R:VP)(hl:w.length<=1099511627776)(h:∀ M',Sub M M'->R (.tuple #[str (lpT w),.int .i64 (lpK w),.int .i64 (ck w)]) M'):ar prog 186 [str w] M R:=by
 unfold lpT lpK at h;refine fnS func186 rfl ntmps186 results186 ?_;simp(disch:=omega);refine hU w _ _ hl ?_;by_cases hc:ck w=0
 ·rw[if_pos hc,if_pos hc,hc]at h;obtain⟨hw,h0,h1,h60⟩:=gz hc;rw[hc];have h:=h _ (Sub.refl M);simp(disch:=omega);refine lupS (rlA [2,3,4,6,7] 15 26) (fun n:Nat=>[(6,.int .i64 n)]) (fun n N=>M=N/\1<=n/\n<=w.length/\kI ch w w.length=kI ch w n) (fun n=>n) w.length ⟨rfl,h1,lRf _,rfl⟩ ?_
  rintro n N g ⟨rfl,hn1,hn,hbn⟩
  by_cases hn2:1<n
  ·have hn2I:(1:Int)<n:=by omega
   obtain⟨m,hm⟩:∃ m,n=m+1:=⟨n-1,by omega⟩;have hmI:(n:Int)-1=(m:Nat):=by omega
   simp(disch:=omega)[hn2I];refine lupS (rlA [2,3,4,7] 19 22) (fun i:Nat=>[(7,.int .i64 i)]) (fun i N=>M=N/\i<=w.length-m/\∀ j,j<i->ch (seg w j n)=false) (fun i=>w.length-m-i) 0 ⟨rfl,lZe _,fun j hj=>by omega⟩ ?_
   rintro i N g2 ⟨rfl,hi,hno⟩
   by_cases hlt:i<w.length-m
   ·have hltI:(i:Int)+n<=(w.length:Nat):=by omega
    have hsg:=ga (w:=w) (a:=i) (m:=n);have hsl:=eB (w:=w) (a:=i) (m:=n) (by omega);have hyes:=oD (P:=ch) (w:=w) (n:=m) (i:=i) hlt;rw[<-hm]at hyes;generalize hSu:seg w i n=u at *;simp(disch:=omega)[hltI,hsg];refine gh u _ _ (by omega) ?_;cases hp:ch u
    ·simp(disch:=omega);exact rndS (i+1) ⟨rfl,by omega,fun j hj=>by
      by_cases e:j=i
      ·rw[e,hSu];exact hp
      ·exact hno j (by omega)⟩
    ·have hy:=hyes hp hno;rw[hbn,hy]at h;simp(disch:=omega)[hsg];exact ad h
   ·have hltI:¬(i:Int)+n<=(w.length:Nat):=by omega
    have hnoA:=xv (P:=ch) (w:=w) (n:=m) (fun j hj=>by rw[<-hm];exact hno j (by omega));rw[<-hm]at hnoA;simp(disch:=omega)[hltI];exact rndA m (by simp(disch:=omega)[hmI]) ⟨rfl,by omega,by omega,by rw[hbn,hnoA]⟩
  ·have hn2I:¬(1:Int)<n:=by omega
   have hnE:n=1:=by omega
   subst hnE;rw[hbn,Hi sH h1]at h;have h1I:¬(w.length:Int)<1:=by omega
   simp(disch:=omega);exact ad h
 ·rw[if_neg hc,if_neg hc]at h;generalize ck w=c at *;simp(disch:=omega);exact ad (h _ (Sub.refl M))
end Go.Proofs.YtapimhjbilkfpaaGreatDoor
