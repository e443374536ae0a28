/- Lemmas for FnExactDeskAfter, part 16 of 33. -/
import Derived.Test.YtapimhjbilkfpaaGreatDoorZ14
import Derived.Test.YtapimhjbilkfpaaGreatDoorZ10
set_option linter.unusedVariables false
set_option linter.unusedSimpArgs false
namespace Go.Proofs.YtapimhjbilkfpaaGreatDoor
open Go Go.Proofs.Tryz List
theorem oZ(l:List Nat)(i n:Nat):(aD l).set i (.int .i64 n)=aD (l.set i n):=by simp[aD,map_set]
theorem oP(n m:Nat):replicate n (Value.int .i64 (m:Nat))=aD (replicate n m):=by simp[aD]
theorem ef(v:Value)(ws:List B8)(M:Mem)(R:VP)(hv:Rd M v (strs ws))(hn:ws.length<=1099511627776)(h:R (.int .i64 ws.length) M):ar prog 88 [.agg #[v]] M R:=
 iV v (strs ws) M R hv (by rw[ah];exact hn) (by rw[ah];exact h)
theorem qp(ws:List B8)(x:Value)(a k:Int)(b3 b4 b5:Nat)(K:Mem)(R:VP)(hv:Rd K x (strs ws))(hn:ws.length<=1099511627776)(k3:K b3=some (.cells true [x] 1))(k4:K b4=some (.cells true [.int .i64 a] 1))(k5:K b5=some (.cells true [.int .i64 k] 1))
  (h:R (.bool (decide (0<=a/\a<=ws.length-1)&&decide (0<=k/\k<=20))) K):ar prog 261 [.pointer (some ⟨b4,0,none⟩),.pointer (some ⟨b3,0,none⟩),.pointer (some ⟨b5,0,none⟩)] K R:=by
 refine fnS func261 rfl ntmps261 results261 ?_;simp(disch:=omega);refine drwS ?_;simp(disch:=omega)[al k4,aq k3];refine aU (a:=[]) (c:=[]) (ef x ws _ _ hv hn ⟨rfl,rfl⟩) ?_;simp(disch:=omega);refine aU (a:=[]) (c:=[]) (bF _ _ _ _ _ ⟨rfl,rfl⟩) ?_;cases h1:decide (0<=a/\a<=(ws.length:Int)-1)
 ·rw[h1,Bool.false_and]at h;simp(disch:=omega);exact ad h
 ·rw[h1,Bool.true_and]at h;simp(disch:=omega)[al k5];refine aU (a:=[]) (c:=[]) (bF _ _ _ _ _ ⟨rfl,rfl⟩) ?_;simp(disch:=omega);exact ad (by simpa using h)
theorem GU(ws:List B8)(a k t:Int):(if aY ws then gn [] ([].all (fun u=>iC u ws.length)&&(decide (0<=a/\a<=(ws.length:Int)-1)&&decide (0<=k/\k<=t))) else 1)=fM ws a k t:=by
 unfold fM gn;cases aY ws
 ·rfl
 ·by_cases h1:0<=a/\a<=(ws.length:Int)-1
  ·by_cases h2:0<=k/\k<=t
   ·simp[h1,h2]
   ·simp only[decide_eq_true h1,decide_eq_false h2];simp[h1,h2]
  ·simp only[decide_eq_false h1];simp[h1]
theorem rW(v:Value)(ws:List B8)(a k:Int)(M:Mem)(R:VP)(hv:Rd M v (strs ws))(hf:cP ws)(hn:ws.length<=1099511627776)(h:Lst (uO ws a k) (aD (jk ws a k)) M R):ar prog 169 [.agg #[v],.int .i64 a,.int .i64 k] M R:=by
 refine fnS func169 rfl ntmps169 results169 ?_;obtain⟨aa,c,rfl,ha⟩:=hv.opened;rw[ah]at ha hv ⊢;simp(disch:=omega);intro b3 hb3;simp(disch:=omega);intro b4 hb4;simp(disch:=omega);intro b5 hb5;have n4:=hb4;have n5:=hb5;rw[aA]at n4;rw[aA,aA]at n5;have hs5:Sub M (((M.put b3 (.cells true [.slice aa ws.length c] 1)).put b4 (.cells true [.int .i64 a] 1)).put b5 (.cells true [.int .i64 k] 1)):=(((Sub.refl M).put hb3 _).putN hb4 _).putN hb5 _;have k3:(((M.put b3 (.cells true [.slice aa ws.length c] 1)).put b4 (.cells true [.int .i64 a] 1)).put b5 (.cells true [.int .i64 k] 1)) b3=some (.cells true [.slice aa ws.length c] 1):=by rw[ai _ _ (Ne.symm n5.2.1),ai _ _ (Ne.symm n4.1)];exact ag _ _ _
 have k4:(((M.put b3 (.cells true [.slice aa ws.length c] 1)).put b4 (.cells true [.int .i64 a] 1)).put b5 (.cells true [.int .i64 k] 1)) b4=some (.cells true [.int .i64 a] 1):=by rw[ai _ _ (Ne.symm n5.1)];exact ag _ _ _
 have k5:(((M.put b3 (.cells true [.slice aa ws.length c] 1)).put b4 (.cells true [.int .i64 a] 1)).put b5 (.cells true [.int .i64 k] 1)) b5=some (.cells true [.int .i64 k] 1):=ag _ _ _;simp(disch:=omega);generalize (((M.put b3 (.cells true [.slice aa ws.length c] 1)).put b4 (.cells true [.int .i64 a] 1)).put b5 (.cells true [.int .i64 k] 1))=N1 at *;have hv1:=hv.sub hs5;refine dq _ _ _ ws [] (decide (0<=a/\a<=(ws.length:Int)-1)&&decide (0<=k/\k<=20)) (fun M'=>Sub N1 M') _ _ hv1 hf hn (JO N1) Qe (by simp) rfl (Sub.refl N1) (fun M' b B q hb=>q.putN hb B) ?_ ?_
 ·intro K R' q hR';simp(disch:=omega);exact qp ws _ a k b3 b4 b5 K R' (hv1.sub q) hn (q _ _ k3) (q _ _ k4) (q _ _ k5) hR'
 ·rw[GU];unfold uO jk at h;by_cases h0:fM ws a k 20=0
  ·obtain⟨hm,ha0,ha1,hk0,hk1⟩:=gF h0;rw[if_pos h0,if_pos h0]at h;rw[h0];have h15:=aV hm;have hw12:∀ w∈ws,w.length<=12:=fun w hw=>(bL hm hw).1;obtain⟨a,rfl⟩:∃ n:Nat,a=n:=⟨a.toNat,by omega⟩;obtain⟨k,rfl⟩:∃ n:Nat,k=n:=⟨k.toNat,by omega⟩;rw[Int.toNat_natCast,Int.toNat_natCast]at h;have hal:a<ws.length:=by omega
   simp(disch:=omega)[aq k3];refine ef _ ws _ _ hv1 hn ?_;simp(disch:=omega);intro b9 hb9;have s9:=(Sub.refl N1).put hb9 (.cells true (aD (du ws a 0)) ws.length);have e0:(replicate ws.length (Value.int .i64 0)).set a (.int .i64 1)=aD (du ws a 0):=by
    have:=oP ws.length 0;have h2:=oZ (replicate ws.length 0) a 1;rw[<-this]at h2;exact h2
   have hne4:b4≠b9:=by rintro rfl;rw[k4]at hb9;cases hb9
   have hne5:b5≠b9:=by rintro rfl;rw[k5]at hb9;cases hb9
   simp(disch:=omega)[al k4,al k5,e0];have r9:Rd (N1.put b9 (.cells true (aD (du ws a 0)) ws.length)) (.slice (some ⟨b9,0,none⟩) ws.length ws.length) (aD (du ws a 0)):=Rd.new (by rw[aB,dL h15.2]) (lRf _);generalize N1.put b9 (.cells true (aD (du ws a 0)) ws.length)=N2 at *;refine lupS (rlA [6,7,9,10,11,12,13,14,15,16] 31 43) (fun x:Nat×Value×Value=>[(31,.int .i64 x.1),(9,x.2.1),(10,x.2.2)]) (fun x M'=>x.1<=k+1/\okS ws a x.1=true/\∃ A,Sub N1 A/\Rd A x.2.1 (aD (du ws a x.1))/\Own A x.2.2 (aD (A5 ws a x.1)) M') (fun x=>k+1-x.1) (0,.slice (some ⟨b9,0,none⟩) ws.length ws.length,.slice none 0 0) ⟨by simp,rfl,N2,s9,r9,Own.nil N2⟩ ?_
   rintro⟨r,vm,vo⟩ M' g ⟨hr,hok,A,sA,rA,oA⟩
   simp only at hr hok rA oA;have sM:=sA.trans oA.sub;have q3:=sM _ _ k3;by_cases hlt:r<k+1
   ·have hvl:=dL h15.2 a r;have hvle:=KK hw12 h15.2 hok;have hsum:=D7 hvle;have hvs:du ws a (r+1)=dQ ws (du ws a r) ws.length:=vA ws a r;have hoks:=ob ws a r;have houts:=vd ws a r;have hno:=Pq (ws:=ws) (a:=a) hlt;have hol:=oh ws a r;have hnle:=oR hw12 (du ws a r);have hnl:=gU h15.2 (du ws a r);generalize du ws a r=vec at *;have hs5':vec.length*12000000000000000<=5*12000000000000000:=Nat.mul_le_mul_right _ (by omega);have hstep:∀ i,(vec.take i).sum<=vec.sum:=fun i=>vU vec i;obtain⟨a9,c9,rfl,ha9⟩:=rA.opened;rw[aB,hvl]at ha9;rw[aB,hvl]at rA ⊢;rcases ha9 with hz|⟨b0,o0,rfl,ha9⟩
    ·omega
    simp(disch:=omega)[aq q3];refine ef _ ws _ _ (hv1.sub sM) hn ?_;simp(disch:=omega);intro b12 hb12;simp(disch:=omega);have hnr:replicate ws.length (Value.int .i64 0)=aD (dQ ws vec 0):=oP ws.length 0;refine lupS (rlA [11,13,14,15,16] 38 28) (fun i:Nat=>[(38,.int .i64 i),(11,.int .i64 (vec.take i).sum)]) (fun i M1=>i<=ws.length/\M1=M'.put b12 (.cells true (aD (dQ ws vec i)) ws.length)) (fun i=>ws.length-i) 0 ⟨by omega,by rw[hnr]⟩ ?_
    rintro i M1 g1 ⟨hi,rfl⟩
    have hni:=hnl i;have s12:Sub M' (M'.put b12 (.cells true (aD (dQ ws vec i)) ws.length)):=(Sub.refl M').put hb12 _;have q3':=s12 _ _ q3;by_cases hil:i<ws.length
    ·have hvi:i<vec.length:=by omega
     have hgi:=ha9 i hil;rw[bU,gEl hvi]at hgi;have hgi':=aX (aX hgi oA.sub) s12;have hsn:(vec.take (i+1)).sum=(vec.take i).sum+vec[i]:=by rw[aw vec hvi,sum_append,sum_singleton]
     have hsn2:=hstep (i+1);have hnx:=ku ws vec i;have hgd:vec.getD i 0=vec[i]:=by rw[gDe,gEl hvi];rfl
     have hgw:ws.getD i []=ws[i]:=by rw[gDe,gEl hil];rfl
     rw[hgd,hgw]at hnx;have hrl:=nG (m:=ws.length) h15.2 ws[i];have hrle:∀ t∈xl ws.length ws[i],t<=12:=fun t ht=>Nat.le_trans (DO ht) (hw12 _ (getElem_mem hil));have hacc:=hnle i (by omega) (by omega);have hrv:=Cz ws.length ws[i];have hcs:=EJ ws.length ws[i];obtain⟨n,hnn⟩:∃ n,n=vec[i]:=⟨_,rfl⟩;have hn12:n<=12000000000000000:=by rw[hnn];exact hvle _ (getElem_mem hvi)
     rw[<-hnn]at hsn hnx hgi';simp(disch:=omega)[aq q3',hgi'];refine PD _ ws i _ _ ((hv1.sub sM).sub s12) hm hil ?_
     rintro br cr M2 hbr rfl
     have hbr':=hbr;rw[aA]at hbr';rw[hcs,hrv];obtain⟨row,hrow⟩:∃ row,row=xl ws.length ws[i]:=⟨_,rfl⟩;rw[<-hrow]at hnx hrl hrle ⊢;generalize ints (drop ws.length (counts ws[i]))=rest at *;generalize dQ ws vec i=acc at *;have har:acc.length=row.length:=by omega
     simp(disch:=omega);refine lupS (rlA [15,16] 50 15) (fun j:Nat=>[(50,.int .i64 j)]) (fun j M3=>j<=ws.length/\M3=(M'.put b12 (.cells true (aD (kU acc n row j)) ws.length)).put br (.cells true (aD row++rest) cr)) (fun j=>ws.length-j) 0 ⟨by omega,by rw[CJ]⟩ ?_
     rintro j M3 g3 ⟨hj,rfl⟩
     have hal':=wF (n:=n) (j:=j) har (by omega);by_cases hjl:j<ws.length
     ·have hja:j<acc.length:=by omega
      have hjr:j<row.length:=by omega
      have hg1:(aD row++rest)[j]?=some (.int .i64 (row[j]:Nat)):=by
       rw[getElem?_append_left (by rw[aB];exact hjr),bU,gEl hjr];rfl
      have hg2:(aD (kU acc n row j))[j]?=some (.int .i64 (acc[j]:Nat)):=by rw[bU,HO har hja];rfl
      have hset:=Cr (n:=n) har hja;have hp12:n*row[j]<=12000000000000000*12:=Nat.mul_le_mul hn12 (hrle _ (getElem_mem hjr));have hacj:=hacc _ (getElem_mem hja);have hst:=hstep i;obtain⟨p,hp⟩:∃ p,p=n*row[j]:=⟨_,rfl⟩;have ep:(n:Int)*(row[j]:Nat)=(p:Int):=by rw[hp];push_cast;rfl
      rw[<-hp]at hset hp12;have hset2:(aD (kU acc n row j)).set j (.int .i64 ((acc[j]:Nat)+(p:Int)))=aD (kU acc n row (j+1)):=by
       rw[<-hset,<-oZ]
       push_cast
       rfl
      simp(disch:=omega)[hg1,hg2,ep,hset2];refine⟨by rw[aB];omega,?_⟩;simp(disch:=omega);exact rndS (j+1) ⟨by omega,rfl⟩
     ·have hj':j=acc.length:=by omega
      subst hj';rw[GI har,<-hnx];simp(disch:=omega);refine rndB (M'.put b12 (.cells true (aD (dQ ws vec (i+1))) ws.length)) (i+1) ((Sub.refl _).put (by rw[aA];exact hbr') _) (by simp(disch:=omega)[hsn]) ⟨by omega,rfl⟩
    ·have hi':i=ws.length:=by omega
     subst hi';rw[take_of_length_le (by omega)];have hob:okS ws a (r+1)=true\/¬ vec.sum<=1000000000000000:=by
      by_cases hb:vec.sum<=1000000000000000
      ·left;rw[hoks,hok,decide_eq_true hb];rfl
      ·exact .inr hb
     by_cases hb:vec.sum<=1000000000000000
     ·have hb':¬(1000000000000000:Int)<(vec.sum:Nat):=by omega
      have hok1:=hob.resolve_right (fun hh=>hh hb);rw[<-hvs];have o12:=oA.push hb12 (.cells true (aD (du ws a (r+1))) ws.length);have hl1:=dL h15.2 a (r+1);have r12:Rd (A.put b12 (.cells true (aD (du ws a (r+1))) ws.length)) (.slice (some ⟨b12,0,none⟩) ws.length ws.length) (aD (du ws a (r+1))):=Rd.new (by rw[aB,hl1]) (lRf _);have sA2:Sub N1 (A.put b12 (.cells true (aD (du ws a (r+1))) ws.length)):=sA.putN (bA oA.sub hb12) _;simp(disch:=omega)[hb'];intro b70 hb70;simp(disch:=omega);refine aN o12 ((Sub.refl _).put hb70 _) (by simp(disch:=omega);rfl) rfl rfl (by omega) (by simp(disch:=omega)) (by simp(disch:=omega);rw[aB,hol];omega) ?_;intro v4 M4 N4 o4 s4;simp(disch:=omega);refine rndM M4 (r+1,.slice (some ⟨b12,0,none⟩) ws.length ws.length,v4) s4 ⟨by simp only;omega,hok1,_,sA2,r12,?_⟩;simp only;rw[houts,<-eF];exact o4
     ·have hb':(1000000000000000:Int)<(vec.sum:Nat):=by omega
      rw[hno hb]at h;simp(disch:=omega)[hb'];exact ae ((hs5.trans sM).trans ((Sub.refl M').put hb12 _)) (h _ _ (Own.nil M))
   ·have hr':r=k+1:=by omega
    subst hr';rw[hok,if_pos rfl,if_pos rfl]at h;simp(disch:=omega);obtain⟨M2,o2,s2⟩:=oA.base (hs5.trans sA);exact ae s2 (h vo M2 o2)
  ·rw[if_neg h0,if_neg h0]at h;have hb:(fM ws a k 20==0)=false:=bNe.2 h0;generalize fM ws a k 20=code at *;simp(disch:=omega)[hb];exact ae hs5 (h _ _ (Own.nil M))
def nv(ws:List B8)(a:Int):Int:=if aY ws then (if 0<=a/\a<=(ws.length:Int)-1 then 0 else 2) else 1
theorem Fk(ws:List B8)(a k t:Int):fM ws a k t=if nv ws a=0 then (if 0<=k/\k<=t then 0 else 2) else nv ws a:=by
 unfold fM nv;cases aY ws
 ·rfl
 ·by_cases h1:0<=a/\a<=(ws.length:Int)-1
  ·by_cases h2:0<=k/\k<=t<;>simp[h1,h2]
  ·simp[h1]
theorem oG(v:Value)(ws:List B8)(a:Int)(M:Mem)(R:VP)(hv:Rd M v (strs ws))(hf:cP ws)(hn:ws.length<=1099511627776)(h:R (.int .i64 (nv ws a)) M):ar prog 197 [.agg #[v],.int .i64 a] M R:=by
 refine fnS func197 rfl ntmps197 results197 ?_;obtain⟨aa,c,rfl,ha⟩:=hv.opened;rw[ah]at hv ⊢;simp(disch:=omega);intro b1 hb1;have hs1:Sub M (M.put b1 (.cells true [.slice aa ws.length c] 1)):=(Sub.refl M).put hb1 _;have hv1:=hv.put hb1 (.cells true [.slice aa ws.length c] 1);have k1:(M.put b1 (.cells true [.slice aa ws.length c] 1)) b1=some (.cells true [.slice aa ws.length c] 1):=ag _ _ _;simp(disch:=omega);generalize M.put b1 (.cells true [.slice aa ws.length c] 1)=N1 at *;refine fA _ ws _ _ hv1 hf hn ?_;unfold nv at h;cases hm:aY ws
 ·rw[hm]at h;simp(disch:=omega);exact ae hs1 h
 ·rw[hm,if_pos rfl]at h;simp(disch:=omega)[al k1];refine cg _ _ _ _ _ ?_;by_cases h1:0<=a/\a<=(ws.length:Int)-1
  ·rw[if_pos h1]at h;rw[decide_eq_true h1];simp(disch:=omega);exact ae hs1 h
  ·rw[if_neg h1]at h;rw[decide_eq_false h1];simp(disch:=omega);exact ae hs1 h
set_option maxHeartbeats 4000000 in
theorem sC(v:Value)(ws:List B8)(a k:Int)(M:Mem)(R:VP)(hv:Rd M v (strs ws))(hf:cP ws)(hn:ws.length<=1099511627776)(h:Lst (uO ws a k) (aD (jk ws a k)) M R):ar prog 126 [.agg #[v],.int .i64 a,.int .i64 k] M R:=by
 refine fnS func126 rfl ntmps126 results126 ?_;obtain⟨aa,c,rfl,ha⟩:=hv.opened;rw[ah]at ha hv ⊢;simp(disch:=omega);intro b3 hb3;have hs3:Sub M (M.put b3 (.cells true [.slice aa ws.length c] 1)):=(Sub.refl M).put hb3 _;have hv3:=hv.put hb3 (.cells true [.slice aa ws.length c] 1);have k3:(M.put b3 (.cells true [.slice aa ws.length c] 1)) b3=some (.cells true [.slice aa ws.length c] 1):=ag _ _ _;simp(disch:=omega);generalize M.put b3 (.cells true [.slice aa ws.length c] 1)=N1 at *;refine oG _ ws a _ _ hv3 hf hn ?_;have hin:=Fk ws a k 20;unfold uO jk at h;by_cases ht:nv ws a=0
 ·rw[if_pos ht]at hin;rw[ht];simp(disch:=omega);refine cg _ _ _ _ _ ?_;by_cases hk:0<=k/\k<=20
  ·rw[if_pos hk]at hin;rw[decide_eq_true hk];obtain⟨hm,ha0,ha1,hk0,hk1⟩:=gF hin;rw[if_pos hin,if_pos hin]at h;have h15:=aV hm;have hw12:∀ w∈ws,w.length<=12:=fun w hw=>(bL hm hw).1;obtain⟨a,rfl⟩:∃ n:Nat,a=n:=⟨a.toNat,by omega⟩;obtain⟨k,rfl⟩:∃ n:Nat,k=n:=⟨k.toNat,by omega⟩;rw[Int.toNat_natCast,Int.toNat_natCast]at h;have hal:a<ws.length:=by omega
   have e0:(replicate ws.length (Value.int .i64 0)).set a (.int .i64 1)=aD (du ws a 0):=by
    have:=oP ws.length 0;have h2:=oZ (replicate ws.length 0) a 1;rw[<-this]at h2;exact h2
   simp(disch:=omega);refine plyS (ak [0,2,3,4] (.alt 1 1 (.light 6 (.one 5 1 (.light 7 .fin))) (.one 5 1 (.one 1 1 (ak [6,7] .fin))))) ?_;simp(disch:=omega)[aq k3,al k3,jz];refine⟨?c1,?c2⟩
   case' c1=>
    refine mO _ ws _ _ hv3 hm ?_;intro vm rs N2 M2 r2 o2;have hs2:=r2.sub.trans o2.sub;simp(disch:=omega);refine⟨hs2,?_⟩;intro b10 hb10;have hmat:∀ X,Mt ((M2.put b10 (.cells true (replicate ws.length (Value.int .i64 0)) ws.length)).put b10 X) vm (xb ws):=fun X=>by
     rw[aW];exact(Li r2 o2).sub ((Sub.refl M2).put hb10 X)
    have hsub:∀ X,Sub N1 ((M2.put b10 (.cells true (replicate ws.length (Value.int .i64 0)) ws.length)).put b10 X):=fun X=>by
     rw[aW];exact hs2.putN hb10 X
    have hK:(M2.put b10 (.cells true (replicate ws.length (Value.int .i64 0)) ws.length)) b10=some (.cells true (replicate ws.length (Value.int .i64 0)) ws.length):=ag _ _ _;have hkk:Sub M2 (M2.put b10 (.cells true (replicate ws.length (Value.int .i64 0)) ws.length)):=(Sub.refl M2).put hb10 _;clear hb10;simp only[length_replicate];generalize M2.put b10 (.cells true (replicate ws.length (Value.int .i64 0)) ws.length)=K at *;simp(disch:=omega);refine⟨hkk,?_⟩;clear r2 o2 hs2 hkk
   case' c2=>
    intro b10 hb10;have hs4:Sub N1 (N1.put b10 (.cells true (replicate ws.length (Value.int .i64 0)) ws.length)):=(Sub.refl N1).put hb10 _;simp(disch:=omega);refine⟨hs4,?_⟩;refine mO _ ws _ _ (hv3.sub hs4) hm ?_;intro vm rs N2 K r2 o2;have hs2:=r2.sub.trans o2.sub;have hmat:∀ X,Mt (K.put b10 X) vm (xb ws):=fun X=>Li (r2.other (ag _ _ _) X) (o2.other (r2.sub _ _ (ag _ _ _)) X);have hsub:∀ X,Sub N1 (K.put b10 X):=fun X=>by
     have s1:=(r2.other (ag _ _ _) X).sub.trans (o2.other (r2.sub _ _ (ag _ _ _)) X).sub;rw[aW]at s1;exact((Sub.refl N1).put hb10 X).trans s1
    have hK:K b10=some (.cells true (replicate ws.length (Value.int .i64 0)) ws.length):=hs2 _ _ (ag _ _ _);simp(disch:=omega);refine⟨hs2,?_⟩;clear r2 o2 hs2 hs4 hb10
   all_goals
    have hne3:b3≠b10:=by
     rintro rfl
     have:=hsub (.cells true [] 0) _ _ k3;rw[ag]at this;cases this
    simp(disch:=omega)[hK,e0,aj];have d1:=hmat (.cells true (aD (du ws a 0)) ws.length);have s1:=hsub (.cells true (aD (du ws a 0)) ws.length);have r1:Rd (K.put b10 (.cells true (aD (du ws a 0)) ws.length)) (.slice (some ⟨b10,0,none⟩) ws.length ws.length) (aD (du ws a 0)):=Rd.new (by rw[aB,dL h15.2]) (lRf _);generalize K.put b10 (.cells true (aD (du ws a 0)) ws.length)=N3 at *;clear hmat hsub hK hne3;obtain⟨rs,hrs,hrl,hrow⟩:=d1;rw[fE]at hrl;obtain⟨am,cm,rfl,ham⟩:=hrs.opened;rw[hrl]at ham;rcases ham with hz|⟨bm,om,rfl,ham⟩
    ·omega
    rw[hrl];intro b11 hb11;simp(disch:=omega);have hsum0:=MG hal h15.2;have hok1:okS ws a 1=true:=by rw[show (1:Nat)=0+1 from rfl,ob,hsum0];rfl
    have hout1:A5 ws a 1=[1]:=by rw[show (1:Nat)=0+1 from rfl,vd,hsum0];rfl
    refine lupS (rlA [2,6,7,10,11,12,13,14,15,16] 40 58) (fun x:Nat×Value×Value=>[(2,.int .i64 ((k-x.1:Nat):Int)),(10,x.2.1),(11,x.2.2)]) (fun x M'=>x.1<=k/\okS ws a (x.1+1)=true/\∃ A,Sub N3 A/\Rd A x.2.1 (aD (du ws a x.1))/\Own A x.2.2 (aD (A5 ws a (x.1+1))) M') (fun x=>k-x.1) (0,.slice (some ⟨b10,0,none⟩) ws.length ws.length,.slice (some ⟨b11,0,none⟩) 1 1) ⟨by simp,hok1,N3,Sub.refl N3,r1,by rw[hout1];exact Own.new (n:=1) (c:=1) (xs:=aD [1]) hb11 rfl (lRf 1)⟩ ?_
    rintro⟨r,vn,vo⟩ M' g ⟨hr,hok,A,sA,rA,oA⟩
    simp only at hr hok rA oA;obtain⟨t,hteq⟩:∃ t,t=k-r:=⟨_,rfl⟩;rw[<-hteq];have sM:=sA.trans oA.sub;by_cases hlt:r<k
    ·have ht0:0<t:=by omega
     have hok0:okS ws a r=true:=by rw[ob,Bool.and_eq_true]at hok;exact hok.1
     have hvl:=dL h15.2 a r;have hvle:=KK hw12 h15.2 hok0;have hsum:=D7 hvle;have hvs:du ws a (r+1)=dQ ws (du ws a r) ws.length:=vA ws a r;have hoks:=ob ws a (r+1);have houts:=vd ws a (r+1);have hno:=Pq (ws:=ws) (a:=a) (r:=r+1) (k:=k+1) (by omega);have hol:=oh ws a (r+1);have hnle:=oR hw12 (du ws a r);have hnl:=gU h15.2 (du ws a r);generalize du ws a r=vec at *;have hs5':vec.length*12000000000000000<=5*12000000000000000:=Nat.mul_le_mul_right _ (by omega);have hstep:∀ i,(vec.take i).sum<=vec.sum:=fun i=>vU vec i;obtain⟨a9,c9,rfl,ha9⟩:=rA.opened;rw[aB,hvl]at ha9;rw[aB,hvl]at rA ⊢;rcases ha9 with hz|⟨b0,o0,rfl,ha9⟩
     ·omega
     simp(disch:=omega);intro b12 hb12;simp(disch:=omega);have hnr:replicate ws.length (Value.int .i64 0)=aD (dQ ws vec 0):=oP ws.length 0;refine lupS (rlA [14,15] 47 32) (fun i:Nat=>[(14,.int .i64 i)]) (fun i M1=>i<=ws.length/\M1=M'.put b12 (.cells true (aD (dQ ws vec i)) ws.length)) (fun i=>ws.length-i) 0 ⟨by omega,by rw[hnr]⟩ ?_
     rintro i M1 g1 ⟨hi,rfl⟩
     have hni:=hnl i;by_cases hil:i<ws.length
     ·have hvi:i<vec.length:=by omega
      have hgi:=ha9 i hil;rw[bU,gEl hvi]at hgi;have hgi0:=aX hgi oA.sub;have hnx:=ku ws vec i;have hgd:vec.getD i 0=vec[i]:=by rw[gDe,gEl hvi];rfl
      have hgw:ws.getD i []=ws[i]:=by rw[gDe,gEl hil];rfl
      rw[hgd,hgw]at hnx;have hrl2:=nG (m:=ws.length) h15.2 ws[i];have hrle:∀ t∈xl ws.length ws[i],t<=12:=fun t ht=>Nat.le_trans (DO ht) (hw12 _ (getElem_mem hil));have hacc:=hnle i (by omega) (by omega);have hrv:=Cz ws.length ws[i];obtain⟨n,hnn⟩:∃ n,n=vec[i]:=⟨_,rfl⟩;have hn12:n<=12000000000000000:=by rw[hnn];exact hvle _ (getElem_mem hvi)
      have hmi:(xb ws)[i]?=some (jQ ws.length ws[i]):=by rw[gEl (by rw[fE];exact hil),E9 hil]
      obtain⟨x,hx,hxr⟩:=hrow i _ hmi;have hxl:(ints (jQ ws.length ws[i])).length=ws.length:=by rw[az,wi h15.2]
      obtain⟨ax,cx,rfl,hax⟩:=hxr.opened;rw[hxl]at hax hx;rcases hax with hz|⟨bx,ox,rfl,hax⟩
      ·omega
      have hgm:=ham i hil;rw[hx]at hgm;have hgm0:=aX hgm sM;rw[hrv]at hax;rw[<-hnn]at hnx hgi0;obtain⟨row,hrw⟩:∃ row,row=xl ws.length ws[i]:=⟨_,rfl⟩;rw[<-hrw]at hnx hrl2 hrle hax;generalize dQ ws vec i=acc at *;have har:acc.length=row.length:=by omega
      simp(disch:=omega);refine lupS (rlA [15] 53 26) (fun j:Nat=>[(15,.int .i64 j)]) (fun j M3=>j<=ws.length/\M3=M'.put b12 (.cells true (aD (kU acc n row j)) ws.length)) (fun j=>ws.length-j) 0 ⟨by omega,by rw[CJ]⟩ ?_
      rintro j M3 g3 ⟨hj,rfl⟩
      have hal':=wF (n:=n) (j:=j) har (by omega);by_cases hjl:j<ws.length
      ·have hja:j<acc.length:=by omega
       have hjr:j<row.length:=by omega
       have s12:Sub M' (M'.put b12 (.cells true (aD (kU acc n row j)) ws.length)):=(Sub.refl M').put hb12 _;have hgx:=hax j hjl;rw[bU,gEl hjr]at hgx;have hgx':=aX (aX hgx sM) s12;have hgm':=aX hgm0 s12;have hgi':=aX hgi0 s12;have hg2:(aD (kU acc n row j))[j]?=some (.int .i64 (acc[j]:Nat)):=by rw[bU,HO har hja];rfl
       have hset:=Cr (n:=n) har hja;have hp12:n*row[j]<=12000000000000000*12:=Nat.mul_le_mul hn12 (hrle _ (getElem_mem hjr));have hacj:=hacc _ (getElem_mem hja);have hst:=hstep i;obtain⟨p,hp⟩:∃ p,p=n*row[j]:=⟨_,rfl⟩;have ep:(n:Int)*(row[j]:Nat)=(p:Int):=by rw[hp];push_cast;rfl
       rw[<-hp]at hset hp12;have hset2:(aD (kU acc n row j)).set j (.int .i64 ((acc[j]:Nat)+(p:Int)))=aD (kU acc n row (j+1)):=by
        rw[<-hset,<-oZ]
        push_cast
        rfl
       simp(disch:=omega);refine plyS (ak [0,1,2,3,4,5,6,7,8,9,10,11,12,13,14,15,16,17,18,19] (.one 20 2 .fin)) ?_;simp(disch:=omega)[hg2,hgi',hgm',hgx',ep,hset2];refine⟨by rw[aB];omega,?_⟩;simp(disch:=omega);exact rndS (j+1) ⟨by omega,rfl⟩
      ·have hj':j=acc.length:=by omega
       subst hj';rw[GI har,<-hnx];simp(disch:=omega);exact rndS (i+1) ⟨by omega,rfl⟩
     ·have hi':i=ws.length:=by omega
      subst hi';rw[<-hvs];have hnv:∀ x∈du ws a (r+1),x<=720000000000000000:=fun x hx=>by
       rw[hvs]at hx;have:=hnle ws.length (lRf _) (by omega) x hx;rw[take_of_length_le (by omega)]at this;omega
      have hl1:=dL h15.2 a (r+1);have hns:=D7 hnv;obtain⟨nx,hnx'⟩:∃ nx,nx=du ws a (r+1):=⟨_,rfl⟩;rw[<-hnx']at hvs hoks houts hno hnv hl1 hns ⊢;have hns':nx.length*720000000000000000<=5*720000000000000000:=Nat.mul_le_mul_right _ (by omega);simp(disch:=omega);refine lupS (rlA [13,16] 79 12) (fun j:Nat=>[(16,.int .i64 j),(13,.int .i64 (nx.take j).sum)]) (fun j M3=>j<=ws.length/\M3=M'.put b12 (.cells true (aD nx) ws.length)) (fun j=>ws.length-j) 0 ⟨by omega,rfl⟩ ?_
      rintro j M3 g3 ⟨hj,rfl⟩
      by_cases hjl:j<ws.length
      ·have hjn:j<nx.length:=by omega
       have hg2:(aD nx)[j]?=some (.int .i64 (nx[j]:Nat)):=by rw[bU,gEl hjn];rfl
       have hsn:(nx.take (j+1)).sum=(nx.take j).sum+nx[j]:=by rw[aw nx hjn,sum_append,sum_singleton]
       have hsl:=Hj nx j hjn;simp(disch:=omega)[hg2];exact rndA (j+1) (by simp(disch:=omega)[hsn]) ⟨by omega,rfl⟩
      ·have hj':j=ws.length:=by omega
       subst hj';rw[take_of_length_le (by omega)];by_cases hb:nx.sum<=1000000000000000
       ·have hb':¬(1000000000000000:Int)<(nx.sum:Nat):=by omega
        have o12:=oA.push hb12 (.cells true (aD nx) ws.length);have r12:Rd (A.put b12 (.cells true (aD nx) ws.length)) (.slice (some ⟨b12,0,none⟩) ws.length ws.length) (aD nx):=Rd.new (by rw[aB,hl1]) (lRf _);have sA2:Sub N3 (A.put b12 (.cells true (aD nx) ws.length)):=sA.putN (bA oA.sub hb12) _;simp(disch:=omega)[hb'];intro b70 hb70;simp(disch:=omega);refine aN o12 ((Sub.refl _).put hb70 _) (by simp(disch:=omega);rfl) rfl rfl (by omega) (by simp(disch:=omega)) (by simp(disch:=omega);rw[aB,hol];omega) ?_;intro v4 M4 N4 o4 s4;simp(disch:=omega);refine rndB M4 (r+1,.slice (some ⟨b12,0,none⟩) ws.length ws.length,v4) s4 (by simp(disch:=omega);omega) ⟨by simp only;omega,by rw[hoks,hok,decide_eq_true hb];rfl,_,sA2,?_,?_⟩
        ·simp only;rw[<-hnx'];exact r12
        ·simp only;rw[houts,<-eF];exact o4
       ·have hb':(1000000000000000:Int)<(nx.sum:Nat):=by omega
        rw[hno hb]at h;simp(disch:=omega)[hb'];exact ae (((hs3.trans s1).trans sM).trans ((Sub.refl M').put hb12 _)) (h _ _ (Own.nil M))
    ·have hr':r=k:=by omega
     have ht0:t=0:=by omega
     subst hr';rw[hok,if_pos rfl,if_pos rfl]at h;rw[ht0];simp(disch:=omega);obtain⟨M2,o2,s2⟩:=oA.base ((hs3.trans s1).trans sA);exact ae s2 (h vo M2 o2)
  ·rw[if_neg hk]at hin;have hne:¬ fM ws a k 20=0:=by rw[hin];decide
   rw[if_neg hne,if_neg hne,hin]at h;rw[decide_eq_false hk];simp(disch:=omega);exact ae hs3 (h _ _ (Own.nil M))
 ·rw[if_neg ht]at hin;have hb:(nv ws a==0)=false:=bNe.2 ht;rw[if_neg (by rw[hin];exact ht),if_neg (by rw[hin];exact ht),hin]at h;generalize nv ws a=code at *;simp(disch:=omega)[hb];exact ae hs3 (h _ _ (Own.nil M))
def dead(ws:List B8):Nat->UInt8->Bool
 | 0,_=>false
 | r+1,c=>(ws.getD (c.toNat-97) []).all (dead ws r)
theorem yw(ws:List B8)(r:Nat):∀ l:B8,(aQ ws l).all (dead ws r)=l.all (dead ws (r+1))
 | []=>rfl
 | u::l=>by rw[eG,all_append,yw ws r l,all_cons];rfl
def itr(ws:List B8):Nat->B8->B8
 | 0,w=>w
 | j+1,w=>aQ ws (itr ws j w)
theorem KN(ws:List B8)(w:B8):∀ j r,(itr ws j w).all (dead ws r)=w.all (dead ws (r+j))
 | 0,r=>rfl
 | j+1,r=>by
  show (aQ ws (itr ws j w)).all (dead ws r)=_;rw[yw,KN ws w j (r+1),Nat.add_right_comm];rfl
theorem B7(ws:List B8)(l:B8):l.all (dead ws 0)=l.isEmpty:=by
 cases l with
 | nil=>rfl
 | cons a l=>rfl
theorem SC(ws:List B8)(j:Nat)(w:B8):(itr ws j w).isEmpty=w.all (dead ws j):=by
 rw[<-B7 ws,KN,Nat.zero_add]
theorem xP(ws:List B8):∀ r c,dead ws r c=true->dead ws (r+1) c=true
 | 0,c,h=>by cases h
 | r+1,c,h=>by
  have h:(ws.getD (c.toNat-97) []).all (dead ws r)=true:=h;show (ws.getD (c.toNat-97) []).all (dead ws (r+1))=true;rw[all_eq_true]at h ⊢;exact fun x hx=>xP ws r x (h x hx)
theorem Dp(ws:List B8){r s:Nat}(h:r<=s){c:UInt8}(hd:dead ws r c=true):dead ws s c=true:=by
 obtain⟨d,rfl⟩:∃ d,s=r+d:=⟨s-r,by omega⟩;clear h
 induction d with
 | zero=>exact hd
 | succ d ih=>exact xP ws _ c ih
theorem BF{α:Type}{p q:α->Bool}:∀ {l:List α},(∀ x∈l,p x=true->q x=true)->∀ y,y∈l->q y=true->p y=false->l.countP p<l.countP q
 | [],_,y,hy,_,_=>by cases hy
 | a::l,h,y,hy,hq,hp=>by
  rw[countP_cons,countP_cons];have hm:l.countP p<=l.countP q:=countP_mono_left fun x hx=>h x (mem_cons_of_mem _ hx);rcases List.mem_cons.1 hy with rfl|hy
  ·rw[hq,hp];simp;omega
  ·have:=BF (fun x hx=>h x (mem_cons_of_mem _ hx)) y hy hq hp;have ha:=h a mem_cons_self;by_cases h1:p a=true
   ·rw[if_pos h1,if_pos (ha h1)];omega
   ·rw[if_neg h1];omega
def Ui(ws:List B8)(r:Nat):Nat:=(range ws.length).countP fun i=>dead ws r (ltr i)
theorem BD(ws:List B8):∀ r,r<=Ui ws r\/∃ q,q<r/\∀ i,i<ws.length->dead ws (q+1) (ltr i)=true->dead ws q (ltr i)=true
 | 0=>.inl (lZe _)
 | r+1=>by
  rcases BD ws r with h|⟨q,h1,h2⟩
  ·by_cases hs:∀ i,i<ws.length->dead ws (r+1) (ltr i)=true->dead ws r (ltr i)=true
   ·exact .inr ⟨r,by omega,hs⟩
   ·have hs2:∃ i,i<ws.length/\dead ws (r+1) (ltr i)=true/\¬ dead ws r (ltr i)=true:=by
     apply Classical.byContradiction;intro hno;exact hs fun i hi h1=>Classical.byContradiction fun h2=>hno ⟨i,hi,h1,h2⟩
    obtain⟨i,hi,h1,h2⟩:=hs2;have:=BF (p:=fun i=>dead ws r (ltr i)) (q:=fun i=>dead ws (r+1) (ltr i)) (l:=range ws.length) (fun x _ h=>xP ws r _ h) i (List.mem_range.2 hi) h1 (by simpa using h2);left;unfold Ui at *;omega
  ·exact .inr ⟨q,by omega,h2⟩
theorem lX{ws:List B8}{u:UInt8}(h:97<=u.toNat/\u.toNat-97<ws.length):ltr (u.toNat-97)=u:=by
 unfold ltr;rw[show 97+(u.toNat-97)=u.toNat by omega];simp
theorem PM{ws:List B8}(hm:aY ws=true):∀ r i,i<ws.length->dead ws r (ltr i)=true->dead ws ws.length (ltr i)=true:=by
 have h5:=aV hm;rcases BD ws ws.length with h|⟨q,hq,hst⟩
 ·intro r i hi _;have hle:(range ws.length).countP (fun i=>dead ws ws.length (ltr i))<=(range ws.length).length:=countP_le_length;rw[length_range]at hle;have he:(range ws.length).countP (fun i=>dead ws ws.length (ltr i))=(range ws.length).length:=by
   rw[length_range];unfold Ui at h;omega
  exact(List.countP_eq_length.1 he) i (List.mem_range.2 hi)
 ·have hall:∀ d i,i<ws.length->dead ws (q+d) (ltr i)=true->dead ws q (ltr i)=true:=by
   intro d
   induction d with
   | zero=>intro i _ h;exact h
   | succ d ih=>
    intro i hi h;refine hst i hi ?_;have h:(ws.getD ((ltr i).toNat-97) []).all (dead ws (q+d))=true:=h;show (ws.getD ((ltr i).toNat-97) []).all (dead ws q)=true;rw[all_eq_true]at h ⊢;intro c hc;have hlt:Lt ws (ws.getD ((ltr i).toNat-97) []):=by
     have e:(ltr i).toNat-97<ws.length:=by rw[gE (by omega)];omega
     rw[gDe,gEl e];exact yM (aZ (bL hm (getElem_mem e)).2.1) (bL hm (getElem_mem e)).2.2
    have hl:=hlt c hc;rw[<-lX hl];exact ih _ hl.2 (by rw[lX hl];exact h c hc)
  intro r i hi h;refine Dp ws (Nat.le_of_lt hq) ?_;by_cases hr:r<=q
  ·exact Dp ws hr h
  ·exact hall (r-q) i hi (by rw[show q+(r-q)=r by omega];exact h)
theorem tM(ws:List B8):∀ a b:B8,aQ ws (a++b)=aQ ws a++aQ ws b
 | [],b=>by rw[eR];rfl
 | x::a,b=>by rw[cons_append,eG,eG,tM ws a b,append_assoc]
theorem zP(ws:List B8)(a b:B8):∀ j,itr ws j (a++b)=itr ws j a++itr ws j b
 | 0=>rfl
 | j+1=>by
  show aQ ws (itr ws j (a++b))=_;rw[zP ws a b j,tM];rfl
theorem Ca(ws:List B8)(w:B8):∀ j,itr ws j (aQ ws w)=itr ws (j+1) w
 | 0=>rfl
 | j+1=>by
  show aQ ws (itr ws j (aQ ws w))=_;rw[Ca ws w j];rfl
def kT(ws:List B8)(x:B8)(n:Nat):B8:=((range n).filter fun i=>decide (ltr i∈aQ ws x)).map ltr
theorem I2(ws:List B8)(x:B8)(n:Nat):kT ws x (n+1)=kT ws x n++if ltr n∈aQ ws x then [ltr n] else []:=by
 unfold kT;rw[range_succ,filter_append,map_append]
 congr 1
 by_cases h:ltr n∈aQ ws x<;>simp[h]
theorem Cv(ws:List B8)(x:B8)(n:Nat):(kT ws x n).length<=n:=by
 unfold kT;rw[length_map];have:=length_filter_le (fun i=>decide (ltr i∈aQ ws x)) (range n);rw[length_range]at this;exact this
def ub(ws:List B8):Nat->B8->B8
 | 0,w=>w
 | r+1,w=>kT ws (ub ws r w) ws.length
theorem Qi{ws:List B8}(h5:ws.length<=5)(x:B8){n:Nat}(hn:n<=ws.length):Lt ws (kT ws x n):=by
 intro u hu;obtain⟨i,hi,rfl⟩:=List.mem_map.1 hu;have:=List.mem_range.1 (List.mem_filter.1 hi).1;rw[gE (by omega)];omega
theorem Mv{ws:List B8}(x:B8)(hx:Lt ws (aQ ws x))(p:UInt8->Bool):(kT ws x ws.length).all p=(aQ ws x).all p:=by
 rw[Bool.eq_iff_iff,all_eq_true,all_eq_true];constructor
 ·intro h c hc;have hl:=hx c hc;refine h c (List.mem_map.2 ⟨c.toNat-97,List.mem_filter.2 ⟨List.mem_range.2 hl.2,?_⟩,lX hl⟩);rw[lX hl];exact decide_eq_true hc
 ·intro h c hc;obtain⟨i,hi,rfl⟩:=List.mem_map.1 hc;exact h _ (of_decide_eq_true (List.mem_filter.1 hi).2)
theorem LJ{ws:List B8}(hm:aY ws=true){w:B8}(hw:Lt ws w):∀ r,Lt ws (ub ws r w)
 | 0=>hw
 | r+1=>Qi (aV hm).2 _ (lRf _)
theorem PY{ws:List B8}(hm:aY ws=true){w:B8}(hw:w.length<=60):∀ r,(ub ws r w).length<=60
 | 0=>hw
 | r+1=>by
  have:=Cv ws (ub ws r w) ws.length;have:=(aV hm).2;show (kT ws (ub ws r w) ws.length).length<=60;omega
theorem GL{ws:List B8}(hm:aY ws=true){w:B8}(hw:Lt ws w):∀ r s,(ub ws r w).all (dead ws s)=w.all (dead ws (s+r))
 | 0,s=>rfl
 | r+1,s=>by
  show (kT ws (ub ws r w) ws.length).all (dead ws s)=_;rw[Mv _ (Kj hm (LJ hm hw r)),yw,GL hm hw r (s+1),Nat.add_right_comm];rfl
theorem Q5{ws:List B8}(hm:aY ws=true){w:B8}(hw:Lt ws w)(r:Nat):(ub ws r w).isEmpty=w.all (dead ws r):=by
 rw[<-B7 ws,GL hm hw,Nat.zero_add]
def Snd(ws:List B8)(out:List Bool):Prop:=∀ i,i<ws.length->out[i]?=some true->dead ws (out.count true) (ltr i)=true
def mtB(ws:List B8)(out:List Bool)(i:Nat):Bool:=(ws.getD i []).all fun c=>out.getD (c.toNat-97) false
def Cls(ws:List B8)(out:List Bool)(i:Nat):Prop:=mtB ws out i=true->out[i]?=some true
theorem Fb{ws:List B8}(hm:aY ws=true)(r:Nat){i:Nat}(hi:i<ws.length):dead ws (r+1) (ltr i)=(ws.getD i []).all (dead ws r):=by
 have h5:=aV hm;show (ws.getD ((ltr i).toNat-97) []).all (dead ws r)=_;rw[gE (by omega),show 97+i-97=i by omega]
theorem vw{ws:List B8}(hm:aY ws=true){i:Nat}(hi:i<ws.length):Lt ws (ws.getD i []):=by
 rw[gDe,gEl hi];exact yM (aZ (bL hm (getElem_mem hi)).2.1) (bL hm (getElem_mem hi)).2.2
theorem count_set{out:List Bool}{i:Nat}(h:out[i]?=some false):(out.set i true).count true=out.count true+1:=by
 induction out generalizing i with
 | nil=>cases h
 | cons a l ih=>
  cases i with
  | zero=>
   have:a=false:=by simpa using h
   subst this;simp
  | succ i=>
   rw[set_cons_succ,count_cons,count_cons,ih (by simpa using h)];omega
theorem RM{ws:List B8}(hm:aY ws=true){out:List Bool}(h:Snd ws out){i:Nat}(hi:i<ws.length)(hf:out[i]?=some false)(hmt:mtB ws out i=true):Snd ws (out.set i true):=by
 intro j hj hoj;rw[count_set hf];by_cases e:i=j
 ·subst e;rw[Fb hm _ hi,all_eq_true];unfold mtB at hmt;rw[all_eq_true]at hmt;intro c hc;have hl:=vw hm hi c hc;have:=hmt c hc;rw[<-lX hl];refine h _ hl.2 ?_;rw[gDe]at this;cases ho:out[c.toNat-97]? with
  | none=>rw[ho]at this;cases this
  | some b=>rw[ho]at this;exact congrArg some this
 ·rw[getElem?_set_ne e]at hoj;exact xP ws _ _ (h j hj hoj)
theorem Qx{ws:List B8}(hm:aY ws=true){out:List Bool}(hl:out.length=ws.length)(h:Snd ws out)(hc:∀ i,i<ws.length->Cls ws out i):∀ i,i<ws.length->out[i]?=some (dead ws ws.length (ltr i)):=by
 have hle:out.count true<=ws.length:=by rw[<-hl];exact count_le_length
 have hall:∀ r i,i<ws.length->dead ws r (ltr i)=true->out[i]?=some true:=by
  intro r
  induction r with
  | zero=>intro i _ h;cases h
  | succ r ih=>
   intro i hi hd;rw[Fb hm _ hi,all_eq_true]at hd;refine hc i hi ?_;unfold mtB;rw[all_eq_true];intro c hcm;have hlt:=vw hm hi c hcm;have:=ih _ hlt.2 (by rw[lX hlt];exact hd c hcm);rw[gDe,this];rfl
 intro i hi;have hi':i<out.length:=by omega
 rw[gEl hi']
 congr 1
 cases hd:dead ws ws.length (ltr i) with
 | true=>
  have:=hall _ i hi hd;rw[gEl hi']at this;exact Option.some.inj this
 | false=>
  cases ho:out[i] with
  | false=>rfl
  | true=>
   have:=Dp ws hle (h i hi (by rw[gEl hi',ho]));rw[hd]at this;cases this
theorem H0{ws:List B8}(hm:aY ws=true){a:Nat}{u:B8}(ha:a<ws.length)(hu:ws.getD a []=ltr a::u)(hd:u.all (dead ws ws.length)=false)(j:Nat):(itr ws j [ltr a]).length<(itr ws (j+1) [ltr a]).length:=by
 have h5:=aV hm;have e1:aQ ws [ltr a]=[ltr a]++u:=by
  rw[eG,eR,append_nil,gE (by omega),show 97+a-97=a by omega,hu];rfl
 rw[<-Ca,e1,zP,lAp];have hne:(itr ws j u).isEmpty=false:=by
  rw[SC];cases hq:u.all (dead ws j) with
  | false=>rfl
  | true=>
   have hul:Lt ws u:=fun c hc=>vw hm ha c (by rw[hu];exact mem_cons_of_mem _ hc);have:u.all (dead ws ws.length)=true:=by
    rw[all_eq_true]at hq ⊢;intro c hc;have hl:=hul c hc;rw[<-lX hl];exact PM hm j _ hl.2 (by rw[lX hl];exact hq c hc)
   rw[hd]at this;cases this
 cases hq:itr ws j u with
 | nil=>rw[hq]at hne;cases hne
 | cons x l=>simp
theorem JM{ws:List B8}(hm:aY ws=true){w:B8}(hw:Lt ws w):∀ j,Lt ws (itr ws j w)
 | 0=>hw
 | j+1=>Kj hm (JM hm hw j)
end Go.Proofs.YtapimhjbilkfpaaGreatDoor
namespace Go.Proofs.YtapimhjbilkfpaaGreatDoor
open Go Go.Proofs.Tryz Go.RowKit List
theorem ME(s:B8)(c:UInt8):decide (0<=Lib.indexByte s c)=decide (c∈s):=by
 have hge:=Lib.indexByte_ge s c;by_cases h:Lib.indexByte s c = -1
 ·have hn:¬ c∈s:=fun hm=>by
   obtain⟨k,hk,he⟩:=List.mem_iff_getElem.1 hm;exact Lib.indexByte_none h k (by rw[gEl hk,he])
  rw[h,decide_eq_false hn];rfl
 ·obtain⟨o,ho⟩:∃ o:Nat,Lib.indexByte s c=o:=⟨(Lib.indexByte s c).toNat,by omega⟩;have hm:=mem_of_getElem? (Lib.indexByte_some ho).1;rw[decide_eq_true hm,ho];exact decide_eq_true (by omega)
theorem zg(s:B8)(c:UInt8)(M:Mem)(R:VP)(h:R (.bool (decide (c∈s))) M):ar prog 353 [str s,str [c]] M R:=by
 refine dt (.bool (decide (c∈s))) ⟨_,func353,by kernel_rfl,by kernel_rfl⟩ (fun w hw=>?_) h;refine(Tryz.strings_Contains_one ⟨⟨s⟩⟩ c w).mono fun e w' ⟨h1,h2⟩=>⟨?_,by rw[h2];exact Below.refl _ _⟩;rw[h1,<-ME]
theorem yz(s p:B8)(M:Mem)(R:VP)(h:R (.tuple #[str (Lib.trimPrefix s p),.bool (Lib.hasPrefix s p)]) M):ar prog 255 [str s,str p] M R:=by
 refine dt (.tuple #[str (Lib.trimPrefix s p),.bool (Lib.hasPrefix s p)]) ⟨_,func255,by kernel_rfl,by kernel_rfl⟩ (fun w hw=>?_) h;refine(Tryz.strings_CutPrefix ⟨⟨s⟩⟩ ⟨⟨p⟩⟩ w).mono fun e w' ⟨h1,h2⟩=>⟨?_,by rw[h2];exact Below.refl _ _⟩;rw[h1];rfl
theorem AR(v:Value)(ws:List B8)(w:B8)(M:Mem)(R:VP)(hv:Rd M v (strs ws))(hm:aY ws=true)(hl:w.length<=60)(hlt:Lt ws w)(h:R (.bool (w.all (dead ws ws.length))) M):ar prog 256 [.agg #[v],str w] M R:=by
 have h15:=aV hm;refine fnS func256 rfl ntmps256 results256 ?_;obtain⟨a,c,rfl,ha⟩:=hv.opened;rw[ah]at hv ⊢;simp(disch:=omega);intro b1 hb1;have hs1:Sub M (M.put b1 (.cells true [.slice a ws.length c] 1)):=(Sub.refl M).put hb1 _;have hv1:=hv.put hb1 (.cells true [.slice a ws.length c] 1);have k1:(M.put b1 (.cells true [.slice a ws.length c] 1)) b1=some (.cells true [.slice a ws.length c] 1):=ag _ _ _;simp(disch:=omega);generalize M.put b1 (.cells true [.slice a ws.length c] 1)=N at *;refine ef _ ws _ _ hv1 (by omega) ?_;simp(disch:=omega);refine aP aR (rlA [5,6,7] 11 20) (fun r:Nat=>[(11,.int .i64 r),(5,str (ub ws r w))]) (fun r M'=>r<=ws.length/\M'=N) (fun r=>ws.length-r) 0 (by kernel_rfl) (by simp(disch:=omega);rfl) ⟨lZe _,rfl⟩ ?_
 rintro r M' g ⟨hr,rfl⟩
 by_cases hlt1:r<ws.length
 ·have hkl:=PY hm hl r;have hkt:=LJ hm hlt r;have hks:ub ws (r+1) w=kT ws (ub ws r w) ws.length:=rfl;generalize ub ws r w=x at *;simp(disch:=omega)[aq k1];refine ef _ ws _ _ hv1 (by omega) ?_;simp(disch:=omega);refine aP aR (rlA [6,7] 15 14) (fun i:Nat=>[(15,.int .i64 i),(6,str (kT ws x i))]) (fun i M1=>i<=ws.length/\M1=M') (fun i=>ws.length-i) 0 (by kernel_rfl) (by simp(disch:=omega);rfl) ⟨lZe _,rfl⟩ ?_
  rintro i M1 g1 ⟨hi,rfl⟩
  by_cases hlt2:i<ws.length
  ·have hps:=I2 ws x i;have hpl:=Cv ws x i;generalize kT ws x i=y at *;simp(disch:=omega)[aq k1];refine lY _ ws x _ _ hv1 hm hkl hkt ?_;simp(disch:=omega);refine cS i _ _ (by omega) ?_;simp(disch:=omega);refine zg _ _ _ _ ?_;by_cases hc:ltr i∈aQ ws x
   ·rw[if_pos hc]at hps;rw[decide_eq_true hc];simp(disch:=omega);refine cS i _ _ (by omega) ?_;simp(disch:=omega);exact rndA (i+1) (by simp(disch:=omega)[hps]) ⟨by omega,rfl⟩
   ·rw[if_neg hc,append_nil]at hps;rw[decide_eq_false hc];simp(disch:=omega);exact rndA (i+1) (by simp(disch:=omega)[hps]) ⟨by omega,rfl⟩
  ·have hi':i=ws.length:=by omega
   subst hi';rw[<-hks];simp(disch:=omega);exact rndS (r+1) ⟨by omega,rfl⟩
 ·have hr':r=ws.length:=by omega
  subst hr';have he:=Q5 hm hlt ws.length;rw[<-he]at h;generalize ub ws ws.length w=x at *;cases x with
  | nil=>simp(disch:=omega);exact ae hs1 h
  | cons y l=>simp(disch:=omega);exact ae hs1 h
theorem Dy(a b c:Nat)(M:Mem)(R:VP)(ha:a<=4)(hM:M b=some (.cells true [.int .i64 a] c))(h:R (str [ltr a]) M):ar prog 254 [.slice (some ⟨b,0,none⟩) 1 c] M R:=by
 refine fnS func254 rfl ntmps254 results254 ?_;simp(disch:=omega);refine lupS (rlA [3,5] 8 9) (fun i:Nat=>[(8,.int .i64 i),(3,str (([ltr a]:B8).take i))]) (fun i M'=>i<=1/\M'=M) (fun i=>1-i) 0 ⟨lZe _,rfl⟩ ?_
 rintro i M' g ⟨hi,rfl⟩
 by_cases hlt:i<1
 ·have hi0:i=0:=by omega
  subst hi0;simp(disch:=omega)[al hM];refine cS a _ _ ha ?_;simp(disch:=omega);exact rndS 1 ⟨by omega,rfl⟩
 ·have hi':i=1:=by omega
  subst hi';simp(disch:=omega);exact ad h
theorem wW(ws:List B8)(x:Value)(a k:Int)(b3 b4 b5:Nat)(K:Mem)(R:VP)(hv:Rd K x (strs ws))(hn:ws.length<=1099511627776)(k3:K b3=some (.cells true [x] 1))(k4:K b4=some (.cells true [.int .i64 a] 1))(k5:K b5=some (.cells true [.int .i64 k] 1))
  (h:R (.bool (decide (0<=a/\a<=ws.length-1)&&decide (0<=k/\k<=60))) K):ar prog 253 [.pointer (some ⟨b4,0,none⟩),.pointer (some ⟨b3,0,none⟩),.pointer (some ⟨b5,0,none⟩)] K R:=by
 refine fnS func253 rfl ntmps253 results253 ?_;simp(disch:=omega);refine drwS ?_;simp(disch:=omega)[al k4,aq k3];refine aU (a:=[]) (c:=[]) (ef x ws _ _ hv hn ⟨rfl,rfl⟩) ?_;simp(disch:=omega);refine aU (a:=[]) (c:=[]) (bF _ _ _ _ _ ⟨rfl,rfl⟩) ?_;cases h1:decide (0<=a/\a<=(ws.length:Int)-1)
 ·rw[h1,Bool.false_and]at h;simp(disch:=omega);exact ad h
 ·rw[h1,Bool.true_and]at h;simp(disch:=omega)[al k5];refine aU (a:=[]) (c:=[]) (pR _ _ _ ⟨rfl,rfl⟩) ?_;simp(disch:=omega);exact ad (by simpa using h)
def grF(ws:List B8)(n:Nat):Nat->B8->B8
 | 0,x=>x.take n
 | f+1,x=>if x.length<n then grF ws n f (aQ ws x) else x.take n
theorem Lm{ws:List B8}{n f:Nat}{x:B8}(h:¬ x.length<n):grF ws n f x=x.take n:=by
 cases f with
 | zero=>rfl
 | succ f=>exact if_neg h
def JG(ws:List B8)(a:Nat):Bool:=match ws.getD a [] with
 | []=>false
 | x::u=>x==ltr a && !u.all (dead ws ws.length)
def grT(ws:List B8)(a n:Int):B8:=if fM ws a n 60=0 then (if JG ws a.toNat then grF ws n.toNat n.toNat [ltr a.toNat] else []) else []
def grC(ws:List B8)(a n:Int):Int:=if fM ws a n 60=0 then (if JG ws a.toNat then 0 else 5) else fM ws a n 60
theorem z8(v:Value)(ws:List B8)(a n:Int)(M:Mem)(R:VP)(hv:Rd M v (strs ws))(hf:cP ws)(hn:ws.length<=1099511627776)(h:R (aE (str (grT ws a n)) (grC ws a n)) M):ar prog 166 [.agg #[v],.int .i64 a,.int .i64 n] M R:=by
 refine fnS func166 rfl ntmps166 results166 ?_;obtain⟨aa,c,rfl,ha⟩:=hv.opened;rw[ah]at ha hv ⊢;simp(disch:=omega);intro b3 hb3;simp(disch:=omega);intro b4 hb4;simp(disch:=omega);intro b5 hb5;have n4:=hb4;have n5:=hb5;rw[aA]at n4;rw[aA,aA]at n5;have hs5:Sub M (((M.put b3 (.cells true [.slice aa ws.length c] 1)).put b4 (.cells true [.int .i64 a] 1)).put b5 (.cells true [.int .i64 n] 1)):=(((Sub.refl M).put hb3 _).putN hb4 _).putN hb5 _;have k3:(((M.put b3 (.cells true [.slice aa ws.length c] 1)).put b4 (.cells true [.int .i64 a] 1)).put b5 (.cells true [.int .i64 n] 1)) b3=some (.cells true [.slice aa ws.length c] 1):=by rw[ai _ _ (Ne.symm n5.2.1),ai _ _ (Ne.symm n4.1),ag]
 have k4:(((M.put b3 (.cells true [.slice aa ws.length c] 1)).put b4 (.cells true [.int .i64 a] 1)).put b5 (.cells true [.int .i64 n] 1)) b4=some (.cells true [.int .i64 a] 1):=by rw[ai _ _ (Ne.symm n5.1),ag]
 have k5:(((M.put b3 (.cells true [.slice aa ws.length c] 1)).put b4 (.cells true [.int .i64 a] 1)).put b5 (.cells true [.int .i64 n] 1)) b5=some (.cells true [.int .i64 n] 1):=ag _ _ _;simp(disch:=omega);generalize (((M.put b3 (.cells true [.slice aa ws.length c] 1)).put b4 (.cells true [.int .i64 a] 1)).put b5 (.cells true [.int .i64 n] 1))=N1 at *;have hv1:=hv.sub hs5;refine dq _ _ _ ws [] (decide (0<=a/\a<=(ws.length:Int)-1)&&decide (0<=n/\n<=60)) (fun M'=>Sub N1 M') _ _ hv1 hf hn (JO N1) Qe (by simp) rfl (Sub.refl _) (fun M b B q hb=>q.putN hb B) ?_ ?_
 ·intro K R' q hR';simp(disch:=omega);exact wW ws _ a n b3 b4 b5 K R' (hv1.sub q) hn (q _ _ k3) (q _ _ k4) (q _ _ k5) hR'
 ·rw[GU];unfold grT grC at h;by_cases h0:fM ws a n 60=0
  ·obtain⟨hm,ha0,ha1,hk0,hk1⟩:=gF h0;rw[if_pos h0,if_pos h0]at h;rw[h0];have h15:=aV hm;obtain⟨a,rfl⟩:∃ m:Nat,a=m:=⟨a.toNat,by omega⟩;obtain⟨n,rfl⟩:∃ m:Nat,n=m:=⟨n.toNat,by omega⟩;rw[Int.toNat_natCast,Int.toNat_natCast]at h;have hal:a<ws.length:=by omega
   rcases ha with hz|⟨b,o,rfl,ha⟩
   ·omega
   have hg:=ha a hal;rw[ba,gEl hal]at hg;have hgr:ws.getD a []=ws[a]:=by rw[gDe,gEl hal];rfl
   rw[<-hgr]at hg;have hg1:N1.get? b (o+a)=some (str (ws.getD a [])):=aX hg hs5;have hrl:=vw hm hal;have hrow12:(ws.getD a []).length<=12:=by rw[hgr];exact(bL hm (getElem_mem hal)).1
   have hgrow:=fun u hu hd=>H0 (u:=u) hm hal hu hd;have hok:JG ws a=match ws.getD a [] with
    | []=>false
    | x::u=>x==ltr a && !u.all (dead ws ws.length):=rfl
   obtain⟨row,hrow⟩:∃ row,row=ws.getD a []:=⟨_,rfl⟩;rw[<-hrow]at hg1 hrl hrow12 hok;simp(disch:=omega)[al k4];intro b6 hb6;simp(disch:=omega);have s6:=(Sub.refl N1).put hb6 (.cells true [.int .i64 a] 1);refine Dy a b6 1 _ _ (by omega) (ag _ _ _) ?_;have j3:=s6 _ _ k3;have j4:=s6 _ _ k4;have j5:=s6 _ _ k5;have hg6:=aX hg1 s6;have hv6:=hv1.sub s6;have hs6:=hs5.trans s6;generalize N1.put b6 (.cells true [.int .i64 a] 1)=N6 at *;simp(disch:=omega)[al j3,al j4,hg6];refine yz _ _ _ _ ?_;cases row with
   | nil=>
    rw[hok]at h;have e1:Lib.hasPrefix [] [ltr a]=false:=rfl;simp(disch:=omega)[e1];exact ae hs6 h
   | cons x u=>
    have e1:Lib.hasPrefix (x::u) [ltr a]=(ltr a==x):=by simp[Lib.hasPrefix,isPrefixOf]
    by_cases hx:x=ltr a
    ·subst hx;have e2:Lib.trimPrefix (ltr a::u) [ltr a]=u:=by simp[Lib.trimPrefix,Lib.hasPrefix]
     rw[beq_self_eq_true]at e1;rw[e1,e2];simp only[beq_self_eq_true,Bool.true_and]at hok;simp(disch:=omega)[aq j3];refine AR _ ws u _ _ hv6 hm (by simp only[length_cons]at hrow12;omega) (fun c hc=>hrl c (mem_cons_of_mem _ hc)) ?_;cases hd:u.all (dead ws ws.length) with
     | true=>
      rw[hok,hd]at h;simp(disch:=omega);exact ae hs6 h
     | false=>
      rw[hok,hd]at h;simp only[Bool.not_false,if_true]at h;have hgl:=hgrow u hrow.symm hd;simp(disch:=omega);refine lupS (rlA [9] 38 7) (fun x:B8=>[(9,str x)]) (fun x M'=>M'=N6/\x.length<=720/\∃ j f,x=itr ws j [ltr a]/\n<=x.length+f/\grF ws n f x=grF ws n n [ltr a]) (fun x=>n-x.length) [ltr a] ⟨rfl,by simp,0,n,rfl,by omega,rfl⟩ ?_
      rintro x M' g ⟨rfl,hxl,j,f,hx,hnf,he⟩
      have hxt:Lt ws x:=by
       rw[hx];exact JM hm (fun c hc=>by rw[List.mem_singleton.1 hc,gE (by omega)];omega) j
      have hlj:=hgl j;have hnx:aQ ws x=itr ws (j+1) [ltr a]:=by rw[hx];rfl
      rw[<-hnx,<-hx]at hlj;simp(disch:=omega);refine drwS ?_;simp(disch:=omega);refine aU (a:=[]) (c:=[]) (bY _ _ _ (by omega) ⟨rfl,rfl⟩) ?_;by_cases hlt:x.length<n
      ·obtain⟨f,rfl⟩:∃ f',f=f'+1:=⟨f-1,by omega⟩;have he2:grF ws n (f+1) x=grF ws n f (aQ ws x):=if_pos hlt;have hil:=iN hm hxt;simp(disch:=omega)[aq j3,al j5];refine lY _ ws x _ _ hv6 hm (by omega) hxt ?_;simp(disch:=omega);exact rndS (aQ ws x) ⟨rfl,by omega,⟨j+1,hnx⟩,f,by omega,by rw[<-he2];exact he⟩
      ·rw[Lm hlt]at he;rw[<-he]at h;simp(disch:=omega)[al j5];exact ae hs6 h
    ·have e0:(ltr a==x)=false:=bNe.2 (Ne.symm hx);have e4:(x==ltr a)=false:=bNe.2 hx;rw[e0]at e1;simp only[e4,Bool.false_and]at hok;rw[hok]at h;generalize Lib.trimPrefix (x::u) [ltr a]=tp;simp(disch:=omega)[e1];exact ae hs6 h
  ·rw[if_neg h0,if_neg h0]at h;have hb:(fM ws a n 60==0)=false:=bNe.2 h0;generalize fM ws a n 60=code at *;simp(disch:=omega)[hb];exact ae hs5 h
end Go.Proofs.YtapimhjbilkfpaaGreatDoor
