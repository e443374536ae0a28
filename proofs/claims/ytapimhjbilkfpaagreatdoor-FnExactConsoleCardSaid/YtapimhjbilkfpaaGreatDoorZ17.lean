/- Lemmas for FnExactConsole, part 18 of 46. -/
import Derived.Test.YtapimhjbilkfpaaGreatDoorZ10
import Derived.Test.YtapimhjbilkfpaaGreatDoorZ06
import Derived.Test.YtapimhjbilkfpaaGreatDoorZ03
import Derived.Test.YtapimhjbilkfpaaGreatDoorZ04
import Derived.Test.YtapimhjbilkfpaaGreatDoorZ12
set_option linter.unusedVariables false
set_option linter.unusedSimpArgs false
namespace Go.Proofs.YtapimhjbilkfpaaGreatDoor
open Go Go.Proofs.Tryz List
def js(m:Nat)(w:List UInt8):List Int:=(counts w).take m
def vH(ws:List (List UInt8)):List (List Int):=ws.map (js ws.length)
theorem va{m:Nat}(h:m<=5)(w:List UInt8):(js m w).length=m:=by unfold js;rw[length_take,dT];omega
theorem fy(ws:List (List UInt8)):(vH ws).length=ws.length:=by simp[vH]
theorem Cw(m:Nat)(w:List UInt8):ints (counts w)=ints (js m w)++ints ((counts w).drop m):=by rw[F7,js,take_append_drop]
theorem FX{ws:List (List UInt8)}{i:Nat}(h:i<ws.length):(vH ws)[i]'(by rw[fy];exact h)=js ws.length ws[i]:=by simp[vH]
theorem KJ{ws:List (List UInt8)}{i:Nat}(h:i<ws.length):(vH ws).take (i+1)=(vH ws).take i++[js ws.length ws[i]]:=by rw[az (vH ws) (by rw[fy];exact h),FX h]
theorem M9(m:Nat)(h:m<=5):js m []=replicate m 0:=by
 unfold js;rw[G6];have:m=0\/m=1\/m=2\/m=3\/m=4\/m=5:=by omega
 rcases this with rfl|rfl|rfl|rfl|rfl|rfl<;>rfl
theorem KP(m:Nat)(l:List UInt8)(u:UInt8)(h:isL u=true):js m (l++[u])=(js m l).set (u.toNat-97) (cnt l (u.toNat-97)+1):=by
 unfold js;rw[np l u h,take_set]
theorem Oa(m:Nat)(l:List UInt8){k:Nat}(hk:k<m)(h5:k<5):(js m l)[k]?=some (cnt l k):=by
 unfold js;rw[getElem?_take_of_lt hk,qv l h5]
theorem Mz(v:Value)(ws:List (List UInt8))(i:Nat)(M:Mem)(R:VP)(hv:Rd M v (strs ws))(hm:aW ws=true)(hi:i<ws.length)
  (h:∀ b c M',M b=none->M'=M.put b (.cells true (ints (counts ws[i])) c)->R (.slice (some ⟨b,0,none⟩) ws.length ws.length) M'):ar prog 262 [.agg #[v],.int .i64 i] M R:=by
 refine fnS func262 rfl ntmps262 results262 ?_;obtain⟨a,c,rfl,ha⟩:=hv.opened;have h15:=aX hm;rw[ah]at ha hv ⊢;simp(disch:=omega);intro b1 hb1;have hs1:Sub M (M.put b1 (.cells true [.slice a ws.length c] 1)):=(Sub.refl M).put hb1 _;have k1:(M.put b1 (.cells true [.slice a ws.length c] 1)) b1=some (.cells true [.slice a ws.length c] 1):=ag _ _ _;rcases ha with h0|⟨b,o,rfl,ha⟩
 ·omega
 have hg0:=ha i hi;rw[bg,getElem?_eq_getElem hi]at hg0;have hg:=aT hg0 hs1;obtain⟨w,hw⟩:∃ w,w=ws[i]:=⟨_,rfl⟩;rw[<-hw]at hg h;have hwo:=bL hm (getElem_mem hi);rw[<-hw]at hwo;simp(disch:=omega);generalize M.put b1 (.cells true [.slice (some ⟨b,o,none⟩) ws.length c] 1)=N at *;refine plyS (ak [0,1,2,3,4,6,7,8,9,10,11] (.one 5 1 (ak [12,13] .fin))) ?_;simp(disch:=omega)[aj k1,hg];refine iS w _ _ (by omega) (aV hwo.2.1) ?_;intro v2 N2 o2;obtain⟨M2,o3,s3⟩:=o2.base hs1;have hs2:=o2.sub;rcases o3 with ⟨_,h0,_⟩|⟨b2,c2,rfl,hb2,hc2,rfl⟩
 ·have:=congrArg length h0;rw[ay,dT]at this;simp at this
 rw[ay,dT]at hc2 ⊢;simp(disch:=omega);refine⟨hs2,?_⟩;exact ae s3 (h b2 c2 _ hb2 rfl)
theorem mv(v:Value)(ws:List (List UInt8))(M:Mem)(R:VP)(hv:Rd M v (strs ws))(hm:aW ws=true)
  (h:∀ v rs N M',ck M rs (vH ws) N->Own N v rs M'->R v M'):ar prog 201 [.agg #[v]] M R:=by
 refine fnS func201 rfl ntmps201 results201 ?_;obtain⟨a,c,rfl,ha⟩:=hv.opened;have h15:=aX hm;rw[ah]at ha hv ⊢;simp(disch:=omega);intro b1 hb1;have hs1:Sub M (M.put b1 (.cells true [.slice a ws.length c] 1)):=(Sub.refl M).put hb1 _;have k1:(M.put b1 (.cells true [.slice a ws.length c] 1)) b1=some (.cells true [.slice a ws.length c] 1):=ag _ _ _;rcases ha with h0|⟨b,o,rfl,ha⟩
 ·omega
 simp(disch:=omega);generalize M.put b1 (.cells true [.slice (some ⟨b,o,none⟩) ws.length c] 1)=N1 at *;intro b0 hb0;simp(disch:=omega);refine lupS [3,4,5,6,8,9,10,11,12,13,14,15,16,17,18,19,20,21,22,23,24,25,26,27,28,29,30,31,32,33,34,35,36,37,38,39,40,41,42,43,44,45] (fun x:Nat×List Value×Value=>[(4,.int .i64 x.1),(3,x.2.2)]) (fun x M'=>x.1<=ws.length/\∃ N,ck N1 x.2.1 ((vH ws).take x.1) N/\Own N x.2.2 x.2.1 M') (fun x=>ws.length-x.1) (0,[],.slice (some ⟨b0,0,none⟩) 0 0) ⟨by simp,N1,.nil,Own.new hb0 rfl (Nat.le_refl 0)⟩ ?_
 rintro⟨i,rs,v3⟩ M' g ⟨hi,N,hr,ho⟩
 simp only at hi hr ho;have hrl:=hr.len;rw[length_take,fy]at hrl;have s1:=hr.sub.trans ho.sub;have k2:=s1 _ _ k1;by_cases hlt:i<ws.length
 ·have hg0:=ha i hlt;rw[bg,getElem?_eq_getElem hlt]at hg0;have hg:=aT hg0 (hs1.trans s1);have hwo:=bL hm (getElem_mem hlt);have hsn:=KJ hlt;obtain⟨w,hw⟩:∃ w,w=ws[i]:=⟨_,rfl⟩;rw[<-hw]at hg hwo hsn;have hL:=xx (aV hwo.2.1) hwo.2.2;simp(disch:=omega)[aj k2];intro b5 hb5;have hne:b1≠b5:=by rintro rfl;rw[hb5]at k2;cases k2
  have hneb:b≠b5:=by rintro rfl;unfold Mem.get? at hg;rw[hb5]at hg;cases hg
  simp(disch:=omega);refine lupS [6,19,20,21,22,23,24,25,26,27,28,29,30,31,32,33,34,35,36,37,38,39,40,41] (fun q:Nat=>[(6,.int .i64 q)]) (fun q M1=>q<=w.length/\M1=M'.put b5 (.cells true (ints (js ws.length (w.take q))) ws.length)) (fun q=>w.length-q) 0 ⟨by omega,by rw[take_zero,M9 _ h15.2,ES]⟩ ?_
  rintro q M1 g1 ⟨hq,rfl⟩
  have hrw:=va (m:=ws.length) (by omega) (w.take q);by_cases hql:q<w.length
  ·have hx:w[q]?=some w[q]:=getElem?_eq_getElem hql;have hLq:=hL _ (getElem_mem hql);have hlq:=List.all_eq_true.1 (aV hwo.2.1) _ (getElem_mem hql);have hr5:=dS hlq;have hk:((w[q].toNat:Int)-97).toNat=w[q].toNat-97:=by omega
   have hget:=Oa ws.length (w.take q) (k:=w[q].toNat-97) hLq.2 (by omega);have hset:=KP ws.length (w.take q) w[q] hlq;rw[<-az w hql]at hset;have hcl:=DV (w.take q) (w[q].toNat-97);rw[length_take]at hcl;obtain⟨kk,hkk⟩:∃ kk,kk=w[q].toNat-97:=⟨_,rfl⟩;have hkl:kk<ws.length:=by rw[hkk];exact hLq.2
   rw[<-hkk]at hk hget hset hcl;have hgi:(ints (js ws.length (w.take q)))[kk]?=some (.int .i64 (cnt (w.take q) kk)):=by rw[cJ,hget];rfl
   simp(disch:=omega)[aj k2,hg,hk,hgi,ints_set,hrw];refine rndS (q+1) ⟨by omega,?_⟩;rw[hset]
  ·have hq':q=w.length:=by omega
   subst hq';rw[take_length]at hrw ⊢;have hr2:=hr.more (c:=ws.length) ws.length [] (bM ho.sub hb5) (r:=js ws.length w) (by omega);rw[append_nil,hrw]at hr2;have ho2:=ho.push hb5 (.cells true (ints (js ws.length w)) ws.length);simp(disch:=omega)[aj k2,hg];intro b3 hb3;simp(disch:=omega);refine aN ho2 ((Sub.refl _).put hb3 _) (by simp(disch:=omega);rfl) rfl rfl (by omega) (by simp(disch:=omega)) (by simp(disch:=omega);omega) ?_;intro v4 M4 N4 o4 s4;simp(disch:=omega);refine rndM M4 (i+1,_,v4) s4 ⟨by simp only;omega,_,?_,o4⟩;simp only;rw[hsn];exact hr2
 ·have hi':i=ws.length:=by omega
  subst hi';rw[take_of_length_le (by rw[fy];omega)]at hr;simp(disch:=omega)[aj k2];obtain⟨N5,M5,r5,o5,s5⟩:=Qg hr ho hs1;exact ae s5 (h v3 rs N5 M5 r5 o5)
def mS(acc:List Nat)(n:Nat)(row:List Nat):List Nat:=zipWith (fun a t=>a+n*t) acc row
def kG(acc:List Nat)(n:Nat)(row:List Nat)(j:Nat):List Nat:=(mS acc n row).take j++acc.drop j
theorem fH{acc row:List Nat}(n:Nat)(h:acc.length=row.length):(mS acc n row).length=acc.length:=by simp[mS,h]
theorem KQ{acc row:List Nat}{n j:Nat}(h1:j<acc.length)(h2:j<row.length):(mS acc n row)[j]?=some (acc[j]+n*row[j]):=by
 unfold mS;rw[getElem?_zipWith,getElem?_eq_getElem h1,getElem?_eq_getElem h2]
theorem Bh(acc:List Nat)(n:Nat)(row:List Nat):kG acc n row 0=acc:=by simp[kG]
theorem uX{acc row:List Nat}{n j:Nat}(h:acc.length=row.length)(hj:j<=acc.length):(kG acc n row j).length=acc.length:=by
 unfold kG;rw[length_append,length_take,fH n h,length_drop];omega
theorem Ef{acc row:List Nat}{n:Nat}(h:acc.length=row.length):kG acc n row acc.length=mS acc n row:=by
 unfold kG;rw[take_of_length_le (by rw[fH n h];exact Nat.le_refl _),drop_length,append_nil]
theorem DZ{acc row:List Nat}{n j:Nat}(h:acc.length=row.length)(hj:j<acc.length):(kG acc n row j)[j]?=some acc[j]:=by
 unfold kG;rw[getElem?_append_right (by rw[length_take];omega),length_take,fH n h,Nat.min_eq_left (by omega),Nat.sub_self,getElem?_drop,Nat.add_zero,getElem?_eq_getElem hj]
theorem Bx{acc row:List Nat}{n j:Nat}(h:acc.length=row.length)(hj:j<acc.length):(kG acc n row j).set j (acc[j]+n*row[j]'(by omega))=kG acc n row (j+1):=by
 unfold kG;have hl:=fH n h;rw[set_append_right _ _ (by rw[length_take];omega),length_take,hl,Nat.min_eq_left (by omega),Nat.sub_self,drop_eq_getElem_cons hj,set_cons_zero,az (mS acc n row) (by omega),append_assoc];have hg:=KQ (n:=n) hj (show j<row.length by omega);rw[getElem?_eq_getElem (by omega)]at hg;injection hg with hg
 rw[hg];rfl
def vF(m:Nat)(w:List UInt8):List Nat:=(rH w).take m
theorem A7(m:Nat)(w:List UInt8):ints (js m w)=aB (vF m w):=by
 unfold js vF aB;rw[map_take];show ints ((counts w).take m)=(aB (rH w)).take m;rw[<-EH];unfold ints;rw[map_take]
theorem mP{m:Nat}(h:m<=5)(w:List UInt8):(vF m w).length=m:=by
 unfold vF rH;rw[length_take,length_map,length_range];omega
theorem Dx{m:Nat}{w:List UInt8}{x:Nat}(h:x∈vF m w):x<=w.length:=by
 unfold vF rH at h;obtain⟨k,_,rfl⟩:=List.mem_map.1 (mem_of_mem_take h);exact countP_le_length
def dH(ws:List (List UInt8))(v:List Nat):Nat->List Nat
 | 0=>replicate ws.length 0
 | i+1=>mS (dH ws v i) (v.getD i 0) (vF ws.length (ws.getD i []))
theorem E9(ws:List (List UInt8))(v:List Nat):dH ws v 0=replicate ws.length 0:=rfl
theorem jG(ws:List (List UInt8))(v:List Nat)(i:Nat):dH ws v (i+1)=mS (dH ws v i) (v.getD i 0) (vF ws.length (ws.getD i [])):=rfl
theorem gw{ws:List (List UInt8)}(h:ws.length<=5)(v:List Nat):∀ i,(dH ws v i).length=ws.length
 | 0=>by simp[dH]
 | i+1=>by
  have ih:=gw h v i;rw[jG,fH _ (by rw[ih,mP h]),ih]
def dj(ws:List (List UInt8))(a:Nat):Nat->List Nat
 | 0=>(replicate ws.length 0).set a 1
 | r+1=>dH ws (dj ws a r) ws.length
theorem A8(ws:List (List UInt8))(a:Nat):dj ws a 0=(replicate ws.length 0).set a 1:=rfl
theorem uD(ws:List (List UInt8))(a r:Nat):dj ws a (r+1)=dH ws (dj ws a r) ws.length:=rfl
theorem dG{ws:List (List UInt8)}(h:ws.length<=5)(a r:Nat):(dj ws a r).length=ws.length:=by
 cases r with
 | zero=>simp[dj]
 | succ r=>exact gw h _ _
theorem CC{l:List Nat}{n:Nat}(h:∀ x∈l,x<=n):l.sum<=l.length*n:=by
 induction l with
 | nil=>simp
 | cons a l ih=>
  have h1:=h a (mem_cons_self ..);have h2:=ih fun x hx=>h x (mem_cons_of_mem _ hx);rw[sum_cons,length_cons,Nat.succ_mul];omega
theorem KA{acc row:List Nat}{n x:Nat}(h:x∈mS acc n row):∃ a∈acc,∃ t∈row,x=a+n*t:=by
 unfold mS at h;obtain⟨j,hj,rfl⟩:=List.mem_iff_getElem.1 h;rw[length_zipWith]at hj;refine⟨acc[j],getElem_mem _,row[j],getElem_mem _,?_⟩;simp
theorem oF{ws:List (List UInt8)}(hw:∀ w∈ws,w.length<=12)(v:List Nat):∀ i,i<=ws.length->i<=v.length->∀ x∈dH ws v i,x<=12*(v.take i).sum
 | 0,_,_,x,hx=>by
  rw[E9]at hx;have:=eq_of_mem_replicate hx;omega
 | i+1,h1,h2,x,hx=>by
  rw[jG]at hx;obtain⟨a,ha,t,ht,rfl⟩:=KA hx;have h3:=oF hw v i (by omega) (by omega) a ha;have h4:=Dx ht;have h5:(ws.getD i []).length<=12:=hw _ (kE (by omega));have e:(v.take (i+1)).sum=(v.take i).sum+v.getD i 0:=by
   rw[az v (by omega),sum_append,sum_singleton,getD_eq_getElem?_getD,getElem?_eq_getElem (by omega)];rfl
  rw[e];have h6:v.getD i 0*t<=v.getD i 0*12:=Nat.mul_le_mul_left _ (by omega);omega
def okS(ws:List (List UInt8))(a r:Nat):Bool:=(range r).all fun i=>decide ((dj ws a i).sum<=1000000000000000)
def zX(ws:List (List UInt8))(a r:Nat):List Nat:=(range r).map fun i=>(dj ws a i).sum
theorem mO(ws:List (List UInt8))(a r:Nat):okS ws a (r+1)=(okS ws a r&&decide ((dj ws a r).sum<=1000000000000000)):=by simp[okS,range_succ]
theorem uB(ws:List (List UInt8))(a r:Nat):zX ws a (r+1)=zX ws a r++[(dj ws a r).sum]:=by simp[zX,range_succ]
theorem nh(ws:List (List UInt8))(a r:Nat):(zX ws a r).length=r:=by simp[zX]
theorem Nk{ws:List (List UInt8)}{a r k:Nat}(h:r<k)(hb:¬(dj ws a r).sum<=1000000000000000):okS ws a k=false:=by
 cases hk:okS ws a k with
 | false=>rfl
 | true=>
  unfold okS at hk;have:=List.all_eq_true.1 hk r (List.mem_range.2 h);rw[decide_eq_true_eq]at this;exact absurd this hb
theorem Jj{ws:List (List UInt8)}(hw:∀ w∈ws,w.length<=12)(h5:ws.length<=5){a r:Nat}(h:okS ws a r=true):∀ x∈dj ws a r,x<=12000000000000000:=by
 intro x hx;cases r with
 | zero=>
  rw[A8]at hx;rcases mem_or_eq_of_mem_set hx with hx|rfl
  ·have:=eq_of_mem_replicate hx;omega
  ·omega
 | succ r=>
  rw[mO,Bool.and_eq_true,decide_eq_true_eq]at h;rw[uD]at hx;have:=oF hw (dj ws a r) ws.length (Nat.le_refl _) (by rw[dG h5];exact Nat.le_refl _) x hx;rw[take_of_length_le (by rw[dG h5];exact Nat.le_refl _)]at this;omega
theorem Mj{ws:List (List UInt8)}{a:Nat}(h:a<ws.length)(h5:ws.length<=5):(dj ws a 0).sum=1:=by
 rw[A8];have h1:ws.length=1\/ws.length=2\/ws.length=3\/ws.length=4\/ws.length=5:=by omega
 have h2:a=0\/a=1\/a=2\/a=3\/a=4:=by omega
 rcases h1 with h1|h1|h1|h1|h1<;>rw[h1]at h ⊢<;>rcases h2 with rfl|rfl|rfl|rfl|rfl<;>first|rfl|omega
def fw(ws:List (List UInt8))(a k t:Int):Int:=if aW ws then (if (0<=a/\a<=ws.length-1)/\(0<=k/\k<=t) then 0 else 2) else 1
def uJ(ws:List (List UInt8))(a k:Int):Int:=if fw ws a k 20=0 then (if okS ws a.toNat (k.toNat+1) then 0 else 3) else fw ws a k 20
def iQ(ws:List (List UInt8))(a k:Int):List Nat:=if fw ws a k 20=0 then (if okS ws a.toNat (k.toNat+1) then zX ws a.toNat (k.toNat+1) else []) else []
theorem gb{ws:List (List UInt8)}{a k t:Int}(h:fw ws a k t=0):aW ws=true/\0<=a/\a<ws.length/\0<=k/\k<=t:=by
 unfold fw at h;split at h
 ·rename_i h1;split at h
  ·rename_i h2;exact⟨h1,by omega⟩
  ·cases h
 ·cases h
theorem n6(l:List Nat)(i n:Nat):(aB l).set i (.int .i64 n)=aB (l.set i n):=by simp[aB,map_set]
theorem n9(n m:Nat):replicate n (Value.int .i64 (m:Nat))=aB (replicate n m):=by simp[aB]
theorem dU(v:Value)(ws:List (List UInt8))(M:Mem)(R:VP)(hv:Rd M v (strs ws))(hn:ws.length<=1099511627776)(h:R (.int .i64 ws.length) M):ar prog 88 [.agg #[v]] M R:=
 ik v (strs ws) M R hv (by rw[ah];exact hn) (by rw[ah];exact h)
theorem pV(ws:List (List UInt8))(x:Value)(a k:Int)(b3 b4 b5:Nat)(K:Mem)(R:VP)(hv:Rd K x (strs ws))(hn:ws.length<=1099511627776)(k3:K b3=some (.cells true [x] 1))(k4:K b4=some (.cells true [.int .i64 a] 1))(k5:K b5=some (.cells true [.int .i64 k] 1))
  (h:R (.bool (decide (0<=a/\a<=ws.length-1)&&decide (0<=k/\k<=20))) K):ar prog 261 [.pointer (some ⟨b4,0,none⟩),.pointer (some ⟨b3,0,none⟩),.pointer (some ⟨b5,0,none⟩)] K R:=by
 refine fnS func261 rfl ntmps261 results261 ?_;simp(disch:=omega);refine drwS ?_;simp(disch:=omega)[aj k4,aq k3];refine aU (a:=[]) (c:=[]) (dU x ws _ _ hv hn ⟨rfl,rfl⟩) ?_;simp(disch:=omega);refine aU (a:=[]) (c:=[]) (bE _ _ _ _ _ ⟨rfl,rfl⟩) ?_;cases h1:decide (0<=a/\a<=(ws.length:Int)-1)
 ·rw[h1,Bool.false_and]at h;simp(disch:=omega);exact ad h
 ·rw[h1,Bool.true_and]at h;simp(disch:=omega)[aj k5];refine aU (a:=[]) (c:=[]) (bE _ _ _ _ _ ⟨rfl,rfl⟩) ?_;simp(disch:=omega);exact ad (by simpa using h)
theorem EC(ws:List (List UInt8))(a k t:Int):(if aW ws then codeOf [] ([].all (fun u=>gF u ws.length)&&(decide (0<=a/\a<=(ws.length:Int)-1)&&decide (0<=k/\k<=t))) else 1)=fw ws a k t:=by
 unfold fw codeOf;cases aW ws
 ·rfl
 ·by_cases h1:0<=a/\a<=(ws.length:Int)-1
  ·by_cases h2:0<=k/\k<=t
   ·simp[h1,h2]
   ·simp only[decide_eq_true h1,decide_eq_false h2];simp[h1,h2]
  ·simp only[decide_eq_false h1];simp[h1]
theorem ta(v:Value)(ws:List (List UInt8))(a k:Int)(M:Mem)(R:VP)(hv:Rd M v (strs ws))(hf:df ws)(hn:ws.length<=1099511627776)(h:Lst (uJ ws a k) (aB (iQ ws a k)) M R):ar prog 169 [.agg #[v],.int .i64 a,.int .i64 k] M R:=by
 refine fnS func169 rfl ntmps169 results169 ?_;obtain⟨aa,c,rfl,ha⟩:=hv.opened;rw[ah]at ha hv ⊢;simp(disch:=omega);intro b3 hb3;simp(disch:=omega);intro b4 hb4;simp(disch:=omega);intro b5 hb5;have n4:=hb4;have n5:=hb5;rw[aF]at n4;rw[aF,aF]at n5;have hs5:Sub M (((M.put b3 (.cells true [.slice aa ws.length c] 1)).put b4 (.cells true [.int .i64 a] 1)).put b5 (.cells true [.int .i64 k] 1)):=(((Sub.refl M).put hb3 _).putN hb4 _).putN hb5 _;have k3:(((M.put b3 (.cells true [.slice aa ws.length c] 1)).put b4 (.cells true [.int .i64 a] 1)).put b5 (.cells true [.int .i64 k] 1)) b3=some (.cells true [.slice aa ws.length c] 1):=by rw[ai _ _ (Ne.symm n5.2.1),ai _ _ (Ne.symm n4.1)];exact ag _ _ _
 have k4:(((M.put b3 (.cells true [.slice aa ws.length c] 1)).put b4 (.cells true [.int .i64 a] 1)).put b5 (.cells true [.int .i64 k] 1)) b4=some (.cells true [.int .i64 a] 1):=by rw[ai _ _ (Ne.symm n5.1)];exact ag _ _ _
 have k5:(((M.put b3 (.cells true [.slice aa ws.length c] 1)).put b4 (.cells true [.int .i64 a] 1)).put b5 (.cells true [.int .i64 k] 1)) b5=some (.cells true [.int .i64 k] 1):=ag _ _ _;simp(disch:=omega);generalize (((M.put b3 (.cells true [.slice aa ws.length c] 1)).put b4 (.cells true [.int .i64 a] 1)).put b5 (.cells true [.int .i64 k] 1))=N1 at *;have hv1:=hv.sub hs5;refine di _ _ _ ws [] (decide (0<=a/\a<=(ws.length:Int)-1)&&decide (0<=k/\k<=20)) (fun M'=>Sub N1 M') _ _ hv1 hf hn (IZ N1) NA (by simp) rfl (Sub.refl N1) (fun M' b B q hb=>q.putN hb B) ?_ ?_
 ·intro K R' q hR';simp(disch:=omega);exact pV ws _ a k b3 b4 b5 K R' (hv1.sub q) hn (q _ _ k3) (q _ _ k4) (q _ _ k5) hR'
 ·rw[EC];unfold uJ iQ at h;by_cases h0:fw ws a k 20=0
  ·obtain⟨hm,ha0,ha1,hk0,hk1⟩:=gb h0;rw[if_pos h0,if_pos h0]at h;rw[h0];have h15:=aX hm;have hw12:∀ w∈ws,w.length<=12:=fun w hw=>(bL hm hw).1;obtain⟨a,rfl⟩:∃ n:Nat,a=n:=⟨a.toNat,by omega⟩;obtain⟨k,rfl⟩:∃ n:Nat,k=n:=⟨k.toNat,by omega⟩;rw[Int.toNat_natCast,Int.toNat_natCast]at h;have hal:a<ws.length:=by omega
   simp(disch:=omega)[aq k3];refine dU _ ws _ _ hv1 hn ?_;simp(disch:=omega);intro b9 hb9;have s9:=(Sub.refl N1).put hb9 (.cells true (aB (dj ws a 0)) ws.length);have e0:(replicate ws.length (Value.int .i64 0)).set a (.int .i64 1)=aB (dj ws a 0):=by
    have:=n9 ws.length 0;have h2:=n6 (replicate ws.length 0) a 1;rw[<-this]at h2;exact h2
   have hne4:b4≠b9:=by rintro rfl;rw[k4]at hb9;cases hb9
   have hne5:b5≠b9:=by rintro rfl;rw[k5]at hb9;cases hb9
   simp(disch:=omega)[aj k4,aj k5,e0];have r9:Rd (N1.put b9 (.cells true (aB (dj ws a 0)) ws.length)) (.slice (some ⟨b9,0,none⟩) ws.length ws.length) (aB (dj ws a 0)):=Rd.new (by rw[aA,dG h15.2]) (Nat.le_refl _);generalize N1.put b9 (.cells true (aB (dj ws a 0)) ws.length)=N2 at *;refine lupS [6,7,9,10,11,12,13,14,15,16,31,32,33,34,35,36,37,38,39,40,41,42,43,44,45,46,47,48,49,50,51,52,53,54,55,56,57,58,59,60,61,62,63,64,65,66,67,68,69,70,71,72,73] (fun x:Nat×Value×Value=>[(31,.int .i64 x.1),(9,x.2.1),(10,x.2.2)]) (fun x M'=>x.1<=k+1/\okS ws a x.1=true/\∃ A,Sub N1 A/\Rd A x.2.1 (aB (dj ws a x.1))/\Own A x.2.2 (aB (zX ws a x.1)) M') (fun x=>k+1-x.1) (0,.slice (some ⟨b9,0,none⟩) ws.length ws.length,.slice none 0 0) ⟨by simp,rfl,N2,s9,r9,Own.nil N2⟩ ?_
   rintro⟨r,vm,vo⟩ M' g ⟨hr,hok,A,sA,rA,oA⟩
   simp only at hr hok rA oA;have sM:=sA.trans oA.sub;have q3:=sM _ _ k3;by_cases hlt:r<k+1
   ·have hvl:=dG h15.2 a r;have hvle:=Jj hw12 h15.2 hok;have hsum:=CC hvle;have hvs:dj ws a (r+1)=dH ws (dj ws a r) ws.length:=uD ws a r;have hoks:=mO ws a r;have houts:=uB ws a r;have hno:=Nk (ws:=ws) (a:=a) hlt;have hol:=nh ws a r;have hnle:=oF hw12 (dj ws a r);have hnl:=gw h15.2 (dj ws a r);generalize dj ws a r=vec at *;have hs5':vec.length*12000000000000000<=5*12000000000000000:=Nat.mul_le_mul_right _ (by omega);have hstep:∀ i,(vec.take i).sum<=vec.sum:=fun i=>ve vec i;obtain⟨a9,c9,rfl,ha9⟩:=rA.opened;rw[aA,hvl]at ha9;rw[aA,hvl]at rA ⊢;rcases ha9 with hz|⟨b0,o0,rfl,ha9⟩
    ·omega
    simp(disch:=omega)[aq q3];refine dU _ ws _ _ (hv1.sub sM) hn ?_;simp(disch:=omega);intro b12 hb12;simp(disch:=omega);have hnr:replicate ws.length (Value.int .i64 0)=aB (dH ws vec 0):=n9 ws.length 0;refine lupS [11,13,14,15,16,38,39,40,41,42,43,44,45,46,47,48,49,50,51,52,53,54,55,56,57,58,59,60,61,62,63,64,65] (fun i:Nat=>[(38,.int .i64 i),(11,.int .i64 (vec.take i).sum)]) (fun i M1=>i<=ws.length/\M1=M'.put b12 (.cells true (aB (dH ws vec i)) ws.length)) (fun i=>ws.length-i) 0 ⟨by omega,by rw[hnr]⟩ ?_
    rintro i M1 g1 ⟨hi,rfl⟩
    have hni:=hnl i;have s12:Sub M' (M'.put b12 (.cells true (aB (dH ws vec i)) ws.length)):=(Sub.refl M').put hb12 _;have q3':=s12 _ _ q3;by_cases hil:i<ws.length
    ·have hvi:i<vec.length:=by omega
     have hgi:=ha9 i hil;rw[bS,getElem?_eq_getElem hvi]at hgi;have hgi':=aT (aT hgi oA.sub) s12;have hsn:(vec.take (i+1)).sum=(vec.take i).sum+vec[i]:=by rw[az vec hvi,sum_append,sum_singleton]
     have hsn2:=hstep (i+1);have hnx:=jG ws vec i;have hgd:vec.getD i 0=vec[i]:=by rw[getD_eq_getElem?_getD,getElem?_eq_getElem hvi];rfl
     have hgw:ws.getD i []=ws[i]:=by rw[getD_eq_getElem?_getD,getElem?_eq_getElem hil];rfl
     rw[hgd,hgw]at hnx;have hrl:=mP (m:=ws.length) h15.2 ws[i];have hrle:∀ t∈vF ws.length ws[i],t<=12:=fun t ht=>Nat.le_trans (Dx ht) (hw12 _ (getElem_mem hil));have hacc:=hnle i (by omega) (by omega);have hrv:=A7 ws.length ws[i];have hcs:=Cw ws.length ws[i];obtain⟨n,hnn⟩:∃ n,n=vec[i]:=⟨_,rfl⟩;have hn12:n<=12000000000000000:=by rw[hnn];exact hvle _ (getElem_mem hvi)
     rw[<-hnn]at hsn hnx hgi';simp(disch:=omega)[aq q3',hgi'];refine Mz _ ws i _ _ ((hv1.sub sM).sub s12) hm hil ?_
     rintro br cr M2 hbr rfl
     have hbr':=hbr;rw[aF]at hbr';rw[hcs,hrv];obtain⟨row,hrow⟩:∃ row,row=vF ws.length ws[i]:=⟨_,rfl⟩;rw[<-hrow]at hnx hrl hrle ⊢;generalize ints (drop ws.length (counts ws[i]))=rest at *;generalize dH ws vec i=acc at *;have har:acc.length=row.length:=by omega
     simp(disch:=omega);refine lupS [15,16,50,51,52,53,54,55,56,57,58,59,60,61,62,63,64] (fun j:Nat=>[(50,.int .i64 j)]) (fun j M3=>j<=ws.length/\M3=(M'.put b12 (.cells true (aB (kG acc n row j)) ws.length)).put br (.cells true (aB row++rest) cr)) (fun j=>ws.length-j) 0 ⟨by omega,by rw[Bh]⟩ ?_
     rintro j M3 g3 ⟨hj,rfl⟩
     have hal':=uX (n:=n) (j:=j) har (by omega);by_cases hjl:j<ws.length
     ·have hja:j<acc.length:=by omega
      have hjr:j<row.length:=by omega
      have hg1:(aB row++rest)[j]?=some (.int .i64 (row[j]:Nat)):=by
       rw[getElem?_append_left (by rw[aA];exact hjr),bS,getElem?_eq_getElem hjr];rfl
      have hg2:(aB (kG acc n row j))[j]?=some (.int .i64 (acc[j]:Nat)):=by rw[bS,DZ har hja];rfl
      have hset:=Bx (n:=n) har hja;have hp12:n*row[j]<=12000000000000000*12:=Nat.mul_le_mul hn12 (hrle _ (getElem_mem hjr));have hacj:=hacc _ (getElem_mem hja);have hst:=hstep i;obtain⟨p,hp⟩:∃ p,p=n*row[j]:=⟨_,rfl⟩;have ep:(n:Int)*(row[j]:Nat)=(p:Int):=by rw[hp];push_cast;rfl
      rw[<-hp]at hset hp12;have hset2:(aB (kG acc n row j)).set j (.int .i64 ((acc[j]:Nat)+(p:Int)))=aB (kG acc n row (j+1)):=by
       rw[<-hset,<-n6]
       push_cast
       rfl
      simp(disch:=omega)[hg1,hg2,ep,hset2];refine⟨by rw[aA];omega,?_⟩;simp(disch:=omega);exact rndS (j+1) ⟨by omega,rfl⟩
     ·have hj':j=acc.length:=by omega
      subst hj';rw[Ef har,<-hnx];simp(disch:=omega);refine rndB (M'.put b12 (.cells true (aB (dH ws vec (i+1))) ws.length)) (i+1) ((Sub.refl _).put (by rw[aF];exact hbr') _) (by simp(disch:=omega)[hsn]) ⟨by omega,rfl⟩
    ·have hi':i=ws.length:=by omega
     subst hi';rw[take_of_length_le (by omega)];have hob:okS ws a (r+1)=true\/¬ vec.sum<=1000000000000000:=by
      by_cases hb:vec.sum<=1000000000000000
      ·left;rw[hoks,hok,decide_eq_true hb];rfl
      ·exact .inr hb
     by_cases hb:vec.sum<=1000000000000000
     ·have hb':¬(1000000000000000:Int)<(vec.sum:Nat):=by omega
      have hok1:=hob.resolve_right (fun hh=>hh hb);rw[<-hvs];have o12:=oA.push hb12 (.cells true (aB (dj ws a (r+1))) ws.length);have hl1:=dG h15.2 a (r+1);have r12:Rd (A.put b12 (.cells true (aB (dj ws a (r+1))) ws.length)) (.slice (some ⟨b12,0,none⟩) ws.length ws.length) (aB (dj ws a (r+1))):=Rd.new (by rw[aA,hl1]) (Nat.le_refl _);have sA2:Sub N1 (A.put b12 (.cells true (aB (dj ws a (r+1))) ws.length)):=sA.putN (bM oA.sub hb12) _;simp(disch:=omega)[hb'];intro b70 hb70;simp(disch:=omega);refine aN o12 ((Sub.refl _).put hb70 _) (by simp(disch:=omega);rfl) rfl rfl (by omega) (by simp(disch:=omega)) (by simp(disch:=omega);rw[aA,hol];omega) ?_;intro v4 M4 N4 o4 s4;simp(disch:=omega);refine rndM M4 (r+1,.slice (some ⟨b12,0,none⟩) ws.length ws.length,v4) s4 ⟨by simp only;omega,hok1,_,sA2,r12,?_⟩;simp only;rw[houts,<-ez];exact o4
     ·have hb':(1000000000000000:Int)<(vec.sum:Nat):=by omega
      rw[hno hb]at h;simp(disch:=omega)[hb'];exact ae ((hs5.trans sM).trans ((Sub.refl M').put hb12 _)) (h _ _ (Own.nil M))
   ·have hr':r=k+1:=by omega
    subst hr';rw[hok,if_pos rfl,if_pos rfl]at h;simp(disch:=omega);obtain⟨M2,o2,s2⟩:=oA.base (hs5.trans sA);exact ae s2 (h vo M2 o2)
  ·rw[if_neg h0,if_neg h0]at h;have hb:(fw ws a k 20==0)=false:=beq_eq_false_iff_ne.2 h0;generalize fw ws a k 20=code at *;simp(disch:=omega)[hb];exact ae hs5 (h _ _ (Own.nil M))
def nj(ws:List (List UInt8))(a:Int):Int:=if aW ws then (if 0<=a/\a<=(ws.length:Int)-1 then 0 else 2) else 1
theorem Fo(ws:List (List UInt8))(a k t:Int):fw ws a k t=if nj ws a=0 then (if 0<=k/\k<=t then 0 else 2) else nj ws a:=by
 unfold fw nj;cases aW ws
 ·rfl
 ·by_cases h1:0<=a/\a<=(ws.length:Int)-1
  ·by_cases h2:0<=k/\k<=t<;>simp[h1,h2]
  ·simp[h1]
theorem nA(v:Value)(ws:List (List UInt8))(a:Int)(M:Mem)(R:VP)(hv:Rd M v (strs ws))(hf:df ws)(hn:ws.length<=1099511627776)(h:R (.int .i64 (nj ws a)) M):ar prog 197 [.agg #[v],.int .i64 a] M R:=by
 refine fnS func197 rfl ntmps197 results197 ?_;obtain⟨aa,c,rfl,ha⟩:=hv.opened;rw[ah]at hv ⊢;simp(disch:=omega);intro b1 hb1;have hs1:Sub M (M.put b1 (.cells true [.slice aa ws.length c] 1)):=(Sub.refl M).put hb1 _;have hv1:=hv.put hb1 (.cells true [.slice aa ws.length c] 1);have k1:(M.put b1 (.cells true [.slice aa ws.length c] 1)) b1=some (.cells true [.slice aa ws.length c] 1):=ag _ _ _;simp(disch:=omega);generalize M.put b1 (.cells true [.slice aa ws.length c] 1)=N1 at *;refine fP _ ws _ _ hv1 hf hn ?_;unfold nj at h;cases hm:aW ws
 ·rw[hm]at h;simp(disch:=omega);exact ae hs1 h
 ·rw[hm,if_pos rfl]at h;simp(disch:=omega)[aj k1];refine bZ _ _ _ _ _ ?_;by_cases h1:0<=a/\a<=(ws.length:Int)-1
  ·rw[if_pos h1]at h;rw[decide_eq_true h1];simp(disch:=omega);exact ae hs1 h
  ·rw[if_neg h1]at h;rw[decide_eq_false h1];simp(disch:=omega);exact ae hs1 h
set_option maxHeartbeats 4000000 in
theorem sJ(v:Value)(ws:List (List UInt8))(a k:Int)(M:Mem)(R:VP)(hv:Rd M v (strs ws))(hf:df ws)(hn:ws.length<=1099511627776)(h:Lst (uJ ws a k) (aB (iQ ws a k)) M R):ar prog 126 [.agg #[v],.int .i64 a,.int .i64 k] M R:=by
 refine fnS func126 rfl ntmps126 results126 ?_;obtain⟨aa,c,rfl,ha⟩:=hv.opened;rw[ah]at ha hv ⊢;simp(disch:=omega);intro b3 hb3;have hs3:Sub M (M.put b3 (.cells true [.slice aa ws.length c] 1)):=(Sub.refl M).put hb3 _;have hv3:=hv.put hb3 (.cells true [.slice aa ws.length c] 1);have k3:(M.put b3 (.cells true [.slice aa ws.length c] 1)) b3=some (.cells true [.slice aa ws.length c] 1):=ag _ _ _;simp(disch:=omega);generalize M.put b3 (.cells true [.slice aa ws.length c] 1)=N1 at *;refine nA _ ws a _ _ hv3 hf hn ?_;have hin:=Fo ws a k 20;unfold uJ iQ at h;by_cases ht:nj ws a=0
 ·rw[if_pos ht]at hin;rw[ht];simp(disch:=omega);refine bZ _ _ _ _ _ ?_;by_cases hk:0<=k/\k<=20
  ·rw[if_pos hk]at hin;rw[decide_eq_true hk];obtain⟨hm,ha0,ha1,hk0,hk1⟩:=gb hin;rw[if_pos hin,if_pos hin]at h;have h15:=aX hm;have hw12:∀ w∈ws,w.length<=12:=fun w hw=>(bL hm hw).1;obtain⟨a,rfl⟩:∃ n:Nat,a=n:=⟨a.toNat,by omega⟩;obtain⟨k,rfl⟩:∃ n:Nat,k=n:=⟨k.toNat,by omega⟩;rw[Int.toNat_natCast,Int.toNat_natCast]at h;have hal:a<ws.length:=by omega
   have e0:(replicate ws.length (Value.int .i64 0)).set a (.int .i64 1)=aB (dj ws a 0):=by
    have:=n9 ws.length 0;have h2:=n6 (replicate ws.length 0) a 1;rw[<-this]at h2;exact h2
   simp(disch:=omega);refine plyS (ak [0,2,3,4] (.alt 1 1 (.light 6 (.one 5 1 (.light 7 .fin))) (.one 5 1 (.one 1 1 (ak [6,7] .fin))))) ?_;simp(disch:=omega)[aq k3,aj k3,jW];refine⟨?c1,?c2⟩
   case' c1=>
    refine mv _ ws _ _ hv3 hm ?_;intro vm rs N2 M2 r2 o2;have hs2:=r2.sub.trans o2.sub;simp(disch:=omega);refine⟨hs2,?_⟩;intro b10 hb10;have hmat:∀ X,My ((M2.put b10 (.cells true (replicate ws.length (Value.int .i64 0)) ws.length)).put b10 X) vm (vH ws):=fun X=>by
     rw[a7];exact(Jo r2 o2).sub ((Sub.refl M2).put hb10 X)
    have hsub:∀ X,Sub N1 ((M2.put b10 (.cells true (replicate ws.length (Value.int .i64 0)) ws.length)).put b10 X):=fun X=>by
     rw[a7];exact hs2.putN hb10 X
    have hK:(M2.put b10 (.cells true (replicate ws.length (Value.int .i64 0)) ws.length)) b10=some (.cells true (replicate ws.length (Value.int .i64 0)) ws.length):=ag _ _ _;have hkk:Sub M2 (M2.put b10 (.cells true (replicate ws.length (Value.int .i64 0)) ws.length)):=(Sub.refl M2).put hb10 _;clear hb10;simp only[length_replicate];generalize M2.put b10 (.cells true (replicate ws.length (Value.int .i64 0)) ws.length)=K at *;simp(disch:=omega);refine⟨hkk,?_⟩;clear r2 o2 hs2 hkk
   case' c2=>
    intro b10 hb10;have hs4:Sub N1 (N1.put b10 (.cells true (replicate ws.length (Value.int .i64 0)) ws.length)):=(Sub.refl N1).put hb10 _;simp(disch:=omega);refine⟨hs4,?_⟩;refine mv _ ws _ _ (hv3.sub hs4) hm ?_;intro vm rs N2 K r2 o2;have hs2:=r2.sub.trans o2.sub;have hmat:∀ X,My (K.put b10 X) vm (vH ws):=fun X=>Jo (r2.other (ag _ _ _) X) (o2.other (r2.sub _ _ (ag _ _ _)) X);have hsub:∀ X,Sub N1 (K.put b10 X):=fun X=>by
     have s1:=(r2.other (ag _ _ _) X).sub.trans (o2.other (r2.sub _ _ (ag _ _ _)) X).sub;rw[a7]at s1;exact((Sub.refl N1).put hb10 X).trans s1
    have hK:K b10=some (.cells true (replicate ws.length (Value.int .i64 0)) ws.length):=hs2 _ _ (ag _ _ _);simp(disch:=omega);refine⟨hs2,?_⟩;clear r2 o2 hs2 hs4 hb10
   all_goals
    have hne3:b3≠b10:=by
     rintro rfl
     have:=hsub (.cells true [] 0) _ _ k3;rw[ag]at this;cases this
    simp(disch:=omega)[hK,e0,al];have d1:=hmat (.cells true (aB (dj ws a 0)) ws.length);have s1:=hsub (.cells true (aB (dj ws a 0)) ws.length);have r1:Rd (K.put b10 (.cells true (aB (dj ws a 0)) ws.length)) (.slice (some ⟨b10,0,none⟩) ws.length ws.length) (aB (dj ws a 0)):=Rd.new (by rw[aA,dG h15.2]) (Nat.le_refl _);generalize K.put b10 (.cells true (aB (dj ws a 0)) ws.length)=N3 at *;clear hmat hsub hK hne3;obtain⟨rs,hrs,hrl,hrow⟩:=d1;rw[fy]at hrl;obtain⟨am,cm,rfl,ham⟩:=hrs.opened;rw[hrl]at ham;rcases ham with hz|⟨bm,om,rfl,ham⟩
    ·omega
    rw[hrl];intro b11 hb11;simp(disch:=omega);have hsum0:=Mj hal h15.2;have hok1:okS ws a 1=true:=by rw[show (1:Nat)=0+1 from rfl,mO,hsum0];rfl
    have hout1:zX ws a 1=[1]:=by rw[show (1:Nat)=0+1 from rfl,uB,hsum0];rfl
    refine lupS [2,6,7,10,11,12,13,14,15,16,40,41,42,43,44,45,46,47,48,49,50,51,52,53,54,55,56,57,58,59,60,61,62,63,64,65,66,67,68,69,70,71,72,73,74,75,76,77,78,79,80,81,82,83,84,85,86,87,88,89,90,91,92,93,94,95,96,97] (fun x:Nat×Value×Value=>[(2,.int .i64 ((k-x.1:Nat):Int)),(10,x.2.1),(11,x.2.2)]) (fun x M'=>x.1<=k/\okS ws a (x.1+1)=true/\∃ A,Sub N3 A/\Rd A x.2.1 (aB (dj ws a x.1))/\Own A x.2.2 (aB (zX ws a (x.1+1))) M') (fun x=>k-x.1) (0,.slice (some ⟨b10,0,none⟩) ws.length ws.length,.slice (some ⟨b11,0,none⟩) 1 1) ⟨by simp,hok1,N3,Sub.refl N3,r1,by rw[hout1];exact Own.new (n:=1) (c:=1) (xs:=aB [1]) hb11 rfl (Nat.le_refl 1)⟩ ?_
    rintro⟨r,vn,vo⟩ M' g ⟨hr,hok,A,sA,rA,oA⟩
    simp only at hr hok rA oA;obtain⟨t,hteq⟩:∃ t,t=k-r:=⟨_,rfl⟩;rw[<-hteq];have sM:=sA.trans oA.sub;by_cases hlt:r<k
    ·have ht0:0<t:=by omega
     have hok0:okS ws a r=true:=by rw[mO,Bool.and_eq_true]at hok;exact hok.1
     have hvl:=dG h15.2 a r;have hvle:=Jj hw12 h15.2 hok0;have hsum:=CC hvle;have hvs:dj ws a (r+1)=dH ws (dj ws a r) ws.length:=uD ws a r;have hoks:=mO ws a (r+1);have houts:=uB ws a (r+1);have hno:=Nk (ws:=ws) (a:=a) (r:=r+1) (k:=k+1) (by omega);have hol:=nh ws a (r+1);have hnle:=oF hw12 (dj ws a r);have hnl:=gw h15.2 (dj ws a r);generalize dj ws a r=vec at *;have hs5':vec.length*12000000000000000<=5*12000000000000000:=Nat.mul_le_mul_right _ (by omega);have hstep:∀ i,(vec.take i).sum<=vec.sum:=fun i=>ve vec i;obtain⟨a9,c9,rfl,ha9⟩:=rA.opened;rw[aA,hvl]at ha9;rw[aA,hvl]at rA ⊢;rcases ha9 with hz|⟨b0,o0,rfl,ha9⟩
     ·omega
     simp(disch:=omega);intro b12 hb12;simp(disch:=omega);have hnr:replicate ws.length (Value.int .i64 0)=aB (dH ws vec 0):=n9 ws.length 0;refine lupS [14,15,47,48,49,50,51,52,53,54,55,56,57,58,59,60,61,62,63,64,65,66,67,68,69,70,71,72,73,74,75,76,77,78] (fun i:Nat=>[(14,.int .i64 i)]) (fun i M1=>i<=ws.length/\M1=M'.put b12 (.cells true (aB (dH ws vec i)) ws.length)) (fun i=>ws.length-i) 0 ⟨by omega,by rw[hnr]⟩ ?_
     rintro i M1 g1 ⟨hi,rfl⟩
     have hni:=hnl i;by_cases hil:i<ws.length
     ·have hvi:i<vec.length:=by omega
      have hgi:=ha9 i hil;rw[bS,getElem?_eq_getElem hvi]at hgi;have hgi0:=aT hgi oA.sub;have hnx:=jG ws vec i;have hgd:vec.getD i 0=vec[i]:=by rw[getD_eq_getElem?_getD,getElem?_eq_getElem hvi];rfl
      have hgw:ws.getD i []=ws[i]:=by rw[getD_eq_getElem?_getD,getElem?_eq_getElem hil];rfl
      rw[hgd,hgw]at hnx;have hrl2:=mP (m:=ws.length) h15.2 ws[i];have hrle:∀ t∈vF ws.length ws[i],t<=12:=fun t ht=>Nat.le_trans (Dx ht) (hw12 _ (getElem_mem hil));have hacc:=hnle i (by omega) (by omega);have hrv:=A7 ws.length ws[i];obtain⟨n,hnn⟩:∃ n,n=vec[i]:=⟨_,rfl⟩;have hn12:n<=12000000000000000:=by rw[hnn];exact hvle _ (getElem_mem hvi)
      have hmi:(vH ws)[i]?=some (js ws.length ws[i]):=by rw[getElem?_eq_getElem (by rw[fy];exact hil),FX hil]
      obtain⟨x,hx,hxr⟩:=hrow i _ hmi;have hxl:(ints (js ws.length ws[i])).length=ws.length:=by rw[ay,va h15.2]
      obtain⟨ax,cx,rfl,hax⟩:=hxr.opened;rw[hxl]at hax hx;rcases hax with hz|⟨bx,ox,rfl,hax⟩
      ·omega
      have hgm:=ham i hil;rw[hx]at hgm;have hgm0:=aT hgm sM;rw[hrv]at hax;rw[<-hnn]at hnx hgi0;obtain⟨row,hrw⟩:∃ row,row=vF ws.length ws[i]:=⟨_,rfl⟩;rw[<-hrw]at hnx hrl2 hrle hax;generalize dH ws vec i=acc at *;have har:acc.length=row.length:=by omega
      simp(disch:=omega);refine lupS [15,53,54,55,56,57,58,59,60,61,62,63,64,65,66,67,68,69,70,71,72,73,74,75,76,77,78] (fun j:Nat=>[(15,.int .i64 j)]) (fun j M3=>j<=ws.length/\M3=M'.put b12 (.cells true (aB (kG acc n row j)) ws.length)) (fun j=>ws.length-j) 0 ⟨by omega,by rw[Bh]⟩ ?_
      rintro j M3 g3 ⟨hj,rfl⟩
      have hal':=uX (n:=n) (j:=j) har (by omega);by_cases hjl:j<ws.length
      ·have hja:j<acc.length:=by omega
       have hjr:j<row.length:=by omega
       have s12:Sub M' (M'.put b12 (.cells true (aB (kG acc n row j)) ws.length)):=(Sub.refl M').put hb12 _;have hgx:=hax j hjl;rw[bS,getElem?_eq_getElem hjr]at hgx;have hgx':=aT (aT hgx sM) s12;have hgm':=aT hgm0 s12;have hgi':=aT hgi0 s12;have hg2:(aB (kG acc n row j))[j]?=some (.int .i64 (acc[j]:Nat)):=by rw[bS,DZ har hja];rfl
       have hset:=Bx (n:=n) har hja;have hp12:n*row[j]<=12000000000000000*12:=Nat.mul_le_mul hn12 (hrle _ (getElem_mem hjr));have hacj:=hacc _ (getElem_mem hja);have hst:=hstep i;obtain⟨p,hp⟩:∃ p,p=n*row[j]:=⟨_,rfl⟩;have ep:(n:Int)*(row[j]:Nat)=(p:Int):=by rw[hp];push_cast;rfl
       rw[<-hp]at hset hp12;have hset2:(aB (kG acc n row j)).set j (.int .i64 ((acc[j]:Nat)+(p:Int)))=aB (kG acc n row (j+1)):=by
        rw[<-hset,<-n6]
        push_cast
        rfl
       simp(disch:=omega);refine plyS (ak [0,1,2,3,4,5,6,7,8,9,10,11,12,13,14,15,16,17,18,19] (.one 20 2 .fin)) ?_;simp(disch:=omega)[hg2,hgi',hgm',hgx',ep,hset2];refine⟨by rw[aA];omega,?_⟩;simp(disch:=omega);exact rndS (j+1) ⟨by omega,rfl⟩
      ·have hj':j=acc.length:=by omega
       subst hj';rw[Ef har,<-hnx];simp(disch:=omega);exact rndS (i+1) ⟨by omega,rfl⟩
     ·have hi':i=ws.length:=by omega
      subst hi';rw[<-hvs];have hnv:∀ x∈dj ws a (r+1),x<=720000000000000000:=fun x hx=>by
       rw[hvs]at hx;have:=hnle ws.length (Nat.le_refl _) (by omega) x hx;rw[take_of_length_le (by omega)]at this;omega
      have hl1:=dG h15.2 a (r+1);have hns:=CC hnv;obtain⟨nx,hnx'⟩:∃ nx,nx=dj ws a (r+1):=⟨_,rfl⟩;rw[<-hnx']at hvs hoks houts hno hnv hl1 hns ⊢;have hns':nx.length*720000000000000000<=5*720000000000000000:=Nat.mul_le_mul_right _ (by omega);simp(disch:=omega);refine lupS [13,16,79,80,81,82,83,84,85,86,87,88,89,90] (fun j:Nat=>[(16,.int .i64 j),(13,.int .i64 (nx.take j).sum)]) (fun j M3=>j<=ws.length/\M3=M'.put b12 (.cells true (aB nx) ws.length)) (fun j=>ws.length-j) 0 ⟨by omega,rfl⟩ ?_
      rintro j M3 g3 ⟨hj,rfl⟩
      by_cases hjl:j<ws.length
      ·have hjn:j<nx.length:=by omega
       have hg2:(aB nx)[j]?=some (.int .i64 (nx[j]:Nat)):=by rw[bS,getElem?_eq_getElem hjn];rfl
       have hsn:(nx.take (j+1)).sum=(nx.take j).sum+nx[j]:=by rw[az nx hjn,sum_append,sum_singleton]
       have hsl:=Em nx j hjn;simp(disch:=omega)[hg2];exact rndA (j+1) (by simp(disch:=omega)[hsn]) ⟨by omega,rfl⟩
      ·have hj':j=ws.length:=by omega
       subst hj';rw[take_of_length_le (by omega)];by_cases hb:nx.sum<=1000000000000000
       ·have hb':¬(1000000000000000:Int)<(nx.sum:Nat):=by omega
        have o12:=oA.push hb12 (.cells true (aB nx) ws.length);have r12:Rd (A.put b12 (.cells true (aB nx) ws.length)) (.slice (some ⟨b12,0,none⟩) ws.length ws.length) (aB nx):=Rd.new (by rw[aA,hl1]) (Nat.le_refl _);have sA2:Sub N3 (A.put b12 (.cells true (aB nx) ws.length)):=sA.putN (bM oA.sub hb12) _;simp(disch:=omega)[hb'];intro b70 hb70;simp(disch:=omega);refine aN o12 ((Sub.refl _).put hb70 _) (by simp(disch:=omega);rfl) rfl rfl (by omega) (by simp(disch:=omega)) (by simp(disch:=omega);rw[aA,hol];omega) ?_;intro v4 M4 N4 o4 s4;simp(disch:=omega);refine rndB M4 (r+1,.slice (some ⟨b12,0,none⟩) ws.length ws.length,v4) s4 (by simp(disch:=omega);omega) ⟨by simp only;omega,by rw[hoks,hok,decide_eq_true hb];rfl,_,sA2,?_,?_⟩
        ·simp only;rw[<-hnx'];exact r12
        ·simp only;rw[houts,<-ez];exact o4
       ·have hb':(1000000000000000:Int)<(nx.sum:Nat):=by omega
        rw[hno hb]at h;simp(disch:=omega)[hb'];exact ae (((hs3.trans s1).trans sM).trans ((Sub.refl M').put hb12 _)) (h _ _ (Own.nil M))
    ·have hr':r=k:=by omega
     have ht0:t=0:=by omega
     subst hr';rw[hok,if_pos rfl,if_pos rfl]at h;rw[ht0];simp(disch:=omega);obtain⟨M2,o2,s2⟩:=oA.base ((hs3.trans s1).trans sA);exact ae s2 (h vo M2 o2)
  ·rw[if_neg hk]at hin;have hne:¬ fw ws a k 20=0:=by rw[hin];decide
   rw[if_neg hne,if_neg hne,hin]at h;rw[decide_eq_false hk];simp(disch:=omega);exact ae hs3 (h _ _ (Own.nil M))
 ·rw[if_neg ht]at hin;have hb:(nj ws a==0)=false:=beq_eq_false_iff_ne.2 ht;rw[if_neg (by rw[hin];exact ht),if_neg (by rw[hin];exact ht),hin]at h;generalize nj ws a=code at *;simp(disch:=omega)[hb];exact ae hs3 (h _ _ (Own.nil M))
end Go.Proofs.YtapimhjbilkfpaaGreatDoor
