/- Lemmas for FnExactDeskAfter, part 13 of 33. -/
import Derived.Test.YtapimhjbilkfpaaGreatDoorZ11
set_option linter.unusedVariables false
set_option linter.unusedSimpArgs false
namespace Go.Proofs.YtapimhjbilkfpaaGreatDoor
open Go Go.Proofs.Tryz List
theorem kE(g:Nat->Int){i:Nat}(h:i<5):(ints (vec g))[i]?=some (.int .i64 (g i)):=by rw[cD,RN g h];rfl
theorem xF(f:Int->Int->Int)(g:Nat->Int)(u:B8){i:Nat}(h:i<5):(ints (vec (eZ f g u i))).set i (.int .i64 (f (g i) (cnt u i)))=ints (vec (eZ f g u (i+1))):=by rw[ints_set,Sz f g u h]
theorem xw(g:Nat->Int):(ints (vec g)).length=5:=rfl
theorem so{L:B8}{j:Nat}{v:UInt8}(h:L[j]?=some v)(hj:j<L.length):L[j]=v:=by
 rw[gEl hj]at h;injection h
theorem Lk{L:List Value}{j:Nat}{v:Value}(h:L[j]?=some v)(hj:j<L.length):L[j]=v:=by
 rw[gEl hj]at h;exact Option.some.inj h
theorem Own.block{M M':Mem}{v:Value}{g:Nat->Int}(o:Own M v (ints (vec g)) M'):∃ b c,v=.slice (some ⟨b,0,none⟩) 5 c/\M b=none/\5<=c/\M'=M.put b (.cells true (ints (vec g)) c):=by
 rcases o with ⟨_,e,_⟩|⟨b,c,rfl,hb,hc,rfl⟩
 ·cases e
 ·exact⟨b,c,rfl,hb,hc,rfl⟩
theorem wS(w:B8)(M:Mem)(R:VP)(hw:isWord w=true)(h:∀ M',Sub M M'->R (.int .i64 (k9 w w.length)) M'):ar prog 367 [str w] M R:=by
 have h60:=au hw;have hall:=aZ hw;refine fnS func367 rfl ntmps367 results367 ?_;simp(disch:=omega);refine aP aR (rlA [] 3 84) (fun m:Nat=>[(4,.int .i64 ((m:Int)+1)),(3,.int .i64 (k9 w m))]) (fun m M'=>m<=w.length/\Sub M M') (fun m=>w.length-m) 0 (by kernel_rfl) (by simp(disch:=omega);rfl) ⟨lZe _,Sub.refl _⟩ ?_
 rintro m N g ⟨hm,hs⟩
 have hbal:=E6 h60 m;by_cases hlt:m<w.length
 ·have hbs:k9 w (m+1)=spr (k9 w m) (loW w (m+1)) (hiW w (m+1)) 5:=rfl;have elo:loW w (m+1)=cJ mnF (cnt (w.take (m+1))) (eH w (m+1) (w.length-(m+1))):=rfl;have ehi:hiW w (m+1)=cJ mxF (cnt (w.take (m+1))) (eH w (m+1) (w.length-(m+1))):=rfl;have hlo:=Je h60 (m+1);have hhi:=J2 h60 (m+1);have hsl:=fun i=>ui (w:=w) (m:=m+1) (i:=i) h60;have et:(((m:Int)+1)).toNat=m+1:=by omega
  have htl:(w.take (m+1)).length<=1099511627776:=by rw[lTa];omega
  have hta:(w.take (m+1)).all isL=true:=by have:=rH hall 0 (m+1);rw[nE]at this;exact this
  generalize k9 w m=best at *;simp(disch:=omega);refine plyS (ak [0,1,2,4,5,6] (.one 3 1 (.one 7 1 (ak [8,9] .fin)))) ?_;simp(disch:=omega)[et];refine gZ (w.take (m+1)) _ _ htl hta ?_;intro v1 N1 o1;have q1:=o1.sub;simp(disch:=omega);refine⟨q1,?_⟩;refine gZ (w.take (m+1)) _ _ htl hta ?_;intro v2 N2 o2;have q2:=o2.sub;simp(disch:=omega);refine⟨q2,?_⟩;rw[lH]at o1 o2;obtain⟨b1,c1,rfl,hb1,hc1,rfl⟩:=o1.block;obtain⟨b2,c2,rfl,hb2,hc2,rfl⟩:=o2.block;have sN:=q1.trans q2;have h12:b1≠b2:=by rintro rfl;rw[ag]at hb2;cases hb2
  have hb2':N b2=none:=by rw[ai _ _ (Ne.symm h12)]at hb2;exact hb2
  have k1:((N.put b1 (.cells true (ints (vec (cnt (w.take (m+1))))) c1)).put b2 (.cells true (ints (vec (cnt (w.take (m+1))))) c2)) b1=some (.cells true (ints (vec (cnt (w.take (m+1))))) c1):=by rw[ai _ _ h12,ag]
  have k2:((N.put b1 (.cells true (ints (vec (cnt (w.take (m+1))))) c1)).put b2 (.cells true (ints (vec (cnt (w.take (m+1))))) c2)) b2=some (.cells true (ints (vec (cnt (w.take (m+1))))) c2):=ag _ _ _;generalize (N.put b1 (.cells true (ints (vec (cnt (w.take (m+1))))) c1)).put b2 (.cells true (ints (vec (cnt (w.take (m+1))))) c2)=N2 at *;clear q1 q2 o1 o2 hb2;have hbase:∀ k,0<=cnt (w.take (m+1)) k/\cnt (w.take (m+1)) k<=60:=fun k=>jw (by rw[lTa];omega) k;generalize cnt (w.take (m+1))=base at *;refine lupS (rlA [7,8,9] 25 45) (fun i:Nat=>[(7,.int .i64 ((i:Int)+1))]) (fun i M1=>i<=w.length-(m+1)/\Sub N M1/\M1 b1=some (.cells true (ints (vec (cJ mnF base (eH w (m+1) i)))) c1)/\M1 b2=some (.cells true (ints (vec (cJ mxF base (eH w (m+1) i)))) c2)) (fun i=>w.length-i) 0 ⟨by omega,sN,k1,k2⟩ ?_
  rintro i M1 g1 ⟨hi,s1,l1,l2⟩
  have hlo1:∀ k,0<=cJ mnF base (eH w (m+1) i) k/\cJ mnF base (eH w (m+1) i) k<=60:=ll JW hbase (hsl i);have hhi1:∀ k,0<=cJ mxF base (eH w (m+1) i) k/\cJ mxF base (eH w (m+1) i) k<=60:=ll JJ hbase (hsl i);by_cases hil:i<w.length-(m+1)
  ·have e1:=sY mnF base (eH w (m+1) i) (seg w (i+1) (m+1));have e2:=sY mxF base (eH w (m+1) i) (seg w (i+1) (m+1));rw[<-Kd]at e1 e2;have hsg:(w.take ((i:Int)+1+(m+1)).toNat).drop (i+1)=seg w (i+1) (m+1):=by
    unfold seg;rw[show ((i:Int)+1+(m+1)).toNat=i+1+(m+1) by omega]
   have hsL:=eB (w:=w) (a:=i+1) (m:=m+1) (by omega);have hsA:=rH hall (i+1) (m+1);generalize seg w (i+1) (m+1)=u at *;have hu60:u.length<=60:=by omega
   have hcu:=fun k=>jw hu60 k;generalize cJ mnF base (eH w (m+1) i)=lo at *;generalize cJ mxF base (eH w (m+1) i)=hi' at *;simp(disch:=omega)[hsg];refine gZ u _ _ (by omega) hsA ?_;intro v3 M2 o3;rw[lH]at o3;obtain⟨b3,c3,rfl,hb3,hc3,rfl⟩:=o3.block;have h13:b1≠b3:=by rintro rfl;rw[l1]at hb3;cases hb3
   have h23:b2≠b3:=by rintro rfl;rw[l2]at hb3;cases hb3
   have z1:=o3.sub _ _ l1;have z2:=o3.sub _ _ l2;have z3:(M1.put b3 (.cells true (ints (vec (cnt u))) c3)) b3=some (.cells true (ints (vec (cnt u))) c3):=ag _ _ _;have zs:=s1.trans o3.sub;generalize M1.put b3 (.cells true (ints (vec (cnt u))) c3)=M2 at *;clear o3;simp(disch:=omega);refine lupS (rlA [9] 40 30) (fun j:Nat=>[(9,.int .i64 j)]) (fun j M3=>j<=5/\Sub N M3/\M3 b1=some (.cells true (ints (vec (eZ mnF lo u j))) c1)/\M3 b2=some (.cells true (ints (vec (eZ mxF hi' u j))) c2)/\M3 b3=some (.cells true (ints (vec (cnt u))) c3)) (fun j=>5-j) 0 ⟨by omega,zs,by rw[pa];exact z1,by rw[pa];exact z2,z3⟩ ?_
   rintro j M3 g2 ⟨hj,s3,y1,y2,y3⟩
   by_cases hj5:j<5
   ·obtain⟨L1,hL1⟩:∃ x,x=ints (vec (eZ mnF lo u (j+1))):=⟨_,rfl⟩;obtain⟨L2,hL2⟩:∃ x,x=ints (vec (eZ mxF hi' u (j+1))):=⟨_,rfl⟩;have p1:(ints (vec (eZ mnF lo u j))).set j (.int .i64 (if cnt u j<lo j then cnt u j else lo j))=L1:=by rw[hL1];exact xF mnF lo u hj5
    have p2:(ints (vec (eZ mxF hi' u j))).set j (.int .i64 (if hi' j<cnt u j then cnt u j else hi' j))=L2:=by rw[hL2];exact xF mxF hi' u hj5
    have t1:=kE (eZ mnF lo u j) hj5;have t2:=kE (eZ mxF hi' u j) hj5;have t3:=kE (cnt u) hj5;rw[KQ]at t1 t2;have r1:=xw (eZ mnF lo u j);have r2:=xw (eZ mxF hi' u j);have aL:=hlo1 j;have aH:=hhi1 j;have aC:=hcu j;generalize ints (vec (eZ mnF lo u j))=V1 at *;generalize ints (vec (eZ mxF hi' u j))=V2 at *;generalize ints (vec (cnt u))=V3 at *;generalize cnt u j=x3 at *;generalize lo j=x1 at *;generalize hi' j=x2 at *;simp(disch:=omega);refine plyS (ak [0,1,2,3,4,5,6,7,8,9,10,11] (.one 12 2 .fin)) ?_;simp(disch:=omega)[al y1,al y3,t3,Lk t1,y1,p1]
    try simp only[aj]
    have s4:=s3.ovr hb1 (.cells true L1 c1);have z1:(M3.put b1 (.cells true L1 c1)) b1=some (.cells true L1 c1):=ag _ _ _;have z2:(M3.put b1 (.cells true L1 c1)) b2=some (.cells true V2 c2):=by rw[ai _ _ (Ne.symm h12)];exact y2
    have z3:(M3.put b1 (.cells true L1 c1)) b3=some (.cells true V3 c3):=by rw[ai _ _ (Ne.symm h13)];exact y3
    generalize M3.put b1 (.cells true L1 c1)=M4 at *
    try simp(disch:=omega)
    refine plyS (ak [0,1,2,3,4,5,6,7,8,9,10,11] (.one 12 2 .fin)) ?_;simp(disch:=omega)[al z2,al z3,t3,Lk t2,z2,p2]
    try simp only[aj]
    try simp(disch:=omega)
    refine rndS (j+1) ⟨by omega,s4.ovr hb2' _,?_,?_,?_⟩
    ·rw[ai _ _ h12,<-hL1];exact z1
    ·rw[<-hL2];exact ag _ _ _
    ·rw[ai _ _ (Ne.symm h23)];exact z3
   ·have hj':j=5:=by omega
    subst hj';simp(disch:=omega);rw[e1]at y1;rw[e2]at y2;exact rndS (i+1) ⟨by omega,s3,y1,y2⟩
  ·have hi':i=w.length-(m+1):=by omega
   subst hi';rw[<-elo]at l1 hlo1;rw[<-ehi]at l2 hhi1;generalize loW w (m+1)=lo at *;generalize hiW w (m+1)=hi' at *;simp(disch:=omega);refine aP aR (rlA [3,10] 70 17) (fun j:Nat=>[(10,.int .i64 j),(3,.int .i64 (spr best lo hi' j))]) (fun j M3=>j<=5/\M3=M1) (fun j=>5-j) 0 (by kernel_rfl) (by simp(disch:=omega);rfl) ⟨by omega,rfl⟩ ?_
   rintro j M3 g2 ⟨hj,rfl⟩
   have hsp:=Dh hbal hlo1 hhi1 j;have ess:spr best lo hi' (j+1)=mxF (spr best lo hi' j) (hi' j-lo j):=rfl;unfold mxF at ess;by_cases hj5:j<5
   ·generalize spr best lo hi' j=bj at *;have t1:=kE lo hj5;have t2:=kE hi' hj5;have a1:=hlo1 j;have a2:=hhi1 j;generalize lo j=x at *;generalize hi' j=y at *;simp(disch:=omega);refine plyS (ak [0,1,2,3,4,5,6,7,8,9,10,11] .fin) ?_;simp(disch:=omega)[al l1,al l2,t1,t2];exact rndA (j+1) (by simp(disch:=omega)[ess]) ⟨by omega,rfl⟩
   ·have hj':j=5:=by omega
    subst hj';simp(disch:=omega);exact rndA (m+1) (by simp(disch:=omega)[hbs]) ⟨by omega,hs.trans s1⟩
 ·have hm':m=w.length:=by omega
  subst hm';simp(disch:=omega);exact ae (Sub.refl _) (h _ hs)
end Go.Proofs.YtapimhjbilkfpaaGreatDoor
namespace Go.Proofs.YtapimhjbilkfpaaGreatDoor
open Go Go.Proofs.Tryz Go.RowKit List
theorem yd{α:Type}[Inhabited α](enc:α->Value)(w:World)(b n:Nat)(d:Array α)(os:Array Obj){k:Nat}(hk:k<w.heap.size) :
  (Sort.grow (Sort.putRow enc (Sort.ahead w n) b 0 d) os).heap[k]?=if b=k then (w.heap[k]?).map (Sort.onCells (Sort.putCells enc 0 d)) else w.heap[k]?:=by
 rw[Sort.heap_grow_old _ _ (by simpa[Sort.ahead] using hk)];simp only[Sort.putRow,Sort.mapBlock,Array.getElem?_modify,Sort.ahead]
theorem R8{α:Type}[Inhabited α]{M:Mem}{w:World}(enc:α->Value)(hw:Rep M w){b c:Nat}{xs:List Value}(hM:M b=some (.cells true xs c))(d:Array α)(hd:d.size=xs.length)(n:Nat)(os:Array Obj) :
  Rep (M.put b (.cells true (d.toList.map enc) c)) (Sort.grow (Sort.putRow enc (Sort.ahead w n) b 0 d) os)/\Ext M w (M.put b (.cells true (d.toList.map enc) c)) (Sort.grow (Sort.putRow enc (Sort.ahead w n) b 0 d) os):=by
 have hb:=kn hw hM;refine⟨?_,rfl,rfl,rfl,?_,?_,?_⟩
 ·intro i B hB;by_cases hi:i=b
  ·subst hi;rw[ag]at hB;injection hB with hB
   subst hB;obtain⟨cc,e,fr,h1,h2,⟨ys,h3⟩,h4⟩:=hw i _ hM;refine⟨Sort.putCells enc 0 d cc,e,fr,?_,by simpa[Sort.putCells] using h2,⟨ys,?_⟩,h4⟩
   ·rw[yd enc w i n d os hb,if_pos rfl,h1];rfl
   ·apply ext_getElem?;intro k;have h3':cc[k]?=(xs++ys)[k]?:=by rw[<-h3];simp
    rw[Array.getElem?_toList];simp only[Sort.putCells,Array.getElem?_mapIdx,h3'];by_cases hk:k<d.size
    ·rw[getElem?_append_left (by omega),getElem?_append_left (by simpa using hk),gEl (by omega),Option.map_some,if_pos ⟨lZe _,by omega⟩,getElem?_map];simp[hk]
    ·rw[getElem?_append_right (by omega),getElem?_append_right (by simp;omega)];simp only[length_map,Array.length_toList,hd];cases ys[k-xs.length]? with
     | none=>rfl
     | some y=>rw[Option.map_some,if_neg (by omega)]
  ·rw[ai _ _ hi]at hB;exact Blk.holds_of (by rw[yd enc w b n d os (kn hw hB),if_neg (Ne.symm hi)]) (hw i B hB)
 ·simp[Sort.ahead]
 ·intro k hk ho;have hne:b≠k:=by rintro rfl;exact ho ⟨_,hM,rfl⟩
  rw[yd enc w b n d os hk,if_neg hne]
 ·rintro k ⟨B,h1,h2⟩
  by_cases hi:k=b
  ·subst hi;exact .inl ⟨_,hM,rfl⟩
  ·rw[ai _ _ hi]at h1;exact .inl ⟨B,h1,h2⟩
theorem F8{α:Type}[Inhabited α]{P:Program}{f:FuncId}{args:List Value}{M:Mem}{R:VP}(v:Value)(hb:tS P f)(enc:α->Value){b c:Nat}{xs:List Value}(hM:M b=some (.cells true xs c))(d:Array α)(hd:d.size=xs.length)
  (h:∀ w,Rep M w->Calls P f args.toArray w fun e w'=>e=.returned v/\∃ n os,w'=Sort.grow (Sort.putRow enc (Sort.ahead w n) b 0 d) os) (hR:R v (M.put b (.cells true (d.toList.map enc) c))):ar P f args M R:=
 ⟨hb,fun w hw=>(h w hw).mono fun e w' ⟨he,n,os,hw'⟩=>by
  subst hw';obtain⟨h1,h2⟩:=R8 enc hw hM d hd n os;exact⟨v,_,he,h1,h2,hR⟩⟩
theorem CE{M:Mem}{w:World}(hw:Rep M w){b c:Nat}{ss:List B8}(hM:M b=some (.cells true (strs ss) c)):Sort.Holds encStr w b 0 ss.toArray:=by
 intro j hj;have hj':j<ss.length:=by simpa using hj
 have hg:M.get? b (0+j)=some (str ss[j]):=by rw[al hM,Nat.zero_add,ba,gEl hj'];rfl
 refine⟨?_,?_⟩
 ·rw[hw.cell hg,getElem!_pos _ j hj];rfl
 ·obtain⟨cc,e,fr,h1,h2,⟨ys,h3⟩,h4⟩:=hw b _ hM;have hle:=hw.le hM;rw[ah]at hle;have:=h4 rfl;obtain⟨lo,hi⟩:=fr;simp only[World.frozen?,h1,Nat.zero_add,Bool.and_eq_false_iff,decide_eq_false_iff_not];simp only at this;omega
theorem HN(ss:List B8):ss.map encStr=strs ss:=by
 unfold strs;apply map_congr_left;intro l _;rfl
def srt(ss:List B8):List B8:=Lib.compact (ss.mergeSort fun x y=>decide (x<=y))
theorem yV{α:Type}[Inhabited α][DecidableEq α](d:Array α):∀ m,∀ x,x∈Lib.compactUpTo d m↔∃ j,j<m/\d[j]! = x
 | 0,x=>by simp[Lib.compactUpTo]
 | m+1,x=>by
  rw[Lib.compactUpTo_succ,mem_append,yV d m x];constructor
  ·rintro(⟨j,h1,h2⟩|h)
   ·exact⟨j,by omega,h2⟩
   ·split at h
    ·exact⟨m,by omega,(List.mem_singleton.1 h).symm⟩
    ·simp at h
  ·rintro⟨j,h1,h2⟩
   by_cases hj:j<m
   ·exact .inl ⟨j,hj,h2⟩
   ·have hj':j=m:=by omega
    subst hj';cases hk:Lib.keeps d j with
    | true=>exact .inr (by rw[if_pos rfl];simp[h2])
    | false=>
     simp only[Lib.keeps,decide_eq_false_iff_not,not_or,ne_eq,Decidable.not_not]at hk;exact .inl ⟨j-1,by omega,by rw[<-hk.2];exact h2⟩
theorem GH{α:Type}[Inhabited α][DecidableEq α](zs:List α)(x:α):x∈Lib.compact zs↔x∈zs:=by
 unfold Lib.compact;rw[yV];constructor
 ·rintro⟨j,h1,h2⟩
  rw[getElem!_pos _ j (by simpa using h1)]at h2;rw[<-h2];simp
 ·intro h;obtain⟨j,h1,h2⟩:=List.mem_iff_getElem.1 h;exact⟨j,h1,by rw[getElem!_pos _ j (by simpa using h1)];simpa using h2⟩
theorem lZ{α:Type}[Inhabited α][DecidableEq α](zs:List α):(Lib.compact zs).length<=zs.length:=by
 unfold Lib.compact Lib.compactUpTo;rw[length_map];have:=length_filter_le (Lib.keeps zs.toArray) (range zs.length);rw[length_range]at this;exact this
theorem oJ(ss:List B8)(x:B8):x∈srt ss↔x∈ss:=by
 unfold srt;rw[GH];exact mem_mergeSort
theorem Qt(ss:List B8):(srt ss).length<=ss.length:=by
 unfold srt;have:=lZ (ss.mergeSort fun x y=>decide (x<=y));rw[length_mergeSort]at this;exact this
theorem mz(b c:Nat)(ss:List B8)(M:Mem)(R:VP)(hM:M b=some (.cells true (strs ss) c))(hn:ss.length<=1000000)
  (h:R (.tuple #[]) (M.put b (.cells true (strs (ss.mergeSort fun x y=>decide (x<=y))) c))):ar prog 433 [.slice (some ⟨b,0,none⟩) ss.length c] M R:=by
 refine F8 (.tuple #[]) ⟨_,func433,by kernel_rfl,by kernel_rfl⟩ encStr hM (ss.mergeSort fun x y=>decide (x<=y)).toArray (by simp[ah]) (fun w hw=>?_) ?_
 ·exact Tryz.slices_Sort_string b 0 c ss w (CE hw hM) (kn hw hM) (by omega)
 ·simp only[HN];exact h
theorem jr(b c:Nat)(ss:List B8)(M:Mem)(R:VP)(hM:M b=some (.cells true (strs ss) c))(hc:ss.length<=c)(hn:ss.length<=1000000)
  (h:R (.slice (some ⟨b,0,none⟩) (Lib.compact ss).length c) (M.put b (.cells true (strs (Lib.compact ss++replicate (ss.length-(Lib.compact ss).length) [])) c))):ar prog 434 [.slice (some ⟨b,0,none⟩) ss.length c] M R:=by
 have hle:=lZ ss;refine F8 (.slice (some ⟨b,0,none⟩) (Lib.compact ss).length c) ⟨_,func434,by kernel_rfl,by kernel_rfl⟩ encStr hM (Lib.compact ss++replicate (ss.length-(Lib.compact ss).length) []).toArray (by simp[ah];omega) (fun w hw=>?_) ?_
 ·refine(Tryz.slices_Compact_string b 0 c ss w (CE hw hM) (by omega) hc).mono fun e w' ⟨h1,q,h2⟩=>⟨h1,q,#[],?_⟩;rw[Sort.grow_empty];exact h2
 ·simp only[HN];exact h
theorem Gs(v:Value)(ss:List B8)(M0 M:Mem)(R:VP)(ho:Own M0 v (strs ss) M)(h1:1<=ss.length)(hn:ss.length<=1000000)
  (h:∀ v' M',Rd M' v' (strs (srt ss))->Sub M0 M'->R v' M'):ar prog 413 [v] M R:=by
 rcases ho with ⟨_,e,_⟩|⟨b,c,rfl,hb,hc,rfl⟩
 ·have:=congrArg length e;rw[ah,length_nil]at this;omega
 rw[ah]at hc ⊢;refine fnS func413 rfl ntmps413 results413 ?_;simp(disch:=omega);have hm:(ss.mergeSort fun x y=>decide (x<=y)).length=ss.length:=length_mergeSort _;have hsr:srt ss=Lib.compact (ss.mergeSort fun x y=>decide (x<=y)):=rfl;have hle:=lZ (ss.mergeSort fun x y=>decide (x<=y));refine mz b c ss _ _ (ag _ _ _) hn ?_;simp(disch:=omega);generalize (ss.mergeSort fun x y=>decide (x<=y))=zs at *;rw[<-hm];refine jr b c zs _ _ (ag _ _ _) (by omega) (by omega) ?_;simp(disch:=omega);refine ad (h _ _ ?_ ?_)
 ·rw[hsr];refine .inr ⟨b,0,c,by rw[ah],?_,by rw[ah];omega⟩;rw[aq (ag _ _ _)];simp[strs,mq]
 ·exact(((Sub.refl _).put hb _).ovr hb _).ovr hb _
theorem DK(w:B8)(m:Nat)(M:Mem)(R:VP)(hl:w.length<=60)(hm:m<=w.length)
  (h:∀ v' M',Rd M' v' (strs (srt (dx w m (w.length-m+1))))->Sub M M'->R v' M'):ar prog 385 [str w,.int .i64 m] M R:=by
 refine fnS func385 rfl ntmps385 results385 ?_;simp(disch:=omega);refine lupS (rlA [] 5 19) (fun x:Nat×Value=>[(6,.int .i64 x.1),(5,x.2)]) (fun x M'=>x.1<=w.length-m+1/\Own M x.2 (strs (dx w m x.1)) M') (fun x=>w.length-m+1-x.1) (0,.slice none 0 0) ⟨by omega,Own.nil _⟩ ?_
 rintro⟨i,v⟩ M' g ⟨hi,ho⟩
 simp only at hi ho;have hln:=fX w m i;by_cases hlt:i<w.length-m+1
 ·have hsg:=ga (w:=w) (a:=i) (m:=m);have hsu:=qV w m i;generalize seg w i m=u at *;generalize dx w m i=L at *;simp(disch:=omega)[hsg];intro b' hb';simp(disch:=omega);refine aN ho ((Sub.refl _).put hb' _) (by simp(disch:=omega);rfl) rfl rfl (by omega) (by simp(disch:=omega)) (by simp(disch:=omega);omega) ?_;intro v' M'' N'' ho' hs';simp(disch:=omega);refine rndM M'' (i+1,v') hs' ⟨by simp only;omega,?_⟩;simp only;rw[hsu,<-cK];exact ho'
 ·have hi':i=w.length-m+1:=by omega
  subst hi';generalize dx w m (w.length-m+1)=L at *;simp(disch:=omega);refine Gs v L M _ _ ho (by omega) (by omega) ?_;intro v' M1 hr hs;simp(disch:=omega);exact ad (h v' M1 hr hs)
end Go.Proofs.YtapimhjbilkfpaaGreatDoor
namespace Go.Proofs.YtapimhjbilkfpaaGreatDoor
open Go Go.Proofs.Tryz List
theorem sw{L:List Int}{k:Nat}{u:B8}(h:(ints L)[k]?=some (str u)):False:=by
 rw[cD]at h;cases hk:L[k]? with
 | none=>rw[hk]at h;cases h
 | some x=>rw[hk]at h;cases h
theorem Sub.del{M N:Mem}{b:Nat}(h:Sub M N)(hb:M b=none):Sub M (N.del b):=by
 intro i B hi;have hne:i≠b:=by rintro rfl;rw[hb]at hi;cases hi
 simp only[Mem.del,if_neg hne];exact h _ _ hi
theorem Lb(M:Mem)(b:Nat):Sub (M.del b) M:=by
 intro i B hi;by_cases e:i=b
 ·simp[Mem.del,e]at hi
 ·simpa[Mem.del,e] using hi
theorem KW{M:Mem}{b i k:Nat}(h:i≠b):(M.del b).get? i k=M.get? i k:=by simp[Mem.get?,Mem.del,h]
theorem Dz(w:B8)(M:Mem)(R:VP)(hw:isWord w=true)(h:∀ M',Sub M M'->R (.int .i64 (k9 w w.length)) M'):ar prog 398 [str w] M R:=by
 have h60:=au hw;have hall:=aZ hw;refine fnS func398 rfl ntmps398 results398 ?_;simp(disch:=omega);refine aP aR (rlA [3,4,5,6,8,9,10,11] 15 65) (fun m:Nat=>[(15,.int .i64 m),(3,.int .i64 (k9 w (m-1)))]) (fun m M'=>m<=w.length+1/\Sub M M') (fun m=>w.length+1-m) 0 (by kernel_rfl) (by simp(disch:=omega);rfl) ⟨lZe _,Sub.refl _⟩ ?_
 rintro m N g ⟨hm,hs⟩
 have hbal:=E6 h60 (m-1);by_cases hlt:m<w.length+1
 ·have hnext:spr (k9 w (m-1)) (loW w m) (hiW w m) 5=k9 w (m+1-1):=by
   cases m with
   | zero=>exact Qp w
   | succ m=>rfl
  have hsame:=fun L=>Ps (w:=w) (m:=m) (L:=L) (by omega);have hlo:=Je h60 m;have hhi:=J2 h60 m;have htl:(w.take m).length<=1099511627776:=by rw[lTa];omega
  have hta:(w.take m).all isL=true:=by have:=rH hall 0 m;rw[nE]at this;exact this
  generalize k9 w (m-1)=best at *;simp(disch:=omega);refine plyS (ak [0,1,2,4,5,6] (.one 3 1 (.one 7 1 (ak [8,9] .fin)))) ?_;simp(disch:=omega);refine jj (w.take m) _ _ htl hta ?_;intro v1 N1 o1;have q1:=o1.sub;simp(disch:=omega);refine⟨q1,?_⟩;refine jj (w.take m) _ _ htl hta ?_;intro v2 N2 o2;have q2:=o2.sub;simp(disch:=omega);refine⟨q2,?_⟩;rw[lH]at o1 o2;obtain⟨b1,c1,rfl,hb1,hc1,rfl⟩:=o1.block;obtain⟨b2,c2,rfl,hb2,hc2,rfl⟩:=o2.block;have sN:=q1.trans q2;have h12:b1≠b2:=by rintro rfl;rw[ag]at hb2;cases hb2
  have hb2':N b2=none:=by rw[ai _ _ (Ne.symm h12)]at hb2;exact hb2
  have k1:((N.put b1 (.cells true (ints (vec (cnt (w.take m)))) c1)).put b2 (.cells true (ints (vec (cnt (w.take m)))) c2)) b1=some (.cells true (ints (vec (cnt (w.take m)))) c1):=by rw[ai _ _ h12,ag]
  have k2:((N.put b1 (.cells true (ints (vec (cnt (w.take m)))) c1)).put b2 (.cells true (ints (vec (cnt (w.take m)))) c2)) b2=some (.cells true (ints (vec (cnt (w.take m)))) c2):=ag _ _ _;generalize (N.put b1 (.cells true (ints (vec (cnt (w.take m)))) c1)).put b2 (.cells true (ints (vec (cnt (w.take m)))) c2)=N2 at *;clear q1 q2 o1 o2 hb2;have hbase:∀ k,0<=cnt (w.take m) k/\cnt (w.take m) k<=60:=fun k=>jw (by rw[lTa];omega) k;generalize cnt (w.take m)=base at *;refine DK w m _ _ h60 (by omega) ?_;intro vf N3 hr sF;have hmem:=fun x=>oJ (dx w m (w.length-m+1)) x;have hlen:=Qt (dx w m (w.length-m+1));rw[fX]at hlen;obtain⟨elo,ehi⟩:=hsame _ hmem;have hsl:∀ u∈srt (dx w m (w.length-m+1)),u.length<=60/\u.all isL=true:=by
   intro u hu;obtain⟨t,_,rfl⟩:=List.mem_map.1 ((hmem u).1 hu);refine⟨?_,rH hall t m⟩;unfold seg;rw[length_drop,lTa];omega
  generalize srt (dx w m (w.length-m+1))=ss at *;obtain⟨a,c,rfl,ha⟩:=hr.opened;rw[ah]at ha ⊢;have k1':=sF _ _ k1;have k2':=sF _ _ k2;obtain⟨D,hD1,hD2,hDN,hD3,hget⟩:∃ D:Mem,D b1=none/\D b2=none/\Sub N D/\Sub D N3/\∀ i,(hi:i<ss.length)->∃ b o,a=some ⟨b,o,none⟩/\D.get? b (o+i)=some (str ss[i]):=by
   refine⟨(N3.del b1).del b2,by simp[Mem.del],by simp[Mem.del],((sN.trans sF).del hb1).del hb2',(Lb _ _).trans (Lb _ _),?_⟩;intro i hi;rcases ha with hz|⟨b,o,rfl,ha⟩
   ·omega
   have hg:=ha i hi;rw[ba,gEl hi]at hg;have n1:b≠b1:=by rintro rfl;rw[al k1']at hg;exact sw hg
   have n2:b≠b2:=by rintro rfl;rw[al k2']at hg;exact sw hg
   exact⟨b,o,rfl,by rw[KW n2,KW n1];exact hg⟩
  simp(disch:=omega);refine lupS (rlA [8,9,10] 30 32) (fun i:Nat=>[(30,.int .i64 i)]) (fun i M1=>i<=ss.length/\Sub D M1/\M1 b1=some (.cells true (ints (vec (cJ mnF base (ss.take i)))) c1)/\M1 b2=some (.cells true (ints (vec (cJ mxF base (ss.take i)))) c2)) (fun i=>ss.length-i) 0 ⟨by omega,hD3,k1',k2'⟩ ?_
  rintro i M1 g1 ⟨hi,s1,l1,l2⟩
  have htk:∀ u∈ss.take i,u.length<=60:=fun u hu=>(hsl u (mem_of_mem_take hu)).1;have hlo1:∀ k,0<=cJ mnF base (ss.take i) k/\cJ mnF base (ss.take i) k<=60:=ll JW hbase htk;have hhi1:∀ k,0<=cJ mxF base (ss.take i) k/\cJ mxF base (ss.take i) k<=60:=ll JJ hbase htk;by_cases hil:i<ss.length
  ·obtain⟨b,o,rfl,hg⟩:=hget i hil;have e1:=sY mnF base (ss.take i) ss[i];have e2:=sY mxF base (ss.take i) ss[i];rw[<-aw ss hil]at e1 e2;obtain⟨hu60,hsA⟩:=hsl _ (getElem_mem hil);have hg1:=aX hg s1;generalize ss[i]=u at *;have hcu:=fun k=>jw hu60 k;generalize cJ mnF base (ss.take i)=lo at *;generalize cJ mxF base (ss.take i)=hi' at *;simp(disch:=omega)[hg1];refine jj u _ _ (by omega) hsA ?_;intro v3 M2 o3;rw[lH]at o3;obtain⟨b3,c3,rfl,hb3,hc3,rfl⟩:=o3.block;have h13:b1≠b3:=by rintro rfl;rw[l1]at hb3;cases hb3
   have h23:b2≠b3:=by rintro rfl;rw[l2]at hb3;cases hb3
   have z1:=o3.sub _ _ l1;have z2:=o3.sub _ _ l2;have z3:(M1.put b3 (.cells true (ints (vec (cnt u))) c3)) b3=some (.cells true (ints (vec (cnt u))) c3):=ag _ _ _;have zs:=s1.trans o3.sub;generalize M1.put b3 (.cells true (ints (vec (cnt u))) c3)=M2 at *;clear o3;simp(disch:=omega);refine lupS (rlA [9,10] 37 24) (fun j:Nat=>[(37,.int .i64 j)]) (fun j M3=>j<=5/\Sub D M3/\M3 b1=some (.cells true (ints (vec (eZ mnF lo u j))) c1)/\M3 b2=some (.cells true (ints (vec (eZ mxF hi' u j))) c2)/\M3 b3=some (.cells true (ints (vec (cnt u))) c3)) (fun j=>5-j) 0 ⟨by omega,zs,by rw[pa];exact z1,by rw[pa];exact z2,z3⟩ ?_
   rintro j M3 g2 ⟨hj,s3,y1,y2,y3⟩
   by_cases hj5:j<5
   ·obtain⟨L1,hL1⟩:∃ x,x=ints (vec (eZ mnF lo u (j+1))):=⟨_,rfl⟩;obtain⟨L2,hL2⟩:∃ x,x=ints (vec (eZ mxF hi' u (j+1))):=⟨_,rfl⟩;have p1:(ints (vec (eZ mnF lo u j))).set j (.int .i64 (if cnt u j<lo j then cnt u j else lo j))=L1:=by rw[hL1];exact xF mnF lo u hj5
    have p2:(ints (vec (eZ mxF hi' u j))).set j (.int .i64 (if hi' j<cnt u j then cnt u j else hi' j))=L2:=by rw[hL2];exact xF mxF hi' u hj5
    have t1:=kE (eZ mnF lo u j) hj5;have t2:=kE (eZ mxF hi' u j) hj5;have t3:=kE (cnt u) hj5;rw[KQ]at t1 t2;have r1:=xw (eZ mnF lo u j);have r2:=xw (eZ mxF hi' u j);have aL:=hlo1 j;have aH:=hhi1 j;have aC:=hcu j;generalize ints (vec (eZ mnF lo u j))=V1 at *;generalize ints (vec (eZ mxF hi' u j))=V2 at *;generalize ints (vec (cnt u))=V3 at *;generalize cnt u j=x3 at *;generalize lo j=x1 at *;generalize hi' j=x2 at *;simp(disch:=omega)[al y3,t3];refine plyS (ak [0,1,2,3,4,5,6,7,8,9,10,11,12,13,14,15,16] (.one 17 2 (.light 18 (.one 19 2 .fin)))) ?_;simp(disch:=omega)[al y1,al y2,Lk t1,Lk t2,y1,p1]
    try simp only[aj]
    try simp(disch:=omega)[y2,p2]
    refine rndS (j+1) ⟨by omega,(s3.ovr hD2 _).ovr hD1 _,?_,?_,?_⟩
    ·rw[<-hL1];exact ag _ _ _
    ·rw[ai _ _ (Ne.symm h12),<-hL2];exact ag _ _ _
    ·rw[ai _ _ (Ne.symm h13),aj,ai _ _ (Ne.symm h23)];exact y3
   ·have hj':j=5:=by omega
    subst hj';simp(disch:=omega);rw[e1]at y1;rw[e2]at y2;exact rndS (i+1) ⟨by omega,s3,y1,y2⟩
  ·have hi':i=ss.length:=by omega
   subst hi';rw[take_length]at l1 l2 hlo1 hhi1;rw[elo]at l1 hlo1;rw[ehi]at l2 hhi1;generalize loW w m=lo at *;generalize hiW w m=hi' at *;simp(disch:=omega);refine aP aR (rlA [3,11] 64 15) (fun j:Nat=>[(64,.int .i64 j),(3,.int .i64 (spr best lo hi' j))]) (fun j M3=>j<=5/\M3=M1) (fun j=>5-j) 0 (by kernel_rfl) (by simp(disch:=omega);rfl) ⟨by omega,rfl⟩ ?_
   rintro j M3 g2 ⟨hj,rfl⟩
   have hsp:=Dh hbal hlo1 hhi1 j;have ess:spr best lo hi' (j+1)=mxF (spr best lo hi' j) (hi' j-lo j):=rfl;unfold mxF at ess;by_cases hj5:j<5
   ·generalize spr best lo hi' j=bj at *;have t1:=kE lo hj5;have t2:=kE hi' hj5;have a1:=hlo1 j;have a2:=hhi1 j;generalize lo j=x at *;generalize hi' j=y at *;simp(disch:=omega);refine plyS (ak [0,1,2,3,4,5,6,7,8,9,10,11] .fin) ?_;simp(disch:=omega)[al l1,al l2,t1,t2];exact rndA (j+1) (by simp(disch:=omega)[ess]) ⟨by omega,rfl⟩
   ·have hj':j=5:=by omega
    subst hj';simp(disch:=omega);exact rndA (m+1) (by simp(disch:=omega)[hnext]) ⟨by omega,hDN.trans s1|>hs.trans⟩
 ·have hm':m=w.length+1:=by omega
  subst hm';simp(disch:=omega);exact ae (Sub.refl _) (h _ hs)
theorem pG(w:B8)(M:Mem)(R:VP)(hl:w.length<=1099511627776)(h:∀ M',Sub M M'->R (aE (if isWord w then Value.bool (decide (k9 w w.length<=1)) else .bool false) (aJ w)) M'):ar prog 291 [str w] M R:=by
 refine fnS func291 rfl ntmps291 results291 ?_;simp(disch:=omega);refine bg w _ _ hl ?_;unfold aE aJ at h;cases hw:isWord w
 ·rw[hw]at h;simp(disch:=omega);exact ad (h _ (Sub.refl _))
 ·rw[hw]at h;simp(disch:=omega);refine wS w _ _ hw ?_;intro M' hs;simp(disch:=omega);exact ad (h _ hs)
theorem GY(w:B8)(M:Mem)(R:VP)(hl:w.length<=1099511627776)(h:∀ M',Sub M M'->R (aE (if isWord w then Value.bool (decide (k9 w w.length<=1)) else .bool false) (aJ w)) M'):ar prog 348 [str w] M R:=by
 refine fnS func348 rfl ntmps348 results348 ?_;simp(disch:=omega);intro b1 hb1;simp(disch:=omega);have hs1:Sub M (M.put b1 (.cells true [str w] 1)):=(Sub.refl _).put hb1 _;refine bt _ _ [w] true (fun _=>True) _ _ (Rd.new rfl (lRf 1)) (gg hl) (by simp) trivial bV (bI _) ?_;rw[db];unfold aE aJ at h;cases hw:isWord w
 ·rw[hw]at h;simp(disch:=omega);exact ad (h _ hs1)
 ·rw[hw]at h;simp(disch:=omega);refine Dz w _ _ hw ?_;intro M' hs;simp(disch:=omega);exact ad (h _ (hs1.trans hs))
def nB(u:B8):Int:=cnt u 1
def Gi(A B:Mem):Prop:=∀ b X,A b=some X->∃ Y,B b=some Y/\(X=Y\/∃ own xs ys tot,X=.cells own xs tot/\Y=.cells own (xs++ys) tot)
theorem Gi.rep{A B:Mem}{w:World}(h:Gi A B)(hw:Rep B w):Rep A w:=by
 intro b X hX;obtain⟨Y,hY,e⟩:=h b X hX;have hold:=hw b Y hY;rcases e with rfl|⟨own,xs,ys,tot,rfl,rfl⟩
 ·exact hold
 ·obtain⟨c,e,fr,h1,h2,⟨zs,h3⟩,h4⟩:=hold;exact⟨c,e,fr,h1,h2,⟨ys++zs,by rw[h3,append_assoc]⟩,h4⟩
theorem Gi.owns{A B:Mem}{b:Nat}(h:Gi A B)(ho:owns A b):owns B b:=by
 obtain⟨X,hX,o⟩:=ho;obtain⟨Y,hY,e⟩:=h b X hX;rcases e with rfl|⟨own,xs,ys,tot,rfl,rfl⟩
 ·exact⟨_,hY,o⟩
 ·exact⟨_,hY,o⟩
theorem Sub.less{A B:Mem}(h:Sub A B):Gi A B:=fun b X hX=>⟨X,h b X hX,.inl rfl⟩
theorem ar.less{P:Program}{f:FuncId}{args:List Value}{M:Mem}{R R':VP}(h:ar P f args M R')(hr:∀ v M',R' v M'->∃ M'',Gi M'' M'/\R v M''):ar P f args M R:=
 ⟨h.1,fun w hw=>(h.2 w hw).mono fun _ _ ⟨v,M',h1,h2,h3,h4⟩=>by
  obtain⟨M'',hl,hR⟩:=hr v M' h4;exact⟨v,M'',h1,hl.rep h2,⟨h3.os,h3.tape,h3.output,h3.size,h3.block,fun b hb=>h3.own b (hl.owns hb)⟩,hR⟩⟩
def DW(P:Program)(fv:Value)(ss:List B8)(p:B8->Bool):Prop:=
 ∀ u∈ss,∀ M R,(∀ M',Sub M M'->R (.bool (p u)) M')->fq P fv [str u] R M
theorem CC(v fv:Value)(ss:List B8)(p:B8->Bool)(M:Mem)(R:VP)(hv:Rd M v (strs ss))(hf:DW prog fv ss p)(hl:ss.length<=1000000)
  (h1:∀(r:Nat) M',Sub M M'->(hr:r<ss.length)->(∀ x∈ss.take r,p x=false)->p ss[r]=true->R (.int .i64 r) M') (h0:∀ M',Sub M M'->(∀ x∈ss,p x=false)->R (.int .i64 (-1)) M'):ar prog 207 [v,fv] M R:=by
 refine fnS func207 rfl ntmps207 results207 ?_;obtain⟨a,c,rfl,ha⟩:=hv.opened;rw[ah]at ha ⊢;simp(disch:=omega);refine lupS (rlA [4,5] 8 11) (fun i:Nat=>[(8,.int .i64 i)]) (fun i M'=>Sub M M'/\i<=ss.length/\∀ x∈ss.take i,p x=false) (fun i=>ss.length-i) 0 ⟨Sub.refl M,by omega,by simp⟩ ?_
 rintro i M' g ⟨hs,hi,hp⟩
 by_cases hlt:i<ss.length
 ·rcases ha with hz|⟨b,o,rfl,ha⟩
  ·omega
  have hg:=ha i hlt;rw[ba,gEl hlt]at hg;have hg':=aX hg hs;have hmem:=getElem_mem hlt;have htk:=aw ss hlt;obtain⟨u,hu⟩:∃ u,ss[i]=u:=⟨_,rfl⟩;rw[hu]at hg' hmem htk;simp(disch:=omega)[hg'];refine hf u hmem _ _ ?_;intro M2 s2;cases hpu:p u
  ·simp(disch:=omega);refine rndS (i+1) ⟨hs.trans s2,by omega,?_⟩;rw[htk];intro x hx;rcases List.mem_append.1 hx with h|h
   ·exact hp x h
   ·rw[List.mem_singleton.1 h];exact hpu
  ·simp(disch:=omega);exact ad (h1 i _ (hs.trans s2) hlt hp (by rw[hu];exact hpu))
 ·have hi':i=ss.length:=by omega
  subst hi';rw[take_length]at hp;simp(disch:=omega);exact ad (h0 _ hs hp)
theorem mj(v fv:Value)(ss:List B8)(p:B8->Bool)(M0 M:Mem)(R:VP)(ho:Own M0 v (strs ss) M)(hf:DW prog fv ss p)(hl:ss.length<=1000000)
  (h:∀ v' M',Own M0 v' (strs (ss.filter fun u=>!p u)) M'->R v' M'):ar prog 325 [v,fv] M R:=by
 have hv:=ho.rd;rcases ho with ⟨rfl,he,rfl⟩|⟨b,c,rfl,hb,hc,rfl⟩
 ·have hss:ss=[]:=by
   have:=congrArg length he;rw[ah]at this;exact eq_nil_of_length_eq_zero this
  subst hss;refine fnS func325 rfl ntmps325 results325 ?_;simp(disch:=omega);refine CC _ _ [] p _ _ hv hf (by simp) (fun r M' _ hr=>by simp at hr) ?_;intro M' hs _;simp(disch:=omega);exact ae hs (h _ _ (Own.nil _))
 ·rw[ah]at hc hv ⊢;have hkeep:∀ M',Sub M0 M'->M' b=some (.cells true (strs ss) c)->(∀ x∈ss,p x=false)->∃ M'',Gi M'' M'/\R (.slice (some ⟨b,0,none⟩) ss.length c) M'':=by
   intro M' hs hM hp;have e:ss.filter (fun u=>!p u)=ss:=List.filter_eq_self.2 fun x hx=>by rw[hp x hx];rfl
   rw[e]at h;refine⟨M0.put b (.cells true (strs ss) c),?_,h _ _ (.inr ⟨b,c,by rw[ah],hb,by rw[ah];exact hc,rfl⟩)⟩;intro i X hX;unfold Mem.put at hX;split at hX
   ·rename_i e;subst e;injection hX with hX;subst hX;exact⟨_,hM,.inl rfl⟩
   ·exact⟨X,hs _ _ hX,.inl rfl⟩
  refine ar.less (R':=fun v' M'=>(v'=.slice (some ⟨b,0,none⟩) ss.length c/\Sub M0 M'/\M' b=some (.cells true (strs ss) c)/\∀ x∈ss,p x=false) \/
   ∃ L,v'=.slice (some ⟨b,0,none⟩) (ss.filter fun u=>!p u).length c/\Sub M0 M'/\M' b=some (.cells true (strs ((ss.filter fun u=>!p u)++L)) c)) ?_ ?_
  ·have hk:(M0.put b (.cells true (strs ss) c)) b=some (.cells true (strs ss) c):=ag _ _ _;have hs0:Sub M0 (M0.put b (.cells true (strs ss) c)):=(Sub.refl _).put hb _;generalize M0.put b (.cells true (strs ss) c)=N at *;refine fnS func325 rfl ntmps325 results325 ?_;simp(disch:=omega);refine CC _ _ ss p _ _ hv hf hl ?_ ?_
   ·intro r N1 s1 hr hno hyes;have hr1:¬(r:Int) = -1:=by omega
    have hk1:=s1 _ _ hk;simp(disch:=omega);refine lupS (rlA [5,6,7] 16 20) (fun x:Nat×Nat×List B8=>[(5,.int .i64 x.1),(6,.int .i64 x.2.1)]) (fun x M'=>x.1<x.2.1/\x.2.1<=ss.length/\x.2.2.length=ss.length/\x.2.2.take x.1=(ss.take x.2.1).filter (fun u=>!p u)/\x.2.2.drop x.2.1=ss.drop x.2.1/\M' b=some (.cells true (strs x.2.2) c)/\Sub M0 M') (fun x=>ss.length-x.2.1) (r,r+1,ss) ⟨by simp only;omega,by simp only;omega,rfl,?_,rfl,hk1,hs0.trans s1⟩ ?_
    ·simp only;rw[aw ss hr,filter_append,List.filter_eq_self.2 (fun x hx=>by rw[hno x hx];rfl)];simp[hyes]
    rintro⟨i,j,L⟩ M' g ⟨hij,hj,hL,htk,hdr,hM,hs⟩
    simp only at hij hj hL htk hdr hM hs;by_cases hlt:j<ss.length
    ·have hx:L[j]?=some ss[j]:=by
      have:=congrArg (fun l=>l[0]?) hdr;simp only[getElem?_drop,Nat.add_zero]at this;rw[this,gEl hlt]
     have hg:M'.get? b j=some (str ss[j]):=by rw[al hM,ba,hx];rfl
     have hmem:=getElem_mem hlt;have htj:=aw ss hlt;have hd2:L.drop (j+1)=ss.drop (j+1):=by rw[<-drop_drop,hdr,drop_drop]
     generalize ss[j]=u at *;simp(disch:=omega)[hg];refine hf u hmem _ _ ?_;intro M2 s2;have hM2:=s2 _ _ hM;cases hpu:p u
     ·simp(disch:=omega)[hM2,ix];refine rndS (i+1,j+1,L.set i u) ⟨by simp only;omega,by simp only;omega,by simp only[length_set];omega,?_,?_,?_,(hs.trans s2).set hb _⟩
      ·simp only;rw[htj,filter_append,<-htk];have e:[u].filter (fun u=>!p u)=[u]:=by simp[hpu]
       rw[e];have hi:i<(L.set i u).length:=by rw[length_set];omega
       rw[aw _ hi,take_set_of_le (lRf i),getElem_set_self]
      ·simp only;rw[drop_set_of_lt (by omega),hd2]
      ·simp only;rw[aj];exact ag _ _ _
     ·simp(disch:=omega);refine rndS (i,j+1,L) ⟨by simp only;omega,by simp only;omega,hL,?_,hd2,hM2,hs.trans s2⟩;simp only;rw[htj,filter_append,<-htk];simp[hpu]
    ·have hj':j=ss.length:=by omega
     subst hj';rw[take_length]at htk;have hil:i=(ss.filter fun u=>!p u).length:=by rw[<-htk,lTa];omega
     simp(disch:=omega);obtain⟨d,hd⟩:∃ d,ss.length-i=d+1:=⟨ss.length-i-1,by omega⟩;rw[hd];show Lg (M' b) b i (d+1) (str []) _ M';rw[hM];refine⟨⟨by rw[ah];omega,rfl⟩,?_⟩;have e:(strs L).take i++replicate (d+1) (str [])++(strs L).drop (i+(d+1))=strs ((ss.filter fun u=>!p u)++replicate (d+1) []):=by
      rw[drop_of_length_le (by rw[ah];omega),append_nil,<-htk];simp[strs]
     rw[e,hil];simp(disch:=omega);exact ad (.inr ⟨rfl,hs.set hb _,_,by rw[aj];exact ag _ _ _⟩)
   ·intro N1 s1 hno;simp(disch:=omega);exact ad (.inl ⟨rfl,hs0.trans s1,s1 _ _ hk,hno⟩)
  ·rintro v' M' (⟨rfl,hs,hM,hp⟩|⟨L,rfl,hs,hM⟩)
   ·exact hkeep M' hs hM hp
   ·have hle:(ss.filter fun u=>!p u).length<=ss.length:=length_filter_le _ _;refine⟨M0.put b (.cells true (strs (ss.filter fun u=>!p u)) c),?_,h _ _ (.inr ⟨b,c,by rw[ah],hb,by rw[ah];omega,rfl⟩)⟩;intro i X hX;unfold Mem.put at hX;split at hX
    ·rename_i e;subst e;injection hX with hX;subst hX;exact⟨_,hM,.inr ⟨true,_,strs L,c,rfl,by rw[FN]⟩⟩
    ·exact⟨X,hs _ _ hX,.inl rfl⟩
end Go.Proofs.YtapimhjbilkfpaaGreatDoor
