/- Lemmas for FnExactConsole, part 8 of 46. -/
import Derived.Test.YtapimhjbilkfpaaGreatDoorZ06
import Derived.Test.YtapimhjbilkfpaaGreatDoorZ03
import Derived.Test.YtapimhjbilkfpaaGreatDoorZ04
set_option linter.unusedVariables false
set_option linter.unusedSimpArgs false
namespace Go.Proofs.YtapimhjbilkfpaaGreatDoor
open Go Go.Proofs.Tryz List
def gF(l:List UInt8)(m:Nat):Bool:=l.all fun u=>decide (u.toNat-97<m)
def okW(n:Nat)(w:List UInt8):Bool:=decide (w.length<=12)&&(isWord w&&gF w n)
def aW(ws:List (List UInt8)):Bool:=decide (1<=ws.length/\ws.length<=5)&&ws.all (okW ws.length)
theorem RO{l:List UInt8}{m i:Nat}(hi:i<l.length)(h:¬ l[i].toNat-97<m):gF l m=false:=by
 unfold gF;rw[all_eq_false];exact⟨_,getElem_mem hi,by simpa using h⟩
theorem nP(l:List UInt8)(m:Nat)(M:Mem)(R:VP)(hl:l.length<=1099511627776)(hw:l.all isL=true)(hm:m<=1099511627776)(h:R (.bool (gF l m)) M):ar prog 92 [str l,.int .i64 m] M R:=by
 refine fnS func92 rfl ntmps92 results92 ?_;simp(disch:=omega);refine lupS [4,5,6,7,8,9,10,11,12,13,14,15,16,17,18] (fun i:Nat=>[(5,.int .i64 i)]) (fun i M'=>M'=M/\i<=l.length/\∀ u∈l.take i,u.toNat-97<m) (fun i=>l.length-i) 0 ⟨rfl,by omega,by simp⟩ ?_
 rintro i M' g ⟨rfl,hi,hp⟩
 by_cases hlt:i<l.length
 ·have hx:l[i]?=some l[i]:=getElem?_eq_getElem hlt;have hr:=dS (List.all_eq_true.1 hw _ (getElem_mem hlt));by_cases hq:l[i].toNat-97<m
  ·have hq':¬(m:Int)<=(l[i].toNat:Int)-97:=by omega
   simp(disch:=omega)[hq'];refine rndS (i+1) ⟨rfl,by omega,?_⟩;rw[az l hlt];intro u hu;rcases List.mem_append.1 hu with hu|hu
   ·exact hp u hu
   ·rw[List.mem_singleton.1 hu];exact hq
  ·have hq':(m:Int)<=(l[i].toNat:Int)-97:=by omega
   rw[RO hlt hq]at h;simp(disch:=omega)[hq'];exact ad h
 ·have hi':i=l.length:=by omega
  subst hi';rw[take_length]at hp;have:gF l m=true:=by unfold gF;rw[all_eq_true];intro u hu;simpa using hp u hu
  rw[this]at h;simp(disch:=omega);exact ad h
theorem fP(v:Value)(ws:List (List UInt8))(M:Mem)(R:VP)(hv:Rd M v (strs ws))(hf:df ws)(hn:ws.length<=1099511627776)(h:R (.bool (aW ws)) M):ar prog 49 [.agg #[v]] M R:=by
 refine fnS func49 rfl ntmps49 results49 ?_;obtain⟨a,c,rfl,ha⟩:=hv.opened;rw[ah]at ha ⊢;simp(disch:=omega);intro b1 hb1;have hs:=(Sub.refl M).put hb1 (.cells true [.slice a ws.length c] 1);unfold aW at h;by_cases h1:ws.length<1
 ·rw[decide_eq_false (by omega:¬(1<=ws.length/\ws.length<=5)),Bool.false_and]at h;have h1':(ws.length:Int)<1:=by omega
  simp(disch:=omega)[h1'];exact ae hs h
 have h1':¬(ws.length:Int)<1:=by omega
 by_cases h5:5<ws.length
 ·rw[decide_eq_false (by omega:¬(1<=ws.length/\ws.length<=5)),Bool.false_and]at h;have h5':(5:Int)<ws.length:=by omega
  simp(disch:=omega)[h1',h5'];exact ae hs h
 have h5':¬(5:Int)<ws.length:=by omega
 rw[decide_eq_true (by omega:1<=ws.length/\ws.length<=5),Bool.true_and]at h;simp(disch:=omega)[h1',h5'];refine lupS [2,4,14,15,16,17,18,19,20,21,22,23,24,25,26,27,28,29,30,31,32,33,34,35,36,37,38,39,40,41,42,43,44] (fun i:Nat=>[(4,.int .i64 i)]) (fun i M'=>M'=M.put b1 (.cells true [.slice a ws.length c] 1)/\i<=ws.length/\∀ w∈ws.take i,okW ws.length w=true) (fun i=>ws.length-i) 0 ⟨rfl,by omega,by simp⟩ ?_
 rintro i M' g ⟨rfl,hi,hp⟩
 by_cases hlt:i<ws.length
 ·rcases ha with h0|⟨b,o,rfl,ha⟩
  ·omega
  have hx:ws[i]?=some ws[i]:=getElem?_eq_getElem hlt;have hg0:=ha i hlt;rw[bg,hx]at hg0;have hne:b≠b1:=by rintro rfl;unfold Mem.get? at hg0;rw[hb1]at hg0;cases hg0
  have hg:(M.put b1 (.cells true [.slice (some ⟨b,o,none⟩) ws.length c] 1)).get? b (o+i)=some (str ws[i]):=by
   unfold Mem.get? at hg0 ⊢;rw[ai _ _ hne];exact hg0
  have hwl:=hf _ (getElem_mem hlt);have bad:okW ws.length ws[i]=false->ws.all (okW ws.length)=false:=by
   intro hb;rw[all_eq_false];exact⟨_,getElem_mem hlt,by rw[hb];simp⟩
  by_cases h12:ws[i].length<=12
  ·have h12':¬(12:Int)<ws[i].length:=by omega
   simp(disch:=omega)[hg,h12'];refine ba ws[i] _ _ hwl ?_;cases hiw:isWord ws[i]
   ·rw[bad (by unfold okW;rw[hiw,Bool.false_and,Bool.and_false])]at h;simp(disch:=omega);exact ae hs h
   ·simp(disch:=omega)[hg];refine nP ws[i] ws.length _ _ hwl (aV hiw) (by omega) ?_;cases hfe:gF ws[i] ws.length
    ·rw[bad (by unfold okW;rw[hfe,Bool.and_false,Bool.and_false])]at h;simp(disch:=omega);exact ae hs h
    ·simp(disch:=omega);refine rndS (i+1) ⟨rfl,by omega,?_⟩;rw[az ws hlt];intro w hw;rcases List.mem_append.1 hw with hw|hw
     ·exact hp w hw
     ·unfold okW;rw[List.mem_singleton.1 hw,decide_eq_true h12,hiw,hfe];rfl
  ·have h12':(12:Int)<ws[i].length:=by omega
   rw[bad (by unfold okW;rw[decide_eq_false h12,Bool.false_and])]at h;simp(disch:=omega)[hg,h12'];exact ae hs h
 ·have hi':i=ws.length:=by omega
  subst hi';rw[take_length]at hp;rw[List.all_eq_true.2 hp]at h;simp(disch:=omega);exact ae hs h
theorem ik(v:Value)(xs:List Value)(M:Mem)(R:VP)(hv:Rd M v xs)(hn:xs.length<=1099511627776)(h:R (.int .i64 xs.length) M):ar prog 88 [.agg #[v]] M R:=by
 refine fnS func88 rfl ntmps88 results88 ?_;obtain⟨a,c,rfl,ha⟩:=hv.opened;simp(disch:=omega);intro b1 hb1;simp(disch:=omega);exact ae ((Sub.refl M).put hb1 _) h
theorem EN(v:Value)(xs:List Value)(l:List UInt8)(M:Mem)(R:VP)(hv:Rd M v xs)(hn:xs.length<=1099511627776)(hl:l.length<=1099511627776)(hw:l.all isL=true)(h:R (.bool (gF l xs.length)) M):ar prog 91 [.agg #[v],str l] M R:=by
 refine fnS func91 rfl ntmps91 results91 ?_;obtain⟨a,c,rfl,ha⟩:=hv.opened;simp(disch:=omega);intro b1 hb1;simp(disch:=omega);intro b2 c2 hb2 hc2;have hne:b1≠b2:=by rintro rfl;rw[ag]at hb2;cases hb2
 simp(disch:=omega);have hs1:Sub M (M.put b1 (.cells true [.slice a xs.length c] 1)):=(Sub.refl M).put hb1 _;refine kY _ _ (av l) (onB fun u=>decide (u.toNat-97<xs.length)) (fun M'=>M' b1=some (.cells true [.slice a xs.length c] 1)/\Rd M' (.slice a xs.length c) xs) _ _ (Rd.new (aS l) (by simp(disch:=omega) at hc2;omega)) ⟨by rw[ai _ _ hne,ag],(hv.put hb1 _).put hb2 _⟩ ?_ ?_ rfl (by rw[aS];omega) ?_
 ·intro N b B ⟨q1,q2⟩ hb;have:b1≠b:=by rintro rfl;rw[hb]at q1;cases q1
  exact⟨by rw[ai _ _ this,q1],q2.put hb _⟩
 ·intro x hx N R' ⟨q1,q2⟩ hR';obtain⟨u,hu,rfl⟩:=tK hx;rw[sV]at hR';have hr:=dS (List.all_eq_true.1 hw _ hu);simp(disch:=omega);refine fnS func141 rfl ntmps141 results141 ?_;simp(disch:=omega);refine drwS ?_;simp(disch:=omega);refine aU (a:=[]) (c:=[]) (gS u _ _ ⟨rfl,rfl⟩) ?_;simp(disch:=omega)[aq q1];refine aU (a:=[]) (c:=[]) (ik _ xs _ _ q2 hn ⟨rfl,rfl⟩) ?_;have e:decide (u.toNat-97<xs.length)=decide ((u.toNat:Int)-97<xs.length):=by rw[decide_eq_decide];omega
  rw[e]at hR';simp(disch:=omega);exact ad hR'
 ·rw[tC];simp(disch:=omega);exact ae (hs1.putN hb2 _) h
theorem mU(n:Int)(M:Mem)(R:VP)(h:R (.bool (decide (1<=n/\n<=5))) M):ar prog 87 [.int .i64 n] M R:=by
 refine fnS func87 rfl ntmps87 results87 ?_;simp(disch:=omega);refine bE _ _ _ _ _ ?_;simp(disch:=omega);exact ad (by simpa using h)
theorem l6(v:Value)(ws:List (List UInt8))(M:Mem)(R:VP)(hv:Rd M v (strs ws))(hf:df ws)(hn:ws.length<=1099511627776)(h:R (.bool (aW ws)) M):ar prog 46 [.agg #[v]] M R:=by
 refine fnS func46 rfl ntmps46 results46 ?_;obtain⟨a,c,rfl,ha⟩:=hv.opened;rw[ah]at ha hv ⊢;simp(disch:=omega);intro b1 hb1;have hs1:Sub M (M.put b1 (.cells true [.slice a ws.length c] 1)):=(Sub.refl M).put hb1 _;simp(disch:=omega);refine ik _ (strs ws) _ _ (hv.put hb1 _) (by rw[ah];omega) ?_;rw[ah];simp(disch:=omega);refine mU _ _ _ ?_;unfold aW at h;by_cases h15:1<=ws.length/\ws.length<=5
 ·rw[decide_eq_true h15,Bool.true_and]at h;have e:decide (1<=(ws.length:Int)/\(ws.length:Int)<=5)=true:=decide_eq_true (by omega);rw[e];simp(disch:=omega);refine lM _ _ (strs ws) (onS (okW ws.length)) (fun M'=>M' b1=some (.cells true [.slice a ws.length c] 1)/\Rd M' (.slice a ws.length c) (strs ws)) _ _ (hv.put hb1 _) ⟨ag _ _ _,hv.put hb1 _⟩ ?_ ?_ rfl (by rw[ah];omega) ?_
  ·intro N b B ⟨q1,q2⟩ hb;have:b1≠b:=by rintro rfl;rw[hb]at q1;cases q1
   exact⟨by rw[ai _ _ this,q1],q2.put hb _⟩
  ·intro x hx N R' ⟨q1,q2⟩ hR';obtain⟨w,hw,rfl⟩:=yY hx;rw[wE]at hR';unfold okW at hR';have hwl:=hf w hw;simp(disch:=omega);refine fnS func90 rfl ntmps90 results90 ?_;simp(disch:=omega);refine gI w _ _ hwl ?_;cases hiw:isWord w
   ·rw[hiw,Bool.false_and,Bool.and_false]at hR';simp(disch:=omega);exact ad hR'
   ·rw[hiw,Bool.true_and]at hR';by_cases h12:w.length<=12
    ·have h12':(w.length:Int)<=12:=by omega
     rw[decide_eq_true h12,Bool.true_and]at hR';simp(disch:=omega)[h12',aq q1];refine EN _ (strs ws) w _ _ q2 (by rw[ah];omega) hwl (aV hiw) ?_;rw[ah];simp(disch:=omega);exact ad hR'
    ·have h12':¬(w.length:Int)<=12:=by omega
     rw[decide_eq_false h12,Bool.false_and]at hR';simp(disch:=omega)[h12'];exact ad hR'
  ·rw[xU];simp(disch:=omega);exact ae hs1 h
 ·rw[decide_eq_false h15,Bool.false_and]at h;have e:decide (1<=(ws.length:Int)/\(ws.length:Int)<=5)=false:=decide_eq_false (by omega);rw[e];simp(disch:=omega);exact ae hs1 h
theorem lD(l:List UInt8)(u:UInt8):av l++[.int .u8 u.toNat]=av (l++[u]):=by simp[av]
def named(l:List UInt8):Option (List (List UInt8)):=
 if l=[102,105,98,111,110,97,99,99,105] then some [[97,98],[97]]
 else if l=[116,104,117,101] then some [[97,98],[98,97]]
 else if l=[100,111,117,98,108,105,110,103] then some [[97,98],[97,97]]
 else if l=[116,114,105,112,108,101] then some [[97,98,99],[97,99],[98]]
 else none
def aP(ws:List (List UInt8))(l:List UInt8):List UInt8:=l.flatMap fun u=>ws.getD (u.toNat-97) []
def dR(ws:List (List UInt8))(m:Nat):Nat->List UInt8->List UInt8
 | 0,l=>l
 | f+1,l=>if l.length<m then dR ws m f (aP ws l) else l
structure Ht(ws:List (List UInt8)):Prop where
 len:∀ w∈ws,1<=w.length/\w.length<=3
 ltr:∀ w∈ws,∀ u∈w,97<=u.toNat/\u.toNat-97<ws.length
 head:∃ b r rest,ws=(97::b::r)::rest
 few:ws.length<=3
theorem iT{l:List UInt8}{ws:List (List UInt8)}(h:named l=some ws):Ht ws:=by
 unfold named at h;split at h
 ·injection h with h;subst h;exact⟨by decide,by decide,⟨_,_,_,rfl⟩,by decide⟩
 ·split at h
  ·injection h with h;subst h;exact⟨by decide,by decide,⟨_,_,_,rfl⟩,by decide⟩
  ·split at h
   ·injection h with h;subst h;exact⟨by decide,by decide,⟨_,_,_,rfl⟩,by decide⟩
   ·split at h
    ·injection h with h;subst h;exact⟨by decide,by decide,⟨_,_,_,rfl⟩,by decide⟩
    ·cases h
structure Grown(ws:List (List UInt8))(l:List UInt8):Prop where
 ltr:∀ u∈l,97<=u.toNat/\u.toNat-97<ws.length
 head:∃ r,l=97::r
theorem eE(ws:List (List UInt8)):aP ws []=[]:=rfl
theorem eB(ws:List (List UInt8))(u:UInt8)(l:List UInt8):aP ws (u::l)=ws.getD (u.toNat-97) []++aP ws l:=by simp[aP]
theorem fg(ws:List (List UInt8))(u:UInt8)(l:List UInt8):aP ws (l++[u])=aP ws l++ws.getD (u.toNat-97) []:=by simp[aP]
theorem kE{ws:List (List UInt8)}{k:Nat}(h:k<ws.length):ws.getD k []∈ws:=by
 rw[getD_eq_getElem?_getD,getElem?_eq_getElem h];exact getElem_mem h
theorem de{ws:List (List UInt8)}(hn:Ht ws):∀(l:List UInt8),(∀ u∈l,97<=u.toNat/\u.toNat-97<ws.length)->l.length<=(aP ws l).length/\(aP ws l).length<=3*l.length
 | [],_=>⟨Nat.le_refl _,Nat.le_refl _⟩
 | u::l,h=>by
  have ih:=de hn l fun v hv=>h v (mem_cons_of_mem _ hv);have h1:=hn.len _ (kE (h u (mem_cons_self ..)).2);rw[eB,length_append,length_cons];omega
theorem Grown.img{ws:List (List UInt8)}(hn:Ht ws){l:List UInt8}(h:Grown ws l):Grown ws (aP ws l)/\l.length<(aP ws l).length:=by
 obtain⟨r,rfl⟩:=h.head;obtain⟨b,r',rest,hw⟩:=hn.head;have hr:∀ u∈r,97<=u.toNat/\u.toNat-97<ws.length:=fun u hu=>h.ltr u (mem_cons_of_mem _ hu);have hl:=de hn r hr;have h0:ws.getD ((97:UInt8).toNat-97) []=97::b::r':=by rw[hw];rfl
 refine⟨⟨?_,?_⟩,?_⟩
 ·intro u hu;unfold aP at hu;obtain⟨v,hv,hu⟩:=List.mem_flatMap.1 hu;exact hn.ltr _ (kE (h.ltr v hv).2) u hu
 ·rw[eB,h0];exact⟨_,rfl⟩
 ·rw[eB,h0];simp only[length_append,length_cons];omega
theorem iI{ws:List (List UInt8)}{m:Nat}{l:List UInt8}(h:m<=l.length):∀ f,dR ws m f l=l
 | 0=>rfl
 | f+1=>by unfold dR;rw[if_neg (by omega)]
theorem i6{ws:List (List UInt8)}{m f:Nat}{l:List UInt8}(h:l.length<m)(hf:m<=l.length+f):dR ws m f l=dR ws m (f-1) (aP ws l):=by
 match f,hf with
 | 0,hf=>omega
 | f+1,hf=>
         conv=>lhs;unfold dR
         rw[if_pos h];rfl
def fS(l:List UInt8)(m:Int):List UInt8:=
 if 0<=m/\m<=60 then (match named l with|some ws=>(dR ws m.toNat 60 [97]).take m.toNat|none=>[]) else []
def ia(l:List UInt8)(m:Int):Int:=if 0<=m/\m<=60 then (match named l with|some ws=>0|none=>4) else 2
theorem Cu{a b:List UInt8}(h:a=b):(a==b)=true:=by rw[h];exact beq_self_eq_true _
theorem jn{a b:List UInt8}(h:¬ a=b):(a==b)=false:=beq_eq_false_iff_ne.2 h
theorem tD(l:List UInt8)(M:Mem)(R:VP)(h0:named l=none->R (.slice none 0 0) M)
  (h1:∀ ws,named l=some ws->∀ b,M b=none->R (.slice (some ⟨b,0,none⟩) ws.length ws.length) (M.put b (.cells true (strs ws) ws.length))):ar prog 217 [str l] M R:=by
 refine fnS func217 rfl ntmps217 results217 ?_;unfold named at h0 h1;by_cases e1:l=[102,105,98,111,110,97,99,99,105]
 ·rw[if_pos e1]at h1;have b1:=Cu e1;simp(disch:=omega)[b1];intro b hb;simp(disch:=omega);exact ad (h1 _ rfl b hb)
 have b1:=jn e1;rw[if_neg e1]at h0 h1;by_cases e2:l=[116,104,117,101]
 ·rw[if_pos e2]at h1;have b2:=Cu e2;simp(disch:=omega)[b1,b2];intro b hb;simp(disch:=omega);exact ad (h1 _ rfl b hb)
 have b2:=jn e2;rw[if_neg e2]at h0 h1;by_cases e3:l=[100,111,117,98,108,105,110,103]
 ·rw[if_pos e3]at h1;have b3:=Cu e3;simp(disch:=omega)[b1,b2,b3];intro b hb;simp(disch:=omega);exact ad (h1 _ rfl b hb)
 have b3:=jn e3;rw[if_neg e3]at h0 h1;by_cases e4:l=[116,114,105,112,108,101]
 ·rw[if_pos e4]at h1;have b4:=Cu e4;simp(disch:=omega)[b1,b2,b3,b4];intro b hb;simp(disch:=omega);exact ad (h1 _ rfl b hb)
 have b4:=jn e4;rw[if_neg e4]at h0;simp(disch:=omega)[b1,b2,b3,b4];exact ad (h0 rfl)
theorem yJ(l:List UInt8)(m:Int)(M:Mem)(R:VP)(hl:l.length<=1099511627776)(h:R (aD (str (fS l m)) (ia l m)) M):ar prog 152 [str l,.int .i64 m] M R:=by
 unfold aD fS ia at h;refine fnS func152 rfl ntmps152 results152 ?_;simp(disch:=omega);refine pC m _ _ ?_;by_cases hm:0<=m/\m<=60
 ·rw[if_pos hm,if_pos hm]at h;have hd:decide (0<=m/\m<=60)=true:=decide_eq_true hm;simp(disch:=omega)[hd];refine tD l _ _ ?_ ?_
  ·intro hn;rw[hn]at h;simp(disch:=omega);exact ad h
  ·intro ws hn b hb;rw[hn]at h;dsimp only at h;have nice:=iT hn;have hfew:=nice.few;obtain⟨m,rfl⟩:∃ k:Nat,m=k:=⟨m.toNat,by omega⟩;have hs1:Sub M (M.put b (.cells true (strs ws) ws.length)):=(Sub.refl _).put hb _;simp(disch:=omega);refine lupS [7,8,10,18,19,20,21,22,23,24,25,26,27,28,29,30,31,32,33,34,35,36,37] (fun x:List UInt8×Nat=>[(7,str x.1)]) (fun x M'=>M'=M.put b (.cells true (strs ws) ws.length)/\Grown ws x.1/\x.1.length<=180/\m<=x.1.length+x.2/\dR ws m x.2 x.1=dR ws m 60 [97]) (fun x=>m-x.1.length) ([97],60) ⟨rfl,⟨by obtain⟨p,q,r,hw⟩:=nice.head;intro u hu;rw[List.mem_singleton.1 hu,hw];exact⟨by decide,by simp⟩,⟨[],rfl⟩⟩,by decide,by simp only[length_singleton];omega,rfl⟩ ?_
   rintro⟨out,f⟩ M' g ⟨rfl,hg,hl1,hf,he⟩
   simp only at hg hl1 hf he;by_cases hlt:(out.length:Int)<m
   ·obtain⟨hg',hl2⟩:=hg.img nice;have hl3:=de nice out hg.ltr;simp(disch:=omega);refine bV out _ _ (by omega) ?_;simp(disch:=omega)[hlt];intro b2 c2 hb2 hc2;simp(disch:=omega);have hne:b2≠b:=by rintro rfl;rw[ag]at hb2;cases hb2
    refine aQ aR [8,10,25,26,27,28,29,30,31,32,33,34,35,36] (fun i:Nat=>[(25,.int .i64 i),(8,str (aP ws (out.take i)))]) (fun i M1=>i<=out.length/\M1=(M.put b (.cells true (strs ws) ws.length)).put b2 (.cells true (av out) c2)) (fun i=>out.length-i) 0 (by kernel_rfl) (by simp(disch:=omega)[eE]) ⟨by omega,rfl⟩ ?_
    rintro i M1 g' ⟨hi,rfl⟩
    by_cases hil:i<out.length
    ·have hx:out[i]?=some out[i]:=getElem?_eq_getElem hil;have hu:=out[i].toNat_lt;have hL:=hg.ltr _ (getElem_mem hil);have hk:((out[i].toNat:Int)-97).toNat=out[i].toNat-97:=by omega
     obtain⟨w,hw,hwl,hsn⟩:∃ w,ws[out[i].toNat-97]'hL.2=w/\w.length<=3/\aP ws (out.take (i+1))=aP ws (out.take i)++w:=
      ⟨_,rfl,(nice.len _ (getElem_mem hL.2)).2,by rw[az out hil,fg,getD_eq_getElem?_getD,getElem?_eq_getElem hL.2];rfl⟩
     have hil2:=de nice (out.take i) fun u hu=>hg.ltr u (mem_of_mem_take hu);have hil3:(out.take i).length<=out.length:=by rw[length_take];omega
     simp(disch:=omega);refine gS _ _ _ ?_;simp(disch:=omega)[hk,hw];refine rndA (i+1) (by simp(disch:=omega)[hsn]) ⟨by omega,rfl⟩
    ·have hi':i=out.length:=by omega
     subst hi';simp(disch:=omega);refine rndM (M.put b (.cells true (strs ws) ws.length)) (aP ws out,f-1) ((Sub.refl _).put hb2 _) ⟨rfl,hg',by simp only;omega,by simp only;omega,?_⟩;simp only;rw[<-i6 (by omega) hf];exact he
   ·have hmo:m<=out.length:=by omega
    rw[iI hmo]at he;rw[Int.toNat_natCast]at h;rw[<-he]at h;simp(disch:=omega);refine bV out _ _ (by omega) ?_;simp(disch:=omega)[hlt];exact ae hs1 h
 ·rw[if_neg hm,if_neg hm]at h;have hd:decide (0<=m/\m<=60)=false:=decide_eq_false hm;simp(disch:=omega)[hd];exact ad h
theorem H5(l:List UInt8)(hl:l=[102,105,98,111,110,97,99,99,105])(ws:List (List UInt8))(hws:ws=[[97,98],[97]])(m:Nat)(M:Mem)(R:VP)(hm:m<=60)
  (h:R (.tuple #[str ((dR ws m 60 [97]).take m),.bool true]) M):ar prog 113 [str l,.int .i64 m] M R:=by
 have b1:(l==[102,105,98,111,110,97,99,99,105])=decide (1=1):=by rw[hl];decide
 have b2:(l==[116,104,117,101])=decide (1=2):=by rw[hl];decide
 have b3:(l==[100,111,117,98,108,105,110,103])=decide (1=3):=by rw[hl];decide
 have b4:(l==[116,114,105,112,108,101])=decide (1=4):=by rw[hl];decide
 have hll:l.length<=1099511627776:=by rw[hl];decide
 have nice:Ht ws:=iT (l:=l) (by rw[hl,hws];decide);have hfew:=nice.few;have hlen:ws.length=([[97,98],[97]]:List (List UInt8)).length:=by rw[hws]
 clear hl;refine fnS func113 rfl ntmps113 results113 ?_;simp(disch:=omega);intro b0 hb0;simp(disch:=omega)[b1];intro b hb;have hV:([str [97,98],str [97]]:List Value)=strs ws:=by rw[hws];rfl
 have hs0:Sub M (M.put b0 (.cells true [] 0)):=(Sub.refl _).put hb0 _;rw[hV];clear hV hws;simp(disch:=omega);refine lupS [7,8,9,24,25,26,27,28,29,30,31,32,33,34,35,36,37,38,39,40,41,42] (fun x:List UInt8×Nat=>[(7,str x.1)]) (fun x M'=>M'=(M.put b0 (.cells true [] 0)).put b (.cells true (strs ws) ws.length)/\Grown ws x.1/\x.1.length<=180/\m<=x.1.length+x.2/\dR ws m x.2 x.1=dR ws m 60 [97]) (fun x=>m-x.1.length) ([97],60) ⟨by rw[hlen],⟨by obtain⟨p,q,r,hw⟩:=nice.head;intro u hu;rw[List.mem_singleton.1 hu,hw];exact⟨by decide,by simp⟩,⟨[],rfl⟩⟩,by decide,by simp only[length_singleton];omega,rfl⟩ ?_
 rintro⟨out,f⟩ M' g ⟨rfl,hg,hl1,hf,he⟩
 simp only at hg hl1 hf he;by_cases hlt:(out.length:Int)<m
 ·obtain⟨hg',hl2⟩:=hg.img nice;have hl3:=de nice out hg.ltr;simp(disch:=omega)[hlt];refine aQ aR [8,9,28,29,30,31,32,33,34,35,36,37,38,39,40,41] (fun i:Nat=>[(9,.int .i64 i),(8,str (aP ws (out.take i)))]) (fun i M1=>i<=out.length/\M1=(M.put b0 (.cells true [] 0)).put b (.cells true (strs ws) ws.length)) (fun i=>out.length-i) 0 (by kernel_rfl) (by simp(disch:=omega)[eE]) ⟨by omega,rfl⟩ ?_
  rintro i M1 g' ⟨hi,rfl⟩
  by_cases hil:i<out.length
  ·have hx:out[i]?=some out[i]:=getElem?_eq_getElem hil;have hu:=out[i].toNat_lt;have hL:=hg.ltr _ (getElem_mem hil);have hk:((out[i].toNat:Int)-97).toNat=out[i].toNat-97:=by omega
   obtain⟨w,hw,hwl,hsn⟩:∃ w,ws[out[i].toNat-97]'hL.2=w/\w.length<=3/\aP ws (out.take (i+1))=aP ws (out.take i)++w:=
    ⟨_,rfl,(nice.len _ (getElem_mem hL.2)).2,by rw[az out hil,fg,getD_eq_getElem?_getD,getElem?_eq_getElem hL.2];rfl⟩
   have hil2:=de nice (out.take i) fun u hu=>hg.ltr u (mem_of_mem_take hu);have hil3:(out.take i).length<=out.length:=by rw[length_take];omega
   have hL2:(out[i].toNat:Int)-97<([[97,98],[97]]:List (List UInt8)).length:=by rw[<-hlen];omega
   simp(disch:=omega);refine ji out i _ _ _ (by omega) hx ?_;simp only[length_cons,length_nil]at hL2;simp(disch:=omega)[hk,hw];refine rndA (i+1) (by simp(disch:=omega)[hsn]) ⟨by omega,rfl⟩
  ·have hi':i=out.length:=by omega
   subst hi';simp(disch:=omega);refine rndS (aP ws out,f-1) ⟨rfl,hg',by simp only;omega,by simp only;omega,?_⟩;simp only;rw[<-i6 (by omega) hf];exact he
 ·have hmo:m<=out.length:=by omega
  rw[iI hmo]at he;rw[<-he]at h;simp(disch:=omega)[hlt];exact ae (hs0.putN hb _) h
theorem IK(l:List UInt8)(hl:l=[116,104,117,101])(ws:List (List UInt8))(hws:ws=[[97,98],[98,97]])(m:Nat)(M:Mem)(R:VP)(hm:m<=60)
  (h:R (.tuple #[str ((dR ws m 60 [97]).take m),.bool true]) M):ar prog 113 [str l,.int .i64 m] M R:=by
 have b1:(l==[102,105,98,111,110,97,99,99,105])=decide (2=1):=by rw[hl];decide
 have b2:(l==[116,104,117,101])=decide (2=2):=by rw[hl];decide
 have b3:(l==[100,111,117,98,108,105,110,103])=decide (2=3):=by rw[hl];decide
 have b4:(l==[116,114,105,112,108,101])=decide (2=4):=by rw[hl];decide
 have hll:l.length<=1099511627776:=by rw[hl];decide
 have nice:Ht ws:=iT (l:=l) (by rw[hl,hws];decide);have hfew:=nice.few;have hlen:ws.length=([[97,98],[98,97]]:List (List UInt8)).length:=by rw[hws]
 clear hl;refine fnS func113 rfl ntmps113 results113 ?_;simp(disch:=omega);intro b0 hb0;simp(disch:=omega)[b1,b2];intro b hb;have hV:([str [97,98],str [98,97]]:List Value)=strs ws:=by rw[hws];rfl
 have hs0:Sub M (M.put b0 (.cells true [] 0)):=(Sub.refl _).put hb0 _;rw[hV];clear hV hws;simp(disch:=omega);refine lupS [7,8,9,24,25,26,27,28,29,30,31,32,33,34,35,36,37,38,39,40,41,42] (fun x:List UInt8×Nat=>[(7,str x.1)]) (fun x M'=>M'=(M.put b0 (.cells true [] 0)).put b (.cells true (strs ws) ws.length)/\Grown ws x.1/\x.1.length<=180/\m<=x.1.length+x.2/\dR ws m x.2 x.1=dR ws m 60 [97]) (fun x=>m-x.1.length) ([97],60) ⟨by rw[hlen],⟨by obtain⟨p,q,r,hw⟩:=nice.head;intro u hu;rw[List.mem_singleton.1 hu,hw];exact⟨by decide,by simp⟩,⟨[],rfl⟩⟩,by decide,by simp only[length_singleton];omega,rfl⟩ ?_
 rintro⟨out,f⟩ M' g ⟨rfl,hg,hl1,hf,he⟩
 simp only at hg hl1 hf he;by_cases hlt:(out.length:Int)<m
 ·obtain⟨hg',hl2⟩:=hg.img nice;have hl3:=de nice out hg.ltr;simp(disch:=omega)[hlt];refine aQ aR [8,9,28,29,30,31,32,33,34,35,36,37,38,39,40,41] (fun i:Nat=>[(9,.int .i64 i),(8,str (aP ws (out.take i)))]) (fun i M1=>i<=out.length/\M1=(M.put b0 (.cells true [] 0)).put b (.cells true (strs ws) ws.length)) (fun i=>out.length-i) 0 (by kernel_rfl) (by simp(disch:=omega)[eE]) ⟨by omega,rfl⟩ ?_
  rintro i M1 g' ⟨hi,rfl⟩
  by_cases hil:i<out.length
  ·have hx:out[i]?=some out[i]:=getElem?_eq_getElem hil;have hu:=out[i].toNat_lt;have hL:=hg.ltr _ (getElem_mem hil);have hk:((out[i].toNat:Int)-97).toNat=out[i].toNat-97:=by omega
   obtain⟨w,hw,hwl,hsn⟩:∃ w,ws[out[i].toNat-97]'hL.2=w/\w.length<=3/\aP ws (out.take (i+1))=aP ws (out.take i)++w:=
    ⟨_,rfl,(nice.len _ (getElem_mem hL.2)).2,by rw[az out hil,fg,getD_eq_getElem?_getD,getElem?_eq_getElem hL.2];rfl⟩
   have hil2:=de nice (out.take i) fun u hu=>hg.ltr u (mem_of_mem_take hu);have hil3:(out.take i).length<=out.length:=by rw[length_take];omega
   have hL2:(out[i].toNat:Int)-97<([[97,98],[98,97]]:List (List UInt8)).length:=by rw[<-hlen];omega
   simp(disch:=omega);refine ji out i _ _ _ (by omega) hx ?_;simp only[length_cons,length_nil]at hL2;simp(disch:=omega)[hk,hw];refine rndA (i+1) (by simp(disch:=omega)[hsn]) ⟨by omega,rfl⟩
  ·have hi':i=out.length:=by omega
   subst hi';simp(disch:=omega);refine rndS (aP ws out,f-1) ⟨rfl,hg',by simp only;omega,by simp only;omega,?_⟩;simp only;rw[<-i6 (by omega) hf];exact he
 ·have hmo:m<=out.length:=by omega
  rw[iI hmo]at he;rw[<-he]at h;simp(disch:=omega)[hlt];exact ae (hs0.putN hb _) h
theorem HR(l:List UInt8)(hl:l=[100,111,117,98,108,105,110,103])(ws:List (List UInt8))(hws:ws=[[97,98],[97,97]])(m:Nat)(M:Mem)(R:VP)(hm:m<=60)
  (h:R (.tuple #[str ((dR ws m 60 [97]).take m),.bool true]) M):ar prog 113 [str l,.int .i64 m] M R:=by
 have b1:(l==[102,105,98,111,110,97,99,99,105])=decide (3=1):=by rw[hl];decide
 have b2:(l==[116,104,117,101])=decide (3=2):=by rw[hl];decide
 have b3:(l==[100,111,117,98,108,105,110,103])=decide (3=3):=by rw[hl];decide
 have b4:(l==[116,114,105,112,108,101])=decide (3=4):=by rw[hl];decide
 have hll:l.length<=1099511627776:=by rw[hl];decide
 have nice:Ht ws:=iT (l:=l) (by rw[hl,hws];decide);have hfew:=nice.few;have hlen:ws.length=([[97,98],[97,97]]:List (List UInt8)).length:=by rw[hws]
 clear hl;refine fnS func113 rfl ntmps113 results113 ?_;simp(disch:=omega);intro b0 hb0;simp(disch:=omega)[b1,b2,b3];intro b hb;have hV:([str [97,98],str [97,97]]:List Value)=strs ws:=by rw[hws];rfl
 have hs0:Sub M (M.put b0 (.cells true [] 0)):=(Sub.refl _).put hb0 _;rw[hV];clear hV hws;simp(disch:=omega);refine lupS [7,8,9,24,25,26,27,28,29,30,31,32,33,34,35,36,37,38,39,40,41,42] (fun x:List UInt8×Nat=>[(7,str x.1)]) (fun x M'=>M'=(M.put b0 (.cells true [] 0)).put b (.cells true (strs ws) ws.length)/\Grown ws x.1/\x.1.length<=180/\m<=x.1.length+x.2/\dR ws m x.2 x.1=dR ws m 60 [97]) (fun x=>m-x.1.length) ([97],60) ⟨by rw[hlen],⟨by obtain⟨p,q,r,hw⟩:=nice.head;intro u hu;rw[List.mem_singleton.1 hu,hw];exact⟨by decide,by simp⟩,⟨[],rfl⟩⟩,by decide,by simp only[length_singleton];omega,rfl⟩ ?_
 rintro⟨out,f⟩ M' g ⟨rfl,hg,hl1,hf,he⟩
 simp only at hg hl1 hf he;by_cases hlt:(out.length:Int)<m
 ·obtain⟨hg',hl2⟩:=hg.img nice;have hl3:=de nice out hg.ltr;simp(disch:=omega)[hlt];refine aQ aR [8,9,28,29,30,31,32,33,34,35,36,37,38,39,40,41] (fun i:Nat=>[(9,.int .i64 i),(8,str (aP ws (out.take i)))]) (fun i M1=>i<=out.length/\M1=(M.put b0 (.cells true [] 0)).put b (.cells true (strs ws) ws.length)) (fun i=>out.length-i) 0 (by kernel_rfl) (by simp(disch:=omega)[eE]) ⟨by omega,rfl⟩ ?_
  rintro i M1 g' ⟨hi,rfl⟩
  by_cases hil:i<out.length
  ·have hx:out[i]?=some out[i]:=getElem?_eq_getElem hil;have hu:=out[i].toNat_lt;have hL:=hg.ltr _ (getElem_mem hil);have hk:((out[i].toNat:Int)-97).toNat=out[i].toNat-97:=by omega
   obtain⟨w,hw,hwl,hsn⟩:∃ w,ws[out[i].toNat-97]'hL.2=w/\w.length<=3/\aP ws (out.take (i+1))=aP ws (out.take i)++w:=
    ⟨_,rfl,(nice.len _ (getElem_mem hL.2)).2,by rw[az out hil,fg,getD_eq_getElem?_getD,getElem?_eq_getElem hL.2];rfl⟩
   have hil2:=de nice (out.take i) fun u hu=>hg.ltr u (mem_of_mem_take hu);have hil3:(out.take i).length<=out.length:=by rw[length_take];omega
   have hL2:(out[i].toNat:Int)-97<([[97,98],[97,97]]:List (List UInt8)).length:=by rw[<-hlen];omega
   simp(disch:=omega);refine ji out i _ _ _ (by omega) hx ?_;simp only[length_cons,length_nil]at hL2;simp(disch:=omega)[hk,hw];refine rndA (i+1) (by simp(disch:=omega)[hsn]) ⟨by omega,rfl⟩
  ·have hi':i=out.length:=by omega
   subst hi';simp(disch:=omega);refine rndS (aP ws out,f-1) ⟨rfl,hg',by simp only;omega,by simp only;omega,?_⟩;simp only;rw[<-i6 (by omega) hf];exact he
 ·have hmo:m<=out.length:=by omega
  rw[iI hmo]at he;rw[<-he]at h;simp(disch:=omega)[hlt];exact ae (hs0.putN hb _) h
theorem IS(l:List UInt8)(hl:l=[116,114,105,112,108,101])(ws:List (List UInt8))(hws:ws=[[97,98,99],[97,99],[98]])(m:Nat)(M:Mem)(R:VP)(hm:m<=60)
  (h:R (.tuple #[str ((dR ws m 60 [97]).take m),.bool true]) M):ar prog 113 [str l,.int .i64 m] M R:=by
 have b1:(l==[102,105,98,111,110,97,99,99,105])=decide (4=1):=by rw[hl];decide
 have b2:(l==[116,104,117,101])=decide (4=2):=by rw[hl];decide
 have b3:(l==[100,111,117,98,108,105,110,103])=decide (4=3):=by rw[hl];decide
 have b4:(l==[116,114,105,112,108,101])=decide (4=4):=by rw[hl];decide
 have hll:l.length<=1099511627776:=by rw[hl];decide
 have nice:Ht ws:=iT (l:=l) (by rw[hl,hws];decide);have hfew:=nice.few;have hlen:ws.length=([[97,98,99],[97,99],[98]]:List (List UInt8)).length:=by rw[hws]
 clear hl;refine fnS func113 rfl ntmps113 results113 ?_;simp(disch:=omega);intro b0 hb0;simp(disch:=omega)[b1,b2,b3,b4];intro b hb;have hV:([str [97,98,99],str [97,99],str [98]]:List Value)=strs ws:=by rw[hws];rfl
 have hs0:Sub M (M.put b0 (.cells true [] 0)):=(Sub.refl _).put hb0 _;rw[hV];clear hV hws;simp(disch:=omega);refine lupS [7,8,9,24,25,26,27,28,29,30,31,32,33,34,35,36,37,38,39,40,41,42] (fun x:List UInt8×Nat=>[(7,str x.1)]) (fun x M'=>M'=(M.put b0 (.cells true [] 0)).put b (.cells true (strs ws) ws.length)/\Grown ws x.1/\x.1.length<=180/\m<=x.1.length+x.2/\dR ws m x.2 x.1=dR ws m 60 [97]) (fun x=>m-x.1.length) ([97],60) ⟨by rw[hlen],⟨by obtain⟨p,q,r,hw⟩:=nice.head;intro u hu;rw[List.mem_singleton.1 hu,hw];exact⟨by decide,by simp⟩,⟨[],rfl⟩⟩,by decide,by simp only[length_singleton];omega,rfl⟩ ?_
 rintro⟨out,f⟩ M' g ⟨rfl,hg,hl1,hf,he⟩
 simp only at hg hl1 hf he;by_cases hlt:(out.length:Int)<m
 ·obtain⟨hg',hl2⟩:=hg.img nice;have hl3:=de nice out hg.ltr;simp(disch:=omega)[hlt];refine aQ aR [8,9,28,29,30,31,32,33,34,35,36,37,38,39,40,41] (fun i:Nat=>[(9,.int .i64 i),(8,str (aP ws (out.take i)))]) (fun i M1=>i<=out.length/\M1=(M.put b0 (.cells true [] 0)).put b (.cells true (strs ws) ws.length)) (fun i=>out.length-i) 0 (by kernel_rfl) (by simp(disch:=omega)[eE]) ⟨by omega,rfl⟩ ?_
  rintro i M1 g' ⟨hi,rfl⟩
  by_cases hil:i<out.length
  ·have hx:out[i]?=some out[i]:=getElem?_eq_getElem hil;have hu:=out[i].toNat_lt;have hL:=hg.ltr _ (getElem_mem hil);have hk:((out[i].toNat:Int)-97).toNat=out[i].toNat-97:=by omega
   obtain⟨w,hw,hwl,hsn⟩:∃ w,ws[out[i].toNat-97]'hL.2=w/\w.length<=3/\aP ws (out.take (i+1))=aP ws (out.take i)++w:=
    ⟨_,rfl,(nice.len _ (getElem_mem hL.2)).2,by rw[az out hil,fg,getD_eq_getElem?_getD,getElem?_eq_getElem hL.2];rfl⟩
   have hil2:=de nice (out.take i) fun u hu=>hg.ltr u (mem_of_mem_take hu);have hil3:(out.take i).length<=out.length:=by rw[length_take];omega
   have hL2:(out[i].toNat:Int)-97<([[97,98,99],[97,99],[98]]:List (List UInt8)).length:=by rw[<-hlen];omega
   simp(disch:=omega);refine ji out i _ _ _ (by omega) hx ?_;simp only[length_cons,length_nil]at hL2;simp(disch:=omega)[hk,hw];refine rndA (i+1) (by simp(disch:=omega)[hsn]) ⟨by omega,rfl⟩
  ·have hi':i=out.length:=by omega
   subst hi';simp(disch:=omega);refine rndS (aP ws out,f-1) ⟨rfl,hg',by simp only;omega,by simp only;omega,?_⟩;simp only;rw[<-i6 (by omega) hf];exact he
 ·have hmo:m<=out.length:=by omega
  rw[iI hmo]at he;rw[<-he]at h;simp(disch:=omega)[hlt];exact ae (hs0.putN hb _) h
theorem zV(l:List UInt8)(m:Nat)(M:Mem)(R:VP)(hl:l.length<=1099511627776)(hm:m<=60)
  (h:R (match named l with|some ws=>.tuple #[str ((dR ws m 60 [97]).take m),.bool true]|none=>.tuple #[str [],.bool false]) M):ar prog 113 [str l,.int .i64 m] M R:=by
 by_cases e1:l=[102,105,98,111,110,97,99,99,105]
 ·exact H5 l e1 _ rfl m M R hm (by rw[show named l=some [[97,98],[97]] by rw[e1];decide]at h;exact h)
 by_cases e2:l=[116,104,117,101]
 ·exact IK l e2 _ rfl m M R hm (by rw[show named l=some [[97,98],[98,97]] by rw[e2];decide]at h;exact h)
 by_cases e3:l=[100,111,117,98,108,105,110,103]
 ·exact HR l e3 _ rfl m M R hm (by rw[show named l=some [[97,98],[97,97]] by rw[e3];decide]at h;exact h)
 by_cases e4:l=[116,114,105,112,108,101]
 ·exact IS l e4 _ rfl m M R hm (by rw[show named l=some [[97,98,99],[97,99],[98]] by rw[e4];decide]at h;exact h)
 have hn:named l=none:=by unfold named;rw[if_neg e1,if_neg e2,if_neg e3,if_neg e4]
 rw[hn]at h;dsimp only at h;refine fnS func113 rfl ntmps113 results113 ?_;simp(disch:=omega);intro b0 hb0;simp(disch:=omega)[jn e1,jn e2,jn e3,jn e4];exact ae ((Sub.refl _).put hb0 _) h
theorem xM(l:List UInt8)(m:Int)(M:Mem)(R:VP)(hl:l.length<=1099511627776)(h:R (aD (str (fS l m)) (ia l m)) M):ar prog 62 [str l,.int .i64 m] M R:=by
 unfold aD fS ia at h;refine fnS func62 rfl ntmps62 results62 ?_;simp(disch:=omega);refine bZ m 0 60 _ _ ?_;by_cases hm:0<=m/\m<=60
 ·rw[if_pos hm,if_pos hm]at h;have hd:decide (0<=m/\m<=60)=true:=decide_eq_true hm;obtain⟨m,rfl⟩:∃ k:Nat,m=k:=⟨m.toNat,by omega⟩;simp(disch:=omega);refine zV l m _ _ hl (by omega) ?_;cases hn:named l with
  | none=>
   rw[hn]at h;dsimp only at h ⊢;simp(disch:=omega);exact ad h
  | some ws=>
   rw[hn]at h;dsimp only at h ⊢;simp(disch:=omega);exact ad h
 ·rw[if_neg hm,if_neg hm]at h;have hd:decide (0<=m/\m<=60)=false:=decide_eq_false hm;simp(disch:=omega)[hd];exact ad h
end Go.Proofs.YtapimhjbilkfpaaGreatDoor
