/- Lemmas for FnExactConsole, part 11 of 46. -/
import Derived.Test.YtapimhjbilkfpaaGreatDoorZ09
import Derived.Test.YtapimhjbilkfpaaGreatDoorZ04
import Derived.Test.YtapimhjbilkfpaaGreatDoorZ08
import Derived.Test.YtapimhjbilkfpaaGreatDoorZ07
set_option linter.unusedVariables false
set_option linter.unusedSimpArgs false
namespace Go.Proofs.YtapimhjbilkfpaaGreatDoor
open Go Go.Proofs.Tryz List
def mnL:List Nat->Nat
 | []=>0
 | a::l=>l.foldl Nat.min a
def mxL:List Nat->Nat
 | []=>0
 | a::l=>l.foldl Nat.max a
theorem GX{l:List Nat}(h:1<=l.length)(a:Nat):mnL (l++[a])=Nat.min (mnL l) a:=by
 cases l with
 | nil=>simp at h
 | cons b l=>simp[mnL]
theorem FC{l:List Nat}(h:1<=l.length)(a:Nat):mxL (l++[a])=Nat.max (mxL l) a:=by
 cases l with
 | nil=>simp at h
 | cons b l=>simp[mxL]
theorem Jv(a:Nat):mnL [a]=a:=rfl
theorem JT(a:Nat):mxL [a]=a:=rfl
theorem NN(a b:Nat):(if b<a then (b:Int) else a)=(Nat.min a b:Nat):=by
 show _=((min a b:Nat):Int);split<;>omega
theorem OB(a b:Nat):(if a<b then (b:Int) else a)=(Nat.max a b:Nat):=by
 show _=((max a b:Nat):Int);split<;>omega
def lens(ws:List (List UInt8)):List Nat:=ws.map length
theorem jA(ws:List (List UInt8)):(lens ws).length=ws.length:=by simp[lens]
theorem LB(ws:List (List UInt8))(w:List UInt8):lens (ws++[w])=lens ws++[w.length]:=by simp[lens]
theorem pT:∀(l:List Nat) (a:Nat),l.foldl Nat.min a<=a/\∀ x∈l,l.foldl Nat.min a<=x
 | [],a=>⟨Nat.le_refl a,fun _ h=>by cases h⟩
 | b::l,a=>by
  obtain⟨h1,h2⟩:=pT l (Nat.min a b);have e:Nat.min a b=min a b:=rfl;refine⟨by rw[foldl_cons];omega,fun x hx=>?_⟩;rw[foldl_cons];rcases List.mem_cons.1 hx with rfl|hx
  ·omega
  ·exact h2 x hx
theorem SV{l:List Nat}{x:Nat}(h:x∈l):mnL l<=x:=by
 cases l with
 | nil=>cases h
 | cons a l=>
  rcases List.mem_cons.1 h with rfl|h
  ·exact(pT l x).1
  ·exact(pT l a).2 x h
theorem FB:∀(l:List Nat) (a:Nat),l.foldl Nat.max a∈a::l
 | [],a=>mem_cons_self ..
 | b::l,a=>by
  rw[foldl_cons];have:=FB l (Nat.max a b);have e:Nat.max a b=a\/Nat.max a b=b:=by show max a b=a\/max a b=b;omega
  rcases List.mem_cons.1 this with h|h
  ·rw[h];rcases e with e|e<;>rw[e]<;>simp
  ·exact mem_cons_of_mem _ (mem_cons_of_mem _ h)
theorem QL{l:List Nat}(h:1<=l.length):mxL l∈l:=by
 cases l with
 | nil=>simp at h
 | cons a l=>exact FB l a
def kC(ws:List (List UInt8)):Int:=if aW ws then 0 else 1
def ja(ws:List (List UInt8)):Nat:=if mnL (lens ws)=0 then 0 else max 3 ((mxL (lens ws)-3+mnL (lens ws)-1)/mnL (lens ws)+1)
def Kf(ws:List (List UInt8)):Nat:=if aW ws then ja ws else 0
def kS(ws:List (List UInt8)):Int:=if aW ws then (if ja ws=0 then 5 else 0) else 1
theorem JO{ws:List (List UInt8)}(h:aW ws=true):mnL (lens ws)<=12/\mxL (lens ws)<=12/\mnL (lens ws)<=mxL (lens ws):=by
 have h1:=aX h;have h2:=QL (l:=lens ws) (by rw[jA];omega);obtain⟨w,hw,he⟩:=List.mem_map.1 h2;have:=(bL h hw).1;have:=SV h2;omega
theorem ez(l:List Nat)(a:Nat):aB l++[.int .i64 a]=aB (l++[a]):=by simp[aB]
theorem take_one{α:Type}{l:List α}(h:0<l.length):l.take 1=[l[0]]:=by
 cases l with
 | nil=>simp at h
 | cons a l=>rfl
theorem sS(v:Value)(ws:List (List UInt8))(M:Mem)(R:VP)(hv:Rd M v (strs ws))(hf:df ws)(hn:ws.length<=1000000)(h:∀ v' M',Own M v' (aB (lens ws)) M'->R v' M'):ar prog 388 [.agg #[v]] M R:=by
 refine fnS func388 rfl ntmps388 results388 ?_;obtain⟨a,c,rfl,ha⟩:=hv.opened;rw[ah]at ha hv ⊢;simp(disch:=omega);intro b1 hb1;have hs1:Sub M (M.put b1 (.cells true [.slice a ws.length c] 1)):=(Sub.refl M).put hb1 _;simp(disch:=omega);generalize M.put b1 (.cells true [.slice a ws.length c] 1)=N at *;refine lupS [3,5,9,10,11,12,13,14,15,16,17,18] (fun x:Nat×Value=>[(9,.int .i64 x.1),(3,x.2)]) (fun x M'=>x.1<=ws.length/\Own N x.2 (aB (lens (ws.take x.1))) M') (fun x=>ws.length-x.1) (0,.slice none 0 0) ⟨by simp,Own.nil _⟩ ?_
 rintro⟨i,v⟩ M' g ⟨hi,ho⟩
 simp only at hi ho;by_cases hlt:i<ws.length
 ·rcases ha with h0|⟨b,o,rfl,ha⟩
  ·omega
  have hg0:=ha i hlt;rw[bg,getElem?_eq_getElem hlt]at hg0;have hg:=aT (aT hg0 hs1) ho.sub;have hw:=hf _ (getElem_mem hlt);have hle:(aB (lens (ws.take i))).length<=1000000:=by rw[aA,jA,length_take];omega
  simp(disch:=omega)[hg];refine bV _ _ _ hw ?_;simp(disch:=omega);intro b' hb';simp(disch:=omega);refine aN ho ((Sub.refl _).put hb' _) (by simp(disch:=omega);rfl) rfl rfl (by omega) (by simp(disch:=omega)) (by simp(disch:=omega);omega) ?_;intro v' M'' N'' ho' hs';simp(disch:=omega);refine rndM M'' (i+1,v') hs' ⟨by simp only;omega,?_⟩;rw[ez,<-LB,<-az ws hlt]at ho';exact ho'
 ·have hi':i=ws.length:=by omega
  subst hi';simp(disch:=omega);rw[take_length]at ho;obtain⟨M'',ho',hs'⟩:=ho.base hs1;exact ae hs' (h v M'' ho')
theorem Ny(v:Value)(ns:List Nat)(M:Mem)(R:VP)(hv:Rd M v (aB ns))(h1:1<=ns.length)(hl:ns.length<=1000000)(h:R (.int .i64 (mnL ns)) M):ar prog 387 [v] M R:=by
 refine fnS func387 rfl ntmps387 results387 ?_;obtain⟨a,c,rfl,ha⟩:=hv.opened;rw[aA]at ha ⊢;rcases ha with h0|⟨b,o,rfl,ha⟩
 ·omega
 have hg0:=ha 0 (by omega);rw[bS,getElem?_eq_getElem (by omega),Nat.add_zero]at hg0;simp(disch:=omega)[hg0];refine aQ aR [3,4,12,13,14,15,16,17,18,19,20,21,22,23] (fun i:Nat=>[(4,.int .i64 i),(3,.int .i64 (mnL (ns.take i)))]) (fun i M'=>M'=M/\1<=i/\i<=ns.length) (fun i=>ns.length-i) 1 (by kernel_rfl) (by rw[take_one (by omega)];simp(disch:=omega)[Jv]) ⟨rfl,by omega,h1⟩ ?_
 rintro i M' g ⟨rfl,hi1,hi⟩
 by_cases hlt:i<ns.length
 ·have hg:=ha i hlt;rw[bS,getElem?_eq_getElem hlt]at hg;simp(disch:=omega)[hg,NN];refine rndA (i+1) ?_ ⟨rfl,by omega,by omega⟩;rw[az ns hlt,GX (by rw[length_take];omega)];simp(disch:=omega)
 ·have hi':i=ns.length:=by omega
  subst hi';rw[take_length];simp(disch:=omega);exact ad h
theorem Nq(v:Value)(ns:List Nat)(M:Mem)(R:VP)(hv:Rd M v (aB ns))(h1:1<=ns.length)(hl:ns.length<=1000000)(h:R (.int .i64 (mxL ns)) M):ar prog 389 [v] M R:=by
 refine fnS func389 rfl ntmps389 results389 ?_;obtain⟨a,c,rfl,ha⟩:=hv.opened;rw[aA]at ha ⊢;rcases ha with h0|⟨b,o,rfl,ha⟩
 ·omega
 have hg0:=ha 0 (by omega);rw[bS,getElem?_eq_getElem (by omega),Nat.add_zero]at hg0;simp(disch:=omega)[hg0];refine aQ aR [3,4,12,13,14,15,16,17,18,19,20,21,22,23] (fun i:Nat=>[(4,.int .i64 i),(3,.int .i64 (mxL (ns.take i)))]) (fun i M'=>M'=M/\1<=i/\i<=ns.length) (fun i=>ns.length-i) 1 (by kernel_rfl) (by rw[take_one (by omega)];simp(disch:=omega)[JT]) ⟨rfl,by omega,h1⟩ ?_
 rintro i M' g ⟨rfl,hi1,hi⟩
 by_cases hlt:i<ns.length
 ·have hg:=ha i hlt;rw[bS,getElem?_eq_getElem hlt]at hg;simp(disch:=omega)[hg,OB];refine rndA (i+1) ?_ ⟨rfl,by omega,by omega⟩;rw[az ns hlt,FC (by rw[length_take];omega)];simp(disch:=omega)
 ·have hi':i=ns.length:=by omega
  subst hi';rw[take_length];simp(disch:=omega);exact ad h
theorem NA:df []:=by intro w hw;cases hw
theorem IZ(M:Mem):Rd M (.slice none 0 0) []:=(Own.nil M).rd
theorem ff(v:Value)(ws:List (List UInt8))(M:Mem)(R:VP)(hv:Rd M v (strs ws))(hf:df ws)(hn:ws.length<=1099511627776)(h:R (.int .i64 (kC ws)) M):ar prog 228 [.agg #[v],.func (.func 213) #[] #[],.slice none 0 0] M R:=by
 refine di v _ _ ws [] true (fun _=>True) M R hv hf hn (IZ M) NA (by simp) rfl trivial bT (bG _) ?_;have e:codeOf [] ([].all (fun u=>gF u ws.length)&&true)=0:=rfl;rw[e];exact h
theorem EJ{a b:Nat}(ha:1<=a)(ha':a<=12)(hb:b<=12):((((b-3:Nat):Int)+a-1).tdiv a)=(((b-3+a-1)/a:Nat):Int):=by
 have e:((b-3:Nat):Int)+a-1=((b-3+a-1:Nat):Int):=by omega
 rw[e,Int.tdiv_eq_ediv_of_nonneg (by omega)]
 push_cast;rfl
theorem Kj{a b:Nat}(hb:b<=12)(ha:a<=12):(b-3+a-1)/a<=21:=Nat.le_trans (Nat.div_le_self _ _) (by omega)
theorem Rw(r:Nat):(if (3:Int)<(r:Int)+1 then (r:Int)+1 else 3)=(max 3 (r+1):Nat):=by split<;>omega
theorem Vl(b:Nat):(if (b:Int)-3<0 then (0:Int) else (b:Int)-3)=((b-3:Nat):Int):=by split<;>omega
theorem wa(v:Value)(ws:List (List UInt8))(M:Mem)(R:VP)(hv:Rd M v (strs ws))(hf:df ws)(hn:ws.length<=1099511627776)(h:R (aD (.int .i64 (Kf ws)) (kS ws)) M):ar prog 336 [.agg #[v]] M R:=by
 refine fnS func336 rfl ntmps336 results336 ?_;obtain⟨a,c,rfl,ha⟩:=hv.opened;rw[ah]at hv ⊢;simp(disch:=omega);intro b1 hb1;have hs1:Sub M (M.put b1 (.cells true [.slice a ws.length c] 1)):=(Sub.refl M).put hb1 _;have hv1:=hv.put hb1 (.cells true [.slice a ws.length c] 1);have k1:(M.put b1 (.cells true [.slice a ws.length c] 1)) b1=some (.cells true [.slice a ws.length c] 1):=ag _ _ _;simp(disch:=omega);generalize M.put b1 (.cells true [.slice a ws.length c] 1)=N at *;refine ff _ ws _ _ hv1 hf hn ?_;unfold Kf kS at h;unfold kC;cases hm:aW ws
 ·rw[hm]at h;simp(disch:=omega);exact ae hs1 h
 ·rw[hm,if_pos rfl,if_pos rfl]at h;have h15:=aX hm;have hll:=jA ws;obtain⟨q1,q2,q3⟩:=JO hm;unfold ja at h;simp(disch:=omega);refine plyS (ak [0,3] (.one 1 1 (.one 2 1 (.one 4 1 (.one 5 1 (ak [6,7] .fin)))))) ?_;simp(disch:=omega)[aq k1];refine sS _ ws _ _ hv1 hf (by omega) ?_;intro v2 N2 o2;simp(disch:=omega);refine⟨o2.sub,?_⟩;refine Ny _ _ _ _ o2.rd (by omega) (by omega) ?_;simp(disch:=omega);refine sS _ ws _ _ (hv1.sub o2.sub) hf (by omega) ?_;intro v3 N3 o3;simp(disch:=omega);refine⟨o3.sub,?_⟩;refine Nq _ _ _ _ o3.rd (by omega) (by omega) ?_;have hsz:=(hs1.trans o2.sub).trans o3.sub;generalize mnL (lens ws)=p at *;generalize mxL (lens ws)=q at *;by_cases h0:p=0
  ·subst h0;simp(disch:=omega);exact ae hsz h
  ·have h0':¬(p:Int)=0:=by omega
   rw[if_neg h0]at h;have t1:=EJ (a:=p) (b:=q) (by omega) q1 q2;have t2:=Kj (a:=p) (b:=q) q2 q1;have t3:=Vl q;generalize (q-3+p-1)/p=r at *;simp(disch:=omega)[t3,t1,Rw];rw[if_neg (show ¬ max 3 (r+1)=0 by omega)]at h;exact ae hsz h
theorem CX(v:Value)(ws:List (List UInt8))(M:Mem)(R:VP)(hv:Rd M v (strs ws))(hm:aW ws=true)(h:R (.int .i64 (ja ws)) M):ar prog 275 [.agg #[v]] M R:=by
 refine fnS func275 rfl ntmps275 results275 ?_;obtain⟨a,c,rfl,ha⟩:=hv.opened;have h15:=aX hm;have hll:=jA ws;obtain⟨q1,q2,q3⟩:=JO hm;rw[ah]at ha hv ⊢;simp(disch:=omega);intro b1 hb1;have hs1:Sub M (M.put b1 (.cells true [.slice a ws.length c] 1)):=(Sub.refl M).put hb1 _;have k1:(M.put b1 (.cells true [.slice a ws.length c] 1)) b1=some (.cells true [.slice a ws.length c] 1):=ag _ _ _;rcases ha with h0|⟨b,o,rfl,ha⟩
 ·omega
 simp(disch:=omega);generalize M.put b1 (.cells true [.slice (some ⟨b,o,none⟩) ws.length c] 1)=N at *;have hget:∀ i,(hi:i<ws.length)->N.get? b (o+i)=some (str ws[i]):=by
  intro i hi;have hg0:=ha i hi;rw[bg,getElem?_eq_getElem hi]at hg0;exact aT hg0 hs1
 have hg1:=hget 0 (by omega);rw[Nat.add_zero]at hg1;have hl0:(lens ws)[0]'(by omega)=(ws[0]'(by omega)).length:=by simp[lens]
 refine drwS ?_;simp(disch:=omega)[aj k1,hg1];refine aQ aR [3,4,5,16,17,18,19,20,21,22,23,24,25,26,27,28,29,30,31,32,33,34,35,36,37,38] (fun i:Nat=>[(5,.int .i64 i),(3,.int .i64 (mnL ((lens ws).take i))),(4,.int .i64 (mxL ((lens ws).take i)))]) (fun i M'=>M'=N/\1<=i/\i<=ws.length) (fun i=>ws.length-i) 1 (by kernel_rfl) (by rw[take_one (by omega),Jv,JT,hl0];simp(disch:=omega)) ⟨rfl,by omega,by omega⟩ ?_
 rintro i M' g ⟨rfl,hi1,hi⟩
 by_cases hlt:i<ws.length
 ·have hg:=hget i hlt;have hli:(lens ws)[i]'(by omega)=ws[i].length:=by simp[lens]
  simp(disch:=omega)[aj k1,hg,NN,OB];refine rndA (i+1) ?_ ⟨rfl,by omega,by omega⟩;rw[az (lens ws) (by omega),hli,GX (by rw[length_take];omega),FC (by rw[length_take];omega)];simp(disch:=omega)
 ·have hi':i=ws.length:=by omega
  rw[take_of_length_le (by omega)];unfold ja at h;generalize mnL (lens ws)=p at *;generalize mxL (lens ws)=q at *;by_cases h0:p=0
  ·subst h0;simp(disch:=omega)[aj k1];exact ae hs1 h
  ·have h0':¬(p:Int)=0:=by omega
   rw[if_neg h0]at h;have t1:=EJ (a:=p) (b:=q) (by omega) q1 q2;have t2:=Kj (a:=p) (b:=q) q2 q1;have t3:=Vl q;generalize (q-3+p-1)/p=r at *;simp(disch:=omega)[aj k1,t3,t1,Rw];exact ae hs1 h
theorem fJ(v:List UInt8)(q:Nat)(qi:Int)(hqi:qi=q)(M:Mem)(R:VP)(hl:v.length<=60)(hq:q<=v.length)(h:R (.bool (hp v q)) M):ar prog 383 [str v,.int .i64 qi] M R:=by
 subst hqi;refine fnS func383 rfl ntmps383 results383 ?_;have e:(v.length:Int)-q=((v.length-q:Nat):Int):=by omega
 simp(disch:=omega);refine drwS ?_;simp(disch:=omega)[e];exact ad h
theorem zU(w:List UInt8)(k:Nat)(M:Mem)(R:VP)(hl:w.length<=60)(hk:1<=k)(hk':k<=60)
  (h:∀ v rs N M',ck M rs (dZ (pwP w k) w.length k w.length) N->Own N v rs M'->R v M'):ar prog 391 [str w,.int .i64 k] M R:=by
 refine fnS func391 rfl ntmps391 results391 ?_;simp(disch:=omega);refine lupS [5,6,7,10,11,12,13,14,15,16,17,18,19,20,21,22,23,24,25,26,27,28,29,30,31,32,33,34,35,36,37,38,39] (fun x:Nat×List Value×Value=>[(10,.int .i64 x.1),(5,x.2.2)]) (fun x M'=>x.1<=w.length/\∃ N,ck M x.2.1 (dZ (pwP w k) w.length k x.1) N/\Own N x.2.2 x.2.1 M') (fun x=>w.length-x.1) (0,[],.slice none 0 0) ⟨by simp,M,.nil,Own.nil _⟩ ?_
 rintro⟨i,rs,v⟩ M' g ⟨hi,N,hr,ho⟩
 simp only at hi hr ho;by_cases hlt:i<w.length
 ·simp(disch:=omega);refine lupS [5,7,13,14,15,16,17,18,19,20,21,22,23,24,25,26,27,28,29,30,31,32,33,34,35,36,37,38] (fun x:Nat×List Value×Value=>[(7,.int .i64 (x.1+1)),(5,x.2.2)]) (fun x M1=>x.1<=(w.length-i)/k/\∃ N,ck M x.2.1 (dZ (pwP w k) w.length k i++mf (pwP w k) i x.1) N/\Own N x.2.2 x.2.1 M1) (fun x=>(w.length-i)/k-x.1) (0,rs,v) ⟨by simp,N,by simpa[mf] using hr,ho⟩ ?_
  rintro⟨q,rs1,v1⟩ M1 g1 ⟨hq,N1,hr1,ho1⟩
  simp only at hq hr1 ho1;have hdiv:(w.length-i)/k<=w.length:=Nat.le_trans (Nat.div_le_self _ _) (Nat.sub_le _ _);obtain⟨p,hpp⟩:∃ p,p=k*(q+1):=⟨_,rfl⟩;have hp':p<=60*61:=by rw[hpp];exact Nat.mul_le_mul hk' (by omega)
  have e2:(k:Int)*(q+1)=p:=by rw[hpp];push_cast;rfl
  have hqp:q+1<=p:=by rw[hpp];exact Nat.le_mul_of_pos_left _ hk
  have hiff:=Of (w:=w) (i:=i) (q:=q) hk hi;rw[<-hpp]at hiff;by_cases hqlt:q<(w.length-i)/k
  ·have hle:=hiff.2 hqlt;have hle':(i:Int)+p<=w.length:=by omega
   have hseg:=fK (w:=w) (a:=i) (m:=p);have hsl:=ef (w:=w) (a:=i) (m:=p) hle;have hq1:((q:Int)+1)=((q+1:Nat):Int):=by push_cast;rfl
   simp(disch:=omega)[e2,hle']
   try simp only[hseg]
   refine fJ (seg w i p) (q+1) _ hq1 _ _ (by omega) (by omega) ?_;rw[show hp (seg w i p) (q+1)=pwP w k i (q+1) by unfold pwP;rw[hpp]];cases hab:pwP w k i (q+1)
   ·simp(disch:=omega);refine rndS (q+1,rs1,v1) ⟨by simp only;omega,N1,?_,ho1⟩;simp only;rw[yR,hab];simpa using hr1
   ·simp(disch:=omega);intro b1 hb1;simp(disch:=omega);intro b2 hb2;simp(disch:=omega);obtain⟨hr2,ho2⟩:=OY hr1 ho1 hb1 [(i:Int),((q+1:Nat):Int)] 2 2 rfl (Nat.le_refl 2);have hlr:=hr1.len;have hcount:=Bq (pwP w k) i q;have hcount2:=I8 (pwP w k) w.length k i;have hcount3:i*w.length<=60*60:=Nat.mul_le_mul (by omega) hl;rw[length_append]at hlr;refine aN ho2 ((Sub.refl _).put hb2 _) (by simp(disch:=omega);rfl) rfl rfl (by omega) (by simp(disch:=omega)) (by simp(disch:=omega);omega) ?_;intro v' M'' N'' ho' hs';simp(disch:=omega);refine rndM M'' (q+1,_,v') hs' ⟨by simp only;omega,_,?_,ho'⟩;simp only;rw[yR,hab,if_pos rfl,<-append_assoc];exact hr2
  ·have hle':¬(i:Int)+p<=w.length:=by intro hc;exact hqlt (hiff.1 (by omega))
   have hq':q=(w.length-i)/k:=by omega
   simp(disch:=omega)[e2,hle'];refine rndS (i+1,rs1,v1) ⟨by simp only;omega,N1,?_,ho1⟩;simp only;rw[uS,<-hq'];exact hr1
 ·have hi':i=w.length:=by omega
  subst hi';simp(disch:=omega);exact ad (h _ _ _ _ hr ho)
theorem rM(w:List UInt8)(M:Mem)(R:VP)(hl:w.length<=60)(h:R (.bool (!mb w)) M):ar prog 339 [str w] M R:=by
 refine fnS func339 rfl ntmps339 results339 ?_;simp(disch:=omega);refine zU w 2 _ _ hl (by omega) (by omega) ?_;intro v rs N M' hr ho;have hlen:=hr.len;obtain⟨a,c,rfl,_⟩:=ho.rd.opened;have e:((rs.length:Int)==0) = !mb w:=by
  rw[<-Mw,hlen];cases dZ (pwP w 2) w.length 2 w.length with
  | nil=>rfl
  | cons a l=>exact beq_eq_false_iff_ne.2 (by simp;omega)
 simp(disch:=omega)[e];exact ae (hr.sub.trans ho.sub) h
theorem zT(w:List UInt8)(M:Mem)(R:VP)(hl:w.length<=60)(h:R (.bool (!dy w)) M):ar prog 390 [str w] M R:=by
 refine fnS func390 rfl ntmps390 results390 ?_;simp(disch:=omega);refine lupS [2,3,4,5,6,7,8,9,10,11,12,13,14,15,16,17,18,19] (fun q:Nat=>[(3,.int .i64 (q+1))]) (fun q M'=>M'=M/\q<=w.length/2/\ey w q=false) (fun q=>w.length/2-q) 0 ⟨rfl,by omega,rfl⟩ ?_
 rintro q M' g ⟨rfl,hq,hno⟩
 by_cases hlt:q<w.length/2
 ·have hle':(2:Int)*(q+1)<=w.length:=by omega
  have e1:(w.length:Int)-2*(q+1)=((w.length-2*(q+1):Nat):Int):=by omega
  have e2:((w.length:Int)-2*(q+1)).toNat=w.length-2*(q+1):=by omega
  have hs:=oX w q;simp(disch:=omega)[hle',e2];refine fJ _ (q+1) _ (by push_cast;rfl) _ _ (by rw[length_drop];omega) (by rw[length_drop];omega) ?_;cases hh:hp (w.drop (w.length-2*(q+1))) (q+1)
  ·rw[hno,hh]at hs;simp(disch:=omega);exact rndS (q+1) ⟨rfl,by omega,hs⟩
  ·rw[show dy w=true from sa hlt hh]at h;simp(disch:=omega);exact ad h
 ·have hle':¬(2:Int)*(q+1)<=w.length:=by omega
  have hq':q=w.length/2:=by omega
  rw[show dy w=ey w (w.length/2) from rfl,<-hq',hno]at h;simp(disch:=omega)[hle'];exact ad h
theorem mZ(w:List UInt8)(M:Mem)(R:VP)(hl:w.length<=60)(h:R (.bool (dy w)) M):ar prog 358 [str w] M R:=by
 refine fnS func358 rfl ntmps358 results358 ?_;simp(disch:=omega);refine lupS [2,3,4,5,6,7,8,9,10,11,12,13,14,15,16,17,18,19,20,21,22,23,24,25,26,27,28] (fun q:Nat=>[(3,.int .i64 (q+1))]) (fun q M'=>M'=M/\q<=w.length/2/\ey w q=false) (fun q=>w.length/2-q) 0 ⟨rfl,by omega,rfl⟩ ?_
 rintro q M' g ⟨rfl,hq,hno⟩
 by_cases hlt:q<w.length/2
 ·have hle':(2:Int)*(q+1)<=w.length:=by omega
  have e1:((w.length:Int)-(q+1)).toNat=w.length-(q+1):=by omega
  have e2:((w.length:Int)-2*(q+1)).toNat=w.length-2*(q+1):=by omega
  have hs:=oX w q;have hsq:=Vk (u:=w) (q:=q+1) (by omega);simp(disch:=omega)[hle'];refine drwS ?_;simp(disch:=omega)[e1,e2,hsq];cases hh:hp (w.drop (w.length-2*(q+1))) (q+1)
  ·rw[hno,hh]at hs;simp(disch:=omega);exact rndS (q+1) ⟨rfl,by omega,hs⟩
  ·rw[show dy w=true from sa hlt hh]at h;simp(disch:=omega);exact ad h
 ·have hle':¬(2:Int)*(q+1)<=w.length:=by omega
  have hq':q=w.length/2:=by omega
  rw[show dy w=ey w (w.length/2) from rfl,<-hq',hno]at h;simp(disch:=omega)[hle'];exact ad h
def Cg(w:List UInt8)(n:Nat):Bool:=(range n).any fun m=>dy (w.take m)
theorem tw(w:List UInt8)(n:Nat):Cg w (n+1)=(Cg w n||dy (w.take n)):=by simp[Cg,range_succ]
theorem Nb(w:List UInt8):Cg w 2=false:=by
 have h:∀ n,n<2->dy (w.take n)=false:=fun n hn=>by
  unfold dy;rw[show (w.take n).length/2=0 by rw[length_take];omega];rfl
 rw[show (2:Nat)=0+1+1 from rfl,tw,tw,h 0 (by omega),h 1 (by omega)];rfl
theorem F4{w:List UInt8}{n m:Nat}(h:n<m)(hh:dy (w.take n)=true):Cg w m=true:=by
 unfold Cg;rw[any_eq_true];exact⟨n,List.mem_range.2 h,hh⟩
theorem D9(w:List UInt8)(M:Mem)(R:VP)(hl:w.length<=60)(h:R (.bool (mb w)) M):ar prog 357 [str w] M R:=by
 refine fnS func357 rfl ntmps357 results357 ?_;rw[LA]at h;simp(disch:=omega);refine lupS [2,3,4,5,6,7,8,9,10,11,12,13] (fun n:Nat=>[(3,.int .i64 n)]) (fun n M'=>M'=M/\2<=n/\(n<=w.length+1\/n=2)/\Cg w n=false) (fun n=>w.length+2-n) 2 ⟨rfl,by omega,by omega,Nb w⟩ ?_
 rintro n M' g ⟨rfl,hn2,hn,hno⟩
 by_cases hlt:n<=w.length
 ·have hs:=tw w n;simp(disch:=omega);refine mZ _ _ _ (by rw[length_take];omega) ?_;cases hh:dy (w.take n)
  ·rw[hno,hh]at hs;simp(disch:=omega);exact rndS (n+1) ⟨rfl,by omega,by omega,hs⟩
  ·rw[show (range (w.length+1)).any (fun n=>dy (w.take n))=true from F4 (by omega) hh]at h;simp(disch:=omega);exact ad h
 ·have hno':(range (w.length+1)).any (fun n=>dy (w.take n))=false:=by
   cases hh:Cg w (w.length+1) with
   | false=>exact hh
   | true=>
    unfold Cg at hh;obtain⟨m,hm,h2⟩:=List.any_eq_true.1 hh;have:=List.mem_range.1 hm;rw[F4 (m:=n) (by omega) h2]at hno;cases hno
  rw[hno']at h;simp(disch:=omega);exact ad h
theorem xQ{S:Type}(k n:Nat)(hk:k<=5)(hn:n<=50)(fv:Value)(step:S->List UInt8->S×Bool)(J:S->Mem->Prop)(ht:∀ s w M R,w.length=n->Lt0 k w->J s M->(∀ M',J (step s w).1 M'->R (.bool (step s w).2) M')->fj prog fv [str w] R M) :
  ∀(d:Nat) (w:List UInt8) (s:S) (M:Mem) (R:VP),w.length+d=n->Lt0 k w->J s M->(∀ M',J (bR step s (grL k d w)).1 M'->R (.bool (bR step s (grL k d w)).2) M')->ar prog 337 [str w,.int .i64 n,.int .i64 k,fv] M R
 | 0,w,s,M,R,hd,hlt0,hJ,h=>by
  have hb:((w.length:Int)==n)=true:=by rw[beq_iff_eq];omega
  unfold grL at h;rw[yX]at h;refine fnS func337 rfl ntmps337 results337 ?_;simp(disch:=omega);refine bV w _ _ (by omega) ?_;simp(disch:=omega)[hb];refine ht s w _ _ (by omega) hlt0 hJ fun M' hM'=>?_;simp(disch:=omega);exact ad (h M' hM')
 | d+1,w,s,M,R,hd,hlt0,hJ,h=>by
  have hb:((w.length:Int)==n)=false:=beq_eq_false_iff_ne.2 (by omega);refine fnS func337 rfl ntmps337 results337 ?_;simp(disch:=omega);refine bV w _ _ (by omega) ?_;simp(disch:=omega)[hb];refine lupS [8,9,10,19,20,21,22,23,24,25,26,27,28,29,30,31,32,33,34,35] (fun i:Nat=>[(19,.int .i64 i)]) (fun i M'=>i<=k/\J (bR step s (grN k d w i)).1 M'/\(bR step s (grN k d w i)).2=false) (fun i=>k-i) 0 ⟨by omega,by rw[FW,nF];exact hJ,by rw[FW,nF]⟩ ?_
  rintro i M' g ⟨hi,hM',hno⟩
  have hs:=Ek k d w i;by_cases hlt:i<k
  ·simp(disch:=omega);refine cN i _ _ (by omega) ?_;simp(disch:=omega);have hl':(w++[ltr i]).length=w.length+1:=by simp
   refine zT _ _ _ (by omega) ?_;unfold grS at hs;cases he:dy (w++[ltr i])
   ·rw[he,if_neg (by decide)]at hs;simp(disch:=omega);refine xQ k n hk hn fv step J ht d (w++[ltr i]) (bR step s (grN k d w i)).1 _ _ (by omega) (E0 hlt0 hlt (by omega)) hM' fun M2 hM2=>?_;rw[<-qM hno,<-hs]at hM2;have hrun:bR step (bR step s (grN k d w i)).1 (grL k d (w++[ltr i]))=bR step s (grN k d w (i+1)):=by rw[hs,qM hno]
    rw[hrun];cases hr:(bR step s (grN k d w (i+1))).2
    ·simp(disch:=omega);exact rndS (i+1) ⟨by omega,hM2,hr⟩
    ·obtain⟨rest,hrest⟩:=AW k d w (i:=i+1) (by omega);rw[hrest,ux hr,hr]at h;simp(disch:=omega);exact ad (h M2 hM2)
   ·rw[he,if_pos rfl,append_nil]at hs;simp(disch:=omega);exact rndS (i+1) ⟨by omega,by rw[hs];exact hM',by rw[hs];exact hno⟩
  ·have hi':i=k:=by omega
   rw[hi']at hM' hno;rw[C6 k d w,hno]at h;simp(disch:=omega);exact ad (h M' hM')
theorem tQ{l r:List (List UInt8)}{p:List UInt8->Bool}{u:List UInt8}(h:l.find? p=some u):(l++r).find? p=some u:=by rw[find?_append,h];rfl
theorem uo{l r:List (List UInt8)}{p:List UInt8->Bool}(h:l.find? p=none):(l++r).find? p=r.find? p:=by rw[find?_append,h];rfl
def sqI(ws:List (List UInt8))(u:List UInt8):Bool:=mb (aP ws u)
def fnd(ws:List (List UInt8))(l:List (List UInt8)):Option (List UInt8):=l.find? (sqI ws)
theorem P6(ws:List (List UInt8))(u:List UInt8):fnd ws [u]=if sqI ws u then some u else none:=by
 unfold fnd;rw[find?_cons];cases sqI ws u<;>rfl
theorem pD(v:Value)(ws:List (List UInt8))(n:Nat)(hm:aW ws=true)(hn:n<=5):∀(d:Nat) (w:List UInt8) (M:Mem) (R:VP),Rd M v (strs ws)->w.length+d=n->Lt0 ws.length w->(∀ u,fnd ws (grL ws.length d w)=some u->R (.tuple #[str u,.bool true]) M)->(fnd ws (grL ws.length d w)=none->∀ x,R (.tuple #[str x,.bool false]) M) ->
  ar prog 276 [.agg #[v],str w,.int .i64 n] M R
 | 0,w,M,R,hv,hd,hL,h1,h0=>by
  have hb:((w.length:Int)==n)=true:=by rw[beq_iff_eq];omega
  have hil:=iy hm (l:=w) hL;unfold grL at h1 h0;rw[P6]at h1 h0;obtain⟨a,c,rfl,ha⟩:=hv.opened;rw[ah]at hv ⊢;refine fnS func276 rfl ntmps276 results276 ?_;simp(disch:=omega);intro b3 hb3;have hv3:=hv.put hb3 (.cells true [.slice a ws.length c] 1);have hs3:=(Sub.refl M).put hb3 (.cells true [.slice a ws.length c] 1);simp(disch:=omega)[hb];refine jX _ ws w _ _ hv3 hm (by omega) hL ?_;simp(disch:=omega);refine D9 _ _ _ (by omega) ?_;unfold sqI at h1 h0;cases hq:mb (aP ws w)
  ·rw[hq]at h0;simp(disch:=omega);exact ae hs3 (h0 rfl w)
  ·rw[hq]at h1;simp(disch:=omega);exact ae hs3 (h1 w rfl)
 | d+1,w,M,R,hv,hd,hL,h1,h0=>by
  have hb:((w.length:Int)==n)=false:=beq_eq_false_iff_ne.2 (by omega);have h15:=aX hm;obtain⟨a,c,rfl,ha⟩:=hv.opened;rw[ah]at hv ⊢;refine fnS func276 rfl ntmps276 results276 ?_;simp(disch:=omega);intro b3 hb3;have hv3:=hv.put hb3 (.cells true [.slice a ws.length c] 1);have hs3:=(Sub.refl M).put hb3 (.cells true [.slice a ws.length c] 1);have k3:(M.put b3 (.cells true [.slice a ws.length c] 1)) b3=some (.cells true [.slice a ws.length c] 1):=ag _ _ _;simp(disch:=omega)[hb];generalize M.put b3 (.cells true [.slice a ws.length c] 1)=N at *;refine lupS [6,7,8,9,10,11,21,22,23,24,25,26,27,28,29,30,31,32,33,34,35,36,37,38,39,40,41,42,43,44] (fun i:Nat=>[(8,.int .i64 i)]) (fun i M'=>M'=N/\i<=ws.length/\fnd ws (grN ws.length d w i)=none) (fun i=>ws.length-i) 0 ⟨rfl,by omega,rfl⟩ ?_
  rintro i M' g ⟨rfl,hi,hno⟩
  have hs:=Ek ws.length d w i;by_cases hlt:i<ws.length
  ·have hr:=zA (i:=i) (by omega);have hl':(w++[ltr i]).length=w.length+1:=by simp
   simp(disch:=omega)[aj k3,tR,hr];refine mZ _ _ _ (by omega) ?_;unfold grS at hs;cases he:dy (w++[ltr i])
   ·rw[he,if_neg (by decide)]at hs;have hfs:fnd ws (grN ws.length d w (i+1))=fnd ws (grL ws.length d (w++[ltr i])):=by
     rw[hs];exact uo hno
    simp(disch:=omega)[aq k3];refine pD _ ws n hm hn d (w++[ltr i]) _ _ hv3 (by omega) (E0 hL hlt (by omega)) ?_ ?_
    ·intro u hu;obtain⟨rest,hrest⟩:=AW ws.length d w (i:=i+1) (by omega);have:=h1 u (by rw[hrest];exact tQ (by rw[<-hu,<-hfs];rfl));simp(disch:=omega);exact ae hs3 this
    ·intro hnn x;simp(disch:=omega);exact rndS (i+1) ⟨rfl,by omega,by rw[hfs];exact hnn⟩
   ·rw[he,if_pos rfl,append_nil]at hs;simp(disch:=omega);exact rndS (i+1) ⟨rfl,by omega,by rw[hs];exact hno⟩
  ·have hi':i=ws.length:=by omega
   rw[hi']at hno;simp(disch:=omega)[aj k3];exact ae hs3 (h0 (by rw[C6];exact hno) [])
def oZ(ws:List (List UInt8)):List UInt8:=if kS ws=0 then (if ja ws<=5 then (match jk ws (ja ws+1) with|some u=>u|none=>[]) else []) else []
def yP(ws:List (List UInt8)):Int:=if kS ws=0 then (if ja ws<=5 then (match jk ws (ja ws+1) with|some _=>0|none=>4) else 3) else kS ws
theorem Ia{ws:List (List UInt8)}(h:kS ws=0):aW ws=true/\ja ws≠0:=by
 unfold kS at h;split at h
 ·rename_i h1;split at h
  ·cases h
  ·rename_i h2;exact⟨h1,h2⟩
 ·cases h
theorem ma(v:Value)(ws:List (List UInt8))(M:Mem)(R:VP)(hv:Rd M v (strs ws))(hf:df ws)(hn:ws.length<=1099511627776)(h:R (aD (str (oZ ws)) (yP ws)) M):ar prog 189 [.agg #[v]] M R:=by
 refine fnS func189 rfl ntmps189 results189 ?_;obtain⟨a,c,rfl,ha⟩:=hv.opened;rw[ah]at hv ⊢;simp(disch:=omega);intro b1 hb1;have hs1:Sub M (M.put b1 (.cells true [.slice a ws.length c] 1)):=(Sub.refl M).put hb1 _;have hv1:=hv.put hb1 (.cells true [.slice a ws.length c] 1);have k1:(M.put b1 (.cells true [.slice a ws.length c] 1)) b1=some (.cells true [.slice a ws.length c] 1):=ag _ _ _;simp(disch:=omega);generalize M.put b1 (.cells true [.slice a ws.length c] 1)=N at *;refine fP _ ws _ _ hv1 hf hn ?_;unfold oZ yP kS at h;cases hm:aW ws
 ·rw[hm]at h;simp(disch:=omega);exact ae hs1 h
 ·rw[hm,if_pos rfl]at h;simp(disch:=omega)[aq k1];refine CX _ ws _ _ hv1 hm ?_;generalize ja ws=r at *;by_cases h0:r=0
  ·subst h0;simp(disch:=omega);exact ae hs1 h
  ·have h0':((r:Int)==0)=false:=beq_eq_false_iff_ne.2 (by omega);rw[if_neg h0,if_pos rfl,if_pos rfl]at h;by_cases h5:r<=5
   ·have h5':¬(5:Int)<r:=by omega
    rw[if_pos h5,if_pos h5]at h;simp(disch:=omega)[h0',h5'];refine lupS [2,3,5,6,7,19,20,21,22,23,24,25,26,27,28,29,30,31] (fun m:Nat=>[(5,.int .i64 m)]) (fun m M'=>M'=N/\m<=r+1/\jk ws m=none) (fun m=>r+1-m) 0 ⟨rfl,by omega,rfl⟩ ?_
    rintro m M' g ⟨rfl,hmr,hno⟩
    have hs:=vl ws m;rw[hno,Option.none_or]at hs;by_cases hlt:m<=r
    ·simp(disch:=omega)[aq k1];refine pD _ ws m hm (by omega) m [] _ _ hv1 (by simp) (Ka _) ?_ ?_
     ·intro u hu;rw[xE (m:=r+1) (by omega) hno (show tS ws m []=some u from hu)]at h;simp(disch:=omega);exact ae hs1 h
     ·intro hnn x;simp(disch:=omega);exact rndS (m+1) ⟨rfl,by omega,by rw[hs];exact hnn⟩
    ·have hm':m=r+1:=by omega
     rw[<-hm',hno]at h;simp(disch:=omega);exact ae hs1 h
   ·have h5':(5:Int)<r:=by omega
    rw[if_neg h5,if_neg h5]at h;simp(disch:=omega)[h0',h5'];exact ae hs1 h
theorem me(v:Value)(ws:List (List UInt8))(M:Mem)(R:VP)(hv:Rd M v (strs ws))(hf:df ws)(hn:ws.length<=1099511627776)(h:R (aD (str (oZ ws)) (yP ws)) M):ar prog 247 [.agg #[v]] M R:=by
 refine fnS func247 rfl ntmps247 results247 ?_;obtain⟨a,c,rfl,ha⟩:=hv.opened;rw[ah]at hv ⊢;simp(disch:=omega);intro b1 hb1;have hs1:Sub M (M.put b1 (.cells true [.slice a ws.length c] 1)):=(Sub.refl M).put hb1 _;have hv1:=hv.put hb1 (.cells true [.slice a ws.length c] 1);have k1:(M.put b1 (.cells true [.slice a ws.length c] 1)) b1=some (.cells true [.slice a ws.length c] 1):=ag _ _ _;simp(disch:=omega);generalize M.put b1 (.cells true [.slice a ws.length c] 1)=N at *;refine wa _ ws _ _ hv1 hf hn ?_;unfold oZ yP at h;have hT:Kf ws=if kS ws=0 then ja ws else 0:=by
  unfold Kf kS;cases aW ws
  ·rfl
  ·by_cases h0:ja ws=0
   ·simp[h0]
   ·simp[h0]
 by_cases hc:kS ws=0
 ·obtain⟨hm,h0⟩:=Ia hc;have h15:=aX hm;rw[if_pos hc,if_pos hc]at h;rw[if_pos hc]at hT;rw[hT,hc];generalize ja ws=r at *;by_cases h5:r<=5
  ·have h5':¬(5:Int)<r:=by omega
   rw[if_pos h5,if_pos h5]at h;unfold aD;simp(disch:=omega)[h5'];refine lupS [2,3,6,7,22,23,24,25,26,27,28,29,30,31] (fun m:Nat=>[(22,.int .i64 m)]) (fun m M'=>M'=N/\m<=r+1/\jk ws m=none) (fun m=>r+1-m) 0 ⟨rfl,by omega,rfl⟩ ?_
   rintro m M' g ⟨rfl,hmr,hno⟩
   have hs:=vl ws m;rw[hno,Option.none_or]at hs;by_cases hlt:m<r+1
   ·simp(disch:=omega);intro b7 hb7;have hne:b1≠b7:=by rintro rfl;rw[k1]at hb7;cases hb7
    simp(disch:=omega)[aq k1];refine ik _ (strs ws) _ _ (hv1.put hb7 _) (by rw[ah];omega) ?_;rw[ah];simp(disch:=omega);refine xQ (S:=List UInt8) ws.length m (by omega) (by omega) _ (Fs ws) (fun s K=>K b7=some (.cells true [str s] 1)/\∃ A,Sub M' A/\K=A.put b7 (.cells true [str s] 1)) ?_ m [] [] _ _ (by simp) (Ka _) ⟨ag _ _ _,M',Sub.refl M',rfl⟩ ?_
    ·rintro s w K R' hw hL ⟨q7,A,sA,rfl⟩ hR
     have q1:(A.put b7 (.cells true [str s] 1)) b1=some (.cells true [.slice a ws.length c] 1):=by rw[ai _ _ hne];exact sA _ _ k1
     have hil:=iy hm (l:=w) hL;simp(disch:=omega);refine fnS func338 rfl ntmps338 results338 ?_;simp(disch:=omega)[aq (sA _ _ k1)];have hv2:Rd (A.put b7 (.cells true [str w] 1)) (.slice a ws.length c) (strs ws):=by
      refine hv1.sub ?_;intro i B hB;have:i≠b7:=by rintro rfl;rw[hB]at hb7;cases hb7
      rw[ai _ _ this];exact sA _ _ hB
     refine kZ _ ws w _ _ hv2 hm (by omega) hL ?_;simp(disch:=omega);refine rM _ _ _ (by omega) ?_;simp(disch:=omega);exact ad (hR _ ⟨ag _ _ _,A,sA,rfl⟩)
    ·rintro K ⟨q7,A,sA,rfl⟩
     have hrf:=BU ws (grL ws.length m []) [];rw[hrf.1];have hmk:tS ws m []=(grL ws.length m []).find? (fun u=>mb (aP ws u)):=rfl;cases hq:(grL ws.length m []).find? (fun u=>mb (aP ws u)) with
     | none=>
      rw[hq]at hmk;simp(disch:=omega);refine rndM M' (m+1) ?_ ⟨rfl,by omega,by rw[hs];exact hmk⟩;intro i B hB;have:i≠b7:=by rintro rfl;rw[hB]at hb7;cases hb7
      rw[ai _ _ this];exact sA _ _ hB
     | some u=>
      rw[hq]at hmk;have hu:=hrf.2 u hq;rw[hu];rw[xE hlt hno hmk]at h;simp(disch:=omega);refine ae ?_ h;intro i B hB;have:i≠b7:=by rintro rfl;rw[hs1 _ _ hB]at hb7;cases hb7
      rw[ai _ _ this];exact sA _ _ (hs1 _ _ hB)
   ·have hm':m=r+1:=by omega
    rw[<-hm',hno]at h;simp(disch:=omega);exact ae hs1 h
  ·have h5':(5:Int)<r:=by omega
   rw[if_neg h5,if_neg h5]at h;unfold aD;simp(disch:=omega)[h5'];exact ae hs1 h
 ·rw[if_neg hc,if_neg hc]at h;rw[if_neg hc]at hT;have hb:(kS ws==0)=false:=beq_eq_false_iff_ne.2 hc;rw[hT];generalize kS ws=code at *;unfold aD;simp(disch:=omega)[hb];exact ae hs1 h
def jx(w:List UInt8)(n:Nat):List Int:=((range n).filter fun p=>hp w (p+1)).map fun (p:Nat)=>((p+1:Nat):Int)
def cy(w:List UInt8):List Int:=jx w w.length
theorem xK(w:List UInt8)(n:Nat):jx w (n+1)=jx w n++if hp w (n+1) then [((n+1:Nat):Int)] else []:=by
 unfold jx;rw[range_succ,filter_append,map_append]
 congr 1
 cases h:hp w (n+1)<;>simp[h]
theorem tW(w:List UInt8)(n:Nat):(jx w n).length<=n:=by
 unfold jx;rw[length_map];exact Nat.le_trans (length_filter_le _ _) (by rw[length_range];exact Nat.le_refl _)
def cB(w:List UInt8):Nat:=((range w.length).find? fun q=>hp w (q+1)).getD 0+1
theorem Hg(w:List UInt8):hp w w.length=true:=by
 unfold hp;rw[drop_length,Nat.sub_self];rfl
theorem Kh{w:List UInt8}{p:Nat}(h1:1<=p)(h2:p<=w.length)(h3:hp w p=true)(h4:∀ q,1<=q->q<p->hp w q=false):cB w=p:=by
 unfold cB;have:(range w.length).find? (fun q=>hp w (q+1))=some (p-1):=by
  rw[find?_range_eq_some];refine⟨by rw[show p-1+1=p by omega];exact h3,List.mem_range.2 (by omega),fun j hj=>?_⟩;rw[h4 (j+1) (by omega) (by omega)];rfl
 rw[this];simp only[Option.getD_some];omega
def eh(w:List UInt8):List UInt8:=if w.length%cB w=0 then w.take (cB w) else w
def ca(w:List UInt8):Bool:=w==w.reverse
def Dp(w:List UInt8):Nat:=((range w.length).find? fun i=>ca (w.drop i)).getD w.length
theorem Jq{w:List UInt8}{i:Nat}(h1:i<=w.length)(h2:ca (w.drop i)=true)(h3:∀ j,j<i->ca (w.drop j)=false):Dp w=i:=by
 unfold Dp;by_cases hi:i=w.length
 ·have:(range w.length).find? (fun i=>ca (w.drop i))=none:=by
   rw[find?_eq_none];intro j hj;have:=List.mem_range.1 hj;rw[h3 j (by omega)];simp
  rw[this,hi];rfl
 ·have:(range w.length).find? (fun i=>ca (w.drop i))=some i:=by
   rw[find?_range_eq_some];exact⟨h2,List.mem_range.2 (by omega),fun j hj=>by rw[h3 j hj];rfl⟩
  rw[this];rfl
theorem Jk(w:List UInt8):Dp w<=w.length:=by
 unfold Dp;cases h:(range w.length).find? (fun i=>ca (w.drop i)) with
 | none=>exact Nat.le_refl _
 | some i=>
  have:=List.mem_range.1 (mem_of_find?_eq_some h);simp only[Option.getD_some];omega
def lQ(w:List UInt8):List UInt8:=w++(w.take (Dp w)).reverse
theorem AU(w:List UInt8):(lQ w).length<=2*w.length:=by
 unfold lQ;rw[length_append,length_reverse,length_take];omega
def dD(w:List UInt8)(k:Nat):List UInt8:=(replicate k w).flatten
def cg(w:List UInt8):Int:=if isWord w then (if w=[] then 5 else 0) else 1
def l0(w:List UInt8):List UInt8:=if cg w=0 then eh w else []
def pa(w:List UInt8):Int:=if cg w=0 then ((w.length/(eh w).length:Nat):Int) else 0
def ph(w:List UInt8):List UInt8:=if isWord w then (if (lQ w).length<=60 then lQ w else []) else []
def pq(w:List UInt8):Int:=if isWord w then (if (lQ w).length<=60 then 0 else 3) else 1
end Go.Proofs.YtapimhjbilkfpaaGreatDoor
