/- Lemmas for FnExactConsole, part 9 of 46. -/
import Derived.Test.YtapimhjbilkfpaaGreatDoorZ07
import Derived.Test.YtapimhjbilkfpaaGreatDoorZ04
import Derived.Test.YtapimhjbilkfpaaGreatDoorZ03
import Derived.Test.YtapimhjbilkfpaaGreatDoorZ06
set_option linter.unusedVariables false
set_option linter.unusedSimpArgs false
namespace Go.Proofs.YtapimhjbilkfpaaGreatDoor
open Go Go.Proofs.Tryz List
def gU(ws:List (List UInt8))(w:List UInt8):Int:=if aW ws&&isWord w then (if gF w ws.length then 0 else 2) else 1
def ig(ws:List (List UInt8))(w:List UInt8)(k:Int):Int:=if aW ws&&isWord w then (if gF w ws.length&&decide (0<=k/\k<=100) then 0 else 2) else 1
theorem aX{ws:List (List UInt8)}(h:aW ws=true):1<=ws.length/\ws.length<=5:=by
 unfold aW at h;rw[Bool.and_eq_true,decide_eq_true_eq]at h;exact h.1
theorem bL{ws:List (List UInt8)}(h:aW ws=true){w:List UInt8}(hw:w∈ws):w.length<=12/\isWord w=true/\gF w ws.length=true:=by
 unfold aW at h;rw[Bool.and_eq_true]at h;have:=List.all_eq_true.1 h.2 w hw;unfold okW at this;simpa using this
def Lt(ws:List (List UInt8))(l:List UInt8):Prop:=∀ u∈l,97<=u.toNat/\u.toNat-97<ws.length
theorem xx{ws:List (List UInt8)}{l:List UInt8}(hw:l.all isL=true)(hf:gF l ws.length=true):Lt ws l:=by
 intro u hu;have h1:=dS (List.all_eq_true.1 hw u hu);have h2:=List.all_eq_true.1 hf u hu;rw[decide_eq_true_eq]at h2;exact⟨h1.1,h2⟩
theorem HN{ws:List (List UInt8)}(hm:aW ws=true){l:List UInt8}(h:Lt ws l):Lt ws (aP ws l):=by
 intro u hu;unfold aP at hu;obtain⟨v,hv,hu⟩:=List.mem_flatMap.1 hu;have:=bL hm (kE (h v hv).2);exact xx (aV this.2.1) this.2.2 u hu
theorem iy{ws:List (List UInt8)}(hm:aW ws=true):∀ {l:List UInt8},Lt ws l->(aP ws l).length<=12*l.length
 | [],_=>Nat.le_refl _
 | u::l,h=>by
  have ih:=iy hm (l:=l) fun v hv=>h v (mem_cons_of_mem _ hv);have h1:=(bL hm (kE (h u (mem_cons_self ..)).2)).1;rw[eB,length_append,length_cons];omega
theorem Kg{ws:List (List UInt8)}{l:List UInt8}(h:Lt ws l)(i:Nat):Lt ws (l.take i):=fun u hu=>h u (mem_of_mem_take hu)
theorem aT{M N:Mem}{b i:Nat}{v:Value}(h:M.get? b i=some v)(hs:Sub M N):N.get? b i=some v:=by
 unfold Mem.get? at h ⊢;cases hMb:M b with
 | none=>rw[hMb]at h;cases h
 | some B=>rw[hMb]at h;rw[hs _ _ hMb];exact h
theorem qW(v:Value)(ws:List (List UInt8))(w:List UInt8)(M:Mem)(R:VP)(hv:Rd M v (strs ws))(hf:df ws)(hn:ws.length<=1099511627776)(hl:w.length<=1099511627776)(h:R (.int .i64 (gU ws w)) M):ar prog 181 [.agg #[v],str w] M R:=by
 refine fnS func181 rfl ntmps181 results181 ?_;obtain⟨a,c,rfl,ha⟩:=hv.opened;rw[ah]at ha hv ⊢;simp(disch:=omega);intro b1 hb1;have hs1:Sub M (M.put b1 (.cells true [.slice a ws.length c] 1)):=(Sub.refl M).put hb1 _;have hv1:=hv.put hb1 (.cells true [.slice a ws.length c] 1);unfold gU at h;simp(disch:=omega);refine fP _ ws _ _ hv1 hf hn ?_;cases e1:aW ws
 ·rw[e1,Bool.false_and]at h;simp(disch:=omega);exact ae hs1 h
 ·rw[e1,Bool.true_and]at h;simp(disch:=omega);refine ba w _ _ hl ?_;cases e2:isWord w
  ·rw[e2]at h;simp(disch:=omega);exact ae hs1 h
  ·rw[e2,if_pos rfl]at h;simp(disch:=omega);refine nP w ws.length _ _ hl (aV e2) (by omega) ?_;cases e3:gF w ws.length
   ·rw[e3]at h;simp(disch:=omega);exact ae hs1 h
   ·rw[e3]at h;simp(disch:=omega);exact ae hs1 h
theorem jX(v:Value)(ws:List (List UInt8))(l:List UInt8)(M:Mem)(R:VP)(hv:Rd M v (strs ws))(hm:aW ws=true)(hl:l.length<=60)(hlt:Lt ws l)(h:R (str (aP ws l)) M):ar prog 182 [.agg #[v],str l] M R:=by
 refine fnS func182 rfl ntmps182 results182 ?_;obtain⟨a,c,rfl,ha⟩:=hv.opened;have h15:=aX hm;rw[ah]at ha hv ⊢;simp(disch:=omega);intro b1 hb1;have hs1:Sub M (M.put b1 (.cells true [.slice a ws.length c] 1)):=(Sub.refl M).put hb1 _;rcases ha with h0|⟨b,o,rfl,ha⟩
 ·omega
 simp(disch:=omega);refine aQ aR [5,6,7,8,9,10,11,12,13,14,15,16,17,18,19,20,21,22] (fun i:Nat=>[(6,.int .i64 i),(5,str (aP ws (l.take i)))]) (fun i M'=>M'=M.put b1 (.cells true [.slice (some ⟨b,o,none⟩) ws.length c] 1)/\i<=l.length) (fun i=>l.length-i) 0 (by kernel_rfl) (by simp(disch:=omega)[eE]) ⟨rfl,by omega⟩ ?_
 rintro i M' g ⟨rfl,hi⟩
 by_cases hil:i<l.length
 ·have hx:l[i]?=some l[i]:=getElem?_eq_getElem hil;have hL:=hlt _ (getElem_mem hil);have hu:=l[i].toNat_lt;have hk:((l[i].toNat:Int)-97).toNat=l[i].toNat-97:=by omega
  obtain⟨x,hx1,hxl,hsn⟩:∃ x,ws[l[i].toNat-97]'hL.2=x/\x.length<=12/\aP ws (l.take (i+1))=aP ws (l.take i)++x:=
   ⟨_,rfl,(bL hm (getElem_mem hL.2)).1,by rw[az l hil,fg,getD_eq_getElem?_getD,getElem?_eq_getElem hL.2];rfl⟩
  have hil2:=iy hm (Kg hlt i);have hil3:(l.take i).length<=l.length:=by rw[length_take];omega
  have hg0:=ha (l[i].toNat-97) hL.2;rw[bg,getElem?_eq_getElem hL.2,hx1]at hg0;have hg:=aT hg0 hs1;simp(disch:=omega);refine drwS ?_;simp(disch:=omega)[hk,hg];refine rndA (i+1) (by simp(disch:=omega)[hsn]) ⟨rfl,by omega⟩
 ·have hi':i=l.length:=by omega
  subst hi';rw[take_length];simp(disch:=omega);exact ae hs1 h
theorem kZ(v:Value)(ws:List (List UInt8))(l:List UInt8)(M:Mem)(R:VP)(hv:Rd M v (strs ws))(hm:aW ws=true)(hl:l.length<=60)(hlt:Lt ws l)(h:R (str (aP ws l)) M):ar prog 257 [.agg #[v],str l] M R:=by
 refine fnS func257 rfl ntmps257 results257 ?_;obtain⟨a,c,rfl,ha⟩:=hv.opened;have h15:=aX hm;rw[ah]at ha hv ⊢;simp(disch:=omega);intro b1 hb1;have hs1:Sub M (M.put b1 (.cells true [.slice a ws.length c] 1)):=(Sub.refl M).put hb1 _;rcases ha with h0|⟨b,o,rfl,ha⟩
 ·omega
 simp(disch:=omega);intro b2 c2 hb2 hc2;have hs2:=hs1.putN hb2 (.cells true (av l) c2);have e12:b1≠b2:=by rintro rfl;rw[ag]at hb2;cases hb2
 have k1:((M.put b1 (.cells true [.slice (some ⟨b,o,none⟩) ws.length c] 1)).put b2 (.cells true (av l) c2)) b1=some (.cells true [.slice (some ⟨b,o,none⟩) ws.length c] 1):=(ai _ _ e12).trans (ag _ _ _);have k2:((M.put b1 (.cells true [.slice (some ⟨b,o,none⟩) ws.length c] 1)).put b2 (.cells true (av l) c2)) b2=some (.cells true (av l) c2):=ag _ _ _;simp(disch:=omega);generalize (M.put b1 (.cells true [.slice (some ⟨b,o,none⟩) ws.length c] 1)).put b2 (.cells true (av l) c2)=N at *;refine aQ aR [5,7,11,12,13,14,15,16,17,18,19,20,21,22,23] (fun i:Nat=>[(11,.int .i64 i),(5,str (aP ws (l.take i)))]) (fun i M'=>M'=N/\i<=l.length) (fun i=>l.length-i) 0 (by kernel_rfl) (by simp(disch:=omega)[eE]) ⟨rfl,by omega⟩ ?_
 rintro i M' g ⟨rfl,hi⟩
 by_cases hil:i<l.length
 ·have hx:l[i]?=some l[i]:=getElem?_eq_getElem hil;have hL:=hlt _ (getElem_mem hil);have hu:=l[i].toNat_lt;have hk:((l[i].toNat:Int)-97).toNat=l[i].toNat-97:=by omega
  obtain⟨x,hx1,hxl,hsn⟩:∃ x,ws[l[i].toNat-97]'hL.2=x/\x.length<=12/\aP ws (l.take (i+1))=aP ws (l.take i)++x:=
   ⟨_,rfl,(bL hm (getElem_mem hL.2)).1,by rw[az l hil,fg,getD_eq_getElem?_getD,getElem?_eq_getElem hL.2];rfl⟩
  have hil2:=iy hm (Kg hlt i);have hil3:(l.take i).length<=l.length:=by rw[length_take];omega
  have hg0:=ha (l[i].toNat-97) hL.2;rw[bg,getElem?_eq_getElem hL.2,hx1]at hg0;have hg:=aT hg0 hs2;simp(disch:=omega)[aj k2];refine drwS ?_;simp(disch:=omega)[aj k1];refine aU (a:=[]) (c:=[]) (gS _ _ _ ⟨rfl,rfl⟩) ?_;simp(disch:=omega)[hk,hg];refine rndA (i+1) (by simp(disch:=omega)[hsn]) ⟨rfl,by omega⟩
 ·have hi':i=l.length:=by omega
  subst hi';rw[take_length];simp(disch:=omega);exact ae hs2 h
theorem di(v fv sv:Value)(ws us:List (List UInt8))(b:Bool)(G:Mem->Prop)(M:Mem)(R:VP)(hv:Rd M v (strs ws))(hf:df ws)(hn:ws.length<=1099511627776)(hs:Rd M sv (strs us))(hfu:df us)(hnu:us.length<=1099511627776)
  (hfl:bF fv=true) (hG:G M) (hst:nd G) (ht:Cn prog fv b G) (h:R (.int .i64 (if aW ws then codeOf us (us.all (fun u=>gF u ws.length)&&b) else 1)) M):ar prog 228 [.agg #[v],fv,sv] M R:=by
 refine fnS func228 rfl ntmps228 results228 ?_;obtain⟨a,c,rfl,ha⟩:=hv.opened;obtain⟨a',c',rfl,ha'⟩:=hs.opened;rw[ah]at hv hs ⊢;rw[ah];simp(disch:=omega);intro b3 hb3;simp(disch:=omega);intro b4 hb4;simp(disch:=omega);intro b5 hb5;have n4:=hb4;have n5:=hb5;rw[aF]at n4;rw[aF,aF]at n5;have hs5:Sub M (((M.put b3 (.cells true [.slice a ws.length c] 1)).put b4 (.cells true [fv] 1)).put b5 (.cells true [.slice a' us.length c'] 1)):=(((Sub.refl M).put hb3 _).putN hb4 _).putN hb5 _;have k3:(((M.put b3 (.cells true [.slice a ws.length c] 1)).put b4 (.cells true [fv] 1)).put b5 (.cells true [.slice a' us.length c'] 1)) b3=some (.cells true [.slice a ws.length c] 1):=by rw[ai _ _ (Ne.symm n5.2.1),ai _ _ (Ne.symm n4.1)];exact ag _ _ _
 have k4:(((M.put b3 (.cells true [.slice a ws.length c] 1)).put b4 (.cells true [fv] 1)).put b5 (.cells true [.slice a' us.length c'] 1)) b4=some (.cells true [fv] 1):=by rw[ai _ _ (Ne.symm n5.1)];exact ag _ _ _
 have k5:(((M.put b3 (.cells true [.slice a ws.length c] 1)).put b4 (.cells true [fv] 1)).put b5 (.cells true [.slice a' us.length c'] 1)) b5=some (.cells true [.slice a' us.length c'] 1):=ag _ _ _;simp(disch:=omega);have hG5:=hst _ _ (.cells true [.slice a' us.length c'] 1) (hst _ _ (.cells true [fv] 1) (hst _ _ (.cells true [.slice a ws.length c] 1) hG hb3) hb4) hb5;generalize (((M.put b3 (.cells true [.slice a ws.length c] 1)).put b4 (.cells true [fv] 1)).put b5 (.cells true [.slice a' us.length c'] 1))=N at *;refine l6 _ ws _ _ (hv.sub hs5) hf hn ?_;cases hm:aW ws
 ·rw[hm]at h;simp(disch:=omega);exact ae hs5 h
 ·rw[hm,if_pos rfl]at h;simp(disch:=omega)[aj k5];refine mN _ _ us (us.all (fun u=>gF u ws.length)&&b) (fun M'=>Sub N M'/\G M') _ _ (hs.sub hs5) hfu hnu ⟨Sub.refl N,hG5⟩ ?_ ?_ ?_
  ·intro K b' B ⟨q1,q2⟩ hb;exact⟨q1.putN hb _,hst _ _ _ q2 hb⟩
  ·intro hall K R' ⟨q1,q2⟩ hR';have j3:=q1 _ _ k3;have j4:=q1 _ _ k4;have j5:=q1 _ _ k5;simp(disch:=omega);refine fnS func314 rfl ntmps314 results314 ?_;simp(disch:=omega)[aj j5,aq j3];refine lM _ _ (strs us) (onS fun u=>gF u ws.length) (fun M'=>Rd M' (.slice a ws.length c) (strs ws)) _ _ ((hs.sub hs5).sub q1) ((hv.sub hs5).sub q1) (fun K2 b' B q hb=>q.put hb _) ?_ rfl (by rw[ah];omega) ?_
   ·intro x hx K2 R2 q hR2;obtain⟨u,hu,rfl⟩:=yY hx;rw[wE]at hR2;have hwu:=List.all_eq_true.1 hall u hu;simp(disch:=omega);refine EN _ (strs ws) u _ _ q (by rw[ah];omega) (hfu u hu) (aV hwu) ?_;rw[ah];exact hR2
   ·rw[xU];cases hall2:us.all fun u=>gF u ws.length
    ·rw[hall2,Bool.false_and]at hR';simp(disch:=omega);exact ad hR'
    ·rw[hall2,Bool.true_and]at hR';simp(disch:=omega)[aj j4];refine ht _ _ q2 ?_;simp(disch:=omega);exact ad hR'
  ·simp(disch:=omega);exact ae hs5 h
def pj(ws:List (List UInt8)):Nat->List UInt8->Option (List UInt8)
 | 0,w=>some w
 | k+1,w=>if 60<(aP ws w).length then none else pj ws k (aP ws w)
theorem yk(ws:List (List UInt8))(w:List UInt8):pj ws 0 w=some w:=rfl
theorem qw(ws:List (List UInt8))(k:Nat)(w:List UInt8):pj ws (k+1) w=if 60<(aP ws w).length then none else pj ws k (aP ws w):=rfl
def nJ(ws:List (List UInt8))(w:List UInt8)(k:Int):List UInt8:=if ig ws w k=0 then (match pj ws k.toNat w with|some x=>x|none=>[]) else []
def nv(ws:List (List UInt8))(w:List UInt8)(k:Int):Int:=if ig ws w k=0 then (match pj ws k.toNat w with|some x=>0|none=>3) else ig ws w k
theorem ld{ws:List (List UInt8)}{w:List UInt8}{k:Int}(h:ig ws w k=0):aW ws=true/\isWord w=true/\gF w ws.length=true/\0<=k/\k<=100:=by
 unfold ig at h;split at h
 ·rename_i h1;split at h
  ·rename_i h2;rw[Bool.and_eq_true]at h1 h2;rw[decide_eq_true_eq]at h2;exact⟨h1.1,h1.2,h2.1,h2.2.1,h2.2.2⟩
  ·cases h
 ·cases h
theorem C0(v:Value)(ws:List (List UInt8))(w:List UInt8)(k:Int)(M:Mem)(R:VP)(hv:Rd M v (strs ws))(hf:df ws)(hn:ws.length<=1099511627776)(hl:w.length<=1099511627776)(h:R (aD (str (nJ ws w k)) (nv ws w k)) M):ar prog 227 [.agg #[v],str w,.int .i64 k] M R:=by
 refine fnS func227 rfl ntmps227 results227 ?_;obtain⟨a,c,rfl,ha⟩:=hv.opened;rw[ah]at hv ⊢;simp(disch:=omega);intro b3 hb3;simp(disch:=omega);intro b5 hb5;have n5:=hb5;rw[aF]at n5;simp(disch:=omega);intro b12 hb12;have n12:=hb12;rw[aF,aF]at n12;have hs:Sub M (((M.put b3 (.cells true [.slice a ws.length c] 1)).put b5 (.cells true [.int .i64 k] 1)).put b12 (.cells true [str w] 1)):=(((Sub.refl M).put hb3 _).putN hb5 _).putN hb12 _;have k3:(((M.put b3 (.cells true [.slice a ws.length c] 1)).put b5 (.cells true [.int .i64 k] 1)).put b12 (.cells true [str w] 1)) b3=some (.cells true [.slice a ws.length c] 1):=by rw[ai _ _ (Ne.symm n12.2.1),ai _ _ (Ne.symm n5.1)];exact ag _ _ _
 have k5:(((M.put b3 (.cells true [.slice a ws.length c] 1)).put b5 (.cells true [.int .i64 k] 1)).put b12 (.cells true [str w] 1)) b5=some (.cells true [.int .i64 k] 1):=by rw[ai _ _ (Ne.symm n12.1)];exact ag _ _ _
 have k12:Rd (((M.put b3 (.cells true [.slice a ws.length c] 1)).put b5 (.cells true [.int .i64 k] 1)).put b12 (.cells true [str w] 1)) (.slice (some ⟨b12,0,none⟩) 1 1) (strs [w]):=Rd.new rfl (Nat.le_refl 1);simp(disch:=omega);generalize (((M.put b3 (.cells true [.slice a ws.length c] 1)).put b5 (.cells true [.int .i64 k] 1)).put b12 (.cells true [str w] 1))=N at *;refine di _ _ _ ws [w] (decide (0<=k/\k<=100)) (fun M'=>M' b5=some (.cells true [.int .i64 k] 1)) _ _ (hv.sub hs) hf hn k12 (fM hl) (by simp) rfl k5 ?_ ?_ ?_
 ·intro K b' B q hb;have:b5≠b':=by rintro rfl;rw[hb]at q;cases q
  rw[ai _ _ this];exact q
 ·intro K R' q hR';simp(disch:=omega);refine fnS func313 rfl ntmps313 results313 ?_;simp(disch:=omega)[aj q];refine bE k 0 100 _ _ ?_;simp(disch:=omega);exact ad (by simpa using hR')
 ·have hcode:(if aW ws then codeOf [w] ([w].all (fun u=>gF u ws.length)&&decide (0<=k/\k<=100)) else 1)=ig ws w k:=by
   unfold ig;rw[cV];simp only[all_cons,all_nil,Bool.and_true];cases aW ws<;>cases isWord w<;>rfl
  rw[hcode];unfold nJ nv at h;by_cases h0:ig ws w k=0
  ·obtain⟨g1,g2,g3,g4,g5⟩:=ld h0;rw[if_pos h0,if_pos h0]at h;have hb:(ig ws w k==0)=true:=by rw[h0];rfl
   rw[h0];obtain⟨k,rfl⟩:∃ n:Nat,k=n:=⟨k.toNat,by omega⟩;rw[Int.toNat_natCast]at h;simp(disch:=omega)[aj k5];refine lupS [1,6,7,18,19,20,21,22,23,24,25,26] (fun x:Nat×List UInt8=>[(18,.int .i64 x.1),(1,str x.2)]) (fun x M'=>M'=N/\x.1<=k/\x.2.length<=60/\Lt ws x.2/\pj ws (k-x.1) x.2=pj ws k w) (fun x=>k-x.1) (0,w) ⟨rfl,by omega,au g2,xx (aV g2) g3,rfl⟩ ?_
   rintro⟨i,x⟩ M' g ⟨rfl,hi,hx6,hx,hit⟩
   simp only at hi hx6 hx hit;by_cases hlt:i<k
   ·have hil:=iy g1 hx;rw[show k-i=(k-(i+1))+1 by omega,qw]at hit;simp(disch:=omega)[aq k3];refine kZ _ ws x _ _ (hv.sub hs) g1 hx6 hx ?_;by_cases hbig:60<(aP ws x).length
    ·rw[if_pos hbig]at hit;have hbig':(60:Int)<(aP ws x).length:=by omega
     rw[<-hit]at h;simp(disch:=omega)[hbig'];exact ae hs h
    ·rw[if_neg hbig]at hit;have hbig':¬(60:Int)<(aP ws x).length:=by omega
     simp(disch:=omega)[hbig'];exact rndS (i+1,aP ws x) ⟨rfl,by simp only;omega,by simp only;omega,HN g1 hx,hit⟩
   ·have hi':i=k:=by omega
    subst hi';rw[Nat.sub_self,yk]at hit;rw[<-hit]at h;simp(disch:=omega);exact ae hs h
  ·rw[if_neg h0,if_neg h0]at h;have hb:(ig ws w k==0)=false:=beq_eq_false_iff_ne.2 h0;generalize ig ws w k=code at *;simp(disch:=omega)[hb];exact ae hs h
end Go.Proofs.YtapimhjbilkfpaaGreatDoor
namespace Go.Proofs.YtapimhjbilkfpaaGreatDoor
open List
def bR{S A:Type}(step:S->A->S×Bool):S->List A->S×Bool
 | s,[]=>(s,false)
 | s,x::l=>if (step s x).2 then ((step s x).1,true) else bR step (step s x).1 l
theorem nF{S A:Type}(step:S->A->S×Bool)(s:S):bR step s []=(s,false):=rfl
theorem yX{S A:Type}(step:S->A->S×Bool)(s:S)(x:A):bR step s [x]=step s x:=by
 unfold bR bR;cases h:(step s x).2
 ·simp[<-h]
 ·simp[<-h]
theorem mC{S A:Type}(step:S->A->S×Bool):∀(a b:List A) (s:S),bR step s (a++b)=if (bR step s a).2 then bR step s a else bR step (bR step s a).1 b
 | [],b,s=>rfl
 | x::a,b,s=>by
  rw[cons_append]
  conv=>lhs;unfold bR
  by_cases h:(step s x).2=true
  ·rw[if_pos h];have e:bR step s (x::a)=((step s x).1,true):=by conv=>lhs;unfold bR;rw[if_pos h]
   rw[e];rfl
  ·rw[if_neg h,mC step a b];have e:bR step s (x::a)=bR step (step s x).1 a:=by conv=>lhs;unfold bR;rw[if_neg h]
   rw[e]
theorem ux{S A:Type}{step:S->A->S×Bool}{a b:List A}{s:S}(h:(bR step s a).2=true):bR step s (a++b)=bR step s a:=by rw[mC,if_pos h]
theorem qM{S A:Type}{step:S->A->S×Bool}{a b:List A}{s:S}(h:(bR step s a).2=false):bR step s (a++b)=bR step (bR step s a).1 b:=by rw[mC,if_neg (by rw[h];decide)]
abbrev bA:=List (List UInt8)
def aE(c:UInt8):Nat:=c.toNat-65
def cD(w:List UInt8):List UInt8->bA->Nat->List (bA×Nat)
 | [],V,t=>[(V,t)]
 | c::p,V,t=>if V.getD (aE c) []=[] then (range (w.length-t)).flatMap fun n=>cD w p (V.set (aE c) ((w.drop t).take (n+1))) (t+(n+1))
  else if (V.getD (aE c) []).isPrefixOf (w.drop t) then cD w p V (t+(V.getD (aE c) []).length) else []
def jr:List UInt8->List UInt8->bA->Bool
 | [],w,_=>w.isEmpty
 | c::p,w,V=>if V.getD (aE c) []=[] then (range w.length).any fun n=>jr p (w.drop (n+1)) (V.set (aE c) (w.take (n+1)))
  else (V.getD (aE c) []).isPrefixOf w&&jr p (w.drop (V.getD (aE c) []).length) V
def jy(w p:List UInt8)(V:bA)(k t n:Nat):List (bA×Nat):=(range n).flatMap fun n=>cD w p (V.set k ((w.drop t).take (n+1))) (t+(n+1))
theorem yB(w p:List UInt8)(V:bA)(k t n:Nat):jy w p V k t (n+1)=jy w p V k t n++cD w p (V.set k ((w.drop t).take (n+1))) (t+(n+1)):=by simp[jy,range_succ]
theorem yV{w p:List UInt8}{V:bA}{t:Nat}{c:UInt8}(h:V.getD (aE c) []=[]):cD w (c::p) V t=jy w p V (aE c) t (w.length-t):=by
 conv=>lhs;unfold cD
 rw[if_pos h];rfl
theorem yN{w p:List UInt8}{V:bA}{t:Nat}{c:UInt8}(h:¬ V.getD (aE c) []=[]):cD w (c::p) V t=if (V.getD (aE c) []).isPrefixOf (w.drop t) then cD w p V (t+(V.getD (aE c) []).length) else []:=by
 conv=>lhs;unfold cD
 rw[if_neg h]
def Aj(p w:List UInt8)(V:bA)(k n:Nat):Bool:=(range n).any fun n=>jr p (w.drop (n+1)) (V.set k (w.take (n+1)))
theorem LP(p w:List UInt8)(V:bA)(k n:Nat):Aj p w V k (n+1)=(Aj p w V k n||jr p (w.drop (n+1)) (V.set k (w.take (n+1)))):=by simp[Aj,range_succ]
theorem Nd{p w:List UInt8}{V:bA}{k n m:Nat}(hn:n<m)(h:jr p (w.drop (n+1)) (V.set k (w.take (n+1)))=true):Aj p w V k m=true:=by
 unfold Aj;rw[any_eq_true];exact⟨n,List.mem_range.2 hn,h⟩
theorem Nc{p w:List UInt8}{V:bA}{c:UInt8}(h:V.getD (aE c) []=[]):jr (c::p) w V=Aj p w V (aE c) w.length:=by
 conv=>lhs;unfold jr
 rw[if_pos h];rfl
theorem OU{p w:List UInt8}{V:bA}{c:UInt8}(h:¬ V.getD (aE c) []=[]):jr (c::p) w V=((V.getD (aE c) []).isPrefixOf w&&jr p (w.drop (V.getD (aE c) []).length) V):=by
 conv=>lhs;unfold jr
 rw[if_neg h]
theorem OP{A B:Type}(l:List A)(f:A->List B)(q:B->Bool):(l.flatMap f).any q=l.any fun a=>(f a).any q:=by
 induction l with
 | nil=>rfl
 | cons a l ih=>rw[flatMap_cons,any_append,any_cons,ih]
theorem eA{a b:List UInt8}(h:a.isPrefixOf b=true):a.length<=b.length:=(List.isPrefixOf_iff_prefix.1 h).length_le
theorem qQ(w:List UInt8):∀(p:List UInt8) (V:bA) (t:Nat),t<=w.length->(cD w p V t).any (fun x=>x.2==w.length)=jr p (w.drop t) V
 | [],V,t,ht=>by
  unfold cD jr;rw[Bool.eq_iff_iff];simp;omega
 | c::p,V,t,ht=>by
  unfold cD jr;by_cases h0:V.getD (aE c) []=[]
  ·rw[if_pos h0,if_pos h0,OP,length_drop];rw[Bool.eq_iff_iff,any_eq_true,any_eq_true];have e:∀ n,n∈range (w.length-t)->(cD w p (V.set (aE c) ((w.drop t).take (n+1))) (t+(n+1))).any (fun x=>x.2==w.length)=jr p ((w.drop t).drop (n+1)) (V.set (aE c) ((w.drop t).take (n+1))):=by
    intro n hn;have:=List.mem_range.1 hn;rw[qQ w p _ _ (by omega),drop_drop]
   constructor
   ·rintro⟨n,hn,h⟩;exact⟨n,hn,by rw[<-e n hn];exact h⟩
   ·rintro⟨n,hn,h⟩;exact⟨n,hn,by rw[e n hn];exact h⟩
  ·rw[if_neg h0,if_neg h0];by_cases hp:(V.getD (aE c) []).isPrefixOf (w.drop t)=true
   ·have hl:=eA hp;rw[length_drop]at hl;rw[if_pos hp,hp,Bool.true_and,qQ w p _ _ (by omega),drop_drop]
   ·rw[if_neg hp];have:(V.getD (aE c) []).isPrefixOf (w.drop t)=false:=by cases hh:(V.getD (aE c) []).isPrefixOf (w.drop t) with
     | false=>rfl
     | true=>exact absurd hh hp
    rw[this,Bool.false_and];rfl
theorem je:∀(p w:List UInt8) (V:bA),jr p w V=true->p.length<=w.length
 | [],w,V,_=>Nat.zero_le _
 | c::p,w,V,h=>by
  unfold jr at h;by_cases h0:V.getD (aE c) []=[]
  ·rw[if_pos h0,any_eq_true]at h;obtain⟨n,hn,h⟩:=h;have h1:=je p _ _ h;have:=List.mem_range.1 hn;rw[length_drop]at h1;rw[length_cons];omega
  ·rw[if_neg h0,Bool.and_eq_true]at h;have h1:=je p _ _ h.2;have h2:=eA h.1;have h3:1<=(V.getD (aE c) []).length:=by
    cases e:V.getD (aE c) [] with
    | nil=>exact absurd e h0
    | cons a l=>simp
   rw[length_drop]at h1;rw[length_cons];omega
theorem O2{p w:List UInt8}{V:bA}{k:Nat}:Aj p w V k w.length=Aj p w V k (w.length-p.length):=by
 rw[Bool.eq_iff_iff];unfold Aj;rw[any_eq_true,any_eq_true];constructor
 ·rintro⟨n,hn,h⟩
  have h1:=je _ _ _ h;have h2:=List.mem_range.1 hn;rw[length_drop]at h1;exact⟨n,List.mem_range.2 (by omega),h⟩
 ·rintro⟨n,hn,h⟩
  have h2:=List.mem_range.1 hn;exact⟨n,List.mem_range.2 (by omega),h⟩
def V0:bA:=[[],[],[]]
def eM(w p:List UInt8):Bool:=jr p w V0
def eV(w p:List UInt8):Bool:=(range w.length).any fun i=>eM (w.drop i) p
theorem Mx(w p:List UInt8)(hp:1<=p.length):eV w p=(range (w.length+1-p.length)).any fun i=>eM (w.drop i) p:=by
 rw[Bool.eq_iff_iff];unfold eV;rw[any_eq_true,any_eq_true];constructor
 ·rintro⟨i,hi,h⟩
  have h1:=je _ _ _ h;rw[length_drop]at h1;have:=List.mem_range.1 hi;exact⟨i,List.mem_range.2 (by omega),h⟩
 ·rintro⟨i,hi,h⟩
  have:=List.mem_range.1 hi;exact⟨i,List.mem_range.2 (by omega),h⟩
def lB(w p:List UInt8)(i:Int)(m:Nat):Bool:=(range m).any fun j=>decide (i<j)&&eM (w.drop j) p
theorem G7{w p:List UInt8}{i:Int}{m:Nat}(h:(m:Int)<=i+1):lB w p i m=false:=by
 cases hh:lB w p i m with
 | false=>rfl
 | true=>
  unfold lB at hh;obtain⟨j,hj,hf⟩:=List.any_eq_true.1 hh;rw[Bool.and_eq_true,decide_eq_true_eq]at hf;have:=List.mem_range.1 hj;omega
theorem Fy(w p:List UInt8){i m:Nat}(h:i<m):lB w p ((i:Int)-1) m=(lB w p i m||eM (w.drop i) p):=by
 rw[Bool.eq_iff_iff,Bool.or_eq_true];unfold lB;rw[any_eq_true,any_eq_true];constructor
 ·rintro⟨j,hj,hf⟩
  rw[Bool.and_eq_true,decide_eq_true_eq]at hf;by_cases he:j=i
  ·subst he;exact .inr hf.2
  ·exact .inl ⟨j,hj,by rw[Bool.and_eq_true,decide_eq_true_eq];exact⟨by omega,hf.2⟩⟩
 ·rintro(⟨j,hj,hf⟩|hf)
  ·rw[Bool.and_eq_true,decide_eq_true_eq]at hf;exact⟨j,hj,by rw[Bool.and_eq_true,decide_eq_true_eq];exact⟨by omega,hf.2⟩⟩
  ·exact⟨i,List.mem_range.2 h,by rw[Bool.and_eq_true,decide_eq_true_eq];exact⟨by omega,hf⟩⟩
theorem Iq{w p:List UInt8}{i:Int}{m:Nat}(h:i<0):lB w p i m=(range m).any fun j=>eM (w.drop j) p:=by
 rw[Bool.eq_iff_iff];unfold lB;rw[any_eq_true,any_eq_true];constructor
 ·rintro⟨j,hj,hf⟩
  rw[Bool.and_eq_true,decide_eq_true_eq]at hf;exact⟨j,hj,hf.2⟩
 ·rintro⟨j,hj,hf⟩
  exact⟨j,hj,by rw[Bool.and_eq_true,decide_eq_true_eq];exact⟨by omega,hf⟩⟩
def avL(p:List UInt8)(k:Nat):Nat->List UInt8->List (List UInt8)
 | 0,w=>[w]
 | d+1,w=>(range k).flatMap fun i=>if eV (w++[ltr i]) p then [] else avL p k d (w++[ltr i])
def avS(p:List UInt8)(k d:Nat)(w:List UInt8)(i:Nat):List (List UInt8):=if eV (w++[ltr i]) p then [] else avL p k d (w++[ltr i])
def avN(p:List UInt8)(k d:Nat)(w:List UInt8)(i:Nat):List (List UInt8):=(range i).flatMap (avS p k d w)
theorem sT(p:List UInt8)(k d:Nat)(w:List UInt8):avN p k d w 0=[]:=rfl
theorem ra(p:List UInt8)(k d:Nat)(w:List UInt8)(i:Nat):avN p k d w (i+1)=avN p k d w i++avS p k d w i:=by simp[avN,range_succ]
theorem qO(p:List UInt8)(k d:Nat)(w:List UInt8):avL p k (d+1) w=avN p k d w k:=rfl
theorem nS(p:List UInt8)(k d:Nat)(w:List UInt8){i:Nat}(h:i<=k):∃ rest,avL p k (d+1) w=avN p k d w i++rest:=by
 refine⟨(range' i (k-i)).flatMap (avS p k d w),?_⟩;rw[qO];unfold avN;rw[<-flatMap_append]
 congr 1
 rw[range_eq_range',range_eq_range'];have:=range'_append_1 (s:=0) (m:=i) (n:=k-i);rw[Nat.zero_add,show i+(k-i)=k by omega]at this;exact this.symm
def aY(p:List UInt8):Bool:=decide (1<=p.length/\p.length<=8)&&p.all fun c=>decide (65<=c.toNat)&&decide (c.toNat<68)
end Go.Proofs.YtapimhjbilkfpaaGreatDoor
namespace Go.Proofs.YtapimhjbilkfpaaGreatDoor
open Go Go.Proofs.Tryz List
def hp(v:List UInt8)(q:Nat):Bool:=v.drop q==v.take (v.length-q)
def ey(u:List UInt8)(n:Nat):Bool:=(range n).any fun q=>hp (u.drop (u.length-2*(q+1))) (q+1)
def dy(u:List UInt8):Bool:=ey u (u.length/2)
theorem oX(u:List UInt8)(n:Nat):ey u (n+1)=(ey u n||hp (u.drop (u.length-2*(n+1))) (n+1)):=by simp[ey,range_succ]
theorem sa{u:List UInt8}{n m:Nat}(h:n<m)(hh:hp (u.drop (u.length-2*(n+1))) (n+1)=true):ey u m=true:=by
 unfold ey;rw[any_eq_true];exact⟨n,List.mem_range.2 h,hh⟩
def mf(P:Nat->Nat->Bool)(i q:Nat):List (List Int):=((range q).filter fun m=>P i (m+1)).map fun (m:Nat)=>[(i:Int),((m+1:Nat):Int)]
def dZ(P:Nat->Nat->Bool)(L k n:Nat):List (List Int):=(range n).flatMap fun i=>mf P i ((L-i)/k)
theorem yR(P:Nat->Nat->Bool)(i q:Nat):mf P i (q+1)=mf P i q++if P i (q+1) then [[(i:Int),((q+1:Nat):Int)]] else []:=by
 unfold mf;rw[range_succ,filter_append,map_append]
 congr 1
 cases h:P i (q+1)<;>simp[h]
theorem uS(P:Nat->Nat->Bool)(L k n:Nat):dZ P L k (n+1)=dZ P L k n++mf P n ((L-n)/k):=by simp[dZ,range_succ]
theorem Bq(P:Nat->Nat->Bool)(i q:Nat):(mf P i q).length<=q:=by
 unfold mf;rw[length_map];exact Nat.le_trans (length_filter_le _ _) (by rw[length_range];exact Nat.le_refl _)
theorem I8(P:Nat->Nat->Bool)(L k n:Nat):(dZ P L k n).length<=n*L:=by
 induction n with
 | zero=>simp[dZ]
 | succ n ih=>
  have h1:=Bq P n ((L-n)/k);have h2:(L-n)/k<=L:=Nat.le_trans (Nat.div_le_self _ _) (Nat.sub_le _ _);rw[uS,length_append,Nat.succ_mul];omega
def mb(w:List UInt8):Bool:=(range w.length).any fun i=>(range ((w.length-i)/2)).any fun m=>hp (seg w i (2*(m+1))) (m+1)
def pwP(w:List UInt8)(k:Nat):Nat->Nat->Bool:=fun i m=>hp (seg w i (k*m)) m
theorem Mw(w:List UInt8):(dZ (pwP w 2) w.length 2 w.length).isEmpty = !mb w:=by
 have key:(dZ (pwP w 2) w.length 2 w.length).isEmpty=false↔mb w=true:=by
  unfold mb;rw[any_eq_true];constructor
  ·intro h;cases hr:dZ (pwP w 2) w.length 2 w.length with
   | nil=>rw[hr]at h;cases h
   | cons a l=>
    have ha:a∈dZ (pwP w 2) w.length 2 w.length:=by rw[hr];exact mem_cons_self ..
    unfold dZ at ha;obtain⟨i,hi,ha⟩:=List.mem_flatMap.1 ha;unfold mf at ha;obtain⟨m,hm,_⟩:=List.mem_map.1 ha;obtain⟨h1,h2⟩:=List.mem_filter.1 hm;exact⟨i,hi,List.any_eq_true.2 ⟨m,h1,h2⟩⟩
  ·rintro⟨i,hi,h⟩
   obtain⟨m,hm,h2⟩:=List.any_eq_true.1 h;have:[(i:Int),((m+1:Nat):Int)]∈dZ (pwP w 2) w.length 2 w.length:=by
    unfold dZ;refine List.mem_flatMap.2 ⟨i,hi,?_⟩;unfold mf;exact List.mem_map.2 ⟨m,List.mem_filter.2 ⟨hm,h2⟩,rfl⟩
   cases hr:dZ (pwP w 2) w.length 2 w.length with
   | nil=>rw[hr]at this;cases this
   | cons a l=>rfl
 cases h:mb w
 ·cases h2:(dZ (pwP w 2) w.length 2 w.length).isEmpty
  ·rw[key.1 h2]at h;cases h
  ·rfl
 ·rw[key.2 h];rfl
theorem LA(w:List UInt8):mb w=(range (w.length+1)).any fun n=>dy (w.take n):=by
 rw[Bool.eq_iff_iff];unfold mb dy ey;rw[any_eq_true,any_eq_true];constructor
 ·rintro⟨i,hi,h⟩
  obtain⟨m,hm,h2⟩:=List.any_eq_true.1 h;have h1:=List.mem_range.1 hi;have h3:=List.mem_range.1 hm;have h4:i+2*(m+1)<=w.length:=by omega
  have hl:(w.take (i+2*(m+1))).length=i+2*(m+1):=by rw[length_take];omega
  refine⟨i+2*(m+1),List.mem_range.2 (by omega),List.any_eq_true.2 ⟨m,List.mem_range.2 (by rw[hl];omega),?_⟩⟩;rw[hl,show i+2*(m+1)-2*(m+1)=i by omega];exact h2
 ·rintro⟨n,hn,h⟩
  obtain⟨m,hm,h2⟩:=List.any_eq_true.1 h;have h1:=List.mem_range.1 hn;have hl:(w.take n).length=n:=by rw[length_take];omega
  rw[hl]at hm h2;have h3:=List.mem_range.1 hm;refine⟨n-2*(m+1),List.mem_range.2 (by omega),List.any_eq_true.2 ⟨m,List.mem_range.2 (by omega),?_⟩⟩;unfold seg;rw[show n-2*(m+1)+2*(m+1)=n by omega];exact h2
theorem Vk{u:List UInt8}{q:Nat}(h:2*q<=u.length):(u.drop (u.length-q)==(u.take (u.length-q)).drop (u.length-2*q))=hp (u.drop (u.length-2*q)) q:=by
 unfold hp;rw[drop_drop,length_drop,show u.length-2*q+q=u.length-q by omega,show u.length-(u.length-2*q)-q=q by omega,drop_take,show u.length-q-(u.length-2*q)=q by omega]
def grL(k:Nat):Nat->List UInt8->List (List UInt8)
 | 0,w=>[w]
 | d+1,w=>(range k).flatMap fun i=>if dy (w++[ltr i]) then [] else grL k d (w++[ltr i])
def grS(k d:Nat)(w:List UInt8)(i:Nat):List (List UInt8):=if dy (w++[ltr i]) then [] else grL k d (w++[ltr i])
def grN(k d:Nat)(w:List UInt8)(i:Nat):List (List UInt8):=(range i).flatMap (grS k d w)
theorem FW(k d:Nat)(w:List UInt8):grN k d w 0=[]:=rfl
theorem Ek(k d:Nat)(w:List UInt8)(i:Nat):grN k d w (i+1)=grN k d w i++grS k d w i:=by simp[grN,range_succ]
theorem C6(k d:Nat)(w:List UInt8):grL k (d+1) w=grN k d w k:=rfl
theorem AW(k d:Nat)(w:List UInt8){i:Nat}(h:i<=k):∃ rest,grL k (d+1) w=grN k d w i++rest:=by
 refine⟨(range' i (k-i)).flatMap (grS k d w),?_⟩;rw[C6];unfold grN;rw[<-flatMap_append]
 congr 1
 rw[range_eq_range',range_eq_range'];have:=range'_append_1 (s:=0) (m:=i) (n:=k-i);rw[Nat.zero_add,show i+(k-i)=k by omega]at this;exact this.symm
theorem GY(k:Nat):∀(d:Nat) (w u:List UInt8),u∈grL k d w->u.length=w.length+d/\∀ c∈u,c∈w\/∃ i,i<k/\c=ltr i
 | 0,w,u,h=>by
  unfold grL at h;rw[List.mem_singleton.1 h];exact⟨rfl,fun c hc=>.inl hc⟩
 | d+1,w,u,h=>by
  unfold grL at h;obtain⟨i,hi,h⟩:=List.mem_flatMap.1 h;split at h
  ·cases h
  ·obtain⟨h1,h2⟩:=GY k d _ u h;rw[length_append,length_singleton]at h1;refine⟨by omega,fun c hc=>?_⟩;rcases h2 c hc with h3|h3
   ·rcases List.mem_append.1 h3 with h3|h3
    ·exact .inl h3
    ·exact .inr ⟨i,List.mem_range.1 hi,List.mem_singleton.1 h3⟩
   ·exact .inr h3
def Lt0(k:Nat)(w:List UInt8):Prop:=∀ u∈w,97<=u.toNat/\u.toNat-97<k
theorem Ka(k:Nat):Lt0 k []:=fun u h=>by cases h
theorem gf{i:Nat}(h:i<=100):(ltr i).toNat=97+i:=by
 unfold ltr;rw[UInt8.toNat_ofNat_of_lt' (by show 97+i<256;omega)]
theorem E0{k:Nat}{w:List UInt8}(h:Lt0 k w){i:Nat}(hi:i<k)(hk:i<=100):Lt0 k (w++[ltr i]):=by
 intro u hu;rcases List.mem_append.1 hu with hu|hu
 ·exact h u hu
 ·rw[List.mem_singleton.1 hu,gf hk];omega
def tS(ws:List (List UInt8))(d:Nat)(w:List UInt8):Option (List UInt8):=(grL ws.length d w).find? fun u=>mb (aP ws u)
def Fs(ws:List (List UInt8)):List UInt8->List UInt8->List UInt8×Bool:=fun _ u=>(u,mb (aP ws u))
theorem BU(ws:List (List UInt8)):∀(l:List (List UInt8)) (s:List UInt8),(bR (Fs ws) s l).2=(l.find? fun u=>mb (aP ws u)).isSome/\∀ u,(l.find? fun u=>mb (aP ws u))=some u->(bR (Fs ws) s l).1=u
 | [],s=>⟨rfl,fun u h=>by cases h⟩
 | a::l,s=>by
  have ih:=BU ws l a;unfold bR;rw[find?_cons];cases h:mb (aP ws a)
  ·have e:(Fs ws s a).2=false:=h;rw[e,if_neg (by decide)];exact ih
  ·have e:(Fs ws s a).2=true:=h;rw[e,if_pos rfl];exact⟨rfl,fun u hu=>by injection hu⟩
def jk(ws:List (List UInt8))(n:Nat):Option (List UInt8):=(range n).findSome? fun m=>tS ws m []
theorem vl(ws:List (List UInt8))(n:Nat):jk ws (n+1)=(jk ws n).or (tS ws n []):=by
 unfold jk;rw[range_succ,zR]
theorem xE{ws:List (List UInt8)}{n m:Nat}{u:List UInt8}(h:n<m)(h0:jk ws n=none)(hu:tS ws n []=some u):jk ws m=some u:=OX h h0 hu
end Go.Proofs.YtapimhjbilkfpaaGreatDoor
