/- Lemmas for FnExactConsole, part 9 of 46. -/
import Derived.Test.YtapimhjbilkfpaaGreatDoorZ07
import Derived.Test.YtapimhjbilkfpaaGreatDoorZ04
import Derived.Test.YtapimhjbilkfpaaGreatDoorZ03
import Derived.Test.YtapimhjbilkfpaaGreatDoorZ06
set_option linter.unusedVariables false
set_option linter.unusedSimpArgs false
namespace Go.Proofs.YtapimhjbilkfpaaGreatDoor
open Go Go.Proofs.Tryz List
def gK(ws:List (List UInt8))(w:List UInt8):Int:=if aW ws&&isWord w then (if gS w ws.length then 0 else 2) else 1
def ij(ws:List (List UInt8))(w:List UInt8)(k:Int):Int:=if aW ws&&isWord w then (if gS w ws.length&&decide (0<=k/\k<=100) then 0 else 2) else 1
theorem aX{ws:List (List UInt8)}(h:aW ws=true):1<=ws.length/\ws.length<=5:=by
 unfold aW at h;rw[Bool.and_eq_true,decide_eq_true_eq]at h;exact h.1
theorem bK{ws:List (List UInt8)}(h:aW ws=true){w:List UInt8}(hw:w∈ws):w.length<=12/\isWord w=true/\gS w ws.length=true:=by
 unfold aW at h;rw[Bool.and_eq_true]at h;have:=List.all_eq_true.1 h.2 w hw;unfold okW at this;simpa using this
def Lt(ws:List (List UInt8))(l:List UInt8):Prop:=∀ u∈l,97<=u.toNat/\u.toNat-97<ws.length
theorem yC{ws:List (List UInt8)}{l:List UInt8}(hw:l.all isL=true)(hf:gS l ws.length=true):Lt ws l:=by
 intro u hu;have h1:=dV (List.all_eq_true.1 hw u hu);have h2:=List.all_eq_true.1 hf u hu;rw[decide_eq_true_eq]at h2;exact⟨h1.1,h2⟩
theorem IJ{ws:List (List UInt8)}(hm:aW ws=true){l:List UInt8}(h:Lt ws l):Lt ws (aP ws l):=by
 intro u hu;unfold aP at hu;obtain⟨v,hv,hu⟩:=List.mem_flatMap.1 hu;have:=bK hm (kC (h v hv).2);exact yC (aV this.2.1) this.2.2 u hu
theorem ir{ws:List (List UInt8)}(hm:aW ws=true):∀ {l:List UInt8},Lt ws l->(aP ws l).length<=12*l.length
 | [],_=>Nat.le_refl _
 | u::l,h=>by
  have ih:=ir hm (l:=l) fun v hv=>h v (mem_cons_of_mem _ hv);have h1:=(bK hm (kC (h u (mem_cons_self ..)).2)).1;rw[ey,length_append,length_cons];omega
theorem Ju{ws:List (List UInt8)}{l:List UInt8}(h:Lt ws l)(i:Nat):Lt ws (l.take i):=fun u hu=>h u (mem_of_mem_take hu)
theorem aT{M N:Mem}{b i:Nat}{v:Value}(h:M.get? b i=some v)(hs:Sub M N):N.get? b i=some v:=by
 unfold Mem.get? at h ⊢;cases hMb:M b with
 | none=>rw[hMb]at h;cases h
 | some B=>rw[hMb]at h;rw[hs _ _ hMb];exact h
theorem rh(v:Value)(ws:List (List UInt8))(w:List UInt8)(M:Mem)(R:VP)(hv:Rd M v (strs ws))(hf:dh ws)(hn:ws.length<=1099511627776)(hl:w.length<=1099511627776)(h:R (.int .i64 (gK ws w)) M):ar prog 181 [.agg #[v],str w] M R:=by
 refine fnS func181 rfl ntmps181 results181 ?_;obtain⟨a,c,rfl,ha⟩:=hv.opened;rw[ah]at ha hv ⊢;simp(disch:=omega);intro b1 hb1;have hs1:Sub M (M.put b1 (.cells true [.slice a ws.length c] 1)):=(Sub.refl M).put hb1 _;have hv1:=hv.put hb1 (.cells true [.slice a ws.length c] 1);unfold gK at h;simp(disch:=omega);refine gf _ ws _ _ hv1 hf hn ?_;cases e1:aW ws
 ·rw[e1,Bool.false_and]at h;simp(disch:=omega);exact ae hs1 h
 ·rw[e1,Bool.true_and]at h;simp(disch:=omega);refine ba w _ _ hl ?_;cases e2:isWord w
  ·rw[e2]at h;simp(disch:=omega);exact ae hs1 h
  ·rw[e2,if_pos rfl]at h;simp(disch:=omega);refine nw w ws.length _ _ hl (aV e2) (by omega) ?_;cases e3:gS w ws.length
   ·rw[e3]at h;simp(disch:=omega);exact ae hs1 h
   ·rw[e3]at h;simp(disch:=omega);exact ae hs1 h
theorem ki(v:Value)(ws:List (List UInt8))(l:List UInt8)(M:Mem)(R:VP)(hv:Rd M v (strs ws))(hm:aW ws=true)(hl:l.length<=60)(hlt:Lt ws l)(h:R (str (aP ws l)) M):ar prog 182 [.agg #[v],str l] M R:=by
 refine fnS func182 rfl ntmps182 results182 ?_;obtain⟨a,c,rfl,ha⟩:=hv.opened;have h15:=aX hm;rw[ah]at ha hv ⊢;simp(disch:=omega);intro b1 hb1;have hs1:Sub M (M.put b1 (.cells true [.slice a ws.length c] 1)):=(Sub.refl M).put hb1 _;rcases ha with h0|⟨b,o,rfl,ha⟩
 ·omega
 simp(disch:=omega);refine aQ aR [5,6,7,8,9,10,11,12,13,14,15,16,17,18,19,20,21,22] (fun i:Nat=>[(6,.int .i64 i),(5,str (aP ws (l.take i)))]) (fun i M'=>M'=M.put b1 (.cells true [.slice (some ⟨b,o,none⟩) ws.length c] 1)/\i<=l.length) (fun i=>l.length-i) 0 (by kernel_rfl) (by simp(disch:=omega)[eE]) ⟨rfl,by omega⟩ ?_
 rintro i M' g ⟨rfl,hi⟩
 by_cases hil:i<l.length
 ·have hx:l[i]?=some l[i]:=getElem?_eq_getElem hil;have hL:=hlt _ (getElem_mem hil);have hu:=l[i].toNat_lt;have hk:((l[i].toNat:Int)-97).toNat=l[i].toNat-97:=by omega
  obtain⟨x,hx1,hxl,hsn⟩:∃ x,ws[l[i].toNat-97]'hL.2=x/\x.length<=12/\aP ws (l.take (i+1))=aP ws (l.take i)++x:=
   ⟨_,rfl,(bK hm (getElem_mem hL.2)).1,by rw[az l hil,fj,getD_eq_getElem?_getD,getElem?_eq_getElem hL.2];rfl⟩
  have hil2:=ir hm (Ju hlt i);have hil3:(l.take i).length<=l.length:=by rw[length_take];omega
  have hg0:=ha (l[i].toNat-97) hL.2;rw[bg,getElem?_eq_getElem hL.2,hx1]at hg0;have hg:=aT hg0 hs1;simp(disch:=omega);refine drwS ?_;simp(disch:=omega)[hk,hg];refine rndA (i+1) (by simp(disch:=omega)[hsn]) ⟨rfl,by omega⟩
 ·have hi':i=l.length:=by omega
  subst hi';rw[take_length];simp(disch:=omega);exact ae hs1 h
theorem kZ(v:Value)(ws:List (List UInt8))(l:List UInt8)(M:Mem)(R:VP)(hv:Rd M v (strs ws))(hm:aW ws=true)(hl:l.length<=60)(hlt:Lt ws l)(h:R (str (aP ws l)) M):ar prog 257 [.agg #[v],str l] M R:=by
 refine fnS func257 rfl ntmps257 results257 ?_;obtain⟨a,c,rfl,ha⟩:=hv.opened;have h15:=aX hm;rw[ah]at ha hv ⊢;simp(disch:=omega);intro b1 hb1;have hs1:Sub M (M.put b1 (.cells true [.slice a ws.length c] 1)):=(Sub.refl M).put hb1 _;rcases ha with h0|⟨b,o,rfl,ha⟩
 ·omega
 simp(disch:=omega);intro b2 c2 hb2 hc2;have hs2:=hs1.putN hb2 (.cells true (av l) c2);have e12:b1≠b2:=by rintro rfl;rw[ag]at hb2;cases hb2
 have k1:((M.put b1 (.cells true [.slice (some ⟨b,o,none⟩) ws.length c] 1)).put b2 (.cells true (av l) c2)) b1=some (.cells true [.slice (some ⟨b,o,none⟩) ws.length c] 1):=(ai _ _ e12).trans (ag _ _ _);have k2:((M.put b1 (.cells true [.slice (some ⟨b,o,none⟩) ws.length c] 1)).put b2 (.cells true (av l) c2)) b2=some (.cells true (av l) c2):=ag _ _ _;simp(disch:=omega);generalize (M.put b1 (.cells true [.slice (some ⟨b,o,none⟩) ws.length c] 1)).put b2 (.cells true (av l) c2)=N at *;refine aQ aR [5,7,11,12,13,14,15,16,17,18,19,20,21,22,23] (fun i:Nat=>[(11,.int .i64 i),(5,str (aP ws (l.take i)))]) (fun i M'=>M'=N/\i<=l.length) (fun i=>l.length-i) 0 (by kernel_rfl) (by simp(disch:=omega)[eE]) ⟨rfl,by omega⟩ ?_
 rintro i M' g ⟨rfl,hi⟩
 by_cases hil:i<l.length
 ·have hx:l[i]?=some l[i]:=getElem?_eq_getElem hil;have hL:=hlt _ (getElem_mem hil);have hu:=l[i].toNat_lt;have hk:((l[i].toNat:Int)-97).toNat=l[i].toNat-97:=by omega
  obtain⟨x,hx1,hxl,hsn⟩:∃ x,ws[l[i].toNat-97]'hL.2=x/\x.length<=12/\aP ws (l.take (i+1))=aP ws (l.take i)++x:=
   ⟨_,rfl,(bK hm (getElem_mem hL.2)).1,by rw[az l hil,fj,getD_eq_getElem?_getD,getElem?_eq_getElem hL.2];rfl⟩
  have hil2:=ir hm (Ju hlt i);have hil3:(l.take i).length<=l.length:=by rw[length_take];omega
  have hg0:=ha (l[i].toNat-97) hL.2;rw[bg,getElem?_eq_getElem hL.2,hx1]at hg0;have hg:=aT hg0 hs2;simp(disch:=omega)[aj k2];refine drwS ?_;simp(disch:=omega)[aj k1];refine aU (a:=[]) (c:=[]) (gT _ _ _ ⟨rfl,rfl⟩) ?_;simp(disch:=omega)[hk,hg];refine rndA (i+1) (by simp(disch:=omega)[hsn]) ⟨rfl,by omega⟩
 ·have hi':i=l.length:=by omega
  subst hi';rw[take_length];simp(disch:=omega);exact ae hs2 h
theorem df(v fv sv:Value)(ws us:List (List UInt8))(b:Bool)(G:Mem->Prop)(M:Mem)(R:VP)(hv:Rd M v (strs ws))(hf:dh ws)(hn:ws.length<=1099511627776)(hs:Rd M sv (strs us))(hfu:dh us)(hnu:us.length<=1099511627776)
  (hfl:bF fv=true) (hG:G M) (hst:nK G) (ht:DP prog fv b G) (h:R (.int .i64 (if aW ws then codeOf us (us.all (fun u=>gS u ws.length)&&b) else 1)) M):ar prog 228 [.agg #[v],fv,sv] M R:=by
 refine fnS func228 rfl ntmps228 results228 ?_;obtain⟨a,c,rfl,ha⟩:=hv.opened;obtain⟨a',c',rfl,ha'⟩:=hs.opened;rw[ah]at hv hs ⊢;rw[ah];simp(disch:=omega);intro b3 hb3;simp(disch:=omega);intro b4 hb4;simp(disch:=omega);intro b5 hb5;have n4:=hb4;have n5:=hb5;rw[aF]at n4;rw[aF,aF]at n5;have hs5:Sub M (((M.put b3 (.cells true [.slice a ws.length c] 1)).put b4 (.cells true [fv] 1)).put b5 (.cells true [.slice a' us.length c'] 1)):=(((Sub.refl M).put hb3 _).putN hb4 _).putN hb5 _;have k3:(((M.put b3 (.cells true [.slice a ws.length c] 1)).put b4 (.cells true [fv] 1)).put b5 (.cells true [.slice a' us.length c'] 1)) b3=some (.cells true [.slice a ws.length c] 1):=by rw[ai _ _ (Ne.symm n5.2.1),ai _ _ (Ne.symm n4.1)];exact ag _ _ _
 have k4:(((M.put b3 (.cells true [.slice a ws.length c] 1)).put b4 (.cells true [fv] 1)).put b5 (.cells true [.slice a' us.length c'] 1)) b4=some (.cells true [fv] 1):=by rw[ai _ _ (Ne.symm n5.1)];exact ag _ _ _
 have k5:(((M.put b3 (.cells true [.slice a ws.length c] 1)).put b4 (.cells true [fv] 1)).put b5 (.cells true [.slice a' us.length c'] 1)) b5=some (.cells true [.slice a' us.length c'] 1):=ag _ _ _;simp(disch:=omega);have hG5:=hst _ _ (.cells true [.slice a' us.length c'] 1) (hst _ _ (.cells true [fv] 1) (hst _ _ (.cells true [.slice a ws.length c] 1) hG hb3) hb4) hb5;generalize (((M.put b3 (.cells true [.slice a ws.length c] 1)).put b4 (.cells true [fv] 1)).put b5 (.cells true [.slice a' us.length c'] 1))=N at *;refine lN _ ws _ _ (hv.sub hs5) hf hn ?_;cases hm:aW ws
 ·rw[hm]at h;simp(disch:=omega);exact ae hs5 h
 ·rw[hm,if_pos rfl]at h;simp(disch:=omega)[aj k5];refine nd _ _ us (us.all (fun u=>gS u ws.length)&&b) (fun M'=>Sub N M'/\G M') _ _ (hs.sub hs5) hfu hnu ⟨Sub.refl N,hG5⟩ ?_ ?_ ?_
  ·intro K b' B ⟨q1,q2⟩ hb;exact⟨q1.putN hb _,hst _ _ _ q2 hb⟩
  ·intro hall K R' ⟨q1,q2⟩ hR';have j3:=q1 _ _ k3;have j4:=q1 _ _ k4;have j5:=q1 _ _ k5;simp(disch:=omega);refine fnS func314 rfl ntmps314 results314 ?_;simp(disch:=omega)[aj j5,aq j3];refine lL _ _ (strs us) (onS fun u=>gS u ws.length) (fun M'=>Rd M' (.slice a ws.length c) (strs ws)) _ _ ((hs.sub hs5).sub q1) ((hv.sub hs5).sub q1) (fun K2 b' B q hb=>q.put hb _) ?_ rfl (by rw[ah];omega) ?_
   ·intro x hx K2 R2 q hR2;obtain⟨u,hu,rfl⟩:=xi hx;rw[wC]at hR2;have hwu:=List.all_eq_true.1 hall u hu;simp(disch:=omega);refine EO _ (strs ws) u _ _ q (by rw[ah];omega) (hfu u hu) (aV hwu) ?_;rw[ah];exact hR2
   ·rw[xd];cases hall2:us.all fun u=>gS u ws.length
    ·rw[hall2,Bool.false_and]at hR';simp(disch:=omega);exact ad hR'
    ·rw[hall2,Bool.true_and]at hR';simp(disch:=omega)[aj j4];refine ht _ _ q2 ?_;simp(disch:=omega);exact ad hR'
  ·simp(disch:=omega);exact ae hs5 h
def pC(ws:List (List UInt8)):Nat->List UInt8->Option (List UInt8)
 | 0,w=>some w
 | k+1,w=>if 60<(aP ws w).length then none else pC ws k (aP ws w)
theorem yX(ws:List (List UInt8))(w:List UInt8):pC ws 0 w=some w:=rfl
theorem qo(ws:List (List UInt8))(k:Nat)(w:List UInt8):pC ws (k+1) w=if 60<(aP ws w).length then none else pC ws k (aP ws w):=rfl
def mG(ws:List (List UInt8))(w:List UInt8)(k:Int):List UInt8:=if ij ws w k=0 then (match pC ws k.toNat w with|some x=>x|none=>[]) else []
def mN(ws:List (List UInt8))(w:List UInt8)(k:Int):Int:=if ij ws w k=0 then (match pC ws k.toNat w with|some x=>0|none=>3) else ij ws w k
theorem lH{ws:List (List UInt8)}{w:List UInt8}{k:Int}(h:ij ws w k=0):aW ws=true/\isWord w=true/\gS w ws.length=true/\0<=k/\k<=100:=by
 unfold ij at h;split at h
 ·rename_i h1;split at h
  ·rename_i h2;rw[Bool.and_eq_true]at h1 h2;rw[decide_eq_true_eq]at h2;exact⟨h1.1,h1.2,h2.1,h2.2.1,h2.2.2⟩
  ·cases h
 ·cases h
theorem Co(v:Value)(ws:List (List UInt8))(w:List UInt8)(k:Int)(M:Mem)(R:VP)(hv:Rd M v (strs ws))(hf:dh ws)(hn:ws.length<=1099511627776)(hl:w.length<=1099511627776)(h:R (aD (str (mG ws w k)) (mN ws w k)) M):ar prog 227 [.agg #[v],str w,.int .i64 k] M R:=by
 refine fnS func227 rfl ntmps227 results227 ?_;obtain⟨a,c,rfl,ha⟩:=hv.opened;rw[ah]at hv ⊢;simp(disch:=omega);intro b3 hb3;simp(disch:=omega);intro b5 hb5;have n5:=hb5;rw[aF]at n5;simp(disch:=omega);intro b12 hb12;have n12:=hb12;rw[aF,aF]at n12;have hs:Sub M (((M.put b3 (.cells true [.slice a ws.length c] 1)).put b5 (.cells true [.int .i64 k] 1)).put b12 (.cells true [str w] 1)):=(((Sub.refl M).put hb3 _).putN hb5 _).putN hb12 _;have k3:(((M.put b3 (.cells true [.slice a ws.length c] 1)).put b5 (.cells true [.int .i64 k] 1)).put b12 (.cells true [str w] 1)) b3=some (.cells true [.slice a ws.length c] 1):=by rw[ai _ _ (Ne.symm n12.2.1),ai _ _ (Ne.symm n5.1)];exact ag _ _ _
 have k5:(((M.put b3 (.cells true [.slice a ws.length c] 1)).put b5 (.cells true [.int .i64 k] 1)).put b12 (.cells true [str w] 1)) b5=some (.cells true [.int .i64 k] 1):=by rw[ai _ _ (Ne.symm n12.1)];exact ag _ _ _
 have k12:Rd (((M.put b3 (.cells true [.slice a ws.length c] 1)).put b5 (.cells true [.int .i64 k] 1)).put b12 (.cells true [str w] 1)) (.slice (some ⟨b12,0,none⟩) 1 1) (strs [w]):=Rd.new rfl (Nat.le_refl 1);simp(disch:=omega);generalize (((M.put b3 (.cells true [.slice a ws.length c] 1)).put b5 (.cells true [.int .i64 k] 1)).put b12 (.cells true [str w] 1))=N at *;refine df _ _ _ ws [w] (decide (0<=k/\k<=100)) (fun M'=>M' b5=some (.cells true [.int .i64 k] 1)) _ _ (hv.sub hs) hf hn k12 (fM hl) (by simp) rfl k5 ?_ ?_ ?_
 ·intro K b' B q hb;have:b5≠b':=by rintro rfl;rw[hb]at q;cases q
  rw[ai _ _ this];exact q
 ·intro K R' q hR';simp(disch:=omega);refine fnS func313 rfl ntmps313 results313 ?_;simp(disch:=omega)[aj q];refine bD k 0 100 _ _ ?_;simp(disch:=omega);exact ad (by simpa using hR')
 ·have hcode:(if aW ws then codeOf [w] ([w].all (fun u=>gS u ws.length)&&decide (0<=k/\k<=100)) else 1)=ij ws w k:=by
   unfold ij;rw[cV];simp only[all_cons,all_nil,Bool.and_true];cases aW ws<;>cases isWord w<;>rfl
  rw[hcode];unfold mG mN at h;by_cases h0:ij ws w k=0
  ·obtain⟨g1,g2,g3,g4,g5⟩:=lH h0;rw[if_pos h0,if_pos h0]at h;have hb:(ij ws w k==0)=true:=by rw[h0];rfl
   rw[h0];obtain⟨k,rfl⟩:∃ n:Nat,k=n:=⟨k.toNat,by omega⟩;rw[Int.toNat_natCast]at h;simp(disch:=omega)[aj k5];refine lupS [1,6,7,18,19,20,21,22,23,24,25,26] (fun x:Nat×List UInt8=>[(18,.int .i64 x.1),(1,str x.2)]) (fun x M'=>M'=N/\x.1<=k/\x.2.length<=60/\Lt ws x.2/\pC ws (k-x.1) x.2=pC ws k w) (fun x=>k-x.1) (0,w) ⟨rfl,by omega,au g2,yC (aV g2) g3,rfl⟩ ?_
   rintro⟨i,x⟩ M' g ⟨rfl,hi,hx6,hx,hit⟩
   simp only at hi hx6 hx hit;by_cases hlt:i<k
   ·have hil:=ir g1 hx;rw[show k-i=(k-(i+1))+1 by omega,qo]at hit;simp(disch:=omega)[aq k3];refine kZ _ ws x _ _ (hv.sub hs) g1 hx6 hx ?_;by_cases hbig:60<(aP ws x).length
    ·rw[if_pos hbig]at hit;have hbig':(60:Int)<(aP ws x).length:=by omega
     rw[<-hit]at h;simp(disch:=omega)[hbig'];exact ae hs h
    ·rw[if_neg hbig]at hit;have hbig':¬(60:Int)<(aP ws x).length:=by omega
     simp(disch:=omega)[hbig'];exact rndS (i+1,aP ws x) ⟨rfl,by simp only;omega,by simp only;omega,IJ g1 hx,hit⟩
   ·have hi':i=k:=by omega
    subst hi';rw[Nat.sub_self,yX]at hit;rw[<-hit]at h;simp(disch:=omega);exact ae hs h
  ·rw[if_neg h0,if_neg h0]at h;have hb:(ij ws w k==0)=false:=beq_eq_false_iff_ne.2 h0;generalize ij ws w k=code at *;simp(disch:=omega)[hb];exact ae hs h
end Go.Proofs.YtapimhjbilkfpaaGreatDoor
namespace Go.Proofs.YtapimhjbilkfpaaGreatDoor
open List
def bQ{S A:Type}(step:S->A->S×Bool):S->List A->S×Bool
 | s,[]=>(s,false)
 | s,x::l=>if (step s x).2 then ((step s x).1,true) else bQ step (step s x).1 l
theorem my{S A:Type}(step:S->A->S×Bool)(s:S):bQ step s []=(s,false):=rfl
theorem xA{S A:Type}(step:S->A->S×Bool)(s:S)(x:A):bQ step s [x]=step s x:=by
 unfold bQ bQ;cases h:(step s x).2
 ·simp[<-h]
 ·simp[<-h]
theorem mR{S A:Type}(step:S->A->S×Bool):∀(a b:List A) (s:S),bQ step s (a++b)=if (bQ step s a).2 then bQ step s a else bQ step (bQ step s a).1 b
 | [],b,s=>rfl
 | x::a,b,s=>by
  rw[cons_append]
  conv=>lhs;unfold bQ
  by_cases h:(step s x).2=true
  ·rw[if_pos h];have e:bQ step s (x::a)=((step s x).1,true):=by conv=>lhs;unfold bQ;rw[if_pos h]
   rw[e];rfl
  ·rw[if_neg h,mR step a b];have e:bQ step s (x::a)=bQ step (step s x).1 a:=by conv=>lhs;unfold bQ;rw[if_neg h]
   rw[e]
theorem tA{S A:Type}{step:S->A->S×Bool}{a b:List A}{s:S}(h:(bQ step s a).2=true):bQ step s (a++b)=bQ step s a:=by rw[mR,if_pos h]
theorem rj{S A:Type}{step:S->A->S×Bool}{a b:List A}{s:S}(h:(bQ step s a).2=false):bQ step s (a++b)=bQ step (bQ step s a).1 b:=by rw[mR,if_neg (by rw[h];decide)]
abbrev bA:=List (List UInt8)
def aE(c:UInt8):Nat:=c.toNat-65
def cD(w:List UInt8):List UInt8->bA->Nat->List (bA×Nat)
 | [],V,t=>[(V,t)]
 | c::p,V,t=>if V.getD (aE c) []=[] then (range (w.length-t)).flatMap fun n=>cD w p (V.set (aE c) ((w.drop t).take (n+1))) (t+(n+1))
  else if (V.getD (aE c) []).isPrefixOf (w.drop t) then cD w p V (t+(V.getD (aE c) []).length) else []
def jr:List UInt8->List UInt8->bA->Bool
 | [],w,_=>w.isEmpty
 | c::p,w,V=>if V.getD (aE c) []=[] then (range w.length).any fun n=>jr p (w.drop (n+1)) (V.set (aE c) (w.take (n+1)))
  else (V.getD (aE c) []).isPrefixOf w&&jr p (w.drop (V.getD (aE c) []).length) V
def jF(w p:List UInt8)(V:bA)(k t n:Nat):List (bA×Nat):=(range n).flatMap fun n=>cD w p (V.set k ((w.drop t).take (n+1))) (t+(n+1))
theorem yq(w p:List UInt8)(V:bA)(k t n:Nat):jF w p V k t (n+1)=jF w p V k t n++cD w p (V.set k ((w.drop t).take (n+1))) (t+(n+1)):=by simp[jF,range_succ]
theorem xy{w p:List UInt8}{V:bA}{t:Nat}{c:UInt8}(h:V.getD (aE c) []=[]):cD w (c::p) V t=jF w p V (aE c) t (w.length-t):=by
 conv=>lhs;unfold cD
 rw[if_pos h];rfl
theorem yH{w p:List UInt8}{V:bA}{t:Nat}{c:UInt8}(h:¬ V.getD (aE c) []=[]):cD w (c::p) V t=if (V.getD (aE c) []).isPrefixOf (w.drop t) then cD w p V (t+(V.getD (aE c) []).length) else []:=by
 conv=>lhs;unfold cD
 rw[if_neg h]
def Ak(p w:List UInt8)(V:bA)(k n:Nat):Bool:=(range n).any fun n=>jr p (w.drop (n+1)) (V.set k (w.take (n+1)))
theorem L8(p w:List UInt8)(V:bA)(k n:Nat):Ak p w V k (n+1)=(Ak p w V k n||jr p (w.drop (n+1)) (V.set k (w.take (n+1)))):=by simp[Ak,range_succ]
theorem MT{p w:List UInt8}{V:bA}{k n m:Nat}(hn:n<m)(h:jr p (w.drop (n+1)) (V.set k (w.take (n+1)))=true):Ak p w V k m=true:=by
 unfold Ak;rw[any_eq_true];exact⟨n,List.mem_range.2 hn,h⟩
theorem Ot{p w:List UInt8}{V:bA}{c:UInt8}(h:V.getD (aE c) []=[]):jr (c::p) w V=Ak p w V (aE c) w.length:=by
 conv=>lhs;unfold jr
 rw[if_pos h];rfl
theorem OC{p w:List UInt8}{V:bA}{c:UInt8}(h:¬ V.getD (aE c) []=[]):jr (c::p) w V=((V.getD (aE c) []).isPrefixOf w&&jr p (w.drop (V.getD (aE c) []).length) V):=by
 conv=>lhs;unfold jr
 rw[if_neg h]
theorem PH{A B:Type}(l:List A)(f:A->List B)(q:B->Bool):(l.flatMap f).any q=l.any fun a=>(f a).any q:=by
 induction l with
 | nil=>rfl
 | cons a l ih=>rw[flatMap_cons,any_append,any_cons,ih]
theorem eu{a b:List UInt8}(h:a.isPrefixOf b=true):a.length<=b.length:=(List.isPrefixOf_iff_prefix.1 h).length_le
theorem rZ(w:List UInt8):∀(p:List UInt8) (V:bA) (t:Nat),t<=w.length->(cD w p V t).any (fun x=>x.2==w.length)=jr p (w.drop t) V
 | [],V,t,ht=>by
  unfold cD jr;rw[Bool.eq_iff_iff];simp;omega
 | c::p,V,t,ht=>by
  unfold cD jr;by_cases h0:V.getD (aE c) []=[]
  ·rw[if_pos h0,if_pos h0,PH,length_drop];rw[Bool.eq_iff_iff,any_eq_true,any_eq_true];have e:∀ n,n∈range (w.length-t)->(cD w p (V.set (aE c) ((w.drop t).take (n+1))) (t+(n+1))).any (fun x=>x.2==w.length)=jr p ((w.drop t).drop (n+1)) (V.set (aE c) ((w.drop t).take (n+1))):=by
    intro n hn;have:=List.mem_range.1 hn;rw[rZ w p _ _ (by omega),drop_drop]
   constructor
   ·rintro⟨n,hn,h⟩;exact⟨n,hn,by rw[<-e n hn];exact h⟩
   ·rintro⟨n,hn,h⟩;exact⟨n,hn,by rw[e n hn];exact h⟩
  ·rw[if_neg h0,if_neg h0];by_cases hp:(V.getD (aE c) []).isPrefixOf (w.drop t)=true
   ·have hl:=eu hp;rw[length_drop]at hl;rw[if_pos hp,hp,Bool.true_and,rZ w p _ _ (by omega),drop_drop]
   ·rw[if_neg hp];have:(V.getD (aE c) []).isPrefixOf (w.drop t)=false:=by cases hh:(V.getD (aE c) []).isPrefixOf (w.drop t) with
     | false=>rfl
     | true=>exact absurd hh hp
    rw[this,Bool.false_and];rfl
theorem jc:∀(p w:List UInt8) (V:bA),jr p w V=true->p.length<=w.length
 | [],w,V,_=>Nat.zero_le _
 | c::p,w,V,h=>by
  unfold jr at h;by_cases h0:V.getD (aE c) []=[]
  ·rw[if_pos h0,any_eq_true]at h;obtain⟨n,hn,h⟩:=h;have h1:=jc p _ _ h;have:=List.mem_range.1 hn;rw[length_drop]at h1;rw[length_cons];omega
  ·rw[if_neg h0,Bool.and_eq_true]at h;have h1:=jc p _ _ h.2;have h2:=eu h.1;have h3:1<=(V.getD (aE c) []).length:=by
    cases e:V.getD (aE c) [] with
    | nil=>exact absurd e h0
    | cons a l=>simp
   rw[length_drop]at h1;rw[length_cons];omega
theorem NI{p w:List UInt8}{V:bA}{k:Nat}:Ak p w V k w.length=Ak p w V k (w.length-p.length):=by
 rw[Bool.eq_iff_iff];unfold Ak;rw[any_eq_true,any_eq_true];constructor
 ·rintro⟨n,hn,h⟩
  have h1:=jc _ _ _ h;have h2:=List.mem_range.1 hn;rw[length_drop]at h1;exact⟨n,List.mem_range.2 (by omega),h⟩
 ·rintro⟨n,hn,h⟩
  have h2:=List.mem_range.1 hn;exact⟨n,List.mem_range.2 (by omega),h⟩
def V0:bA:=[[],[],[]]
def eM(w p:List UInt8):Bool:=jr p w V0
def eW(w p:List UInt8):Bool:=(range w.length).any fun i=>eM (w.drop i) p
theorem Mr(w p:List UInt8)(hp:1<=p.length):eW w p=(range (w.length+1-p.length)).any fun i=>eM (w.drop i) p:=by
 rw[Bool.eq_iff_iff];unfold eW;rw[any_eq_true,any_eq_true];constructor
 ·rintro⟨i,hi,h⟩
  have h1:=jc _ _ _ h;rw[length_drop]at h1;have:=List.mem_range.1 hi;exact⟨i,List.mem_range.2 (by omega),h⟩
 ·rintro⟨i,hi,h⟩
  have:=List.mem_range.1 hi;exact⟨i,List.mem_range.2 (by omega),h⟩
def lb(w p:List UInt8)(i:Int)(m:Nat):Bool:=(range m).any fun j=>decide (i<j)&&eM (w.drop j) p
theorem IQ{w p:List UInt8}{i:Int}{m:Nat}(h:(m:Int)<=i+1):lb w p i m=false:=by
 cases hh:lb w p i m with
 | false=>rfl
 | true=>
  unfold lb at hh;obtain⟨j,hj,hf⟩:=List.any_eq_true.1 hh;rw[Bool.and_eq_true,decide_eq_true_eq]at hf;have:=List.mem_range.1 hj;omega
theorem D9(w p:List UInt8){i m:Nat}(h:i<m):lb w p ((i:Int)-1) m=(lb w p i m||eM (w.drop i) p):=by
 rw[Bool.eq_iff_iff,Bool.or_eq_true];unfold lb;rw[any_eq_true,any_eq_true];constructor
 ·rintro⟨j,hj,hf⟩
  rw[Bool.and_eq_true,decide_eq_true_eq]at hf;by_cases he:j=i
  ·subst he;exact .inr hf.2
  ·exact .inl ⟨j,hj,by rw[Bool.and_eq_true,decide_eq_true_eq];exact⟨by omega,hf.2⟩⟩
 ·rintro(⟨j,hj,hf⟩|hf)
  ·rw[Bool.and_eq_true,decide_eq_true_eq]at hf;exact⟨j,hj,by rw[Bool.and_eq_true,decide_eq_true_eq];exact⟨by omega,hf.2⟩⟩
  ·exact⟨i,List.mem_range.2 h,by rw[Bool.and_eq_true,decide_eq_true_eq];exact⟨by omega,hf⟩⟩
theorem IF{w p:List UInt8}{i:Int}{m:Nat}(h:i<0):lb w p i m=(range m).any fun j=>eM (w.drop j) p:=by
 rw[Bool.eq_iff_iff];unfold lb;rw[any_eq_true,any_eq_true];constructor
 ·rintro⟨j,hj,hf⟩
  rw[Bool.and_eq_true,decide_eq_true_eq]at hf;exact⟨j,hj,hf.2⟩
 ·rintro⟨j,hj,hf⟩
  exact⟨j,hj,by rw[Bool.and_eq_true,decide_eq_true_eq];exact⟨by omega,hf⟩⟩
def avL(p:List UInt8)(k:Nat):Nat->List UInt8->List (List UInt8)
 | 0,w=>[w]
 | d+1,w=>(range k).flatMap fun i=>if eW (w++[ltr i]) p then [] else avL p k d (w++[ltr i])
def avS(p:List UInt8)(k d:Nat)(w:List UInt8)(i:Nat):List (List UInt8):=if eW (w++[ltr i]) p then [] else avL p k d (w++[ltr i])
def avN(p:List UInt8)(k d:Nat)(w:List UInt8)(i:Nat):List (List UInt8):=(range i).flatMap (avS p k d w)
theorem qM(p:List UInt8)(k d:Nat)(w:List UInt8):avN p k d w 0=[]:=rfl
theorem sc(p:List UInt8)(k d:Nat)(w:List UInt8)(i:Nat):avN p k d w (i+1)=avN p k d w i++avS p k d w i:=by simp[avN,range_succ]
theorem sx(p:List UInt8)(k d:Nat)(w:List UInt8):avL p k (d+1) w=avN p k d w k:=rfl
theorem oD(p:List UInt8)(k d:Nat)(w:List UInt8){i:Nat}(h:i<=k):∃ rest,avL p k (d+1) w=avN p k d w i++rest:=by
 refine⟨(range' i (k-i)).flatMap (avS p k d w),?_⟩;rw[sx];unfold avN;rw[<-flatMap_append]
 congr 1
 rw[range_eq_range',range_eq_range'];have:=range'_append_1 (s:=0) (m:=i) (n:=k-i);rw[Nat.zero_add,show i+(k-i)=k by omega]at this;exact this.symm
def aY(p:List UInt8):Bool:=decide (1<=p.length/\p.length<=8)&&p.all fun c=>decide (65<=c.toNat)&&decide (c.toNat<68)
end Go.Proofs.YtapimhjbilkfpaaGreatDoor
namespace Go.Proofs.YtapimhjbilkfpaaGreatDoor
open Go Go.Proofs.Tryz List
def hp(v:List UInt8)(q:Nat):Bool:=v.drop q==v.take (v.length-q)
def eA(u:List UInt8)(n:Nat):Bool:=(range n).any fun q=>hp (u.drop (u.length-2*(q+1))) (q+1)
def dw(u:List UInt8):Bool:=eA u (u.length/2)
theorem pe(u:List UInt8)(n:Nat):eA u (n+1)=(eA u n||hp (u.drop (u.length-2*(n+1))) (n+1)):=by simp[eA,range_succ]
theorem sf{u:List UInt8}{n m:Nat}(h:n<m)(hh:hp (u.drop (u.length-2*(n+1))) (n+1)=true):eA u m=true:=by
 unfold eA;rw[any_eq_true];exact⟨n,List.mem_range.2 h,hh⟩
def na(P:Nat->Nat->Bool)(i q:Nat):List (List Int):=((range q).filter fun m=>P i (m+1)).map fun (m:Nat)=>[(i:Int),((m+1:Nat):Int)]
def dX(P:Nat->Nat->Bool)(L k n:Nat):List (List Int):=(range n).flatMap fun i=>na P i ((L-i)/k)
theorem xk(P:Nat->Nat->Bool)(i q:Nat):na P i (q+1)=na P i q++if P i (q+1) then [[(i:Int),((q+1:Nat):Int)]] else []:=by
 unfold na;rw[range_succ,filter_append,map_append]
 congr 1
 cases h:P i (q+1)<;>simp[h]
theorem vz(P:Nat->Nat->Bool)(L k n:Nat):dX P L k (n+1)=dX P L k n++na P n ((L-n)/k):=by simp[dX,range_succ]
theorem B4(P:Nat->Nat->Bool)(i q:Nat):(na P i q).length<=q:=by
 unfold na;rw[length_map];exact Nat.le_trans (length_filter_le _ _) (by rw[length_range];exact Nat.le_refl _)
theorem Iy(P:Nat->Nat->Bool)(L k n:Nat):(dX P L k n).length<=n*L:=by
 induction n with
 | zero=>simp[dX]
 | succ n ih=>
  have h1:=B4 P n ((L-n)/k);have h2:(L-n)/k<=L:=Nat.le_trans (Nat.div_le_self _ _) (Nat.sub_le _ _);rw[vz,length_append,Nat.succ_mul];omega
def mc(w:List UInt8):Bool:=(range w.length).any fun i=>(range ((w.length-i)/2)).any fun m=>hp (seg w i (2*(m+1))) (m+1)
def pwP(w:List UInt8)(k:Nat):Nat->Nat->Bool:=fun i m=>hp (seg w i (k*m)) m
theorem Ln(w:List UInt8):(dX (pwP w 2) w.length 2 w.length).isEmpty = !mc w:=by
 have key:(dX (pwP w 2) w.length 2 w.length).isEmpty=false↔mc w=true:=by
  unfold mc;rw[any_eq_true];constructor
  ·intro h;cases hr:dX (pwP w 2) w.length 2 w.length with
   | nil=>rw[hr]at h;cases h
   | cons a l=>
    have ha:a∈dX (pwP w 2) w.length 2 w.length:=by rw[hr];exact mem_cons_self ..
    unfold dX at ha;obtain⟨i,hi,ha⟩:=List.mem_flatMap.1 ha;unfold na at ha;obtain⟨m,hm,_⟩:=List.mem_map.1 ha;obtain⟨h1,h2⟩:=List.mem_filter.1 hm;exact⟨i,hi,List.any_eq_true.2 ⟨m,h1,h2⟩⟩
  ·rintro⟨i,hi,h⟩
   obtain⟨m,hm,h2⟩:=List.any_eq_true.1 h;have:[(i:Int),((m+1:Nat):Int)]∈dX (pwP w 2) w.length 2 w.length:=by
    unfold dX;refine List.mem_flatMap.2 ⟨i,hi,?_⟩;unfold na;exact List.mem_map.2 ⟨m,List.mem_filter.2 ⟨hm,h2⟩,rfl⟩
   cases hr:dX (pwP w 2) w.length 2 w.length with
   | nil=>rw[hr]at this;cases this
   | cons a l=>rfl
 cases h:mc w
 ·cases h2:(dX (pwP w 2) w.length 2 w.length).isEmpty
  ·rw[key.1 h2]at h;cases h
  ·rfl
 ·rw[key.2 h];rfl
theorem KI(w:List UInt8):mc w=(range (w.length+1)).any fun n=>dw (w.take n):=by
 rw[Bool.eq_iff_iff];unfold mc dw eA;rw[any_eq_true,any_eq_true];constructor
 ·rintro⟨i,hi,h⟩
  obtain⟨m,hm,h2⟩:=List.any_eq_true.1 h;have h1:=List.mem_range.1 hi;have h3:=List.mem_range.1 hm;have h4:i+2*(m+1)<=w.length:=by omega
  have hl:(w.take (i+2*(m+1))).length=i+2*(m+1):=by rw[length_take];omega
  refine⟨i+2*(m+1),List.mem_range.2 (by omega),List.any_eq_true.2 ⟨m,List.mem_range.2 (by rw[hl];omega),?_⟩⟩;rw[hl,show i+2*(m+1)-2*(m+1)=i by omega];exact h2
 ·rintro⟨n,hn,h⟩
  obtain⟨m,hm,h2⟩:=List.any_eq_true.1 h;have h1:=List.mem_range.1 hn;have hl:(w.take n).length=n:=by rw[length_take];omega
  rw[hl]at hm h2;have h3:=List.mem_range.1 hm;refine⟨n-2*(m+1),List.mem_range.2 (by omega),List.any_eq_true.2 ⟨m,List.mem_range.2 (by omega),?_⟩⟩;unfold seg;rw[show n-2*(m+1)+2*(m+1)=n by omega];exact h2
theorem T6{u:List UInt8}{q:Nat}(h:2*q<=u.length):(u.drop (u.length-q)==(u.take (u.length-q)).drop (u.length-2*q))=hp (u.drop (u.length-2*q)) q:=by
 unfold hp;rw[drop_drop,length_drop,show u.length-2*q+q=u.length-q by omega,show u.length-(u.length-2*q)-q=q by omega,drop_take,show u.length-q-(u.length-2*q)=q by omega]
def grL(k:Nat):Nat->List UInt8->List (List UInt8)
 | 0,w=>[w]
 | d+1,w=>(range k).flatMap fun i=>if dw (w++[ltr i]) then [] else grL k d (w++[ltr i])
def grS(k d:Nat)(w:List UInt8)(i:Nat):List (List UInt8):=if dw (w++[ltr i]) then [] else grL k d (w++[ltr i])
def grN(k d:Nat)(w:List UInt8)(i:Nat):List (List UInt8):=(range i).flatMap (grS k d w)
theorem Et(k d:Nat)(w:List UInt8):grN k d w 0=[]:=rfl
theorem Ei(k d:Nat)(w:List UInt8)(i:Nat):grN k d w (i+1)=grN k d w i++grS k d w i:=by simp[grN,range_succ]
theorem Cv(k d:Nat)(w:List UInt8):grL k (d+1) w=grN k d w k:=rfl
theorem BI(k d:Nat)(w:List UInt8){i:Nat}(h:i<=k):∃ rest,grL k (d+1) w=grN k d w i++rest:=by
 refine⟨(range' i (k-i)).flatMap (grS k d w),?_⟩;rw[Cv];unfold grN;rw[<-flatMap_append]
 congr 1
 rw[range_eq_range',range_eq_range'];have:=range'_append_1 (s:=0) (m:=i) (n:=k-i);rw[Nat.zero_add,show i+(k-i)=k by omega]at this;exact this.symm
theorem FC(k:Nat):∀(d:Nat) (w u:List UInt8),u∈grL k d w->u.length=w.length+d/\∀ c∈u,c∈w\/∃ i,i<k/\c=ltr i
 | 0,w,u,h=>by
  unfold grL at h;rw[List.mem_singleton.1 h];exact⟨rfl,fun c hc=>.inl hc⟩
 | d+1,w,u,h=>by
  unfold grL at h;obtain⟨i,hi,h⟩:=List.mem_flatMap.1 h;split at h
  ·cases h
  ·obtain⟨h1,h2⟩:=FC k d _ u h;rw[length_append,length_singleton]at h1;refine⟨by omega,fun c hc=>?_⟩;rcases h2 c hc with h3|h3
   ·rcases List.mem_append.1 h3 with h3|h3
    ·exact .inl h3
    ·exact .inr ⟨i,List.mem_range.1 hi,List.mem_singleton.1 h3⟩
   ·exact .inr h3
def Lt0(k:Nat)(w:List UInt8):Prop:=∀ u∈w,97<=u.toNat/\u.toNat-97<k
theorem JG(k:Nat):Lt0 k []:=fun u h=>by cases h
theorem fV{i:Nat}(h:i<=100):(ltr i).toNat=97+i:=by
 unfold ltr;rw[UInt8.toNat_ofNat_of_lt' (by show 97+i<256;omega)]
theorem D3{k:Nat}{w:List UInt8}(h:Lt0 k w){i:Nat}(hi:i<k)(hk:i<=100):Lt0 k (w++[ltr i]):=by
 intro u hu;rcases List.mem_append.1 hu with hu|hu
 ·exact h u hu
 ·rw[List.mem_singleton.1 hu,fV hk];omega
def uF(ws:List (List UInt8))(d:Nat)(w:List UInt8):Option (List UInt8):=(grL ws.length d w).find? fun u=>mc (aP ws u)
def FQ(ws:List (List UInt8)):List UInt8->List UInt8->List UInt8×Bool:=fun _ u=>(u,mc (aP ws u))
theorem Bk(ws:List (List UInt8)):∀(l:List (List UInt8)) (s:List UInt8),(bQ (FQ ws) s l).2=(l.find? fun u=>mc (aP ws u)).isSome/\∀ u,(l.find? fun u=>mc (aP ws u))=some u->(bQ (FQ ws) s l).1=u
 | [],s=>⟨rfl,fun u h=>by cases h⟩
 | a::l,s=>by
  have ih:=Bk ws l a;unfold bQ;rw[find?_cons];cases h:mc (aP ws a)
  ·have e:(FQ ws s a).2=false:=h;rw[e,if_neg (by decide)];exact ih
  ·have e:(FQ ws s a).2=true:=h;rw[e,if_pos rfl];exact⟨rfl,fun u hu=>by injection hu⟩
def je(ws:List (List UInt8))(n:Nat):Option (List UInt8):=(range n).findSome? fun m=>uF ws m []
theorem uP(ws:List (List UInt8))(n:Nat):je ws (n+1)=(je ws n).or (uF ws n []):=by
 unfold je;rw[range_succ,Ah]
theorem xN{ws:List (List UInt8)}{n m:Nat}{u:List UInt8}(h:n<m)(h0:je ws n=none)(hu:uF ws n []=some u):je ws m=some u:=Pp h h0 hu
end Go.Proofs.YtapimhjbilkfpaaGreatDoor
