/- Lemmas, part 4. -/
import Derived.Test.YtapimhjbilkfpaaGreatDoorY02
import Derived.Lib.Bytealg
set_option linter.unusedVariables false
set_option linter.unusedSimpArgs false
set_option maxHeartbeats 8000000
namespace Go.Proofs.YtapimhjbilkfpaaGreatDoor
open Go Go.Proofs.Tryz Go.RowKit List
def ku(l:B8)(i:Nat):B8:=(range l.length).map fun j=>if j<i\/l.length-i<=j then l.getD (l.length-1-j) 0 else l.getD j 0
theorem fT(l:B8)(i:Nat):(ku l i).length=l.length:=by simp[ku]
theorem jk(l:B8)(i:Nat){j:Nat}(hj:j<l.length):(ku l i)[j]?=some (if j<i\/l.length-i<=j then l.getD (l.length-1-j) 0 else l.getD j 0):=by
 unfold ku;rw[getElem?_map,getElem?_range hj];rfl
theorem Kr(l:B8):ku l 0=l:=by
 apply ext_getElem?;intro j;by_cases hj:j<l.length
 .rw[jk l 0 hj,if_neg (by omega),gDe,gEl hj];rfl
 .rw[getElem?_eq_none (by rw[fT];omega),getElem?_eq_none (by omega)]
theorem Nz{l:B8}{i:Nat}(h:l.length<=2*i+1):ku l i=l.reverse:=by
 apply ext_getElem?;intro j;by_cases hj:j<l.length
 .rw[jk l i hj,getElem?_reverse hj];have hk:l.length-1-j<l.length:=by omega
  rw[gEl hk];by_cases hc:j<i\/l.length-i<=j
  .rw[if_pos hc,gDe,gEl hk];rfl
  .rw[if_neg hc,gDe,gEl hj];have e:l.length-1-j=j:=by omega
   simp only[e,Option.getD_some]
 .rw[getElem?_eq_none (by rw[fT];omega),getElem?_eq_none (by rw[length_reverse];omega)]
theorem JI{l:B8}{i:Nat}(h:2*i+1<l.length):((ku l i).set i (l.getD (l.length-1-i) 0)).set (l.length-1-i) (l.getD i 0)=ku l (i+1):=by
 apply ext_getElem?;intro j;by_cases hj:j<l.length
 .rw[getElem?_set,getElem?_set,jk l i hj,jk l (i+1) hj];have hlen:=fT l i;by_cases e1:l.length-1-i=j
  .rw[if_pos e1,if_pos (by rw[length_set];omega),if_pos (by omega)]
   congr 2
   omega
  .rw[if_neg e1];by_cases e2:i=j
   .rw[if_pos e2,if_pos (by omega),if_pos (by omega),e2]
   .rw[if_neg e2]
    congr 1
    by_cases hc:j<i\/l.length-i<=j
    .rw[if_pos hc,if_pos (by omega)]
    .rw[if_neg hc,if_neg (by omega)]
 .rw[getElem?_eq_none (by rw[length_set,length_set,fT];omega),getElem?_eq_none (by rw[fT];omega)]
theorem CJ{l:B8}{j:Nat}(hj:j<l.length):(av l)[j]?=some (.int .u8 (l.getD j 0).toNat):=by
 unfold av;rw[getElem?_map,gEl hj,gDe,gEl hj];rfl
theorem Ka(l:B8)(j:Nat)(u:UInt8):(av l).set j (.int .u8 u.toNat)=av (l.set j u):=by simp[av,map_set]
theorem BN(b c:Nat)(l:B8)(M:Mem)(R:VP)(hM:M b=some (.cells true (av l) c))(hl:l.length<=1000000)(h:R (.tuple #[]) (M.put b (.cells true (av l.reverse) c))):ar prog 311 [.slice (some ⟨b,0,none⟩) l.length c] M R:=by
 refine fnT func311 rfl ntmps311 results311 ?_;refine lupS (rlA [2,3] 7 21) (fun i:Nat=>[(2,.int .i64 i),(3,.int .i64 ((l.length:Int)-1-i))]) (fun i M'=>2*i<=l.length+1/\M'=M.put b (.cells true (av (ku l i)) c)) (fun i=>l.length+1-i) 0 ⟨by omega,?_⟩ ?_
 .rw[Kr]
  funext i
  by_cases e:i=b
  .subst e;rw[ae,hM]
  .rw[al _ _ e]
 rintro i M' g ⟨hi,rfl⟩
 have hk:=ae M b (.cells true (av (ku l i)) c);by_cases hlt:2*i+1<l.length
 .have hc:(i:Int)<(l.length:Int)-1-i:=by omega
  obtain⟨q,hq⟩:∃ q:Nat,q=l.length-1-i:=⟨_,rfl⟩;have hqi:(l.length:Int)-1-i=q:=by omega
  have hst:=JI hlt;rw[<-hq]at hst;have h1:=CJ (l:=ku l i) (j:=i) (by rw[fT];omega);have h2:=CJ (l:=ku l i) (j:=q) (by rw[fT];omega);have e1:(ku l i).getD i 0=l.getD i 0:=by
   rw[gDe,jk l i (by omega),if_neg (by omega)];rfl
  have e2:(ku l i).getD q 0=l.getD q 0:=by
   rw[gDe,jk l i (by omega),if_neg (by omega)];rfl
  rw[e1]at h1;rw[e2]at h2;have hsl:=fT l i;rw[hqi];generalize l.getD i 0=u at *;generalize l.getD q 0=w at *;have hnx:(l.length:Int)-1-((i:Int)+1)=(q:Int)-1:=by omega
  rw[hqi]at hc;simp(disch:=omega)[hc];refine plyS (ai [0,1,2,3,4,5,6,7,8,9,10,11,12] (.one 13 2 (ai [14] (.one 15 2 .fin)))) ?_;simp(disch:=omega)[ak hk,h1,h2,aj,Ka,aO];exact rndA (i+1) (by simp(disch:=omega);omega) ⟨by omega,by simp only[aN,hst]⟩
 .have hc:¬(i:Int)<(l.length:Int)-1-i:=by omega
  rw[Nz (by omega)];simp(disch:=omega)[hc];exact ad h
theorem lf(l:B8)(M:Mem)(R:VP)(hl:l.length<=1000000)(h:R (str l.reverse) M):ar prog 225 [str l] M R:=by
 refine fnT func225 rfl ntmps225 results225 ?_;intro b c hb hc;rw[aO]at hc;refine sS ?_;refine BN b c l _ _ (ae _ _ _) hl ?_;rw[aN];have hk:=ae M b (.cells true (av l.reverse) c);have ht:(av l.reverse).take l.length=av l.reverse:=take_of_length_le (by rw[aO,length_reverse];omega);simp(disch:=omega)[aq hk,ht];exact ag ((Sub.refl M).put hb _) h
theorem jO(l:B8)(M:Mem)(R:VP)(hl:l.length<=1000000)(h:R (.bool (cl l)) M):ar prog 335 [str l] M R:=by
 unfold cl at h;refine fnT func335 rfl ntmps335 results335 ?_;refine lf l _ _ hl ?_;refine sS ?_;exact ad h
theorem Ic(w:B8)(M:Mem)(R:VP)(hl:w.length<=60)(h:R (.int .i64 ((w.length:Int)-(Fe w:Nat))) M):ar prog 312 [str w] M R:=by
 refine fnT func312 rfl ntmps312 results312 ?_;refine lupS (rlA [] 3 8) (fun i:Nat=>[(3,.int .i64 i)]) (fun i M'=>M'=M/\i<=w.length/\∀ j,j<i->cl (w.drop j)=false) (fun i=>w.length+1-i) 0 ⟨rfl,by omega,fun j hj=>by omega⟩ ?_
 rintro i M' g ⟨rfl,hi,hno⟩
 refine sS ?_;refine jO (w.drop i) _ _ (by rw[lDr];omega) ?_;cases hp:cl (w.drop i)
 .have hlt:i<w.length:=by
   rcases Nat.lt_or_ge i w.length with hh|hh
   .exact hh
   .rw[drop_of_length_le hh]at hp;cases hp
  refine sS ?_;refine rndS (i+1) ⟨rfl,by omega,fun j hj=>?_⟩;by_cases e:j=i
  .rw[e,hp]
  .exact hno j (by omega)
 .rw[LU hi hp hno]at h;refine sS ?_;exact ad h
theorem EX(w:B8)(M:Mem)(R:VP)(hl:w.length<=60)(h:R (str (mV w)) M):ar prog 226 [str w] M R:=by
 have he:=LM w;unfold mV at h;refine fnT func226 rfl ntmps226 results226 ?_;refine Ic w _ _ hl ?_;obtain⟨i,hi⟩:∃ i,i=Fe w:=⟨_,rfl⟩;rw[<-hi]at h he ⊢;have e1:((w.length:Int)-((w.length:Int)-i))=i:=by omega
 simp(disch:=omega)[e1];refine lf (w.take i) _ _ (by rw[lTa];omega) ?_;refine sS ?_;exact ad h
theorem DE(w:B8)(M:Mem)(R:VP)(hl:w.length<=60)(h:∀ v M',Own M v (ints (cN w)) M'->R v M'):ar prog 329 [str w] M R:=by
 refine fnT func329 rfl ntmps329 results329 ?_;refine lupS (rlA [] 3 15) (fun x:Nat×Value=>[(4,.int .i64 ((x.1:Int)+1)),(3,x.2)]) (fun x M'=>x.1<=w.length/\Own M x.2 (ints (kl w x.1)) M') (fun x=>w.length-x.1) (0,.slice none 0 0) ⟨by omega,Own.nil M⟩ ?_
 rintro⟨i,v⟩ M' g ⟨hi,ho⟩
 simp only at hi ho;have hpl:=vA w i;by_cases hlt:i<w.length
 .have hs:=AG w i;refine sS ?_;refine gz w (i+1) _ (by omega) _ _ hl (by omega) ?_;generalize kl w i=L at *;cases hp:hp w (i+1)
  .rw[hp,if_neg (by decide),append_nil]at hs;refine sS ?_;refine rndS (i+1,v) ⟨by simp only;omega,?_⟩;simp only;rw[hs];exact ho
  .rw[hp,if_pos rfl]at hs;refine sS ?_;intro b' hb';refine sS ?_;refine apT ho ((Sub.refl _).put hb' _) ?_;intro v' M'' N'' ho' hs';refine sS ?_;refine rndM M'' (i+1,v') hs' ⟨by simp only;omega,?_⟩;simp only;rw[hs,<-cM];exact ho'
 .have hi':i=w.length:=by omega
  subst hi';refine sS ?_;exact ad (h v M' ho)
theorem ky(w:B8)(M:Mem)(R:VP)(hl:w.length<=60)(h1:1<=w.length)(hle:1<=cQ w->cQ w<=w.length->R (.int .i64 (cQ w:Nat)) M):ar prog 317 [str w] M R:=by
 refine fnT func317 rfl ntmps317 results317 ?_;refine lupS (rlA [] 3 7) (fun p:Nat=>[(3,.int .i64 ((p:Int)+1))]) (fun p M'=>M'=M/\p<w.length/\∀ q,1<=q->q<p+1->hp w q=false) (fun p=>w.length-p) 0 ⟨rfl,by omega,fun q h1 h2=>by omega⟩ ?_
 rintro p M' g ⟨rfl,hi,hno⟩
 refine sS ?_;refine gz w (p+1) _ (by omega) _ _ hl (by omega) ?_;cases hp':hp w (p+1)
 .have hlt:p+1<w.length:=by
   rcases Nat.lt_or_ge (p+1) w.length with hh|hh
   .exact hh
   .have e:p+1=w.length:=by omega
    rw[e,Jd]at hp';cases hp'
  refine sS ?_;refine rndS (p+1) ⟨rfl,by omega,fun q h1 h2=>?_⟩;by_cases e:q=p+1
  .rw[e,hp']
  .exact hno q h1 (by omega)
 .have e:=LS (by omega) (by omega) hp' hno;rw[e]at hle;have:=hle (by omega) (by omega);refine sS ?_;exact ad this
theorem Ov(w:B8)(M:Mem)(R:VP)(hl:w.length<=60)(h1:1<=w.length)(h:1<=(eU w).length->(eU w).length<=60->R (str (eU w)) M):ar prog 330 [str w] M R:=by
 unfold eU at h;refine fnT func330 rfl ntmps330 results330 ?_;refine ky w _ _ hl h1 ?_;intro hp1 hp2;generalize cQ w=p at *;have e:((w.length:Int).tmod (p:Int)=0)↔w.length%p=0:=by
  rw[Int.tmod_eq_emod_of_nonneg (by omega)];omega
 have hp0:¬(p:Int)=0:=by omega
 by_cases hd:w.length%p=0
 .have hd':=e.2 hd;rw[if_pos hd,lTa]at h;simp(disch:=omega)[hd'];exact ad (h (by omega) (by omega))
 .have hd':¬(w.length:Int).tmod (p:Int)=0:=fun q=>hd (e.1 q);rw[if_neg hd]at h;refine sS ?_;exact ad (h (by omega) hl)
theorem iG(w:B8)(k:Nat)(M:Mem)(R:VP)(hl:w.length<=60)(hk:k<=1000)(h:R (str (eh w k)) M):ar prog 155 [str w,.int .i64 k] M R:=by
 have e:Lib.repeatL w k=eh w k:=by
  unfold eh;clear h hk
  induction k with
  | zero=>rfl
  | succ k ih=>rw[Lib.repeatL,ih,replicate_succ,flatten_cons]
 refine dK (str (eh w k)) ⟨_,func155,by kernel_rfl,by kernel_rfl⟩ (fun W hW=>?_) h;rw[<-e];refine Tryz.strings_Repeat ⟨⟨w⟩⟩ k W (by omega) ?_;have hs:(⟨⟨w⟩⟩:ByteArray).size=w.length:=rfl;rw[hs];have:w.length*k<=60*1000:=Nat.mul_le_mul hl hk;omega
theorem fG(w:B8)(M:Mem)(R:VP)(hl:w.length<=1099511627776)(h:∀ M',Sub M M'->R (.int .i64 (cy w)) M'):ar prog 315 [str w] M R:=by
 refine fnT func315 rfl ntmps315 results315 ?_;intro b1 hb1;refine sS ?_;have hs1:=(Sub.refl M).put hb1 (.cells true [str w] 1);refine bA _ _ [w] true (fun _=>True) _ _ (Rd.new rfl (lRf 1)) (gM hl) (by simp) trivial bW (bK _) ?_;rw[dq];unfold cy at h;cases hw:isWord w
 .rw[hw]at h;refine sS ?_;exact ad (h _ hs1)
 .rw[hw]at h;by_cases h0:w=[]
  .rw[if_pos rfl,if_pos h0]at h;subst h0;refine sS ?_;exact ad (h _ hs1)
  .rw[if_pos rfl,if_neg h0]at h;have he:(w==[])=false:=jx h0;have he2:w.isEmpty=false:=by cases w with
    | nil=>exact absurd rfl h0
    | cons a l=>rfl
   simp(disch:=omega)[he];exact ad (h _ hs1)
theorem Gu(w:B8)(M:Mem)(R:VP)(hl:w.length<=1099511627776)(h:∀ M',Sub M M'->R (.tuple #[str (mL w),.int .i64 (qa w),.int .i64 (cy w)]) M'):ar prog 237 [str w] M R:=by
 unfold mL qa at h;refine fnT func237 rfl ntmps237 results237 ?_;refine fG w _ _ hl ?_;intro M1 s1;by_cases hc:cy w=0
 .rw[if_pos hc,if_pos hc,hc]at h;rw[hc];have hw:isWord w=true/\w≠[]:=by
   unfold cy at hc;split at hc
   .rename_i hw;split at hc
    .cases hc
    .rename_i h0;exact⟨hw,h0⟩
   .cases hc
  have h60:=au hw.1;have h1:1<=w.length:=by
   cases w with
   | nil=>exact absurd rfl hw.2
   | cons a l=>simp
  refine sS ?_;refine Ov w _ _ h60 h1 ?_;intro r1 r2;have hr0:¬((eU w).length:Int)=0:=by omega
  have ed:((w.length:Int).tdiv ((eU w).length:Int))=((w.length/(eU w).length:Nat):Int):=by
   rw[Int.tdiv_eq_ediv_of_nonneg (by omega)];rfl
  have eb:(w.length/(eU w).length)<=60:=Nat.le_trans (Nat.div_le_self _ _) h60;generalize eU w=r at *;generalize w.length/r.length=q at *;refine sS ?_;refine plyS (ai [0,1,2,3,4,5,6,7,8] .fin) ?_;refine sS ?_;refine aX (a:=[]) (c:=[]) (bZ w _ _ hl ⟨rfl,rfl⟩) ?_;refine sS ?_;refine aX (a:=[]) (c:=[]) (bZ r _ _ (by omega) ⟨rfl,rfl⟩) ?_;have hrn:¬ r=[]:=by intro e;rw[e]at r1;simp at r1
  simp(disch:=omega)[hrn,ed];exact ad (h _ s1)
 .rw[if_neg hc,if_neg hc]at h;generalize cy w=c at *;refine sS ?_;exact ad (h _ s1)
theorem yk(w:B8)(M:Mem)(R:VP)(hl:w.length<=1099511627776)(h:∀ M',Sub M M'->R (aF (str (if isWord w then w.reverse else [])) (aK w)) M'):ar prog 156 [str w] M R:=by
 refine fnT func156 rfl ntmps156 results156 ?_;intro b1 hb1;refine sS ?_;have hs1:=(Sub.refl M).put hb1 (.cells true [str w] 1);refine bA _ _ [w] true (fun _=>True) _ _ (Rd.new rfl (lRf 1)) (gM hl) (by simp) trivial bW (bK _) ?_;rw[dq];unfold aF aK at h;cases hw:isWord w
 .rw[hw]at h;refine sS ?_;exact ad (h _ hs1)
 .rw[hw]at h;have h60:=au hw;refine sS ?_;refine lf w _ _ (by omega) ?_;refine sS ?_;exact ad (h _ hs1)
theorem ni(w:B8)(M:Mem)(R:VP)(hl:w.length<=1099511627776)(h:Lst (aK w) (ints (if isWord w then cN w else [])) M R):ar prog 235 [str w] M R:=by
 refine fnT func235 rfl ntmps235 results235 ?_;intro b1 hb1;refine sS ?_;have hs1:=(Sub.refl M).put hb1 (.cells true [str w] 1);refine bA _ _ [w] true (fun _=>True) _ _ (Rd.new rfl (lRf 1)) (gM hl) (by simp) trivial bW (bK _) ?_;rw[dq];unfold aK at h;cases hw:isWord w
 .rw[hw]at h;refine sS ?_;exact ag hs1 (h _ _ (Own.nil M))
 .rw[hw,if_pos rfl,if_pos rfl]at h;have h60:=au hw;refine sS ?_;refine DE w _ _ h60 ?_;intro v M1 o1;obtain⟨M2,o2,s2⟩:=o1.base hs1;refine sS ?_;exact ag s2 (h _ _ o2)
theorem AE(w:B8)(M:Mem)(R:VP)(hl:w.length<=1099511627776)(h:∀ M',Sub M M'->R (aF (str (ql w)) (qo w)) M'):ar prog 157 [str w] M R:=by
 refine fnT func157 rfl ntmps157 results157 ?_;intro b1 hb1;refine sS ?_;have hs1:=(Sub.refl M).put hb1 (.cells true [str w] 1);refine bA _ _ [w] true (fun _=>True) _ _ (Rd.new rfl (lRf 1)) (gM hl) (by simp) trivial bW (bK _) ?_;rw[dq];unfold aF ql qo at h;cases hw:isWord w
 .rw[hw]at h;refine sS ?_;exact ad (h _ hs1)
 .rw[hw,if_pos rfl,if_pos rfl]at h;have h60:=au hw;have hcl:=C0 w;refine sS ?_;refine EX w _ _ h60 ?_;generalize mV w=u at *;by_cases hbig:u.length<=60
  .have hb':¬(60:Int)<u.length:=by omega
   rw[if_pos hbig,if_pos hbig]at h;simp(disch:=omega)[hb'];exact ad (h _ hs1)
  .have hb':(60:Int)<u.length:=by omega
   rw[if_neg hbig,if_neg hbig]at h;simp(disch:=omega)[hb'];exact ad (h _ hs1)
end Go.Proofs.YtapimhjbilkfpaaGreatDoor
namespace Go.Proofs.YtapimhjbilkfpaaGreatDoor
open Go Go.Proofs.Tryz List
def UH(w u:B8):Int:=if isWord w&&isWord u then 0 else 1
def oW(w u:B8):Int:=if isWord w&&isWord u then (if 60<(w++u).length then 3 else 0) else 1
def mW(w u:B8):B8:=if isWord w&&isWord u then (if 60<(w++u).length then [] else w++u) else []
theorem Ss(w u:B8):ia [w,u] true=UH w u:=by
 unfold UH ia;simp
theorem Ux{w u:B8}(hw:w.length<=1099511627776)(hu:u.length<=1099511627776):cS [w,u]:=by
 intro x hx;simp only[mem_cons,not_mem_nil,or_false]at hx;rcases hx with rfl|rfl
 .exact hw
 .exact hu
theorem l0{L:B8}{j:Nat}{v:UInt8}(h:L[j]?=some v)(hj:j<L.length):L[j]=v:=by
 rw[gEl hj]at h;injection h
theorem AH(w u:B8)(M:Mem)(R:VP)(hw:w.length<=1099511627776)(hu:u.length<=1099511627776)(h:∀ M',Sub M M'->R (aF (str (mW w u)) (oW w u)) M'):ar prog 148 [str w,str u] M R:=by
 unfold aF mW oW at h;refine fnT func148 rfl ntmps148 results148 ?_;intro b1 hb1;refine sS ?_;have hs1:=(Sub.refl M).put hb1 (.cells true [str w,str u] 2);refine bA _ _ [w,u] true (fun _=>True) _ _ (Rd.new rfl (lRf 2)) (Ux hw hu) (by simp) trivial bW (bK _) ?_;rw[Ss];unfold UH;cases hb:isWord w&&isWord u
 .rw[hb]at h;refine sS ?_;exact ad (h _ hs1)
 .rw[hb,if_pos rfl,if_pos rfl]at h;by_cases hl:60<(w++u).length
  .rw[if_pos hl,if_pos hl]at h;have hl':(60:Int)<(w.length:Int)+u.length:=by rw[lAp]at hl;omega
   simp(disch:=omega)[hl'];exact ad (h _ hs1)
  .rw[if_neg hl,if_neg hl]at h;have hl':¬(60:Int)<(w.length:Int)+u.length:=by rw[lAp]at hl;omega
   simp(disch:=omega)[hl'];exact ad (h _ hs1)
theorem E8(w:B8)(M:Mem)(R:VP)(hw:w.length<=9007199254740992)(h:R (aF (str (if 60<w.length then [] else w)) (if 60<w.length then 3 else 0)) M):ar prog 177 [str w] M R:=by
 unfold aF at h;refine fnS func177 rfl ntmps177 results177 ?_;by_cases hl:60<w.length
 .rw[if_pos hl,if_pos hl]at h;have hl':(60:Int)<(w.length:Nat):=by omega
  simp(disch:=omega)[hl'];exact ad h
 .rw[if_neg hl,if_neg hl]at h;have hl':¬(60:Int)<(w.length:Nat):=by omega
  simp(disch:=omega)[hl'];exact ad h
theorem yU(w u:B8)(M:Mem)(R:VP)(hw:w.length<=1099511627776)(hu:u.length<=1099511627776)(h:R (aF (str (mW w u)) (oW w u)) M):ar prog 109 [str w,str u] M R:=by
 unfold aF mW oW at h;refine fnT func109 rfl ntmps109 results109 ?_;refine bg w _ _ hw ?_;cases h1:isWord w
 .rw[h1]at h;refine sS ?_;exact ad h
 .rw[h1,Bool.true_and]at h;refine sS ?_;refine bg u _ _ hu ?_;cases h2:isWord u
  .rw[h2]at h;refine sS ?_;exact ad h
  .rw[h2,if_pos rfl,if_pos rfl]at h;refine sS ?_;refine E8 (w++u) _ _ (by rw[lAp];omega) ?_;rw[lAp]at h ⊢;simp(disch:=omega)[aF];exact ad h
theorem ib(l:B8)(M:Mem)(R:VP)(hl:l.length<=1000000)(h:∀ M',Sub M M'->R (str l.reverse) M'):ar prog 179 [str l] M R:=by
 refine fnT func179 rfl ntmps179 results179 ?_;intro b0 hb0;have o0:Own M (.slice (some ⟨b0,0,none⟩) 0 0) (av []) (M.put b0 (.cells true [] 0)):=Own.new hb0 rfl (lRf 0);refine sS ?_;generalize M.put b0 (.cells true [] 0)=N0 at *;generalize Value.slice (some ⟨b0,0,none⟩) 0 0=v0 at *;refine lupS (rlA [3,4] 9 10) (fun x:Nat×Value=>[(4,.int .i64 ((l.length:Int)-1-x.1)),(3,x.2)]) (fun x M'=>x.1<=l.length/\Own M x.2 (av (l.reverse.take x.1)) M') (fun x=>l.length-x.1) (0,v0) ⟨by omega,by rw[take_zero];exact o0⟩ ?_
 rintro⟨j,v⟩ M' g ⟨hj,ho⟩
 simp only at hj ho;by_cases hlt:j<l.length
 .have hlr:j<l.reverse.length:=by rw[length_reverse];exact hlt
  have htk:=aw l.reverse hlr;have hge:(0:Int)<=(l.length:Int)-1-j:=by omega
  obtain⟨q,hq⟩:∃ q:Nat,(l.length:Int)-1-j=q:=⟨l.length-1-j,by omega⟩;have hx:l[q]?=some l.reverse[j]:=by
   rw[getElem_reverse,gEl (by omega)]
   congr 1
   congr 1
   omega
  have hlen:(l.reverse.take j).length=j:=by rw[lTa,length_reverse];omega
  have hq0:(0:Int)<=q:=by omega
  have hqn:(q:Int)-1=(l.length:Int)-1-((j+1:Nat):Int):=by omega
  generalize l.reverse[j]=y at *;simp(disch:=omega)[hq,l0 hx];intro b' hb';refine sS ?_;refine apT ho ((Sub.refl _).put hb' _) ?_;intro v' M'' N'' ho' hs';refine sS ?_;refine rndB M'' (j+1,v') hs' (by simp(disch:=omega);omega) ⟨by simp only;omega,?_⟩;simp only;rw[htk,<-mg];exact ho'
 .have hj':j=l.length:=by omega
  subst hj';have hge:¬(0:Int)<=(l.length:Int)-1-l.length:=by omega
  rw[take_of_length_le (by rw[length_reverse];exact lRf _)]at ho;have hs:=ho.sub;rcases ho with ⟨rfl,he,rfl⟩|⟨b2,c2,rfl,hM,hc,rfl⟩
  .have e0:l.reverse=[]:=by cases hr:l.reverse<;>simp[hr,av]at he ⊢
   rw[e0]at h;refine sS ?_;exact ad (h _ (Sub.refl _))
  .have htk:take l.reverse.length (av l.reverse)=av l.reverse:=take_of_length_le (by rw[aO];exact lRf _);have htk2:take l.length (av l.reverse)=av l.reverse:=take_of_length_le (by rw[aO,length_reverse];exact lRf _);simp(disch:=omega)[htk2,oX];exact ad (h _ hs)
end Go.Proofs.YtapimhjbilkfpaaGreatDoor
namespace Go.Proofs.YtapimhjbilkfpaaGreatDoor
open Go Go.Proofs.Tryz Go.RowKit List
def A7(w:B8)(k:Int):Int:=if isWord w then (if 0<=k/\k<=w.length then 0 else 2) else 1
def xi(w:B8)(k:Int):B8:=if isWord w then (if 0<=k/\k<=w.length then w.drop k.toNat++w.take k.toNat else []) else []
theorem C3(b:Nat)(v:Value):oK (fun M':Mem=>M'.get? b 0=some v):=by
 intro N b' B hG hb;have:b≠b':=by rintro rfl;unfold Mem.get? at hG;rw[hb]at hG;cases hG
 unfold Mem.get? at *;rw[al _ _ this];exact hG
theorem Nn{F G:Mem->Prop}(hF:oK F)(hG:oK G):oK (fun M'=>F M'/\G M'):=fun N b B h hb=>⟨hF N b B h.1 hb,hG N b B h.2 hb⟩
theorem nd(w:B8)(k:Nat)(M:Mem)(R:VP)(hw:w.length<=1000)(hk:k<=w.length)(h:R (str (w.drop k++w.take k)) M):ar prog 120 [str w,.int .i64 k] M R:=by
 refine fnS func120 rfl ntmps120 results120 ?_;refine drwS ?_;have hll:(w.drop k).length+(w.take k).length<=1000:=by rw[lDr,lTa];omega
 refine sS ?_;exact ad h
theorem qs(w:B8)(k:Int)(M:Mem)(R:VP)(hw:w.length<=1099511627776)(h:R (aF (str (xi w k)) (A7 w k)) M):ar prog 66 [str w,.int .i64 k] M R:=by
 unfold aF xi A7 at h;refine fnT func66 rfl ntmps66 results66 ?_;refine bg w _ _ hw ?_;cases h1:isWord w
 .rw[h1]at h;refine sS ?_;exact ad h
 .rw[h1,if_pos rfl,if_pos rfl]at h;refine sS ?_;refine ck k 0 w.length _ _ ?_;by_cases h2:0<=k/\k<=(w.length:Int)
  .rw[if_pos h2,if_pos h2]at h;rw[dTr h2];obtain⟨k,rfl⟩:∃ j:Nat,k=j:=⟨k.toNat,by omega⟩;rw[iNa]at h;refine sS ?_;refine nd w k _ _ (by have:=au h1;omega) (by omega) ?_;refine sS ?_;exact ad h
  .rw[if_neg h2,if_neg h2]at h;rw[dFa h2];refine sS ?_;exact ad h
theorem qc(w:B8)(k:Int)(M:Mem)(R:VP)(hw:w.length<=1099511627776)(h:∀ M',Sub M M'->R (aF (str (xi w k)) (A7 w k)) M'):ar prog 107 [str w,.int .i64 k] M R:=by
 unfold aF xi A7 at h;refine fnT func107 rfl ntmps107 results107 ?_;intro b2 hb2;refine sS ?_;intro b3 hb3;refine sS ?_;have s2:=(Sub.refl M).put hb2 (.cells true [str w] 1);have s3:=(Sub.refl _).put hb3 (.cells true [.int .i64 k] 1);have k2:=s3 _ _ (ae M b2 (.cells true [str w] 1));have k3:=ae (M.put b2 (.cells true [str w] 1)) b3 (.cells true [.int .i64 k] 1);have hs:=s2.trans s3;generalize (M.put b2 (.cells true [str w] 1)).put b3 (.cells true [.int .i64 k] 1)=N at *
 try simp(disch:=omega)[ak k2]
 intro b6 hb6;refine sS ?_;have s6:=(Sub.refl N).put hb6 (.cells true [str w] 1);have g2:=ak (s6 _ _ k2) 0;have g3:=ak (s6 _ _ k3) 0;refine bA _ _ [w] (decide (0<=k/\k<=(w.length:Int))) (fun M':Mem=>M'.get? b2 0=some (str w)/\M'.get? b3 0=some (.int .i64 k)) _ _ (Rd.new rfl (lRf 1)) (gM hw) (by simp) ⟨g2,g3⟩ (Nn (C3 _ _) (C3 _ _)) ?_ ?_
 .intro K R' hG hR';obtain⟨h2,h3⟩:=hG;refine sS ?_;refine fnT func175 rfl ntmps175 results175 ?_;refine drwS ?_;simp(disch:=omega)[h2,h3];refine aX (a:=[]) (c:=[]) (bZ w _ _ hw ⟨rfl,rfl⟩) ?_;refine sS ?_;refine aX (a:=[]) (c:=[]) (bJ _ _ _ _ _ ⟨rfl,rfl⟩) ?_;refine sS ?_;exact ad (by simpa using hR')
 .rw[dq];have hs6:=hs.trans s6;cases h1:isWord w
  .rw[h1]at h;refine sS ?_;exact ad (h _ hs6)
  .rw[h1,if_pos rfl,if_pos rfl]at h;by_cases hk:0<=k/\k<=(w.length:Int)
   .rw[if_pos hk,if_pos hk]at h;rw[dTr hk];have h60:=au h1;obtain⟨k,rfl⟩:∃ j:Nat,k=j:=⟨k.toNat,by omega⟩;rw[iNa]at h;have l2:=s6 _ _ k2;have l3:=s6 _ _ k3;have hll:(w.drop k).length+(w.take k).length<=1000:=by rw[lDr,lTa];omega
    generalize N.put b6 (.cells true [str w] 1)=N6 at *;refine sS ?_;refine drwS ?_;simp(disch:=omega)[ak l2,ak l3];exact ad (h _ hs6)
   .rw[if_neg hk,if_neg hk]at h;rw[dFa hk];refine sS ?_;exact ad (h _ hs6)
end Go.Proofs.YtapimhjbilkfpaaGreatDoor
namespace Go.Proofs.YtapimhjbilkfpaaGreatDoor
open Go Go.Proofs.Tryz List
theorem dE{l:B8}(h1:l.length<=60)(h2:l.all isL=true):isWord l=true:=by
 unfold isWord;rw[h2,Bool.and_true];exact dTr h1
theorem QT{w u:B8}(hw:isWord w=true)(hu:isWord u=true)(hl:(w++u).length<=60):isWord (w++u)=true:=
 dE hl (by rw[all_append,aZ hw,aZ hu];rfl)
theorem PN{L:B8}{j:Nat}{v:UInt8}(h:L[j]?=some v)(hj:j<L.length):L[j]=v:=by
 rw[gEl hj]at h;injection h
def gW(l:B8)(c:UInt8):Nat->List B8×Nat
 | 0=>([],0)
 | i+1=>if l.getD i 0=c then ((gW l c i).1++[(l.take i).drop (gW l c i).2],i+1) else gW l c i
def Gt(l:B8)(c:UInt8):List B8:=(gW l c l.length).1++[l.drop (gW l c l.length).2]
theorem xJ(l:B8)(c:UInt8):∀ i,(gW l c i).2<=i/\(gW l c i).1.length<=i
 | 0=>⟨lRf 0,lRf 0⟩
 | i+1=>by
  have ih:=xJ l c i;unfold gW;split
  .rw[lAp,lSi];exact⟨lRf _,by omega⟩
  .exact⟨by omega,by omega⟩
theorem Al(l:B8)(c:UInt8):∀ i,∀ w∈(gW l c i).1,w.length<=l.length
 | 0,w,h=>by cases h
 | i+1,w,h=>by
  unfold gW at h;split at h
  .rcases mem_append.1 h with h|h
   .exact Al l c i w h
   .rw[mem_singleton.1 h,lDr,lTa];omega
  .exact Al l c i w h
theorem Hz(l:B8)(c:UInt8):1<=(Gt l c).length/\(Gt l c).length<=l.length+1/\∀ w∈Gt l c,w.length<=l.length:=by
 unfold Gt;have h:=xJ l c l.length;rw[lAp,lSi];refine⟨by omega,by omega,fun w hw=>?_⟩;rcases mem_append.1 hw with hw|hw
 .exact Al l c _ w hw
 .rw[mem_singleton.1 hw,lDr];omega
theorem ma(l:B8)(c:UInt8)(M:Mem)(R:VP)(hl:l.length<=1099511627776)(h:∀ v M',Own M v (strs (Gt l c)) M'->R v M'):ar prog 51 [str l,.int .u8 c.toNat] M R:=by
 refine fnT func51 rfl ntmps51 results51 ?_;intro b0 hb0;refine sS ?_;refine aR aU (rlA [5,6,7] 9 20) (fun x:Nat×Value=>[(7,.int .i64 x.1),(6,.int .i64 ((gW l c x.1).2:Nat)),(5,x.2)]) (fun x M'=>x.1<=l.length/\Own M x.2 (strs (gW l c x.1).1) M') (fun x=>l.length-x.1) (0,.slice (some ⟨b0,0,none⟩) 0 0) (by kernel_rfl) (by simp(disch:=omega);rfl) ⟨lZe _,Own.new hb0 rfl (lRf 0)⟩ ?_
 rintro⟨i,v⟩ M1 g ⟨hi,ho⟩
 simp only at hi ho;have hat:=xJ l c i;by_cases hlt:i<l.length
 .have hx:l[i]?=some l[i]:=gEl hlt;have e:gW l c (i+1)=if l.getD i 0=c then ((gW l c i).1++[(l.take i).drop (gW l c i).2],i+1) else gW l c i:=rfl
  have hd:l.getD i 0=l[i]:=by rw[gDe,hx];rfl
  rw[hd]at e;have hu:=l[i].toNat_lt;have hc:=c.toNat_lt;generalize l[i]=u at *;generalize gW l c i=P at *;obtain⟨P1,P2⟩:=P;simp only at hat ho e;have hq:((u.toNat:Int)==(c.toNat:Int))=decide (u=c):=by
   rw[Bool.eq_iff_iff,beq_iff_eq,dTe];constructor
   .intro h;exact UInt8.toNat_inj.1 (by omega)
   .rintro rfl;rfl
  by_cases huc:u=c
  .rw[if_pos huc]at e;rw[dTr huc]at hq;simp(disch:=omega)[PN hx,hq];intro b' hb';refine sS ?_;refine apT ho ((Sub.refl _).put hb' _) ?_;intro v' M'' N'' ho' hs';refine sS ?_;refine rndB M'' (i+1,v') hs' (by rw[e];simp(disch:=omega)) ⟨by simp only;omega,?_⟩;simp only;rw[e,<-cA];exact ho'
  .rw[if_neg huc]at e;rw[dFa huc]at hq;simp(disch:=omega)[PN hx,hq];refine rndA (i+1,v) (by rw[e];simp(disch:=omega)) ⟨by simp only;omega,?_⟩;simp only;rw[e];exact ho
 .have hi':i=l.length:=by omega
  subst hi';have hL:Gt l c=(gW l c l.length).1++[l.drop (gW l c l.length).2]:=rfl;generalize gW l c l.length=P at *;obtain⟨P1,P2⟩:=P;simp only at hat ho hL;refine sS ?_;intro b' hb';refine sS ?_;refine apT ho ((Sub.refl _).put hb' _) ?_;intro v' M'' N'' ho' hs';refine sS ?_;refine ag hs' (h v' _ ?_);rw[hL,<-cA];exact ho'
end Go.Proofs.YtapimhjbilkfpaaGreatDoor
namespace Go.Proofs.YtapimhjbilkfpaaGreatDoor
open Go Go.Proofs.Tryz Go.RowKit List
def spR(c:UInt8):B8->List B8
 | []=>[[]]
 | b::l=>if b=c then []::spR c l else (b::(spR c l).headD [])::(spR c l).tail
theorem iV(c:UInt8):∀ l,spR c l≠[]
 | []=>by simp[spR]
 | b::l=>by unfold spR;split<;>simp
theorem pF(c:UInt8):∀ l:B8,(spR c l).length=l.count c+1
 | []=>rfl
 | b::l=>by
  have ih:=pF c l;unfold spR;rw[count_cons];split
  .rename_i h;subst h;rw[lCo,ih];simp
  .rename_i h;rw[lCo,length_tail,ih];have:(b==c)=false:=bNe.2 h;rw[this];simp
theorem pw(c:UInt8):∀ l:B8,(Lib.indexByte l c = -1/\l.count c=0/\spR c l=[l]) \/
  (∃ m:Nat,Lib.indexByte l c=m/\m<l.length/\spR c l=l.take m::spR c (l.drop (m+1))/\l.count c=(l.drop (m+1)).count c+1)
 | []=>.inl ⟨rfl,rfl,rfl⟩
 | b::l=>by
  by_cases h:b=c
  .subst h;refine .inr ⟨0,by simp[Lib.indexByte],by simp,by simp[spR],by simp⟩
  .have hb:(b==c)=false:=bNe.2 h;have e1:spR c (b::l)=(b::(spR c l).headD [])::(spR c l).tail:=by conv=>lhs;unfold spR;rw[if_neg h]
   have e2:Lib.indexByte (b::l) c=if Lib.indexByte l c == -1 then -1 else Lib.indexByte l c+1:=by
    conv=>lhs;unfold Lib.indexByte;rw[hb,if_neg (by decide)]
   have e3:(b::l).count c=l.count c:=by rw[count_cons,hb];simp
   rcases pw c l with ⟨h1,h2,h3⟩|⟨m,h1,h2,h3,h4⟩
   .refine .inl ⟨by rw[e2,h1];rfl,by rw[e3,h2],by rw[e1,h3];rfl⟩
   .refine .inr ⟨m+1,?_,by rw[lCo];omega,?_,?_⟩
    .rw[e2,h1,if_neg (by rw[beq_iff_eq];omega)];omega
    .rw[e1,h3];rfl
    .rw[e3,h4,drop_succ_cons]
theorem HK(c:UInt8)(l:B8):∀ i,i<=l.length->spR c l=(gW l c i).1++((((l.take i).drop (gW l c i).2)++(spR c (l.drop i)).headD [])::(spR c (l.drop i)).tail)
 | 0,_=>by
  show spR c l=[]++_;have:=iV c l;cases h:spR c l with
  | nil=>exact absurd h this
  | cons a r=>simp[gW,h]
 | i+1,hi=>by
  have ih:=HK c l i (by omega);have hat:=xJ l c i;have hdr:l.drop i=l[i]::l.drop (i+1):=drop_eq_getElem_cons (by omega);have hgd:l.getD i 0=l[i]:=by rw[gDe,gEl (by omega)];rfl
  have htk:l.take (i+1)=l.take i++[l[i]]:=aw l (by omega);have e:gW l c (i+1)=if l.getD i 0=c then ((gW l c i).1++[(l.take i).drop (gW l c i).2],i+1) else gW l c i:=rfl
  rw[e,hgd];have hs:spR c (l.drop i)=if l[i]=c then []::spR c (l.drop (i+1)) else (l[i]::(spR c (l.drop (i+1))).headD [])::(spR c (l.drop (i+1))).tail:=by
   conv=>lhs;rw[hdr];unfold spR
  rw[hs]at ih;by_cases hc:l[i]=c
  .rw[if_pos hc]at ih ⊢;have hz:(l.take (i+1)).drop (i+1)=[]:=drop_of_length_le (by rw[lTa];omega);simp only[headD_cons,tail_cons,append_nil]at ih;simp only[hz,nil_append];rw[ih,append_assoc]
   congr 1
   have hne:=iV c (l.drop (i+1));cases hh:spR c (l.drop (i+1)) with
   | nil=>exact absurd hh hne
   | cons a r=>rfl
  .rw[if_neg hc]at ih ⊢;rw[ih,htk,drop_append_of_le_length (by rw[lTa];omega)];simp
theorem td(l:B8)(c:UInt8):Gt l c=spR c l:=by
 have h:=HK c l l.length (lRf _);rw[drop_length,take_length]at h;rw[h];unfold Gt;simp[spR]
theorem nU(c:UInt8)(l:B8):∀ w∈spR c l,w.length<=l.length:=by
 rw[<-td];exact(Hz l c).2.2
theorem Ba(l:B8)(c:UInt8)(M:Mem)(R:VP)(h:R (.int .i64 (l.count c:Nat)) M):ar prog 210 [str l,str [c]] M R:=by
 refine dK (.int .i64 (l.count c:Nat)) ⟨_,func210,by kernel_rfl,by kernel_rfl⟩ (fun w hw=>?_) h;exact(Tryz.strings_Count_one ⟨⟨l⟩⟩ c w).mono fun e w' ⟨h1,h2⟩=>⟨h1,by rw[h2];exact Below.refl _ _⟩
theorem Bj(l:B8)(c:UInt8)(M:Mem)(R:VP)(h:R (.int .i64 (Lib.indexByte l c)) M):ar prog 211 [str l,str [c]] M R:=by
 refine dK (.int .i64 (Lib.indexByte l c)) ⟨_,func211,by kernel_rfl,by kernel_rfl⟩ (fun w hw=>?_) h;exact(Tryz.strings_Index_one ⟨⟨l⟩⟩ c w).mono fun e w' ⟨h1,h2⟩=>⟨h1,by rw[h2];exact Below.refl _ _⟩
theorem Q4(n:Nat):replicate n (str [])=strs (replicate n []):=by simp[strs]
theorem C1(P:List B8)(x:B8)(d:Nat):(P++replicate (d+1) []).set P.length x=(P++[x])++replicate d []:=by
 rw[set_append_right _ _ (lRf _),Nat.sub_self,replicate_succ,set_cons_zero,append_assoc];rfl
theorem wk(l:B8)(c:UInt8)(M:Mem)(R:VP)(hl:l.length<=1000000000)(h:∀ v M',Own M v (strs (spR c l)) M'->R v M'):ar prog 97 [str l,str [c]] M R:=by
 refine fnT func97 rfl ntmps97 results97 ?_;refine fnS func146 rfl ntmps146 results146 ?_;have hcl:l.count c<=l.length:=count_le_length;have hmin:¬((l.length:Int)+1<(l.count c:Int)+1):=by omega
 have hsl:=pF c l;refine sS ?_;refine Ba l c _ _ ?_;simp(disch:=omega)[hmin];intro b hb;rw[Q4];generalize hn:l.count c=n at *;refine sS ?_;refine lupS (rlA [0,10,11] 34 24) (fun x:List B8×B8=>[(10,.int .i64 (x.1.length:Nat)),(0,str x.2)]) (fun x M'=>M.put b (.cells true (strs (x.1++replicate (n+1-x.1.length) [])) (n+1))=M'/\x.1++spR c x.2=spR c l/\x.1.length+x.2.count c=n/\x.2.length<=l.length) (fun x=>n-x.1.length) ([],l) ⟨rfl,rfl,by simp only[length_nil];omega,lRf _⟩ ?_
 rintro⟨P,r⟩ M' g ⟨rfl,hP,hc,hrl⟩
 simp only at hP hc hrl;have kM:∀ X,(M.put b (.cells true X (n+1))) b=some (.cells true X (n+1)):=fun X=>ae _ _ _;by_cases hlt:P.length<n
 .have hix:=pw c r;rcases hix with ⟨_,h2,_⟩|⟨m,h1,h2,h3,h4⟩
  .omega
  .obtain⟨d,hd⟩:∃ d,n+1-P.length=d+1:=⟨n-P.length,by omega⟩;have hbs:=C1 P (r.take m) d;have hln:(strs (P++replicate (d+1) [])).length=P.length+(d+1):=by rw[ah,lAp,length_replicate]
   have k1:=kM (strs (P++replicate (d+1) []));rw[hd];generalize hPl:P.length=p at *;refine sS ?_;refine Bj r c _ _ ?_;rw[h1];have hm0:¬(m:Int)<0:=by omega
   simp(disch:=omega)[hm0,aj,iH,hbs];refine Rnd.mk' (P++[r.take m],r.drop (m+1)) (by simp only[lAp,lSi];omega) (by (repeat (first|exact km|refine kp rfl ?_|refine km' rfl ?_))) (by simp(disch:=omega)[hPl]) ⟨?_,?_,?_,?_⟩
   .simp only[aN,lAp,lSi,hPl];rw[show n+1-(p+1)=d by omega];simp
   .simp only[append_assoc,singleton_append];rw[<-h3];exact hP
   .simp only[lAp,lSi,hPl];omega
   .simp only[lDr];omega
 .have hPn:P.length=n:=by omega
  have hix:=pw c r;rcases hix with ⟨_,h2,h3⟩|⟨m,_,h2,h3,h4⟩
  .have hbs:=C1 P r 0;rw[h3]at hP;have k1:=kM (strs (P++replicate (0+1) []));have hln:(strs (P++replicate (0+1) [])).length=P.length+1:=by rw[ah,lAp,length_replicate]
   rw[replicate_zero,append_nil,hP]at hbs;rw[show n+1-P.length=0+1 by omega];generalize hPl:P.length=p at *;subst hPn;simp(disch:=omega)[aj,iH];refine ad ?_;refine sS ?_;have ho:Own M (.slice (some ⟨b,0,none⟩) (p+1) (p+1)) (strs (P++[r])) (M.put b (.cells true (strs (P++[r])) (p+1))):=Own.new hb (by rw[ah,lAp,lSi,hPl]) (lRf _);refine ad (h _ _ ?_);rw[<-hP]
   try rw[aN]
   exact ho
  .omega
end Go.Proofs.YtapimhjbilkfpaaGreatDoor
namespace Go.Proofs.YtapimhjbilkfpaaGreatDoor
open Go Go.Proofs.Tryz List
theorem cC.other{M N:Mem}{rs:List Value}{rows:List (List Int)}(h:cC M rs rows N){b:Nat}{B0:Blk}(hb:M b=some B0)(B:Blk):cC (M.put b B) rs rows (N.put b B):=by
 induction h with
 | nil=>exact .nil
 | @more rs rows N b' c r cc x h hb' hc ih=>
  have hN:=h.sub _ _ hb;have hne:b'≠b:=by rintro rfl;rw[hb']at hN;cases hN
  rw[HU _ hne];exact ih.more cc x (by rw[aG];exact⟨hne,hb'⟩) hc
def pmL(l:B8):List B8:=if aY (spR 44 l) then spR 44 l else []
def pmC(l:B8):Int:=if aY (spR 44 l) then 0 else 6
theorem rG(l:B8)(M:Mem)(R:VP)(hl:l.length<=1000000000)(h:∀ v M',Own M v (strs (pmL l)) M'->R (.tuple #[.agg #[v],.int .i64 (pmC l)]) M'):ar prog 150 [str l] M R:=by
 have hf:=nU 44 l;have hln:=pF 44 l;have hcl:l.count 44<=l.length:=count_le_length;refine fnT func150 rfl ntmps150 results150 ?_;intro b2 hb2;have s2:=(Sub.refl M).put hb2 (.cells true [.slice none 0 0] 1);have k2:=ae M b2 (.cells true [.slice none 0 0] 1);refine sS ?_;generalize M.put b2 (.cells true [.slice none 0 0] 1)=M0 at *;refine wk l 44 _ _ (by omega) ?_;intro v M1 o1;obtain⟨a,c,hv,_⟩:=o1.rd.opened;rw[ah]at hv;subst hv;refine sS ?_;intro b4 hb4;have k2':=o1.sub _ _ k2;have hne:b2≠b4:=by rintro rfl;rw[hb4]at k2';cases k2'
 have s1:=o1.sub;have r4:=o1.rd.put hb4 (.cells true [.slice a (spR 44 l).length c] 1);have k4:(M1.put b4 (.cells true [.slice a (spR 44 l).length c] 1)) b2=some (.cells true [.slice none 0 0] 1):=by rw[al _ _ hne];exact k2'
 have k5:=ae M1 b4 (.cells true [.slice a (spR 44 l).length c] 1);have s4:=(Sub.refl M1).put hb4 (.cells true [.slice a (spR 44 l).length c] 1);simp(disch:=omega)[aj,aN];generalize M1.put b4 (.cells true [.slice a (spR 44 l).length c] 1)=M4 at *;refine iU _ (spR 44 l) _ _ r4 (fun w hw=>by have:=hf w hw;omega) (by omega) ?_;unfold pmL pmC at h;have sN:∀ X,Sub M (M4.put b2 X):=fun X j B hB=>by
  have:j≠b2:=by rintro rfl;rw[hb2]at hB;cases hB
  rw[al _ _ this];exact s4 _ _ (s1 _ _ (s2 _ _ hB))
 cases hm:aY (spR 44 l)
 .rw[hm]at h;simp(disch:=omega)[k4,aj];exact ag (sN _) (h _ _ (Own.nil M))
 .rw[hm,if_pos rfl,if_pos rfl]at h;simp(disch:=omega)[k4,aq k5,aj];have o5:=o1.other k2 (.cells true [.slice a (spR 44 l).length c] 1);obtain⟨M5,o6,s6⟩:=o5.base (M:=M) (by
   intro j B hB;have:j≠b2:=by rintro rfl;rw[hb2]at hB;cases hB
   rw[al _ _ this];exact s2 _ _ hB)
  refine ag ?_ (h _ M5 o6);exact s6.trans (s4.both _ _)
theorem qN(l:B8)(M:Mem)(R:VP)(hl:l.length<=1000000000)(h:∀ v M',Own M v (strs (pmL l)) M'->R (.tuple #[.agg #[v],.int .i64 (pmC l)]) M'):ar prog 111 [str l] M R:=by
 have hf:=nU 44 l;have hln:=pF 44 l;have hcl:l.count 44<=l.length:=count_le_length;refine fnT func111 rfl ntmps111 results111 ?_;intro b2 hb2;have s2:=(Sub.refl M).put hb2 (.cells true [.slice none 0 0] 1);have k2:=ae M b2 (.cells true [.slice none 0 0] 1);refine sS ?_;generalize M.put b2 (.cells true [.slice none 0 0] 1)=M0 at *;refine ma l 44 _ _ (by omega) ?_;rw[td];intro v M1 o1;obtain⟨a,c,hv,_⟩:=o1.rd.opened;rw[ah]at hv;subst hv;refine sS ?_;intro b4 hb4;have k2':=o1.sub _ _ k2;have hne:b2≠b4:=by rintro rfl;rw[hb4]at k2';cases k2'
 have s1:=o1.sub;have r4:=o1.rd.put hb4 (.cells true [.slice a (spR 44 l).length c] 1);have k4:(M1.put b4 (.cells true [.slice a (spR 44 l).length c] 1)) b2=some (.cells true [.slice none 0 0] 1):=by rw[al _ _ hne];exact k2'
 have k5:=ae M1 b4 (.cells true [.slice a (spR 44 l).length c] 1);have s4:=(Sub.refl M1).put hb4 (.cells true [.slice a (spR 44 l).length c] 1);simp(disch:=omega)[aj,aN];generalize M1.put b4 (.cells true [.slice a (spR 44 l).length c] 1)=M4 at *;refine fK _ (spR 44 l) _ _ r4 (fun w hw=>by have:=hf w hw;omega) (by omega) ?_;unfold pmL pmC at h;have sN:∀ X,Sub M (M4.put b2 X):=fun X j B hB=>by
  have:j≠b2:=by rintro rfl;rw[hb2]at hB;cases hB
  rw[al _ _ this];exact s4 _ _ (s1 _ _ (s2 _ _ hB))
 cases hm:aY (spR 44 l)
 .rw[hm]at h;simp(disch:=omega)[k4,aj];exact ag (sN _) (h _ _ (Own.nil M))
 .rw[hm,if_pos rfl,if_pos rfl]at h;simp(disch:=omega)[k4,aq k5,aj];have o5:=o1.other k2 (.cells true [.slice a (spR 44 l).length c] 1);obtain⟨M5,o6,s6⟩:=o5.base (M:=M) (by
   intro j B hB;have:j≠b2:=by rintro rfl;rw[hb2]at hB;cases hB
   rw[al _ _ this];exact s2 _ _ hB)
  refine ag ?_ (h _ M5 o6);exact s6.trans (s4.both _ _)
abbrev Cell:=Option Nat×Nat
def iE(w:B8)(t:List Cell)(i:Nat)(own:B8):Option Nat:=if own=[] then none else if own.isPrefixOf (w.drop i) then (t.getD (own.length-1) (none,0)).1 else none
def kW(cur:Cell)(k:Nat):Option Nat->Cell
 | none=>cur
 | some s=>match cur.1 with
  | none=>(some (s+1),k)
  | some x=>if s+1<x then (some (s+1),k) else cur
def dt(w:B8)(ws:List B8)(t:List Cell)(i:Nat):Nat->Cell
 | 0=>(none,0)
 | k+1=>kW (dt w ws t i k) k (iE w t i (ws.getD k []))
def di(w:B8)(ws:List B8):Nat->List Cell
 | 0=>[(some 0,0)]
 | m+1=>dt w ws (di w ws m) (w.length-(m+1)) ws.length::di w ws m
theorem oT(w:B8)(ws:List B8):∀ m,(di w ws m).length=m+1
 | 0=>rfl
 | m+1=>by rw[di,lCo,oT w ws m]
theorem Cj{w:B8}{t:List Cell}{i s:Nat}{own:B8}(h:iE w t i own=some s):own≠[]/\own.isPrefixOf (w.drop i)=true/\(t.getD (own.length-1) (none,0)).1=some s:=by
 unfold iE at h;split at h
 .cases h
 .rename_i h1;split at h
  .rename_i h2;exact⟨h1,h2,h⟩
  .cases h
theorem pN(w:B8)(ws:List B8)(t:List Cell)(i:Nat):∀ k,((dt w ws t i k).1=none->∀ j,j<k->iE w t i (ws.getD j [])=none) /\
  (∀ x,(dt w ws t i k).1=some x->(dt w ws t i k).2<k/\(∃ s,iE w t i (ws.getD (dt w ws t i k).2 [])=some s/\x=s+1)/\(∀ j s,j<k->iE w t i (ws.getD j [])=some s->x<=s+1)/\∀ j s,j<(dt w ws t i k).2->iE w t i (ws.getD j [])=some s->x<s+1)
 | 0=>⟨fun _ j hj=>absurd hj (Nat.not_lt_zero j),fun x h=>by cases h⟩
 | k+1=>by
  obtain⟨h1,h2⟩:=pN w ws t i k;have e:dt w ws t i (k+1)=kW (dt w ws t i k) k (iE w t i (ws.getD k [])):=rfl;rw[e];cases hc:iE w t i (ws.getD k []) with
  | none=>
   show ((dt w ws t i k).1=none->_)/\_;refine⟨fun h j hj=>?_,fun x hx=>?_⟩
   .by_cases hjk:j=k
    .subst hjk;exact hc
    .exact h1 h j (by omega)
   .obtain⟨q1,q2,q3,q4⟩:=h2 x hx;refine⟨by show (dt w ws t i k).2<k+1;omega,q2,fun j s hj hs=>?_,q4⟩;by_cases hjk:j=k
    .subst hjk;rw[hc]at hs;cases hs
    .exact q3 j s (by omega) hs
  | some s0=>
   cases hcur:(dt w ws t i k).1 with
   | none=>
    have e2:kW (dt w ws t i k) k (some s0)=(some (s0+1),k):=by unfold kW;rw[hcur]
    rw[e2];refine⟨fun h=>(by cases h),fun x hx=>?_⟩;injection hx with hx
    subst hx;refine⟨Nat.lt_succ_self k,⟨s0,hc,rfl⟩,fun j s hj hs=>?_,fun j s hj hs=>?_⟩
    .by_cases hjk:j=k
     .subst hjk;rw[hc]at hs;injection hs with hs;omega
     .rw[h1 hcur j (by omega)]at hs;cases hs
    .rw[h1 hcur j hj]at hs;cases hs
   | some x0=>
    obtain⟨q1,q2,q3,q4⟩:=h2 x0 hcur;by_cases hlt:s0+1<x0
    .have e2:kW (dt w ws t i k) k (some s0)=(some (s0+1),k):=by unfold kW;rw[hcur];exact if_pos hlt
     rw[e2];refine⟨fun h=>(by cases h),fun x hx=>?_⟩;injection hx with hx
     subst hx;refine⟨Nat.lt_succ_self k,⟨s0,hc,rfl⟩,fun j s hj hs=>?_,fun j s hj hs=>?_⟩
     .by_cases hjk:j=k
      .subst hjk;rw[hc]at hs;injection hs with hs;omega
      .have:=q3 j s (by omega) hs;omega
     .have:=q3 j s hj hs;omega
    .have e2:kW (dt w ws t i k) k (some s0)=dt w ws t i k:=by unfold kW;rw[hcur];exact if_neg hlt
     rw[e2];refine⟨fun h=>(by rw[hcur]at h;cases h),fun x hx=>?_⟩;rw[hcur]at hx;injection hx with hx
     subst hx;refine⟨by omega,q2,fun j s hj hs=>?_,q4⟩;by_cases hjk:j=k
     .subst hjk;rw[hc]at hs;injection hs with hs;omega
     .exact q3 j s (by omega) hs
theorem Ec{w:B8}{ws:List B8}{t:List Cell}{i B:Nat}(h:∀ c∈t,∀ s,c.1=some s->s<=B)(k x:Nat)(hx:(dt w ws t i k).1=some x):x<=B+1:=by
 obtain⟨_,⟨s,hs,rfl⟩,_⟩:=(pN w ws t i k).2 x hx;have:=(Cj hs).2.2;rw[gDe]at this;cases hg:t[(ws.getD (dt w ws t i k).2 []).length-1]? with
 | none=>rw[hg]at this;cases this
 | some c=>
  rw[hg]at this;have:=h c (mem_of_getElem? hg) s this;omega
theorem pQ(w:B8)(ws:List B8):∀ m,∀ c∈di w ws m,∀ s,c.1=some s->s<=m
 | 0,c,hc,s,hs=>by
  rw[di,mem_singleton]at hc;subst hc;injection hs with hs
  omega
 | m+1,c,hc,s,hs=>by
  have ih:=pQ w ws m;rw[di]at hc;rcases mem_cons.1 hc with rfl|hc
  .exact Ec ih ws.length s hs
  .have:=ih c hc s hs;omega
theorem P4(w:B8)(ws:List B8):∀ m,∀ c∈di w ws m,c.2<=ws.length
 | 0,c,hc=>by
  rw[di,mem_singleton]at hc;subst hc;exact lZe _
 | m+1,c,hc=>by
  rw[di]at hc;rcases mem_cons.1 hc with rfl|hc
  .cases h:(dt w ws (di w ws m) (w.length-(m+1)) ws.length).1 with
   | some x=>have:=((pN w ws (di w ws m) (w.length-(m+1)) ws.length).2 x h).1;omega
   | none=>
    have key:∀ k,(dt w ws (di w ws m) (w.length-(m+1)) k).2<=k:=by
     intro k
     induction k with
     | zero=>exact lRf 0
     | succ k ih=>
      show (kW _ k _).2<=k+1;unfold kW;split
      .omega
      .split
       .exact Nat.le_succ k
       .split
        .exact Nat.le_succ k
        .omega
    exact key _
  .exact P4 w ws m c hc
def cZ(w:B8)(ws:List B8)(i:Nat):Cell:=(di w ws (w.length-i)).headD (none,0)
theorem sQ(w:B8)(ws:List B8):∀ m j,j<=m->m<=w.length->(di w ws m)[j]?=some (cZ w ws (w.length-m+j))
 | m,0,_,hm=>by
  unfold cZ;rw[Nat.add_zero,show w.length-(w.length-m)=m by omega];cases m<;>rfl
 | 0,j+1,h,_=>by omega
 | m+1,j+1,h,hm=>by
  rw[di,getElem?_cons_succ,sQ w ws m j (by omega) (by omega)]
  congr 2
  omega
theorem RX(w:B8)(ws:List B8){i:Nat}(h:i<w.length):cZ w ws i=dt w ws (di w ws (w.length-i-1)) i ws.length:=by
 unfold cZ;obtain⟨m,hm⟩:∃ m,w.length-i=m+1:=⟨w.length-i-1,by omega⟩;rw[hm,di,show m+1-1=m by omega,show w.length-(m+1)=i by omega];rfl
theorem GG{w:B8}{ws:List B8}{i:Nat}{own:B8}(h:i<w.length)(h0:own≠[])(hp:own.isPrefixOf (w.drop i)=true):iE w (di w ws (w.length-i-1)) i own=(cZ w ws (i+own.length)).1:=by
 unfold iE;rw[if_neg h0,if_pos hp,gDe];have hl:=eV hp;rw[lDr]at hl;have h1:1<=own.length:=by cases own with
  | nil=>exact absurd rfl h0
  | cons a l=>simp
 rw[sQ w ws _ _ (by omega) (by omega),show w.length-(w.length-i-1)+(own.length-1)=i+own.length by omega];rfl
def i7(w:B8)(ws:List B8):Nat->Nat->B8
 | 0,_=>[]
 | f+1,i=>if i<w.length then ltr (cZ w ws i).2::i7 w ws f (i+(ws.getD (cZ w ws i).2 []).length) else []
theorem Gc{w:B8}{ws:List B8}{i:Nat}(h:¬ i<w.length):∀ f,i7 w ws f i=[]
 | 0=>rfl
 | f+1=>by unfold i7;rw[if_neg h]
theorem EH{w:B8}{ws:List B8}{i x:Nat}(h:i<w.length)(hx:(cZ w ws i).1=some x):(cZ w ws i).2<ws.length/\ws.getD (cZ w ws i).2 []≠[]/\(ws.getD (cZ w ws i).2 []).isPrefixOf (w.drop i)=true/\(∃ s,(cZ w ws (i+(ws.getD (cZ w ws i).2 []).length)).1=some s/\x=s+1)/\i+(ws.getD (cZ w ws i).2 []).length<=w.length /\
  ∀ j,j<(cZ w ws i).2->ws.getD j []≠[]->(ws.getD j []).isPrefixOf (w.drop i)=true->∀ s,(cZ w ws (i+(ws.getD j []).length)).1=some s->x≠s+1:=by
 have e:=RX w ws h;have hsp:=(pN w ws (di w ws (w.length-i-1)) i ws.length).2 x (by rw[<-e];exact hx);rw[<-e]at hsp;obtain⟨q1,⟨s,hs,hxs⟩,q3,q4⟩:=hsp;obtain⟨c1,c2,c3⟩:=Cj hs;have hl:=eV c2;rw[lDr]at hl;refine⟨q1,c1,c2,⟨s,?_,hxs⟩,by omega,fun j hj h0 hp s' hs'=>?_⟩
 .rw[<-GG h c1 c2];exact hs
 .have:=q4 j s' hj (by rw[GG h h0 hp];exact hs');omega
def p9(ws:List B8)(w:B8):B8:=if iM ws w=0 then (match (cZ w ws 0).1 with|some _=>i7 w ws w.length 0|none=>[]) else []
def qq(ws:List B8)(w:B8):Int:=if iM ws w=0 then (match (cZ w ws 0).1 with|some _=>0|none=>4) else iM ws w
def encI:Cell->Nat
 | (some s,_)=>s
 | (none,_)=>61
def lD(i:Nat)(c:Cell)(t:List Cell):List Nat:=replicate i 0++(encI c::t.map encI)
def vH(i:Nat)(c:Cell)(t:List Cell):List Nat:=replicate i 0++(c.2::t.map (·.2))
theorem HR(i:Nat)(c:Cell)(t:List Cell):(lD i c t).length=i+1+t.length:=by simp[lD];omega
theorem Fx(i:Nat)(c:Cell)(t:List Cell):(vH i c t).length=i+1+t.length:=by simp[vH];omega
theorem Qh(i:Nat)(c:Cell)(t:List Cell):(lD i c t)[i]?=some (encI c):=by
 unfold lD;rw[getElem?_append_right (by simp)];simp
theorem Sx(i j:Nat)(c:Cell)(t:List Cell)(h:j<t.length):(lD i c t)[i+(j+1)]?=some (encI t[j]):=by
 unfold lD;rw[getElem?_append_right (by rw[length_replicate];omega),length_replicate,show i+(j+1)-i=j+1 by omega,getElem?_cons_succ,getElem?_map,gEl h];rfl
theorem PK(i:Nat)(c c':Cell)(t:List Cell):(lD i c t).set i (encI c')=lD i c' t:=by
 unfold lD;rw[set_append_right _ _ (by simp),length_replicate,Nat.sub_self,set_cons_zero]
theorem Qv(i:Nat)(c c':Cell)(t:List Cell):(vH i c t).set i c'.2=vH i c' t:=by
 unfold vH;rw[set_append_right _ _ (by simp),length_replicate,Nat.sub_self,set_cons_zero]
def iD(i:Nat)(t:List Cell):List Nat:=replicate i 0++t.map encI
def kh(i:Nat)(t:List Cell):List Nat:=replicate i 0++t.map (·.2)
theorem KK(i:Nat)(c:Cell)(t:List Cell):iD i (c::t)=lD i c t:=rfl
theorem JZ(i:Nat)(c:Cell)(t:List Cell):kh i (c::t)=vH i c t:=rfl
theorem Nl(i:Nat)(t:List Cell):(iD (i+1) t).set i 61=lD i (none,0) t:=by
 unfold iD lD;rw[replicate_succ',append_assoc,set_append_right _ _ (by simp),length_replicate,Nat.sub_self];rfl
theorem Jj(i:Nat)(t:List Cell):kh (i+1) t=vH i (none,0) t:=by
 unfold kh vH;rw[replicate_succ',append_assoc];rfl
theorem KO(n:Nat):replicate (n+1) 0=iD n [(some 0,0)]:=by
 unfold iD;rw[replicate_succ'];rfl
theorem JD(n:Nat):replicate (n+1) 0=kh n [(some 0,0)]:=by
 unfold kh;rw[replicate_succ'];rfl
theorem Dd(b:Nat):encI (none,b)=61:=rfl
theorem il(s b:Nat):encI (some s,b)=s:=rfl
theorem Lc{c:Cell}{B:Nat}(h:∀ s,c.1=some s->s<=B)(hB:B<=60):encI c<=61:=by
 obtain⟨o,b⟩:=c;cases o with
 | none=>exact lRf 61
 | some s=>have:=h s rfl;rw[il];omega
theorem E2{c:Cell}(h:c.1=none):encI c=61:=by
 obtain⟨o,b⟩:=c;cases o with
 | none=>rfl
 | some s=>cases h
theorem DY{c:Cell}{s:Nat}(h:c.1=some s):encI c=s:=by
 obtain⟨o,b⟩:=c;cases o with
 | none=>cases h
 | some x=>injection h
theorem Oa(t:List Cell)(i:Nat):(iD 0 t)[i]?=t[i]?.map encI:=by
 unfold iD;rw[replicate_zero,nil_append,getElem?_map]
theorem OI(t:List Cell)(i:Nat):(kh 0 t)[i]?=t[i]?.map (·.2):=by
 unfold kh;rw[replicate_zero,nil_append,getElem?_map]
theorem yO(w:B8)(ws:List B8):∀ f i,(i7 w ws f i).length<=f
 | 0,_=>lRf 0
 | f+1,i=>by
  unfold i7;split
  .have:=yO w ws f (i+(ws.getD (cZ w ws i).2 []).length);rw[lCo];omega
  .exact lZe _
theorem zd(w:B8)(ws:List B8)(t:List Cell)(i k:Nat):dt w ws t i (k+1)=kW (dt w ws t i k) k (iE w t i (ws.getD k [])):=rfl
theorem yo(n:Nat):replicate n (Value.int .i64 0)=aB (replicate n 0):=by simp[aB]
theorem rm(l:List Nat)(i n:Nat):(aB l).set i (.int .i64 n)=aB (l.set i n):=by simp[aB,map_set]
theorem PG(ws:List B8)(w:B8):(if aY ws then ia [w] ([w].all (fun u=>iA u ws.length)&&true) else 1)=iM ws w:=by
 unfold iM;rw[dq];simp only[all_cons,all_nil,Bool.and_true];cases aY ws<;>cases isWord w<;>rfl
theorem rk{ws:List B8}{w:B8}(h:iM ws w=0):aY ws=true/\isWord w=true:=by
 rw[<-uM]at h;obtain⟨g1,g2,_⟩:=lZ h;exact⟨g1,g2⟩
theorem rj(v:Value)(ws:List B8)(w:B8)(M:Mem)(R:VP)(hv:Rd M v (strs ws))(hf:cS ws)(hn:ws.length<=1099511627776)(hl:w.length<=1099511627776)(h:R (aF (str (p9 ws w)) (qq ws w)) M):ar prog 159 [.agg #[v],str w] M R:=by
 refine fnS func159 rfl ntmps159 results159 ?_;obtain⟨a,c,rfl,ha⟩:=hv.opened;rw[ah]at ha hv ⊢;refine sS ?_;intro b2 hb2;have hs2:=(Sub.refl M).put hb2 (.cells true [.slice a ws.length c] 1);have hv2:=hv.put hb2 (.cells true [.slice a ws.length c] 1);have k2:=ae M b2 (.cells true [.slice a ws.length c] 1);refine sS ?_;generalize M.put b2 (.cells true [.slice a ws.length c] 1)=N1 at *;intro b16 hb16;have s16:=(Sub.refl N1).put hb16 (.cells true [str w] 1);have r16:Rd (N1.put b16 (.cells true [str w] 1)) (.slice (some ⟨b16,0,none⟩) 1 1) (strs [w]):=Rd.new rfl (lRf 1);have k2':=s16 _ _ k2;refine sS ?_;generalize N1.put b16 (.cells true [str w] 1)=N2 at *;have hs22:=hs2.trans s16;have hv22:=hv2.sub s16;refine dH _ _ _ ws [w] true (fun _=>True) _ _ hv22 hf hn r16 (gM hl) (by simp) rfl trivial bW (bK _) ?_;rw[PG];unfold p9 qq at h;by_cases h0:iM ws w=0
 .obtain⟨hm,hw⟩:=rk h0;rw[if_pos h0,if_pos h0]at h;have h15:=aW hm;have h60:=au hw;rw[h0];rcases ha with hz|⟨b,o,rfl,ha⟩
  .omega
  have hget:∀ k,(hk:k<ws.length)->N2.get? b (o+k)=some (str ws[k]):=by
   intro k hk;have hg0:=ha k hk;rw[a7,gEl hk]at hg0;exact aT hg0 hs22
  have er:((w.length:Int)+1).toNat=w.length+1:=by omega
  have eI:replicate (w.length+1) (Value.int .i64 0)=aB (iD w.length [(some 0,0)]):=by rw[yo,KO]
  have eN:replicate (w.length+1) (Value.int .i64 0)=aB (kh w.length [(some 0,0)]):=by rw[yo,JD]
  refine sS ?_;refine plyS (ai [0,1,2,4,5,6] (.alt 3 1 (.light 8 (.one 7 1 (.light 9 .fin))) (.one 7 1 (.one 3 1 (ai [8,9] .fin))))) ?_;simp(disch:=omega)[cd,er];refine⟨?c1,?c2⟩
  case' c1=>
   intro b7 hb7;have t7:=(Sub.refl N2).put hb7 (.cells true (aB (iD w.length [(some 0,0)])) (w.length+1));simp only[length_replicate];simp only[eI];have hb7':∀ X,(N2.put b7 X) b7=some X:=fun X=>ae _ _ _;refine sS ?_;refine⟨t7,?_⟩;intro b8 hb8;have hne:b7≠b8:=by rintro rfl;rw[ae]at hb8;cases hb8
   have hb82:N2 b8=none:=ba t7 hb8;simp only[length_replicate];simp only[eN];have t8:=(Sub.refl (N2.put b7 (.cells true (aB (iD w.length [(some 0,0)])) (w.length+1)))).put hb8 (.cells true (aB (kh w.length [(some 0,0)])) (w.length+1));refine sS ?_;refine⟨t8,?_⟩;clear t7 hb7' hb8 t8
  case' c2=>
   intro b8 hb82;have t8:=(Sub.refl N2).put hb82 (.cells true (aB (kh w.length [(some 0,0)])) (w.length+1));simp only[length_replicate];simp only[eN];refine sS ?_;refine⟨t8,?_⟩;intro b7 hb70;have hne:b7≠b8:=by rintro rfl;rw[ae]at hb70;cases hb70
   have hb7:N2 b7=none:=ba t8 hb70;simp only[length_replicate];simp only[eI];have t7:=(Sub.refl (N2.put b8 (.cells true (aB (kh w.length [(some 0,0)])) (w.length+1)))).put hb70 (.cells true (aB (iD w.length [(some 0,0)])) (w.length+1));refine sS ?_;refine⟨t7,?_⟩;rw[HU N2 (Ne.symm hne)];clear t7 hb70 t8
  all_goals
   refine lupS (rlA [9,10,11] 32 55) (fun m:Nat=>[(9,.int .i64 ((w.length:Int)-1-m))]) (fun m M'=>m<=w.length/\M'=(N2.put b7 (.cells true (aB (iD (w.length-m) (di w ws m))) (w.length+1))).put b8 (.cells true (aB (kh (w.length-m) (di w ws m))) (w.length+1))) (fun m=>w.length-m) 0 ⟨by omega,rfl⟩ ?_
   rintro m M' g ⟨hmn,rfl⟩
   have htl:=oT w ws m;have htle:=pQ w ws m;have htb:=P4 w ws m;by_cases hlt:m<w.length
   .obtain⟨i,hi⟩:∃ i,i=w.length-(m+1):=⟨_,rfl⟩;have ei:(w.length:Int)-1-m=(i:Int):=by omega
    have hc1:di w ws (m+1)=dt w ws (di w ws m) i ws.length::di w ws m:=by rw[hi];rfl
    rw[show w.length-m=i+1 by omega,ei,Jj];have hhs:=Nl i (di w ws m);have hhl:(iD (i+1) (di w ws m)).length=w.length+1:=by unfold iD;simp;omega
    have hset:(aB (iD (i+1) (di w ws m))).set i (.int .i64 61)=aB (lD i (none,0) (di w ws m)):=by rw[<-hhs,<-rm];rfl
    generalize di w ws m=t at *;have l2:((N2.put b7 (.cells true (aB (lD i (none,0) t)) (w.length+1))).put b8 (.cells true (aB (vH i (none,0) t)) (w.length+1))) b2=some (.cells true [.slice (some ⟨b,o,none⟩) ws.length c] 1):=by
     rw[al _ _ (by rintro rfl;rw[k2']at hb82;cases hb82),al _ _ (by rintro rfl;rw[k2']at hb7;cases hb7)];exact k2'
    refine sS ?_;refine⟨by rw[aA];omega,?_⟩;simp(disch:=omega)[hset,ak l2];have hml2:m<=59:=by omega
    have hil:i+1+m=w.length:=by omega
    refine lupS (rlA [10,11] 42 45) (fun k:Nat=>[(42,.int .i64 k)]) (fun k M1=>k<=ws.length/\M1=(N2.put b7 (.cells true (aB (lD i (dt w ws t i k) t)) (w.length+1))).put b8 (.cells true (aB (vH i (dt w ws t i k) t)) (w.length+1))) (fun k=>ws.length-k) 0 ⟨by omega,rfl⟩ ?_
    rintro k M1 g1 ⟨hk,rfl⟩
    have hcs:=zd w ws t i k;have hcle:=fun x=>Ec (w:=w) (ws:=ws) (i:=i) htle k x;by_cases hkl:k<ws.length
    .have hgk:=hget k hkl;have hgd:ws.getD k []=ws[k]:=by rw[gDe,gEl hkl];rfl
     rw[hgd]at hcs;obtain⟨own,hown⟩:∃ own,own=ws[k]:=⟨_,rfl⟩;rw[<-hown]at hgk hcs;generalize hcur:dt w ws t i k=cur at *;have hI:=Qh i cur t;have hIl:=HR i cur t;have hNl:=Fx i cur t;have sN:Sub N2 ((N2.put b7 (.cells true (aB (lD i cur t)) (w.length+1))).put b8 (.cells true (aB (vH i cur t)) (w.length+1))):=by
      intro j B hB;rw[al _ _ (by rintro rfl;rw[hB]at hb82;cases hb82),al _ _ (by rintro rfl;rw[hB]at hb7;cases hb7)];exact hB
     have hgk2:=aT hgk sN;have hIv:(aB (lD i cur t))[i]?=some (.int .i64 (encI cur:Nat)):=by rw[bV,hI];rfl
     have hcur61:=Lc (c:=cur) (B:=m+1) hcle (by omega);have hdl:(w.drop i).length=m+1:=by rw[lDr];omega
     simp(disch:=omega)[hgk2];refine drwS ?_;by_cases h1:own=[]
     .have hc0:iE w t i own=none:=by unfold iE;rw[if_pos h1]
      rw[hc0]at hcs;subst h1;refine sS ?_;refine rndS (k+1) ⟨by omega,?_⟩;rw[hcs];rfl
     .have he:own.isEmpty=false:=by cases own with
       | nil=>exact absurd rfl h1
       | cons a l=>rfl
      have ho1:1<=own.length:=by cases own with
       | nil=>exact absurd rfl h1
       | cons a l=>simp
      have hown12:own.length<=12:=by rw[hown];exact(bH hm (gMe hkl)).1
      simp(disch:=omega)[he];refine aX (a:=[]) (c:=[]) (dX _ _ _ _ (by omega) (by omega) ⟨rfl,rfl⟩) ?_;cases hpre:own.isPrefixOf (w.drop i)
      .have hc0:iE w t i own=none:=by unfold iE;rw[if_neg h1,hpre];rfl
       rw[hc0]at hcs;refine sS ?_;refine rndS (k+1) ⟨by omega,?_⟩;rw[hcs];rfl
      .have hple:=eV hpre;rw[hdl]at hple;have htj:own.length-1<t.length:=by omega
       have hc0:iE w t i own=(t[own.length-1]).1:=by
        unfold iE;rw[if_neg h1,hpre,if_pos rfl,gDe,gEl htj];rfl
       rw[hc0]at hcs;have hIt:=Sx i (own.length-1) cur t htj;rw[show i+(own.length-1+1)=i+own.length by omega]at hIt;have hte:=htle _ (gMe htj);have hte61:=Lc (c:=t[own.length-1]) (B:=m) hte (by omega);generalize t[own.length-1]=ce at *;have hIt2:(aB (lD i cur t))[i+own.length]?=some (.int .i64 (encI ce:Nat)):=by rw[bV,hIt];rfl
       have ea:((i:Int)+own.length).toNat=i+own.length:=by omega
       simp(disch:=omega)[hIv,hIt2,ea];by_cases hcond:(1:Int)+(encI ce:Nat)<(encI cur:Nat)
       .obtain⟨os,bs⟩:=ce;cases os with
        | none=>rw[Dd]at hcond;omega
        | some s=>
         rw[il]at hcond hIt2;have hup:kW cur k (some s)=(some (s+1),k):=by
          obtain⟨oc,bc⟩:=cur;unfold kW;cases oc with
          | none=>rfl
          | some x=>rw[il]at hcond;exact if_pos (by omega)
         rw[show (some s,bs).1=some s from rfl,hup]at hcs;have hs1:=PK i cur (some (s+1),k) t;have hs2:=Qv i cur (some (s+1),k) t;have hs1':(aB (lD i cur t)).set i (.int .i64 ((1:Int)+(s:Nat)))=aB (lD i (some (s+1),k) t):=by
          rw[<-hs1,<-rm,il,show ((1:Int)+(s:Nat))=((s+1:Nat):Int) by omega]
         have hs2':(aB (vH i cur t)).set i (.int .i64 (k:Nat))=aB (vH i (some (s+1),k) t):=by
          rw[<-hs2,<-rm]
         rw[il];have hcond':(1:Int)+(s:Nat)<(encI cur:Nat):=hcond;simp(disch:=omega)[hcond',hIt2,ea,hs1'];refine⟨by rw[aA];omega,?_⟩;simp(disch:=omega)[hs2'];refine⟨by rw[aA];omega,?_⟩;refine sS ?_;refine rndS (k+1) ⟨by omega,?_⟩;rw[hcs]
       .have hup:kW cur k ce.1=cur:=by
         obtain⟨os,bs⟩:=ce;cases os with
         | none=>rfl
         | some s=>
          obtain⟨oc,bc⟩:=cur;rw[il]at hcond;unfold kW;cases oc with
          | none=>rw[Dd]at hcond;have:=hte s rfl;omega
          | some x=>rw[il]at hcond;exact if_neg (by omega)
        rw[hup]at hcs;simp(disch:=omega)[hcond];refine rndS (k+1) ⟨by omega,?_⟩;rw[hcs]
    .have hk':k=ws.length:=by omega
     subst hk';refine sS ?_;refine rndA (m+1) (by simp(disch:=omega);omega) ⟨by omega,?_⟩;rw[show w.length-(m+1)=i by omega,hc1,KK,JZ]
   .have hm':m=w.length:=by omega
    subst hm';have hent:∀ i,i<=w.length->(di w ws w.length)[i]?=some (cZ w ws i):=fun i hi=>by
     rw[sQ w ws w.length i hi (lRf _),Nat.sub_self,Nat.zero_add]
    rw[Nat.sub_self];have hI0:∀ i,i<=w.length->(aB (iD 0 (di w ws w.length)))[i]?=some (.int .i64 (encI (cZ w ws i):Nat)):=fun i hi=>by rw[bV,Oa,hent i hi];rfl
    have hN0:∀ i,i<=w.length->(aB (kh 0 (di w ws w.length)))[i]?=some (.int .i64 ((cZ w ws i).2:Nat)):=fun i hi=>by rw[bV,OI,hent i hi];rfl
    generalize aB (iD 0 (di w ws w.length))=LI at *;generalize aB (kh 0 (di w ws w.length))=LN at *;have sN:Sub N2 ((N2.put b7 (.cells true LI (w.length+1))).put b8 (.cells true LN (w.length+1))):=by
     intro j B hB;rw[al _ _ (by rintro rfl;rw[hB]at hb82;cases hb82),al _ _ (by rintro rfl;rw[hB]at hb7;cases hb7)];exact hB
    have l2:=sN _ _ k2';have hI00:=hI0 0 (by omega);simp(disch:=omega)[hI00];cases he0:(cZ w ws 0).1 with
    | none=>
     rw[he0]at h;have e61:(60:Int)<((encI (cZ w ws 0):Nat):Int):=by rw[E2 he0];omega
     simp(disch:=omega)[e61];exact ag (hs22.trans sN) h
    | some x0=>
     rw[he0]at h;have hx0:x0<=w.length:=pQ w ws w.length _ (mem_of_getElem? (hent 0 (by omega))) x0 he0;have e61:¬(60:Int)<((encI (cZ w ws 0):Nat):Int):=by rw[DY he0];omega
     simp(disch:=omega)[e61];refine lupS (rlA [12,13] 91 22) (fun x:Nat×B8=>[(13,.int .i64 x.1),(12,str x.2)]) (fun x M'=>M'=(N2.put b7 (.cells true LI (w.length+1))).put b8 (.cells true LN (w.length+1))/\x.1<=w.length/\(∃ y,(cZ w ws x.1).1=some y)/\∃ f,w.length<=x.1+f/\x.2++i7 w ws f x.1=i7 w ws w.length 0) (fun x=>w.length-x.1) (0,[]) ⟨rfl,by omega,⟨x0,he0⟩,w.length,by omega,rfl⟩ ?_
     rintro⟨i,out⟩ M' g ⟨rfl,hi,⟨y,hy⟩,f,hf2,hout⟩
     simp only at hi hy hf2 hout;have hol:=congrArg length hout;have hofl:=yO w ws w.length 0;rw[lAp]at hol;by_cases hlt:i<w.length
     .obtain⟨w1,w2,w3,⟨s,w4,w5⟩,w6,w7⟩:=EH hlt hy;obtain⟨f,rfl⟩:∃ f',f=f'+1:=⟨f-1,by omega⟩;have hof:i7 w ws (f+1) i=ltr (cZ w ws i).2::i7 w ws f (i+(ws.getD (cZ w ws i).2 []).length):=by
       conv=>lhs;unfold i7
       rw[if_pos hlt]
      rw[hof]at hout;have hNi:=hN0 i hi;have hgd:ws.getD (cZ w ws i).2 []=ws[(cZ w ws i).2]:=by rw[gDe,gEl w1];rfl
      have hgb:=aT (hget _ w1) sN;have hob:1<=(ws.getD (cZ w ws i).2 []).length:=by
       cases hq:ws.getD (cZ w ws i).2 [] with
       | nil=>exact absurd hq w2
       | cons a l=>simp
      rw[<-hgd]at hgb;generalize (cZ w ws i).2=bb at *;generalize ws.getD bb []=own at *;simp(disch:=omega)[hNi];refine db bb _ _ (by omega) ?_;refine sS ?_;refine drwS ?_;simp(disch:=omega)[ak l2,hNi,hgb];refine rndS (i+own.length,out++[ltr bb]) ⟨rfl,by simp only;omega,⟨s,w4⟩,f,by simp only;omega,?_⟩;simp only;rw[append_assoc];exact hout
     .have hi':i=w.length:=by omega
      rw[Gc hlt,append_nil]at hout;rw[<-hout]at h;refine sS ?_;exact ag (hs22.trans sN) h
 .rw[if_neg h0,if_neg h0]at h;have hb:(iM ws w==0)=false:=bNe.2 h0;generalize iM ws w=code at *;simp(disch:=omega)[hb];exact ag hs22 h
def encS:Cell->Int
 | (some s,_)=>s
 | (none,_)=>-1
theorem i6{c:Cell}(h:c.1=none):encS c = -1:=by
 obtain⟨o,b⟩:=c;cases o with
 | none=>rfl
 | some s=>cases h
theorem fg{c:Cell}{s:Nat}(h:c.1=some s):encS c=s:=by
 obtain⟨o,b⟩:=c;cases o with
 | none=>cases h
 | some x=>injection h with h;subst h;rfl
def lk(i:Nat)(c:Cell)(t:List Cell):List Int:=replicate i 0++(encS c::t.map encS)
theorem GP(i:Nat)(c:Cell)(t:List Cell):(lk i c t).length=i+1+t.length:=by simp[lk];omega
theorem QA(i:Nat)(c:Cell)(t:List Cell):(lk i c t)[i]?=some (encS c):=by
 unfold lk;rw[getElem?_append_right (by simp)];simp
theorem SK(i j:Nat)(c:Cell)(t:List Cell)(h:j<t.length):(lk i c t)[i+(j+1)]?=some (encS t[j]):=by
 unfold lk;rw[getElem?_append_right (by rw[length_replicate];omega),length_replicate,show i+(j+1)-i=j+1 by omega,getElem?_cons_succ,getElem?_map,gEl h];rfl
theorem GZ(i:Nat)(c c':Cell)(t:List Cell):(lk i c t).set i (encS c')=lk i c' t:=by
 unfold lk;rw[set_append_right _ _ (by simp),length_replicate,Nat.sub_self,set_cons_zero]
def kD(i:Nat)(t:List Cell):List Int:=replicate i 0++t.map encS
theorem IL(i:Nat)(c:Cell)(t:List Cell):kD i (c::t)=lk i c t:=rfl
theorem NS(i:Nat)(t:List Cell):(kD (i+1) t).set i (-1)=lk i (none,0) t:=by
 unfold kD lk;rw[replicate_succ',append_assoc,set_append_right _ _ (by simp),length_replicate,Nat.sub_self];rfl
theorem Kp(n:Nat):replicate (n+1) (0:Int)=kD n [(some 0,0)]:=by
 unfold kD;rw[replicate_succ'];rfl
theorem NP(t:List Cell)(i:Nat):(kD 0 t)[i]?=t[i]?.map encS:=by
 unfold kD;rw[replicate_zero,nil_append,getElem?_map]
theorem IY{w own:B8}{i:Nat}(h:i+own.length<=w.length):((w.take (i+own.length)).drop i==own)=own.isPrefixOf (w.drop i):=by
 rw[drop_take,show i+own.length-i=own.length by omega,qF (w.drop i) own (by rw[lDr];omega)]
set_option maxRecDepth 4000 in
theorem qC(v:Value)(ws:List B8)(w:B8)(M:Mem)(R:VP)(hv:Rd M v (strs ws))(hf:cS ws)(hn:ws.length<=1099511627776)(hl:w.length<=1099511627776)(h:R (aF (str (p9 ws w)) (qq ws w)) M):ar prog 118 [.agg #[v],str w] M R:=by
 refine fnS func118 rfl ntmps118 results118 ?_;obtain⟨a,c,rfl,ha⟩:=hv.opened;rw[ah]at ha hv ⊢;refine sS ?_;intro b2 hb2;have hs2:=(Sub.refl M).put hb2 (.cells true [.slice a ws.length c] 1);have hv2:=hv.put hb2 (.cells true [.slice a ws.length c] 1);have k2:=ae M b2 (.cells true [.slice a ws.length c] 1);refine sS ?_;generalize M.put b2 (.cells true [.slice a ws.length c] 1)=N1 at *;refine te _ ws w _ _ hv2 hf hn hl ?_;unfold p9 qq at h;by_cases h0:iM ws w=0
 .obtain⟨hm,hw⟩:=rk h0;rw[if_pos h0,if_pos h0]at h;have h15:=aW hm;have h60:=au hw;rw[h0];rcases ha with hz|⟨b,o,rfl,ha⟩
  .omega
  have hget:∀ k,(hk:k<ws.length)->N1.get? b (o+k)=some (str ws[k]):=by
   intro k hk;have hg0:=ha k hk;rw[a7,gEl hk]at hg0;exact aT hg0 hs2
  have er:((w.length:Int)+1).toNat=w.length+1:=by omega
  have eI:replicate (w.length+1) (Value.int .i64 0)=ints (kD w.length [(some 0,0)]):=by rw[HZ,Kp]
  simp(disch:=omega)[er];intro b8 hb8;simp only[length_replicate];simp only[eI];refine sS ?_;refine lupS (rlA [9,10,11,12] 30 75) (fun m:Nat=>[(9,.int .i64 ((w.length:Int)-1-m))]) (fun m M'=>m<=w.length/\M'=N1.put b8 (.cells true (ints (kD (w.length-m) (di w ws m))) (w.length+1))) (fun m=>w.length-m) 0 ⟨by omega,rfl⟩ ?_
  rintro m M' g ⟨hmn,rfl⟩
  have htl:=oT w ws m;have htle:=pQ w ws m;by_cases hlt:m<w.length
  .obtain⟨i,hi⟩:∃ i,i=w.length-(m+1):=⟨_,rfl⟩;have ei:(w.length:Int)-1-m=(i:Int):=by omega
   have hc1:di w ws (m+1)=dt w ws (di w ws m) i ws.length::di w ws m:=by rw[hi];rfl
   rw[show w.length-m=i+1 by omega,ei];have hhs:=NS i (di w ws m);have hhl:(kD (i+1) (di w ws m)).length=w.length+1:=by unfold kD;simp;omega
   have hset:(ints (kD (i+1) (di w ws m))).set i (.int .i64 (-1))=ints (lk i (none,0) (di w ws m)):=by rw[<-hhs,<-ints_set]
   generalize di w ws m=t at *;simp(disch:=omega)[hset];have hil:i+1+m=w.length:=by omega
   refine lupS (rlA [10,11,12] 37 68) (fun k:Nat=>[(10,.int .i64 k)]) (fun k M1=>k<=ws.length/\M1=N1.put b8 (.cells true (ints (lk i (dt w ws t i k) t)) (w.length+1))) (fun k=>ws.length-k) 0 ⟨by omega,rfl⟩ ?_
   rintro k M1 g1 ⟨hk,rfl⟩
   have hcs:=zd w ws t i k;have hcle:=fun x=>Ec (w:=w) (ws:=ws) (i:=i) htle k x;generalize hcur:dt w ws t i k=cur at *;have sN:=(Sub.refl N1).put hb8 (.cells true (ints (lk i cur t)) (w.length+1));have l2:=sN _ _ k2;by_cases hkl:k<ws.length
   .have hgk:=hget k hkl;have hgd:ws.getD k []=ws[k]:=by rw[gDe,gEl hkl];rfl
    rw[hgd]at hcs;obtain⟨own,hown⟩:∃ own,own=ws[k]:=⟨_,rfl⟩;rw[<-hown]at hgk hcs;have hIv:(ints (lk i cur t))[i]?=some (.int .i64 (encS cur)):=by rw[cR,QA i cur t];rfl
    have hIl:=GP i cur t;have hgk2:=aT hgk sN;have hown12:own.length<=12:=by rw[hown];exact(bH hm (gMe hkl)).1
    have hdl:(w.drop i).length=m+1:=by rw[lDr];omega
    simp(disch:=omega)[ak l2,hgk2];by_cases h1:own=[]
    .have hc0:iE w t i own=none:=by unfold iE;rw[if_pos h1]
     rw[hc0]at hcs;subst h1;refine sS ?_;refine rndS (k+1) ⟨by omega,?_⟩;rw[hcs];rfl
    .have he:own.isEmpty=false:=by cases own with
      | nil=>exact absurd rfl h1
      | cons a l=>rfl
     have ho1:1<=own.length:=by cases own with
      | nil=>exact absurd rfl h1
      | cons a l=>simp
     by_cases hlong:w.length<i+own.length
     .have hpre:own.isPrefixOf (w.drop i)=false:=uD (by omega);have hc0:iE w t i own=none:=by unfold iE;rw[if_neg h1,hpre];rfl
      rw[hc0]at hcs;have hlong':(w.length:Int)<(i:Int)+own.length:=by omega
      simp(disch:=omega)[he,hlong'];refine rndS (k+1) ⟨by omega,?_⟩;rw[hcs];rfl
     .have hlong':¬(w.length:Int)<(i:Int)+own.length:=by omega
      have ea:((i:Int)+own.length).toNat=i+own.length:=by omega
      have hab:=IY (w:=w) (own:=own) (i:=i) (by omega);cases hpre:own.isPrefixOf (w.drop i)
      .have hc0:iE w t i own=none:=by unfold iE;rw[if_neg h1,hpre];rfl
       rw[hc0]at hcs;rw[hpre]at hab;simp(disch:=omega)[he,hlong',ea,hab];refine rndS (k+1) ⟨by omega,?_⟩;rw[hcs];rfl
      .rw[hpre]at hab;have htj:own.length-1<t.length:=by omega
       have hc0:iE w t i own=(t[own.length-1]).1:=by
        unfold iE;rw[if_neg h1,hpre,if_pos rfl,gDe,gEl htj];rfl
       rw[hc0]at hcs;have hIt:=SK i (own.length-1) cur t htj;rw[show i+(own.length-1+1)=i+own.length by omega]at hIt;have hte:=htle _ (gMe htj);generalize t[own.length-1]=ce at *;have hIt2:(ints (lk i cur t))[i+own.length]?=some (.int .i64 (encS ce)):=by rw[cR,hIt];rfl
       cases hce:ce.1 with
       | none=>
        rw[hce]at hcs;have hneg:encS ce<0:=by rw[i6 hce];decide
        generalize encS ce=ec at *;simp(disch:=omega)[he,hlong',ea,hab,hIt2,hneg];refine rndS (k+1) ⟨by omega,?_⟩;rw[hcs];rfl
       | some s=>
        rw[hce]at hcs;have hes:=fg hce;have hs60:=hte s hce;rw[hes]at hIt2;cases hcu:cur.1 with
        | none=>
         have hup:kW cur k (some s)=(some (s+1),k):=by unfold kW;rw[hcu]
         rw[hup]at hcs;have hneg:encS cur<0:=by rw[i6 hcu];decide
         have hs1:=GZ i cur (some (s+1),k) t;have hs1':(ints (lk i cur t)).set i (.int .i64 ((1:Int)+(s:Nat)))=ints (lk i (some (s+1),k) t):=by
          rw[<-hs1,<-ints_set,show encS (some (s+1),k)=((s+1:Nat):Int) from rfl,show ((1:Int)+(s:Nat))=((s+1:Nat):Int) by omega]
         generalize encS cur=ecu at *;simp(disch:=omega)[he,hlong',ea,hab,hIt2,hIv,hneg,hs1'];refine rndS (k+1) ⟨by omega,?_⟩;rw[hcs]
        | some x=>
         have hex:=fg hcu;have hxle:=hcle x hcu;rw[hex]at hIv;by_cases hlt2:s+1<x
         .have hup:kW cur k (some s)=(some (s+1),k):=by unfold kW;rw[hcu];exact if_pos hlt2
          rw[hup]at hcs;have hl2':(1:Int)+(s:Nat)<(x:Nat):=by omega
          have hs1:=GZ i cur (some (s+1),k) t;have hs1':(ints (lk i cur t)).set i (.int .i64 ((1:Int)+(s:Nat)))=ints (lk i (some (s+1),k) t):=by
           rw[<-hs1,<-ints_set,show encS (some (s+1),k)=((s+1:Nat):Int) from rfl,show ((1:Int)+(s:Nat))=((s+1:Nat):Int) by omega]
          simp(disch:=omega)[he,hlong',ea,hab,hIt2,hIv,hl2',hs1'];refine rndS (k+1) ⟨by omega,?_⟩;rw[hcs]
         .have hup:kW cur k (some s)=cur:=by unfold kW;rw[hcu];exact if_neg hlt2
          rw[hup]at hcs;have hl2':¬(1:Int)+(s:Nat)<(x:Nat):=by omega
          simp(disch:=omega)[he,hlong',ea,hab,hIt2,hIv,hl2'];refine rndS (k+1) ⟨by omega,?_⟩;rw[hcs]
   .have hk':k=ws.length:=by omega
    subst hk';simp(disch:=omega)[ak l2];refine rndA (m+1) (by simp(disch:=omega);omega) ⟨by omega,?_⟩;rw[show w.length-(m+1)=i by omega,hc1,IL,hcur]
  .have hm':m=w.length:=by omega
   subst hm';have hent:∀ i,i<=w.length->(di w ws w.length)[i]?=some (cZ w ws i):=fun i hi=>by
    rw[sQ w ws w.length i hi (lRf _),Nat.sub_self,Nat.zero_add]
   rw[Nat.sub_self];have hI0:∀ i,i<=w.length->(ints (kD 0 (di w ws w.length)))[i]?=some (.int .i64 (encS (cZ w ws i))):=fun i hi=>by rw[cR,NP,hent i hi];rfl
   generalize ints (kD 0 (di w ws w.length))=LI at *;have sN:=(Sub.refl N1).put hb8 (.cells true LI (w.length+1));have l2:=sN _ _ k2;have hI00:=hI0 0 (by omega);simp(disch:=omega)[hI00];cases he0:(cZ w ws 0).1 with
   | none=>
    rw[he0]at h;have e61:encS (cZ w ws 0)<0:=by rw[i6 he0];decide
    simp(disch:=omega)[e61];exact ag (hs2.trans sN) h
   | some x0=>
    rw[he0]at h;have e61:¬ encS (cZ w ws 0)<0:=by rw[fg he0];omega
    simp(disch:=omega)[e61];refine lupS (rlA [13,14,15,16] 109 71) (fun x:Nat×B8=>[(14,.int .i64 x.1),(13,str x.2)]) (fun x M'=>M'=N1.put b8 (.cells true LI (w.length+1))/\x.1<=w.length/\(∃ y,(cZ w ws x.1).1=some y)/\∃ f,w.length<=x.1+f/\x.2++i7 w ws f x.1=i7 w ws w.length 0) (fun x=>w.length-x.1) (0,[]) ⟨rfl,by omega,⟨x0,he0⟩,w.length,by omega,rfl⟩ ?_
    rintro⟨i,out⟩ M' g ⟨rfl,hi,⟨y,hy⟩,f,hf2,hout⟩
    simp only at hi hy hf2 hout;have hol:=congrArg length hout;have hofl:=yO w ws w.length 0;rw[lAp]at hol;by_cases hlt:i<w.length
    .obtain⟨w1,w2,w3,⟨s,w4,w5⟩,w6,w7⟩:=EH hlt hy;obtain⟨f,rfl⟩:∃ f',f=f'+1:=⟨f-1,by omega⟩;have hof:i7 w ws (f+1) i=ltr (cZ w ws i).2::i7 w ws f (i+(ws.getD (cZ w ws i).2 []).length):=by
      conv=>lhs;unfold i7
      rw[if_pos hlt]
     rw[hof]at hout;have hIi:=hI0 i hi;rw[fg hy]at hIi;have hyl:y<=w.length:=pQ w ws w.length _ (mem_of_getElem? (hent i hi)) y hy;refine sS ?_;refine lupS (rlA [13,14,15,16] 112 68) (fun k:Nat=>[(15,.int .i64 k),(14,.int .i64 i),(13,str out)]) (fun k M1=>M1=N1.put b8 (.cells true LI (w.length+1))/\k<=(cZ w ws i).2) (fun k=>ws.length-k) 0 ⟨rfl,lZe _⟩ ?_
     rintro k M1 g1 ⟨rfl,hkb⟩
     have hkl:k<ws.length:=by omega
     have hgd:ws.getD k []=ws[k]:=by rw[gDe,gEl hkl];rfl
     have hgb:=aT (hget _ hkl) sN;rw[<-hgd]at hgb;obtain⟨own,hown⟩:∃ own,own=ws.getD k []:=⟨_,rfl⟩;rw[<-hown]at hgb;have hown12:own.length<=12:=by
      rw[hown,hgd];exact(bH hm (gMe hkl)).1
     simp(disch:=omega)[ak l2,hgb];refine drwS ?_;by_cases hke:k=(cZ w ws i).2
     .rw[<-hke,<-hown]at w2 w3 w4 w6 hout;rw[<-hke]at w1;have hob:1<=own.length:=by
       cases hq:own with
       | nil=>exact absurd hq w2
       | cons a l=>simp
      have hIe:=hI0 (i+own.length) w6;rw[fg w4]at hIe;have hab:=IY (w:=w) (own:=own) (i:=i) w6;rw[w3]at hab;clear hown;have he:own.isEmpty=false:=by cases own with
       | nil=>exact absurd rfl w2
       | cons a l=>rfl
      have ea:((i:Int)+own.length).toNat=i+own.length:=by omega
      have hle':(i:Int)+own.length<=w.length:=by omega
      have hs0:(0:Int)<=(s:Nat):=by omega
      have hbq:((y:Int)==(1:Int)+(s:Nat))=true:=by rw[beq_iff_eq];omega
      have hrl:=ym (i:=k) (by omega);simp(disch:=omega)[he,ea,hle',hab,hIe,hIi,hs0,hbq];simp(disch:=omega)[uN,hrl];refine rndS (i+own.length,out++[ltr k]) ⟨rfl,by simp only;omega,⟨s,w4⟩,f,by simp only;omega,?_⟩;simp only;rw[append_assoc];exact hout
     .have hkb':k<(cZ w ws i).2:=by omega
      have hno:=w7 k hkb';rw[<-hown]at hno;clear hown;by_cases h1:own=[]
      .subst h1;refine sS ?_;exact rndS (k+1) ⟨rfl,by omega⟩
      .have he:own.isEmpty=false:=by cases own with
        | nil=>exact absurd rfl h1
        | cons a l=>rfl
       by_cases hlong:i+own.length<=w.length
       .have hle':(i:Int)+own.length<=w.length:=by omega
        have ea:((i:Int)+own.length).toNat=i+own.length:=by omega
        have hab:=IY (w:=w) (own:=own) (i:=i) hlong;cases hpre:own.isPrefixOf (w.drop i)
        .rw[hpre]at hab;simp(disch:=omega)[he,ea,hle',hab];exact rndS (k+1) ⟨rfl,by omega⟩
        .rw[hpre]at hab;have hIe:=hI0 (i+own.length) hlong;cases hce:(cZ w ws (i+own.length)).1 with
         | none=>
          have hneg:¬ 0<=encS (cZ w ws (i+own.length)):=by rw[i6 hce];decide
          generalize encS (cZ w ws (i+own.length))=ec at *;simp(disch:=omega)[he,ea,hle',hab,hIe,hneg];exact rndS (k+1) ⟨rfl,by omega⟩
         | some s'=>
          have hns:=hno h1 hpre s' hce;have hsl:s'<=w.length:=pQ w ws w.length _ (mem_of_getElem? (hent _ hlong)) s' hce;rw[fg hce]at hIe;have hs0:(0:Int)<=(s':Nat):=by omega
          have hbq:((y:Int)==(1:Int)+(s':Nat))=false:=bNe.2 (by omega);simp(disch:=omega)[he,ea,hle',hab,hIe,hIi,hs0,hbq];exact rndS (k+1) ⟨rfl,by omega⟩
       .have hle':¬(i:Int)+own.length<=w.length:=by omega
        simp(disch:=omega)[he,hle'];exact rndS (k+1) ⟨rfl,by omega⟩
    .have hi':i=w.length:=by omega
     rw[Gc hlt,append_nil]at hout;rw[<-hout]at h;refine sS ?_;exact ag (hs2.trans sN) h
 .rw[if_neg h0,if_neg h0]at h;have hb:(iM ws w==0)=false:=bNe.2 h0;generalize iM ws w=code at *;simp(disch:=omega)[hb];exact ag hs2 h
end Go.Proofs.YtapimhjbilkfpaaGreatDoor
namespace Go.Proofs.YtapimhjbilkfpaaGreatDoor
open Go Go.Proofs.Tryz Go.RowKit List
theorem vO(v:Value)(ws:List B8)(sep:B8)(M:Mem)(R:VP)(hv:Rd M v (strs ws))(h1:1<=ws.length)(hn:ws.length<=1000000)(hlen:(Lib.join ws sep).length<=140737488355328)(h:R (str (Lib.join ws sep)) M):ar prog 300 [v,str sep] M R:=by
 rcases hv with ⟨_,_,_,h0⟩|⟨b,o,c,rfl,hs,hc⟩
 .have:=congrArg length h0;rw[ah,length_nil]at this;omega
 rw[ah]at hc ⊢;refine dK (str (Lib.join ws sep)) ⟨_,func300,by kernel_rfl,by kernel_rfl⟩ (fun w hw=>?_) h;have hml:(ws.map fun l:B8=>(⟨⟨l⟩⟩:ByteArray)).length=ws.length:=by simp
 have hmm:(ws.map fun l:B8=>(⟨⟨l⟩⟩:ByteArray)).map (·.data.toList)=ws:=by
  rw[map_map];show ws.map (fun l=>l)=ws;simp
 have hg:∀ j,j<ws.length->M.get? b (o+j)=(strs ws)[j]?:=fun j hj=>Ad hs (by rw[ah];exact hj);have h0:=hg 0 (by omega);rw[a7,gEl (by omega)]at h0;obtain⟨B,hB⟩:=Q2 h0;have:=Tryz.strings_Join b o c (ws.map fun l:B8=>(⟨⟨l⟩⟩:ByteArray)) ⟨⟨sep⟩⟩ w ?_ (kO hw hB) (by rw[hml];omega) (by rw[hml];exact hc) (by rw[hmm];exact hlen)
 .rw[hml,hmm]at this;exact this
 .intro j x hx;rw[getElem?_map]at hx;cases hw2:ws[j]? with
  | none=>rw[hw2]at hx;cases hx
  | some l=>
   rw[hw2]at hx;injection hx with hx
   subst hx;have hj:=(List.getElem?_eq_some_iff.1 hw2).1;have:=hg j hj;rw[a7,hw2]at this;exact hw.cell this
def txt:List B8->B8
 | []=>[]
 | x::r=>x++Lib.joinTail [44] r
theorem Ft(ws:List B8):Lib.join ws [44]=txt ws:=by
 cases ws with
 | nil=>rfl
 | cons x r=>exact Lib.join_cons x r [44]
theorem Ma(w:B8):txt [w]=w:=by simp[txt,Lib.joinTail]
theorem Hh(ws:List B8)(w:B8)(h:1<=ws.length):txt (ws++[w])=txt ws++[44]++w:=by
 cases ws with
 | nil=>simp at h
 | cons x r=>simp[txt,Lib.joinTail]
theorem x7{ws:List B8}{n:Nat}(h:∀ w∈ws,w.length<=n):(txt ws).length<=ws.length*(n+1):=by
 cases ws with
 | nil=>exact lZe _
 | cons x r=>
  have h1:=h x (mem_cons_self ..);have h2:∀(l:List B8),(∀ w∈l,w.length<=n)->(Lib.joinTail [44] l).length<=l.length*(n+1):=by
   intro l hl
   induction l with
   | nil=>simp[Lib.joinTail]
   | cons a l ih=>
    have h3:=hl a (mem_cons_self ..);have h4:=ih fun w hw=>hl w (mem_cons_of_mem _ hw);have e:Lib.joinTail [44] (a::l)=[44]++a++Lib.joinTail [44] l:=by simp[Lib.joinTail]
    rw[e,lAp,lAp,lSi,lCo,Nat.succ_mul];omega
  have h3:=h2 r fun w hw=>h w (mem_cons_of_mem _ hw);unfold txt;rw[lAp,lCo,Nat.succ_mul];omega
def ot(ws:List B8):B8:=if aY ws then txt ws else []
theorem uq(v:Value)(ws:List B8)(M:Mem)(R:VP)(hv:Rd M v (strs ws))(hf:cS ws)(hn:ws.length<=1099511627776)(h:R (aF (str (ot ws)) (lO ws)) M):ar prog 215 [.agg #[v]] M R:=by
 refine fnS func215 rfl ntmps215 results215 ?_;obtain⟨a,c,rfl,ha⟩:=hv.opened;rw[ah]at hv ⊢;refine sS ?_;intro b1 hb1;have hs1:=(Sub.refl M).put hb1 (.cells true [.slice a ws.length c] 1);have hv1:=hv.put hb1 (.cells true [.slice a ws.length c] 1);have k1:=ae M b1 (.cells true [.slice a ws.length c] 1);refine sS ?_;generalize M.put b1 (.cells true [.slice a ws.length c] 1)=N at *;refine fN _ ws _ _ hv1 hf hn ?_;unfold ot lO at h;unfold lO;cases hm:aY ws
 .rw[hm]at h;refine sS ?_;exact ag hs1 h
 .rw[hm,if_pos rfl,if_pos rfl,<-Ft]at h;have h15:=aW hm;have hl:=x7 (n:=12) fun w hw=>(bH hm hw).1;have hl5:ws.length*13<=65:=Nat.mul_le_mul_right 13 h15.2;simp(disch:=omega)[ak k1];refine vO _ ws [44] _ _ hv1 h15.1 (by omega) (by rw[Ft];omega) ?_;refine sS ?_;exact ag hs1 h
theorem E9(v:Value)(ws:List B8)(M:Mem)(R:VP)(hv:Rd M v (strs ws))(hm:aY ws=true)(h:R (str (txt ws)) M):ar prog 77 [.agg #[v]] M R:=by
 refine fnS func77 rfl ntmps77 results77 ?_;obtain⟨a,c,rfl,ha⟩:=hv.opened;have h15:=aW hm;rw[ah]at ha hv ⊢;refine sS ?_;intro b1 hb1;have hs1:=(Sub.refl M).put hb1 (.cells true [.slice a ws.length c] 1);have k1:=ae M b1 (.cells true [.slice a ws.length c] 1);rcases ha with h0|⟨b,o,rfl,ha⟩
 .omega
 refine sS ?_;generalize M.put b1 (.cells true [.slice (some ⟨b,o,none⟩) ws.length c] 1)=N at *;refine aR aU (rlA [] 3 20) (fun i:Nat=>[(4,.int .i64 i),(3,str (txt (ws.take i)))]) (fun i M'=>M'=N/\i<=ws.length) (fun i=>ws.length-i) 0 (by kernel_rfl) (by simp(disch:=omega)[txt]) ⟨rfl,by omega⟩ ?_
 rintro i M' g ⟨rfl,hi⟩
 have hlt0:=x7 (ws:=ws.take i) (n:=12) fun w hw=>(bH hm (mem_of_mem_take hw)).1;have hti:(ws.take i).length=i:=by rw[lTa];omega
 rw[hti]at hlt0;have hl5:i*13<=65:=Nat.mul_le_mul (show i<=5 by omega) (lRf 13);by_cases hlt:i<ws.length
 .have hg0:=ha i hlt;rw[a7,gEl hlt]at hg0;have hg:=aT hg0 hs1;have hwo:=bH hm (gMe hlt);by_cases h0:i=0
  .subst h0;have e:txt (ws.take (0+1))=ws[0]:=by rw[take_one hlt,Ma]
   have e0:txt []=[]:=rfl;rw[Nat.add_zero]at hg;simp(disch:=omega)[ak k1,hg,e0];exact rndA (0+1) (by simp(disch:=omega)[e]) ⟨rfl,by omega⟩
  .have hpos:(0:Int)<i:=by omega
   have e:txt (ws.take (i+1))=txt (ws.take i)++[44]++ws[i]:=by rw[aw ws hlt,Hh _ _ (by omega)]
   simp(disch:=omega)[ak k1,hg];exact rndA (i+1) (by simp(disch:=omega)[e]) ⟨rfl,by omega⟩
 .have hi':i=ws.length:=by omega
  subst hi';rw[take_length];simp(disch:=omega)[ak k1];exact ag hs1 h
end Go.Proofs.YtapimhjbilkfpaaGreatDoor
namespace Go.Proofs.YtapimhjbilkfpaaGreatDoor
open Go Go.Proofs.Tryz List
theorem Sub.ovr{M N:Mem}{b:Nat}(h:Sub M N)(hb:M b=none)(B:Blk):Sub M (N.put b B):=by
 intro i Bi hi;have hne:i≠b:=by rintro rfl;rw[hb]at hi;cases hi
 rw[al _ _ hne];exact h _ _ hi
def mnF(x y:Int):Int:=if y<x then y else x
def mxF(x y:Int):Int:=if x<y then y else x
def vec(g:Nat->Int):List Int:=[g 0,g 1,g 2,g 3,g 4]
theorem mh(l:B8):counts l=vec (cnt l):=rfl
theorem SL(g:Nat->Int){i:Nat}(h:i<5):(vec g)[i]?=some (g i):=by
 match i,h with
 | 0,_=>rfl
 | 1,_=>rfl
 | 2,_=>rfl
 | 3,_=>rfl
 | 4,_=>rfl
def fw(f:Int->Int->Int)(g:Nat->Int)(u:B8)(i:Nat):Nat->Int:=fun k=>if k<i then f (g k) (cnt u k) else g k
theorem pA(f:Int->Int->Int)(g:Nat->Int)(u:B8):fw f g u 0=g:=by
 funext k
 simp[fw]
theorem K6(f:Int->Int->Int)(g:Nat->Int)(u:B8)(i:Nat):fw f g u i i=g i:=by simp[fw]
theorem Sl(f:Int->Int->Int)(g:Nat->Int)(u:B8){i:Nat}(h:i<5):(vec (fw f g u i)).set i (f (g i) (cnt u i))=vec (fw f g u (i+1)):=by
 match i,h with
 | 0,_=>rfl
 | 1,_=>rfl
 | 2,_=>rfl
 | 3,_=>rfl
 | 4,_=>rfl
def cW(f:Int->Int->Int)(g:Nat->Int)(L:List B8):Nat->Int:=fun k=>L.foldl (fun a u=>f a (cnt u k)) (g k)
theorem uh(f:Int->Int->Int)(g:Nat->Int)(L:List B8)(u:B8):vec (fw f (cW f g L) u 5)=vec (cW f g (L++[u])):=by
 unfold cW;simp only[foldl_append,foldl_cons,foldl_nil];rfl
def spr(best:Int)(lo hi:Nat->Int):Nat->Int
 | 0=>best
 | i+1=>mxF (spr best lo hi i) (hi i-lo i)
theorem jW{u:B8}(h:u.length<=60)(k:Nat):0<=cnt u k/\cnt u k<=60:=by
 have:=Ex u k;omega
theorem lF{f:Int->Int->Int}(hf:∀ a b,0<=a/\a<=60->0<=b/\b<=60->0<=f a b/\f a b<=60){g:Nat->Int}{L:List B8}(hg:∀ k,0<=g k/\g k<=60)(hL:∀ u∈L,u.length<=60)(k:Nat):0<=cW f g L k/\cW f g L k<=60:=by
 unfold cW;have:∀(L:List B8) (a:Int),(∀ u∈L,u.length<=60)->0<=a/\a<=60->0<=L.foldl (fun a u=>f a (cnt u k)) a/\L.foldl (fun a u=>f a (cnt u k)) a<=60:=by
  intro L
  induction L with
  | nil=>intro a _ h;exact h
  | cons u r ih=>intro a hL h;exact ih _ (fun x hx=>hL x (mem_cons_of_mem _ hx)) (hf _ _ h (jW (hL u mem_cons_self) k))
 exact this L _ hL (hg k)
theorem JU(a b:Int)(ha:0<=a/\a<=60)(hb:0<=b/\b<=60):0<=mnF a b/\mnF a b<=60:=by unfold mnF;split<;>omega
theorem KG(a b:Int)(ha:0<=a/\a<=60)(hb:0<=b/\b<=60):0<=mxF a b/\mxF a b<=60:=by unfold mxF;split<;>omega
theorem Et{best:Int}{lo hi:Nat->Int}(hb:0<=best/\best<=60)(hlo:∀ k,0<=lo k/\lo k<=60)(hhi:∀ k,0<=hi k/\hi k<=60):∀ i,0<=spr best lo hi i/\spr best lo hi i<=60
 | 0=>hb
 | i+1=>by
  have h0:=Et hb hlo hhi i;have h1:=hlo i;have h2:=hhi i;unfold spr mxF;split<;>omega
def eX(w:B8)(m i:Nat):List B8:=(range i).map fun t=>seg w (t+1) m
theorem IG(w:B8)(m i:Nat):eX w m (i+1)=eX w m i++[seg w (i+1) m]:=by simp[eX,range_succ]
def dO(w:B8)(m i:Nat):List B8:=(range i).map fun t=>seg w t m
theorem rH(w:B8)(m i:Nat):dO w m (i+1)=dO w m i++[seg w i m]:=by simp[dO,range_succ]
theorem gF(w:B8)(m i:Nat):(dO w m i).length=i:=by simp[dO]
def loW(w:B8)(m:Nat):Nat->Int:=cW mnF (cnt (w.take m)) (eX w m (w.length-m))
def hiW(w:B8)(m:Nat):Nat->Int:=cW mxF (cnt (w.take m)) (eX w m (w.length-m))
def lB(w:B8):Nat->Int
 | 0=>0
 | m+1=>spr (lB w m) (loW w (m+1)) (hiW w (m+1)) 5
theorem uu{w:B8}{m i:Nat}(hw:w.length<=60):∀ u∈eX w m i,u.length<=60:=by
 intro u hu;obtain⟨t,_,rfl⟩:=mem_map.1 hu;unfold seg;rw[lDr,lTa];omega
theorem Kq{w:B8}(hw:w.length<=60)(m k:Nat):0<=loW w m k/\loW w m k<=60:=lF JU (fun k=>jW (by rw[lTa];omega) k) (uu hw) k
theorem Kl{w:B8}(hw:w.length<=60)(m k:Nat):0<=hiW w m k/\hiW w m k<=60:=lF KG (fun k=>jW (by rw[lTa];omega) k) (uu hw) k
theorem E1{w:B8}(hw:w.length<=60):∀ m,0<=lB w m/\lB w m<=60
 | 0=>by unfold lB;omega
 | m+1=>Et (E1 hw m) (Kq hw _) (Kl hw _) 5
theorem xZ(k:Nat):∀(L:List B8) (b:Int),L.foldl (fun a u=>mnF a (cnt u k)) b<=b/\(∀ u∈L,L.foldl (fun a u=>mnF a (cnt u k)) b<=cnt u k)/\(L.foldl (fun a u=>mnF a (cnt u k)) b=b\/∃ u∈L,L.foldl (fun a u=>mnF a (cnt u k)) b=cnt u k)
 | [],b=>⟨Int.le_refl b,by simp,.inl rfl⟩
 | u::r,b=>by
  obtain⟨h1,h2,h3⟩:=xZ k r (mnF b (cnt u k));rw[foldl_cons];have hm:mnF b (cnt u k)<=b/\mnF b (cnt u k)<=cnt u k/\(mnF b (cnt u k)=b\/mnF b (cnt u k)=cnt u k):=by unfold mnF;split<;>simp<;>omega
  refine⟨by omega,?_,?_⟩
  .intro x hx;rcases mem_cons.1 hx with rfl|hx
   .omega
   .exact h2 x hx
  .rcases h3 with h3|⟨x,hx,h3⟩
   .rcases hm.2.2 with e|e
    .exact .inl (h3.trans e)
    .exact .inr ⟨u,mem_cons_self,h3.trans e⟩
   .exact .inr ⟨x,mem_cons_of_mem _ hx,h3⟩
theorem xD(k:Nat):∀(L:List B8) (b:Int),b<=L.foldl (fun a u=>mxF a (cnt u k)) b/\(∀ u∈L,cnt u k<=L.foldl (fun a u=>mxF a (cnt u k)) b)/\(L.foldl (fun a u=>mxF a (cnt u k)) b=b\/∃ u∈L,L.foldl (fun a u=>mxF a (cnt u k)) b=cnt u k)
 | [],b=>⟨Int.le_refl b,by simp,.inl rfl⟩
 | u::r,b=>by
  obtain⟨h1,h2,h3⟩:=xD k r (mxF b (cnt u k));rw[foldl_cons];have hm:b<=mxF b (cnt u k)/\cnt u k<=mxF b (cnt u k)/\(mxF b (cnt u k)=b\/mxF b (cnt u k)=cnt u k):=by unfold mxF;split<;>simp<;>omega
  refine⟨by omega,?_,?_⟩
  .intro x hx;rcases mem_cons.1 hx with rfl|hx
   .omega
   .exact h2 x hx
  .rcases h3 with h3|⟨x,hx,h3⟩
   .rcases hm.2.2 with e|e
    .exact .inl (h3.trans e)
    .exact .inr ⟨u,mem_cons_self,h3.trans e⟩
   .exact .inr ⟨x,mem_cons_of_mem _ hx,h3⟩
theorem D6{b:B8}{L L':List B8}(h1:∀ u∈L,u∈L'\/u=b)(h2:∀ u∈L',u∈L):cW mnF (cnt b) L=cW mnF (cnt b) L':=by
 funext k
 unfold cW;obtain⟨a1,a2,a3⟩:=xZ k L (cnt b k);obtain⟨b1,b2,b3⟩:=xZ k L' (cnt b k);refine Int.le_antisymm ?_ ?_
 .rcases b3 with e|⟨u,hu,e⟩
  .rw[e];exact a1
  .rw[e];exact a2 u (h2 u hu)
 .rcases a3 with e|⟨u,hu,e⟩
  .rw[e];exact b1
  .rw[e];rcases h1 u hu with h|rfl
   .exact b2 u h
   .exact b1
theorem Fo{b:B8}{L L':List B8}(h1:∀ u∈L,u∈L'\/u=b)(h2:∀ u∈L',u∈L):cW mxF (cnt b) L=cW mxF (cnt b) L':=by
 funext k
 unfold cW;obtain⟨a1,a2,a3⟩:=xD k L (cnt b k);obtain⟨b1,b2,b3⟩:=xD k L' (cnt b k);refine Int.le_antisymm ?_ ?_
 .rcases a3 with e|⟨u,hu,e⟩
  .rw[e];exact b1
  .rw[e];rcases h1 u hu with h|rfl
   .exact b2 u h
   .exact b1
 .rcases b3 with e|⟨u,hu,e⟩
  .rw[e];exact a1
  .rw[e];exact a2 u (h2 u hu)
theorem RS{w:B8}{m:Nat}{L:List B8}(hm:m<=w.length)(hL:∀ u,u∈L↔u∈dO w m (w.length-m+1)):cW mnF (cnt (w.take m)) L=loW w m/\cW mxF (cnt (w.take m)) L=hiW w m:=by
 have h1:∀ u∈L,u∈eX w m (w.length-m)\/u=w.take m:=by
  intro u hu;obtain⟨t,ht,rfl⟩:=mem_map.1 ((hL u).1 hu);have ht:=mem_range.1 ht;cases t with
  | zero=>exact .inr (oQ w m)
  | succ t=>exact .inl (mem_map.2 ⟨t,mem_range.2 (by omega),rfl⟩)
 have h2:∀ u∈eX w m (w.length-m),u∈L:=by
  intro u hu;obtain⟨t,ht,rfl⟩:=mem_map.1 hu;have ht:=mem_range.1 ht;exact(hL _).2 (mem_map.2 ⟨t+1,mem_range.2 (by omega),rfl⟩)
 exact⟨D6 h1 h2,Fo h1 h2⟩
theorem O1(w:B8):spr 0 (loW w 0) (hiW w 0) 5=0:=by
 have hc:∀ k,cnt [] k=0:=fun k=>rfl;have hs:∀ i,∀ u∈eX w 0 i,u=[]:=by
  intro i u hu;obtain⟨t,_,rfl⟩:=mem_map.1 hu;unfold seg;rw[Nat.add_zero];exact drop_eq_nil_of_le (by rw[lTa];omega)
 have h1:loW w 0=fun _=>0:=by
  funext k
  obtain⟨_,_,h|⟨u,hu,h⟩⟩:=xZ k (eX w 0 (w.length-0)) (cnt (w.take 0) k)
  .exact h
  .rw[hs _ u hu]at h;exact h
 have h2:hiW w 0=fun _=>0:=by
  funext k
  obtain⟨_,_,h|⟨u,hu,h⟩⟩:=xD k (eX w 0 (w.length-0)) (cnt (w.take 0) k)
  .exact h
  .rw[hs _ u hu]at h;exact h
 rw[h1,h2];rfl
theorem kZ(g:Nat->Int){i:Nat}(h:i<5):(ints (vec g))[i]?=some (.int .i64 (g i)):=by rw[cR,SL g h];rfl
theorem xC(f:Int->Int->Int)(g:Nat->Int)(u:B8){i:Nat}(h:i<5):(ints (vec (fw f g u i))).set i (.int .i64 (f (g i) (cnt u i)))=ints (vec (fw f g u (i+1))):=by rw[ints_set,Sl f g u h]
theorem xL(g:Nat->Int):(ints (vec g)).length=5:=rfl
theorem se{L:B8}{j:Nat}{v:UInt8}(h:L[j]?=some v)(hj:j<L.length):L[j]=v:=by
 rw[gEl hj]at h;injection h
theorem Mo{L:List Value}{j:Nat}{v:Value}(h:L[j]?=some v)(hj:j<L.length):L[j]=v:=by
 rw[gEl hj]at h;exact Option.some.inj h
theorem Own.block{M M':Mem}{v:Value}{g:Nat->Int}(o:Own M v (ints (vec g)) M'):∃ b c,v=.slice (some ⟨b,0,none⟩) 5 c/\M b=none/\5<=c/\M'=M.put b (.cells true (ints (vec g)) c):=by
 rcases o with ⟨_,e,_⟩|⟨b,c,rfl,hb,hc,rfl⟩
 .cases e
 .exact⟨b,c,rfl,hb,hc,rfl⟩
theorem xq(w:B8)(M:Mem)(R:VP)(hw:isWord w=true)(h:∀ M',Sub M M'->R (.int .i64 (lB w w.length)) M'):ar prog 367 [str w] M R:=by
 have h60:=au hw;have hall:=aZ hw;refine fnT func367 rfl ntmps367 results367 ?_;refine aR aU (rlA [] 3 84) (fun m:Nat=>[(4,.int .i64 ((m:Int)+1)),(3,.int .i64 (lB w m))]) (fun m M'=>m<=w.length/\Sub M M') (fun m=>w.length-m) 0 (by kernel_rfl) (by simp(disch:=omega);rfl) ⟨lZe _,Sub.refl _⟩ ?_
 rintro m N g ⟨hm,hs⟩
 have hbal:=E1 h60 m;by_cases hlt:m<w.length
 .have hbs:lB w (m+1)=spr (lB w m) (loW w (m+1)) (hiW w (m+1)) 5:=rfl;have elo:loW w (m+1)=cW mnF (cnt (w.take (m+1))) (eX w (m+1) (w.length-(m+1))):=rfl;have ehi:hiW w (m+1)=cW mxF (cnt (w.take (m+1))) (eX w (m+1) (w.length-(m+1))):=rfl;have hlo:=Kq h60 (m+1);have hhi:=Kl h60 (m+1);have hsl:=fun i=>uu (w:=w) (m:=m+1) (i:=i) h60;have et:(((m:Int)+1)).toNat=m+1:=by omega
  have htl:(w.take (m+1)).length<=1099511627776:=by rw[lTa];omega
  have hta:(w.take (m+1)).all isL=true:=by have:=sT hall 0 (m+1);rw[oQ]at this;exact this
  generalize lB w m=best at *;refine sS ?_;refine plyS (ai [0,1,2,4,5,6] (.one 3 1 (.one 7 1 (ai [8,9] .fin)))) ?_;simp(disch:=omega)[et];refine iy (w.take (m+1)) _ _ htl hta ?_;intro v1 N1 o1;have q1:=o1.sub;refine sS ?_;refine⟨q1,?_⟩;refine iy (w.take (m+1)) _ _ htl hta ?_;intro v2 N2 o2;have q2:=o2.sub;refine sS ?_;refine⟨q2,?_⟩;rw[mh]at o1 o2;obtain⟨b1,c1,rfl,hb1,hc1,rfl⟩:=o1.block;obtain⟨b2,c2,rfl,hb2,hc2,rfl⟩:=o2.block;have sN:=q1.trans q2;have h12:b1≠b2:=by rintro rfl;rw[ae]at hb2;cases hb2
  have hb2':N b2=none:=by rw[al _ _ (Ne.symm h12)]at hb2;exact hb2
  have k1:((N.put b1 (.cells true (ints (vec (cnt (w.take (m+1))))) c1)).put b2 (.cells true (ints (vec (cnt (w.take (m+1))))) c2)) b1=some (.cells true (ints (vec (cnt (w.take (m+1))))) c1):=by rw[al _ _ h12,ae]
  have k2:((N.put b1 (.cells true (ints (vec (cnt (w.take (m+1))))) c1)).put b2 (.cells true (ints (vec (cnt (w.take (m+1))))) c2)) b2=some (.cells true (ints (vec (cnt (w.take (m+1))))) c2):=ae _ _ _;generalize (N.put b1 (.cells true (ints (vec (cnt (w.take (m+1))))) c1)).put b2 (.cells true (ints (vec (cnt (w.take (m+1))))) c2)=N2 at *;clear q1 q2 o1 o2 hb2;have hbase:∀ k,0<=cnt (w.take (m+1)) k/\cnt (w.take (m+1)) k<=60:=fun k=>jW (by rw[lTa];omega) k;generalize cnt (w.take (m+1))=base at *;refine lupS (rlA [7,8,9] 25 45) (fun i:Nat=>[(7,.int .i64 ((i:Int)+1))]) (fun i M1=>i<=w.length-(m+1)/\Sub N M1/\M1 b1=some (.cells true (ints (vec (cW mnF base (eX w (m+1) i)))) c1)/\M1 b2=some (.cells true (ints (vec (cW mxF base (eX w (m+1) i)))) c2)) (fun i=>w.length-i) 0 ⟨by omega,sN,k1,k2⟩ ?_
  rintro i M1 g1 ⟨hi,s1,l1,l2⟩
  have hlo1:∀ k,0<=cW mnF base (eX w (m+1) i) k/\cW mnF base (eX w (m+1) i) k<=60:=lF JU hbase (hsl i);have hhi1:∀ k,0<=cW mxF base (eX w (m+1) i) k/\cW mxF base (eX w (m+1) i) k<=60:=lF KG hbase (hsl i);by_cases hil:i<w.length-(m+1)
  .have e1:=uh mnF base (eX w (m+1) i) (seg w (i+1) (m+1));have e2:=uh mxF base (eX w (m+1) i) (seg w (i+1) (m+1));rw[<-IG]at e1 e2;have hsg:(w.take ((i:Int)+1+(m+1)).toNat).drop (i+1)=seg w (i+1) (m+1):=by
    unfold seg;rw[show ((i:Int)+1+(m+1)).toNat=i+1+(m+1) by omega]
   have hsL:=eM (w:=w) (a:=i+1) (m:=m+1) (by omega);have hsA:=sT hall (i+1) (m+1);generalize seg w (i+1) (m+1)=u at *;have hu60:u.length<=60:=by omega
   have hcu:=fun k=>jW hu60 k;generalize cW mnF base (eX w (m+1) i)=lo at *;generalize cW mxF base (eX w (m+1) i)=hi' at *;simp(disch:=omega)[hsg];refine iy u _ _ (by omega) hsA ?_;intro v3 M2 o3;rw[mh]at o3;obtain⟨b3,c3,rfl,hb3,hc3,rfl⟩:=o3.block;have h13:b1≠b3:=by rintro rfl;rw[l1]at hb3;cases hb3
   have h23:b2≠b3:=by rintro rfl;rw[l2]at hb3;cases hb3
   have z1:=o3.sub _ _ l1;have z2:=o3.sub _ _ l2;have z3:=ae M1 b3 (.cells true (ints (vec (cnt u))) c3);have zs:=s1.trans o3.sub;generalize M1.put b3 (.cells true (ints (vec (cnt u))) c3)=M2 at *;clear o3;refine sS ?_;refine lupS (rlA [9] 40 30) (fun j:Nat=>[(9,.int .i64 j)]) (fun j M3=>j<=5/\Sub N M3/\M3 b1=some (.cells true (ints (vec (fw mnF lo u j))) c1)/\M3 b2=some (.cells true (ints (vec (fw mxF hi' u j))) c2)/\M3 b3=some (.cells true (ints (vec (cnt u))) c3)) (fun j=>5-j) 0 ⟨by omega,zs,by rw[pA];exact z1,by rw[pA];exact z2,z3⟩ ?_
   rintro j M3 g2 ⟨hj,s3,y1,y2,y3⟩
   by_cases hj5:j<5
   .obtain⟨L1,hL1⟩:∃ x,x=ints (vec (fw mnF lo u (j+1))):=⟨_,rfl⟩;obtain⟨L2,hL2⟩:∃ x,x=ints (vec (fw mxF hi' u (j+1))):=⟨_,rfl⟩;have p1:(ints (vec (fw mnF lo u j))).set j (.int .i64 (if cnt u j<lo j then cnt u j else lo j))=L1:=by rw[hL1];exact xC mnF lo u hj5
    have p2:(ints (vec (fw mxF hi' u j))).set j (.int .i64 (if hi' j<cnt u j then cnt u j else hi' j))=L2:=by rw[hL2];exact xC mxF hi' u hj5
    have t1:=kZ (fw mnF lo u j) hj5;have t2:=kZ (fw mxF hi' u j) hj5;have t3:=kZ (cnt u) hj5;rw[K6]at t1 t2;have r1:=xL (fw mnF lo u j);have r2:=xL (fw mxF hi' u j);have aL:=hlo1 j;have aH:=hhi1 j;have aC:=hcu j;generalize ints (vec (fw mnF lo u j))=V1 at *;generalize ints (vec (fw mxF hi' u j))=V2 at *;generalize ints (vec (cnt u))=V3 at *;generalize cnt u j=x3 at *;generalize lo j=x1 at *;generalize hi' j=x2 at *;refine sS ?_;refine plyS (ai [0,1,2,3,4,5,6,7,8,9,10,11] (.one 12 2 .fin)) ?_;simp(disch:=omega)[ak y1,ak y3,t3,Mo t1,y1,p1]
    try simp only[aj]
    have s4:=s3.ovr hb1 (.cells true L1 c1);have z1:=ae M3 b1 (.cells true L1 c1);have z2:(M3.put b1 (.cells true L1 c1)) b2=some (.cells true V2 c2):=by rw[al _ _ (Ne.symm h12)];exact y2
    have z3:(M3.put b1 (.cells true L1 c1)) b3=some (.cells true V3 c3):=by rw[al _ _ (Ne.symm h13)];exact y3
    generalize M3.put b1 (.cells true L1 c1)=M4 at *
    try simp(disch:=omega)
    refine plyS (ai [0,1,2,3,4,5,6,7,8,9,10,11] (.one 12 2 .fin)) ?_;simp(disch:=omega)[ak z2,ak z3,t3,Mo t2,z2,p2]
    try simp only[aj]
    try simp(disch:=omega)
    refine rndS (j+1) ⟨by omega,s4.ovr hb2' _,?_,?_,?_⟩
    .rw[al _ _ h12,<-hL1];exact z1
    .rw[<-hL2];exact ae _ _ _
    .rw[al _ _ (Ne.symm h23)];exact z3
   .have hj':j=5:=by omega
    subst hj';refine sS ?_;rw[e1]at y1;rw[e2]at y2;exact rndS (i+1) ⟨by omega,s3,y1,y2⟩
  .have hi':i=w.length-(m+1):=by omega
   subst hi';rw[<-elo]at l1 hlo1;rw[<-ehi]at l2 hhi1;generalize loW w (m+1)=lo at *;generalize hiW w (m+1)=hi' at *;refine sS ?_;refine aR aU (rlA [3,10] 70 17) (fun j:Nat=>[(10,.int .i64 j),(3,.int .i64 (spr best lo hi' j))]) (fun j M3=>j<=5/\M3=M1) (fun j=>5-j) 0 (by kernel_rfl) (by simp(disch:=omega);rfl) ⟨by omega,rfl⟩ ?_
   rintro j M3 g2 ⟨hj,rfl⟩
   have hsp:=Et hbal hlo1 hhi1 j;have ess:spr best lo hi' (j+1)=mxF (spr best lo hi' j) (hi' j-lo j):=rfl;unfold mxF at ess;by_cases hj5:j<5
   .generalize spr best lo hi' j=bj at *;have t1:=kZ lo hj5;have t2:=kZ hi' hj5;have a1:=hlo1 j;have a2:=hhi1 j;generalize lo j=x at *;generalize hi' j=y at *;refine sS ?_;refine plyS (ai [0,1,2,3,4,5,6,7,8,9,10,11] .fin) ?_;simp(disch:=omega)[ak l1,ak l2,t1,t2];exact rndA (j+1) (by simp(disch:=omega)[ess]) ⟨by omega,rfl⟩
   .have hj':j=5:=by omega
    subst hj';refine sS ?_;exact rndA (m+1) (by simp(disch:=omega)[hbs]) ⟨by omega,hs.trans s1⟩
 .have hm':m=w.length:=by omega
  subst hm';refine sS ?_;exact ag (Sub.refl _) (h _ hs)
end Go.Proofs.YtapimhjbilkfpaaGreatDoor
namespace Go.Proofs.YtapimhjbilkfpaaGreatDoor
open Go Go.Proofs.Tryz Go.RowKit List
theorem Az{α:Type}[Inhabited α](enc:α->Value)(w:World)(b n:Nat)(d:Array α)(os:Array Obj){k:Nat}(hk:k<w.heap.size) :
  (Sort.grow (Sort.putRow enc (Sort.ahead w n) b 0 d) os).heap[k]?=if b=k then (w.heap[k]?).map (Sort.onCells (Sort.putCells enc 0 d)) else w.heap[k]?:=by
 rw[Sort.heap_grow_old _ _ (by simpa[Sort.ahead] using hk)];simp only[Sort.putRow,Sort.mapBlock,Array.getElem?_modify,Sort.ahead]
theorem S3{α:Type}[Inhabited α]{M:Mem}{w:World}(enc:α->Value)(hw:Rep M w){b c:Nat}{xs:List Value}(hM:M b=some (.cells true xs c))(d:Array α)(hd:d.size=xs.length)(n:Nat)(os:Array Obj) :
  Rep (M.put b (.cells true (d.toList.map enc) c)) (Sort.grow (Sort.putRow enc (Sort.ahead w n) b 0 d) os)/\Ext M w (M.put b (.cells true (d.toList.map enc) c)) (Sort.grow (Sort.putRow enc (Sort.ahead w n) b 0 d) os):=by
 have hb:=kO hw hM;refine⟨?_,rfl,rfl,rfl,?_,?_,?_⟩
 .intro i B hB;by_cases hi:i=b
  .subst hi;rw[ae]at hB;injection hB with hB
   subst hB;obtain⟨cc,e,fr,h1,h2,⟨ys,h3⟩,h4⟩:=hw i _ hM;refine⟨Sort.putCells enc 0 d cc,e,fr,?_,by simpa[Sort.putCells] using h2,⟨ys,?_⟩,h4⟩
   .rw[Az enc w i n d os hb,if_pos rfl,h1];rfl
   .apply ext_getElem?;intro k;have h3':cc[k]?=(xs++ys)[k]?:=by rw[<-h3];simp
    rw[Array.getElem?_toList];simp only[Sort.putCells,Array.getElem?_mapIdx,h3'];by_cases hk:k<d.size
    .rw[getElem?_append_left (by omega),getElem?_append_left (by simpa using hk),gEl (by omega),Option.map_some,if_pos ⟨lZe _,by omega⟩,getElem?_map];simp[hk]
    .rw[getElem?_append_right (by omega),getElem?_append_right (by simp;omega)];simp only[length_map,Array.length_toList,hd];cases ys[k-xs.length]? with
     | none=>rfl
     | some y=>rw[Option.map_some,if_neg (by omega)]
  .rw[al _ _ hi]at hB;exact Blk.holds_of (by rw[Az enc w b n d os (kO hw hB),if_neg (Ne.symm hi)]) (hw i B hB)
 .simp[Sort.ahead]
 .intro k hk ho;have hne:b≠k:=by rintro rfl;exact ho ⟨_,hM,rfl⟩
  rw[Az enc w b n d os hk,if_neg hne]
 .rintro k ⟨B,h1,h2⟩
  by_cases hi:k=b
  .subst hi;exact .inl ⟨_,hM,rfl⟩
  .rw[al _ _ hi]at h1;exact .inl ⟨B,h1,h2⟩
theorem Gh{α:Type}[Inhabited α]{P:Program}{f:FuncId}{args:List Value}{M:Mem}{R:VP}(v:Value)(hb:sf P f)(enc:α->Value){b c:Nat}{xs:List Value}(hM:M b=some (.cells true xs c))(d:Array α)(hd:d.size=xs.length)
  (h:∀ w,Rep M w->Calls P f args.toArray w fun e w'=>e=.returned v/\∃ n os,w'=Sort.grow (Sort.putRow enc (Sort.ahead w n) b 0 d) os) (hR:R v (M.put b (.cells true (d.toList.map enc) c))):ar P f args M R:=
 ⟨hb,fun w hw=>(h w hw).mono fun e w' ⟨he,n,os,hw'⟩=>by
  subst hw';obtain⟨h1,h2⟩:=S3 enc hw hM d hd n os;exact⟨v,_,he,h1,h2,hR⟩⟩
theorem B4{M:Mem}{w:World}(hw:Rep M w){b c:Nat}{ss:List B8}(hM:M b=some (.cells true (strs ss) c)):Sort.Holds encStr w b 0 ss.toArray:=by
 intro j hj;have hj':j<ss.length:=by simpa using hj
 have hg:M.get? b (0+j)=some (str ss[j]):=by rw[ak hM,Nat.zero_add,a7,gEl hj'];rfl
 refine⟨?_,?_⟩
 .rw[hw.cell hg,getElem!_pos _ j hj];rfl
 .obtain⟨cc,e,fr,h1,h2,⟨ys,h3⟩,h4⟩:=hw b _ hM;have hle:=hw.le hM;rw[ah]at hle;have:=h4 rfl;obtain⟨lo,hi⟩:=fr;simp only[World.frozen?,h1,Nat.zero_add,Bool.and_eq_false_iff,decide_eq_false_iff_not];simp only at this;omega
theorem HI(ss:List B8):ss.map encStr=strs ss:=by
 unfold strs;apply map_congr_left;intro l _;rfl
def srt(ss:List B8):List B8:=Lib.compact (ss.mergeSort fun x y=>decide (x<=y))
theorem za{α:Type}[Inhabited α][DecidableEq α](d:Array α):∀ m,∀ x,x∈Lib.compactUpTo d m↔∃ j,j<m/\d[j]! = x
 | 0,x=>by simp[Lib.compactUpTo]
 | m+1,x=>by
  rw[Lib.compactUpTo_succ,mem_append,za d m x];constructor
  .rintro(⟨j,h1,h2⟩|h)
   .exact⟨j,by omega,h2⟩
   .split at h
    .exact⟨m,by omega,(mem_singleton.1 h).symm⟩
    .simp at h
  .rintro⟨j,h1,h2⟩
   by_cases hj:j<m
   .exact .inl ⟨j,hj,h2⟩
   .have hj':j=m:=by omega
    subst hj';cases hk:Lib.keeps d j with
    | true=>exact .inr (by rw[if_pos rfl];simp[h2])
    | false=>
     simp only[Lib.keeps,decide_eq_false_iff_not,not_or,ne_eq,Decidable.not_not]at hk;exact .inl ⟨j-1,by omega,by rw[<-hk.2];exact h2⟩
theorem Gn{α:Type}[Inhabited α][DecidableEq α](zs:List α)(x:α):x∈Lib.compact zs↔x∈zs:=by
 unfold Lib.compact;rw[za];constructor
 .rintro⟨j,h1,h2⟩
  rw[getElem!_pos _ j (by simpa using h1)]at h2;rw[<-h2];simp
 .intro h;obtain⟨j,h1,h2⟩:=mem_iff_getElem.1 h;exact⟨j,h1,by rw[getElem!_pos _ j (by simpa using h1)];simpa using h2⟩
theorem mu{α:Type}[Inhabited α][DecidableEq α](zs:List α):(Lib.compact zs).length<=zs.length:=by
 unfold Lib.compact Lib.compactUpTo;rw[length_map];have:=length_filter_le (Lib.keeps zs.toArray) (range zs.length);rw[length_range]at this;exact this
theorem pE(ss:List B8)(x:B8):x∈srt ss↔x∈ss:=by
 unfold srt;rw[Gn];exact mem_mergeSort
theorem Qi(ss:List B8):(srt ss).length<=ss.length:=by
 unfold srt;have:=mu (ss.mergeSort fun x y=>decide (x<=y));rw[length_mergeSort]at this;exact this
theorem mU(b c:Nat)(ss:List B8)(M:Mem)(R:VP)(hM:M b=some (.cells true (strs ss) c))(hn:ss.length<=1000000)
  (h:R (.tuple #[]) (M.put b (.cells true (strs (ss.mergeSort fun x y=>decide (x<=y))) c))):ar prog 433 [.slice (some ⟨b,0,none⟩) ss.length c] M R:=by
 refine Gh (.tuple #[]) ⟨_,func433,by kernel_rfl,by kernel_rfl⟩ encStr hM (ss.mergeSort fun x y=>decide (x<=y)).toArray (by simp[ah]) (fun w hw=>?_) ?_
 .exact Tryz.slices_Sort_string b 0 c ss w (B4 hw hM) (kO hw hM) (by omega)
 .simp only[HI];exact h
theorem jR(b c:Nat)(ss:List B8)(M:Mem)(R:VP)(hM:M b=some (.cells true (strs ss) c))(hc:ss.length<=c)(hn:ss.length<=1000000)
  (h:R (.slice (some ⟨b,0,none⟩) (Lib.compact ss).length c) (M.put b (.cells true (strs (Lib.compact ss++replicate (ss.length-(Lib.compact ss).length) [])) c))):ar prog 434 [.slice (some ⟨b,0,none⟩) ss.length c] M R:=by
 have hle:=mu ss;refine Gh (.slice (some ⟨b,0,none⟩) (Lib.compact ss).length c) ⟨_,func434,by kernel_rfl,by kernel_rfl⟩ encStr hM (Lib.compact ss++replicate (ss.length-(Lib.compact ss).length) []).toArray (by simp[ah];omega) (fun w hw=>?_) ?_
 .refine(Tryz.slices_Compact_string b 0 c ss w (B4 hw hM) (by omega) hc).mono fun e w' ⟨h1,q,h2⟩=>⟨h1,q,#[],?_⟩;rw[Sort.grow_empty];exact h2
 .simp only[HI];exact h
theorem Ik(v:Value)(ss:List B8)(M0 M:Mem)(R:VP)(ho:Own M0 v (strs ss) M)(h1:1<=ss.length)(hn:ss.length<=1000000)
  (h:∀ v' M',Rd M' v' (strs (srt ss))->Sub M0 M'->R v' M'):ar prog 413 [v] M R:=by
 rcases ho with ⟨_,e,_⟩|⟨b,c,rfl,hb,hc,rfl⟩
 .have:=congrArg length e;rw[ah,length_nil]at this;omega
 rw[ah]at hc ⊢;refine fnT func413 rfl ntmps413 results413 ?_;have hm:(ss.mergeSort fun x y=>decide (x<=y)).length=ss.length:=length_mergeSort _;have hsr:srt ss=Lib.compact (ss.mergeSort fun x y=>decide (x<=y)):=rfl;have hle:=mu (ss.mergeSort fun x y=>decide (x<=y));refine mU b c ss _ _ (ae _ _ _) hn ?_;refine sS ?_;generalize (ss.mergeSort fun x y=>decide (x<=y))=zs at *;rw[<-hm];refine jR b c zs _ _ (ae _ _ _) (by omega) (by omega) ?_;refine sS ?_;refine ad (h _ _ ?_ ?_)
 .rw[hsr];refine .inr ⟨b,0,c,by rw[ah],?_,by rw[ah];omega⟩;rw[aq (ae _ _ _)];simp[strs,lN]
 .exact(((Sub.refl _).put hb _).ovr hb _).ovr hb _
theorem DJ(w:B8)(m:Nat)(M:Mem)(R:VP)(hl:w.length<=60)(hm:m<=w.length)
  (h:∀ v' M',Rd M' v' (strs (srt (dO w m (w.length-m+1))))->Sub M M'->R v' M'):ar prog 385 [str w,.int .i64 m] M R:=by
 refine fnT func385 rfl ntmps385 results385 ?_;refine lupS (rlA [] 5 19) (fun x:Nat×Value=>[(6,.int .i64 x.1),(5,x.2)]) (fun x M'=>x.1<=w.length-m+1/\Own M x.2 (strs (dO w m x.1)) M') (fun x=>w.length-m+1-x.1) (0,.slice none 0 0) ⟨by omega,Own.nil _⟩ ?_
 rintro⟨i,v⟩ M' g ⟨hi,ho⟩
 simp only at hi ho;have hln:=gF w m i;by_cases hlt:i<w.length-m+1
 .have hsg:=gp (w:=w) (a:=i) (m:=m);have hsu:=rH w m i;generalize seg w i m=u at *;generalize dO w m i=L at *;simp(disch:=omega)[hsg];intro b' hb';refine sS ?_;refine apT ho ((Sub.refl _).put hb' _) ?_;intro v' M'' N'' ho' hs';refine sS ?_;refine rndM M'' (i+1,v') hs' ⟨by simp only;omega,?_⟩;simp only;rw[hsu,<-cA];exact ho'
 .have hi':i=w.length-m+1:=by omega
  subst hi';generalize dO w m (w.length-m+1)=L at *;refine sS ?_;refine Ik v L M _ _ ho (by omega) (by omega) ?_;intro v' M1 hr hs;refine sS ?_;exact ad (h v' M1 hr hs)
end Go.Proofs.YtapimhjbilkfpaaGreatDoor
namespace Go.Proofs.YtapimhjbilkfpaaGreatDoor
open Go Go.Proofs.Tryz List
theorem r8{L:List Int}{k:Nat}{u:B8}(h:(ints L)[k]?=some (str u)):False:=by
 rw[cR]at h;cases hk:L[k]? with
 | none=>rw[hk]at h;cases h
 | some x=>rw[hk]at h;cases h
theorem Sub.del{M N:Mem}{b:Nat}(h:Sub M N)(hb:M b=none):Sub M (N.del b):=by
 intro i B hi;have hne:i≠b:=by rintro rfl;rw[hb]at hi;cases hi
 simp only[Mem.del,if_neg hne];exact h _ _ hi
theorem Mh(M:Mem)(b:Nat):Sub (M.del b) M:=by
 intro i B hi;by_cases e:i=b
 .simp[Mem.del,e]at hi
 .simpa[Mem.del,e] using hi
theorem L7{M:Mem}{b i k:Nat}(h:i≠b):(M.del b).get? i k=M.get? i k:=by simp[Mem.get?,Mem.del,h]
theorem Ew(w:B8)(M:Mem)(R:VP)(hw:isWord w=true)(h:∀ M',Sub M M'->R (.int .i64 (lB w w.length)) M'):ar prog 398 [str w] M R:=by
 have h60:=au hw;have hall:=aZ hw;refine fnT func398 rfl ntmps398 results398 ?_;refine aR aU (rlA [3,4,5,6,8,9,10,11] 15 65) (fun m:Nat=>[(15,.int .i64 m),(3,.int .i64 (lB w (m-1)))]) (fun m M'=>m<=w.length+1/\Sub M M') (fun m=>w.length+1-m) 0 (by kernel_rfl) (by simp(disch:=omega);rfl) ⟨lZe _,Sub.refl _⟩ ?_
 rintro m N g ⟨hm,hs⟩
 have hbal:=E1 h60 (m-1);by_cases hlt:m<w.length+1
 .have hnext:spr (lB w (m-1)) (loW w m) (hiW w m) 5=lB w (m+1-1):=by
   cases m with
   | zero=>exact O1 w
   | succ m=>rfl
  have hsame:=fun L=>RS (w:=w) (m:=m) (L:=L) (by omega);have hlo:=Kq h60 m;have hhi:=Kl h60 m;have htl:(w.take m).length<=1099511627776:=by rw[lTa];omega
  have hta:(w.take m).all isL=true:=by have:=sT hall 0 m;rw[oQ]at this;exact this
  generalize lB w (m-1)=best at *;refine sS ?_;refine plyS (ai [0,1,2,4,5,6] (.one 3 1 (.one 7 1 (ai [8,9] .fin)))) ?_;refine sS ?_;refine jP (w.take m) _ _ htl hta ?_;intro v1 N1 o1;have q1:=o1.sub;refine sS ?_;refine⟨q1,?_⟩;refine jP (w.take m) _ _ htl hta ?_;intro v2 N2 o2;have q2:=o2.sub;refine sS ?_;refine⟨q2,?_⟩;rw[mh]at o1 o2;obtain⟨b1,c1,rfl,hb1,hc1,rfl⟩:=o1.block;obtain⟨b2,c2,rfl,hb2,hc2,rfl⟩:=o2.block;have sN:=q1.trans q2;have h12:b1≠b2:=by rintro rfl;rw[ae]at hb2;cases hb2
  have hb2':N b2=none:=by rw[al _ _ (Ne.symm h12)]at hb2;exact hb2
  have k1:((N.put b1 (.cells true (ints (vec (cnt (w.take m)))) c1)).put b2 (.cells true (ints (vec (cnt (w.take m)))) c2)) b1=some (.cells true (ints (vec (cnt (w.take m)))) c1):=by rw[al _ _ h12,ae]
  have k2:((N.put b1 (.cells true (ints (vec (cnt (w.take m)))) c1)).put b2 (.cells true (ints (vec (cnt (w.take m)))) c2)) b2=some (.cells true (ints (vec (cnt (w.take m)))) c2):=ae _ _ _;generalize (N.put b1 (.cells true (ints (vec (cnt (w.take m)))) c1)).put b2 (.cells true (ints (vec (cnt (w.take m)))) c2)=N2 at *;clear q1 q2 o1 o2 hb2;have hbase:∀ k,0<=cnt (w.take m) k/\cnt (w.take m) k<=60:=fun k=>jW (by rw[lTa];omega) k;generalize cnt (w.take m)=base at *;refine DJ w m _ _ h60 (by omega) ?_;intro vf N3 hr sF;have hmem:=fun x=>pE (dO w m (w.length-m+1)) x;have hlen:=Qi (dO w m (w.length-m+1));rw[gF]at hlen;obtain⟨elo,ehi⟩:=hsame _ hmem;have hsl:∀ u∈srt (dO w m (w.length-m+1)),u.length<=60/\u.all isL=true:=by
   intro u hu;obtain⟨t,_,rfl⟩:=mem_map.1 ((hmem u).1 hu);refine⟨?_,sT hall t m⟩;unfold seg;rw[lDr,lTa];omega
  generalize srt (dO w m (w.length-m+1))=ss at *;obtain⟨a,c,rfl,ha⟩:=hr.opened;rw[ah]at ha ⊢;have k1':=sF _ _ k1;have k2':=sF _ _ k2;obtain⟨D,hD1,hD2,hDN,hD3,hget⟩:∃ D:Mem,D b1=none/\D b2=none/\Sub N D/\Sub D N3/\∀ i,(hi:i<ss.length)->∃ b o,a=some ⟨b,o,none⟩/\D.get? b (o+i)=some (str ss[i]):=by
   refine⟨(N3.del b1).del b2,by simp[Mem.del],by simp[Mem.del],((sN.trans sF).del hb1).del hb2',(Mh _ _).trans (Mh _ _),?_⟩;intro i hi;rcases ha with hz|⟨b,o,rfl,ha⟩
   .omega
   have hg:=ha i hi;rw[a7,gEl hi]at hg;have n1:b≠b1:=by rintro rfl;rw[ak k1']at hg;exact r8 hg
   have n2:b≠b2:=by rintro rfl;rw[ak k2']at hg;exact r8 hg
   exact⟨b,o,rfl,by rw[L7 n2,L7 n1];exact hg⟩
  refine sS ?_;refine lupS (rlA [8,9,10] 30 32) (fun i:Nat=>[(30,.int .i64 i)]) (fun i M1=>i<=ss.length/\Sub D M1/\M1 b1=some (.cells true (ints (vec (cW mnF base (ss.take i)))) c1)/\M1 b2=some (.cells true (ints (vec (cW mxF base (ss.take i)))) c2)) (fun i=>ss.length-i) 0 ⟨by omega,hD3,k1',k2'⟩ ?_
  rintro i M1 g1 ⟨hi,s1,l1,l2⟩
  have htk:∀ u∈ss.take i,u.length<=60:=fun u hu=>(hsl u (mem_of_mem_take hu)).1;have hlo1:∀ k,0<=cW mnF base (ss.take i) k/\cW mnF base (ss.take i) k<=60:=lF JU hbase htk;have hhi1:∀ k,0<=cW mxF base (ss.take i) k/\cW mxF base (ss.take i) k<=60:=lF KG hbase htk;by_cases hil:i<ss.length
  .obtain⟨b,o,rfl,hg⟩:=hget i hil;have e1:=uh mnF base (ss.take i) ss[i];have e2:=uh mxF base (ss.take i) ss[i];rw[<-aw ss hil]at e1 e2;obtain⟨hu60,hsA⟩:=hsl _ (gMe hil);have hg1:=aT hg s1;generalize ss[i]=u at *;have hcu:=fun k=>jW hu60 k;generalize cW mnF base (ss.take i)=lo at *;generalize cW mxF base (ss.take i)=hi' at *;simp(disch:=omega)[hg1];refine jP u _ _ (by omega) hsA ?_;intro v3 M2 o3;rw[mh]at o3;obtain⟨b3,c3,rfl,hb3,hc3,rfl⟩:=o3.block;have h13:b1≠b3:=by rintro rfl;rw[l1]at hb3;cases hb3
   have h23:b2≠b3:=by rintro rfl;rw[l2]at hb3;cases hb3
   have z1:=o3.sub _ _ l1;have z2:=o3.sub _ _ l2;have z3:=ae M1 b3 (.cells true (ints (vec (cnt u))) c3);have zs:=s1.trans o3.sub;generalize M1.put b3 (.cells true (ints (vec (cnt u))) c3)=M2 at *;clear o3;refine sS ?_;refine lupS (rlA [9,10] 37 24) (fun j:Nat=>[(37,.int .i64 j)]) (fun j M3=>j<=5/\Sub D M3/\M3 b1=some (.cells true (ints (vec (fw mnF lo u j))) c1)/\M3 b2=some (.cells true (ints (vec (fw mxF hi' u j))) c2)/\M3 b3=some (.cells true (ints (vec (cnt u))) c3)) (fun j=>5-j) 0 ⟨by omega,zs,by rw[pA];exact z1,by rw[pA];exact z2,z3⟩ ?_
   rintro j M3 g2 ⟨hj,s3,y1,y2,y3⟩
   by_cases hj5:j<5
   .obtain⟨L1,hL1⟩:∃ x,x=ints (vec (fw mnF lo u (j+1))):=⟨_,rfl⟩;obtain⟨L2,hL2⟩:∃ x,x=ints (vec (fw mxF hi' u (j+1))):=⟨_,rfl⟩;have p1:(ints (vec (fw mnF lo u j))).set j (.int .i64 (if cnt u j<lo j then cnt u j else lo j))=L1:=by rw[hL1];exact xC mnF lo u hj5
    have p2:(ints (vec (fw mxF hi' u j))).set j (.int .i64 (if hi' j<cnt u j then cnt u j else hi' j))=L2:=by rw[hL2];exact xC mxF hi' u hj5
    have t1:=kZ (fw mnF lo u j) hj5;have t2:=kZ (fw mxF hi' u j) hj5;have t3:=kZ (cnt u) hj5;rw[K6]at t1 t2;have r1:=xL (fw mnF lo u j);have r2:=xL (fw mxF hi' u j);have aL:=hlo1 j;have aH:=hhi1 j;have aC:=hcu j;generalize ints (vec (fw mnF lo u j))=V1 at *;generalize ints (vec (fw mxF hi' u j))=V2 at *;generalize ints (vec (cnt u))=V3 at *;generalize cnt u j=x3 at *;generalize lo j=x1 at *;generalize hi' j=x2 at *;simp(disch:=omega)[ak y3,t3];refine plyS (ai [0,1,2,3,4,5,6,7,8,9,10,11,12,13,14,15,16] (.one 17 2 (.light 18 (.one 19 2 .fin)))) ?_;simp(disch:=omega)[ak y1,ak y2,Mo t1,Mo t2,y1,p1]
    try simp only[aj]
    try simp(disch:=omega)[y2,p2]
    refine rndS (j+1) ⟨by omega,(s3.ovr hD2 _).ovr hD1 _,?_,?_,?_⟩
    .rw[<-hL1];exact ae _ _ _
    .rw[al _ _ (Ne.symm h12),<-hL2];exact ae _ _ _
    .rw[al _ _ (Ne.symm h13),aj,al _ _ (Ne.symm h23)];exact y3
   .have hj':j=5:=by omega
    subst hj';refine sS ?_;rw[e1]at y1;rw[e2]at y2;exact rndS (i+1) ⟨by omega,s3,y1,y2⟩
  .have hi':i=ss.length:=by omega
   subst hi';rw[take_length]at l1 l2 hlo1 hhi1;rw[elo]at l1 hlo1;rw[ehi]at l2 hhi1;generalize loW w m=lo at *;generalize hiW w m=hi' at *;refine sS ?_;refine aR aU (rlA [3,11] 64 15) (fun j:Nat=>[(64,.int .i64 j),(3,.int .i64 (spr best lo hi' j))]) (fun j M3=>j<=5/\M3=M1) (fun j=>5-j) 0 (by kernel_rfl) (by simp(disch:=omega);rfl) ⟨by omega,rfl⟩ ?_
   rintro j M3 g2 ⟨hj,rfl⟩
   have hsp:=Et hbal hlo1 hhi1 j;have ess:spr best lo hi' (j+1)=mxF (spr best lo hi' j) (hi' j-lo j):=rfl;unfold mxF at ess;by_cases hj5:j<5
   .generalize spr best lo hi' j=bj at *;have t1:=kZ lo hj5;have t2:=kZ hi' hj5;have a1:=hlo1 j;have a2:=hhi1 j;generalize lo j=x at *;generalize hi' j=y at *;refine sS ?_;refine plyS (ai [0,1,2,3,4,5,6,7,8,9,10,11] .fin) ?_;simp(disch:=omega)[ak l1,ak l2,t1,t2];exact rndA (j+1) (by simp(disch:=omega)[ess]) ⟨by omega,rfl⟩
   .have hj':j=5:=by omega
    subst hj';refine sS ?_;exact rndA (m+1) (by simp(disch:=omega)[hnext]) ⟨by omega,hDN.trans s1|>hs.trans⟩
 .have hm':m=w.length+1:=by omega
  subst hm';refine sS ?_;exact ag (Sub.refl _) (h _ hs)
theorem pU(w:B8)(M:Mem)(R:VP)(hl:w.length<=1099511627776)(h:∀ M',Sub M M'->R (aF (if isWord w then Value.bool (decide (lB w w.length<=1)) else .bool false) (aK w)) M'):ar prog 291 [str w] M R:=by
 refine fnT func291 rfl ntmps291 results291 ?_;refine bg w _ _ hl ?_;unfold aF aK at h;cases hw:isWord w
 .rw[hw]at h;refine sS ?_;exact ad (h _ (Sub.refl _))
 .rw[hw]at h;refine sS ?_;refine xq w _ _ hw ?_;intro M' hs;refine sS ?_;exact ad (h _ hs)
theorem FK(w:B8)(M:Mem)(R:VP)(hl:w.length<=1099511627776)(h:∀ M',Sub M M'->R (aF (if isWord w then Value.bool (decide (lB w w.length<=1)) else .bool false) (aK w)) M'):ar prog 348 [str w] M R:=by
 refine fnT func348 rfl ntmps348 results348 ?_;intro b1 hb1;refine sS ?_;have hs1:=(Sub.refl M).put hb1 (.cells true [str w] 1);refine bA _ _ [w] true (fun _=>True) _ _ (Rd.new rfl (lRf 1)) (gM hl) (by simp) trivial bW (bK _) ?_;rw[dq];unfold aF aK at h;cases hw:isWord w
 .rw[hw]at h;refine sS ?_;exact ad (h _ hs1)
 .rw[hw]at h;refine sS ?_;refine Ew w _ _ hw ?_;intro M' hs;refine sS ?_;exact ad (h _ (hs1.trans hs))
def nB(u:B8):Int:=cnt u 1
def F6(A B:Mem):Prop:=∀ b X,A b=some X->∃ Y,B b=some Y/\(X=Y\/∃ own xs ys tot,X=.cells own xs tot/\Y=.cells own (xs++ys) tot)
theorem F6.rep{A B:Mem}{w:World}(h:F6 A B)(hw:Rep B w):Rep A w:=by
 intro b X hX;obtain⟨Y,hY,e⟩:=h b X hX;have hold:=hw b Y hY;rcases e with rfl|⟨own,xs,ys,tot,rfl,rfl⟩
 .exact hold
 .obtain⟨c,e,fr,h1,h2,⟨zs,h3⟩,h4⟩:=hold;exact⟨c,e,fr,h1,h2,⟨ys++zs,by rw[h3,append_assoc]⟩,h4⟩
theorem F6.owns{A B:Mem}{b:Nat}(h:F6 A B)(ho:owns A b):owns B b:=by
 obtain⟨X,hX,o⟩:=ho;obtain⟨Y,hY,e⟩:=h b X hX;rcases e with rfl|⟨own,xs,ys,tot,rfl,rfl⟩
 .exact⟨_,hY,o⟩
 .exact⟨_,hY,o⟩
theorem Sub.less{A B:Mem}(h:Sub A B):F6 A B:=fun b X hX=>⟨X,h b X hX,.inl rfl⟩
theorem ar.less{P:Program}{f:FuncId}{args:List Value}{M:Mem}{R R':VP}(h:ar P f args M R')(hr:∀ v M',R' v M'->∃ M'',F6 M'' M'/\R v M''):ar P f args M R:=
 ⟨h.1,fun w hw=>(h.2 w hw).mono fun _ _ ⟨v,M',h1,h2,h3,h4⟩=>by
  obtain⟨M'',hl,hR⟩:=hr v M' h4;exact⟨v,M'',h1,hl.rep h2,⟨h3.os,h3.tape,h3.output,h3.size,h3.block,fun b hb=>h3.own b (hl.owns hb)⟩,hR⟩⟩
def Fm(P:Program)(fv:Value)(ss:List B8)(p:B8->Bool):Prop:=
 ∀ u∈ss,∀ M R,(∀ M',Sub M M'->R (.bool (p u)) M')->fO P fv [str u] R M
theorem Cn(v fv:Value)(ss:List B8)(p:B8->Bool)(M:Mem)(R:VP)(hv:Rd M v (strs ss))(hf:Fm prog fv ss p)(hl:ss.length<=1000000)
  (h1:∀(r:Nat) M',Sub M M'->(hr:r<ss.length)->(∀ x∈ss.take r,p x=false)->p ss[r]=true->R (.int .i64 r) M') (h0:∀ M',Sub M M'->(∀ x∈ss,p x=false)->R (.int .i64 (-1)) M'):ar prog 207 [v,fv] M R:=by
 refine fnS func207 rfl ntmps207 results207 ?_;obtain⟨a,c,rfl,ha⟩:=hv.opened;rw[ah]at ha ⊢;refine sS ?_;refine lupS (rlA [4,5] 8 11) (fun i:Nat=>[(8,.int .i64 i)]) (fun i M'=>Sub M M'/\i<=ss.length/\∀ x∈ss.take i,p x=false) (fun i=>ss.length-i) 0 ⟨Sub.refl M,by omega,by simp⟩ ?_
 rintro i M' g ⟨hs,hi,hp⟩
 by_cases hlt:i<ss.length
 .rcases ha with hz|⟨b,o,rfl,ha⟩
  .omega
  have hg:=ha i hlt;rw[a7,gEl hlt]at hg;have hg':=aT hg hs;have hmem:=gMe hlt;have htk:=aw ss hlt;obtain⟨u,hu⟩:∃ u,ss[i]=u:=⟨_,rfl⟩;rw[hu]at hg' hmem htk;simp(disch:=omega)[hg'];refine hf u hmem _ _ ?_;intro M2 s2;cases hpu:p u
  .refine sS ?_;refine rndS (i+1) ⟨hs.trans s2,by omega,?_⟩;rw[htk];intro x hx;rcases mem_append.1 hx with h|h
   .exact hp x h
   .rw[mem_singleton.1 h];exact hpu
  .refine sS ?_;exact ad (h1 i _ (hs.trans s2) hlt hp (by rw[hu];exact hpu))
 .have hi':i=ss.length:=by omega
  subst hi';rw[take_length]at hp;refine sS ?_;exact ad (h0 _ hs hp)
theorem mS(v fv:Value)(ss:List B8)(p:B8->Bool)(M0 M:Mem)(R:VP)(ho:Own M0 v (strs ss) M)(hf:Fm prog fv ss p)(hl:ss.length<=1000000)
  (h:∀ v' M',Own M0 v' (strs (ss.filter fun u=>!p u)) M'->R v' M'):ar prog 325 [v,fv] M R:=by
 have hv:=ho.rd;rcases ho with ⟨rfl,he,rfl⟩|⟨b,c,rfl,hb,hc,rfl⟩
 .have hss:ss=[]:=by
   have:=congrArg length he;rw[ah]at this;exact eq_nil_of_length_eq_zero this
  subst hss;refine fnT func325 rfl ntmps325 results325 ?_;refine Cn _ _ [] p _ _ hv hf (by simp) (fun r M' _ hr=>by simp at hr) ?_;intro M' hs _;refine sS ?_;exact ag hs (h _ _ (Own.nil _))
 .rw[ah]at hc hv ⊢;have hkeep:∀ M',Sub M0 M'->M' b=some (.cells true (strs ss) c)->(∀ x∈ss,p x=false)->∃ M'',F6 M'' M'/\R (.slice (some ⟨b,0,none⟩) ss.length c) M'':=by
   intro M' hs hM hp;have e:ss.filter (fun u=>!p u)=ss:=filter_eq_self.2 fun x hx=>by rw[hp x hx];rfl
   rw[e]at h;refine⟨M0.put b (.cells true (strs ss) c),?_,h _ _ (.inr ⟨b,c,by rw[ah],hb,by rw[ah];exact hc,rfl⟩)⟩;intro i X hX;unfold Mem.put at hX;split at hX
   .rename_i e;subst e;injection hX with hX;subst hX;exact⟨_,hM,.inl rfl⟩
   .exact⟨X,hs _ _ hX,.inl rfl⟩
  refine ar.less (R':=fun v' M'=>(v'=.slice (some ⟨b,0,none⟩) ss.length c/\Sub M0 M'/\M' b=some (.cells true (strs ss) c)/\∀ x∈ss,p x=false) \/
   ∃ L,v'=.slice (some ⟨b,0,none⟩) (ss.filter fun u=>!p u).length c/\Sub M0 M'/\M' b=some (.cells true (strs ((ss.filter fun u=>!p u)++L)) c)) ?_ ?_
  .have hk:=ae M0 b (.cells true (strs ss) c);have hs0:=(Sub.refl M0).put hb (.cells true (strs ss) c);generalize M0.put b (.cells true (strs ss) c)=N at *;refine fnT func325 rfl ntmps325 results325 ?_;refine Cn _ _ ss p _ _ hv hf hl ?_ ?_
   .intro r N1 s1 hr hno hyes;have hr1:¬(r:Int) = -1:=by omega
    have hk1:=s1 _ _ hk;refine sS ?_;refine lupS (rlA [5,6,7] 16 20) (fun x:Nat×Nat×List B8=>[(5,.int .i64 x.1),(6,.int .i64 x.2.1)]) (fun x M'=>x.1<x.2.1/\x.2.1<=ss.length/\x.2.2.length=ss.length/\x.2.2.take x.1=(ss.take x.2.1).filter (fun u=>!p u)/\x.2.2.drop x.2.1=ss.drop x.2.1/\M' b=some (.cells true (strs x.2.2) c)/\Sub M0 M') (fun x=>ss.length-x.2.1) (r,r+1,ss) ⟨by simp only;omega,by simp only;omega,rfl,?_,rfl,hk1,hs0.trans s1⟩ ?_
    .simp only;rw[aw ss hr,filter_append,filter_eq_self.2 (fun x hx=>by rw[hno x hx];rfl)];simp[hyes]
    rintro⟨i,j,L⟩ M' g ⟨hij,hj,hL,htk,hdr,hM,hs⟩
    simp only at hij hj hL htk hdr hM hs;by_cases hlt:j<ss.length
    .have hx:L[j]?=some ss[j]:=by
      have:=congrArg (fun l=>l[0]?) hdr;simp only[getElem?_drop,Nat.add_zero]at this;rw[this,gEl hlt]
     have hg:M'.get? b j=some (str ss[j]):=by rw[ak hM,a7,hx];rfl
     have hmem:=gMe hlt;have htj:=aw ss hlt;have hd2:L.drop (j+1)=ss.drop (j+1):=by rw[<-drop_drop,hdr,drop_drop]
     generalize ss[j]=u at *;simp(disch:=omega)[hg];refine hf u hmem _ _ ?_;intro M2 s2;have hM2:=s2 _ _ hM;cases hpu:p u
     .simp(disch:=omega)[hM2,iH];refine rndS (i+1,j+1,L.set i u) ⟨by simp only;omega,by simp only;omega,by simp only[length_set];omega,?_,?_,?_,(hs.trans s2).set hb _⟩
      .simp only;rw[htj,filter_append,<-htk];have e:[u].filter (fun u=>!p u)=[u]:=by simp[hpu]
       rw[e];have hi:i<(L.set i u).length:=by rw[length_set];omega
       rw[aw _ hi,take_set_of_le (lRf i),getElem_set_self]
      .simp only;rw[drop_set_of_lt (by omega),hd2]
      .simp only;rw[aj];exact ae _ _ _
     .refine sS ?_;refine rndS (i,j+1,L) ⟨by simp only;omega,by simp only;omega,hL,?_,hd2,hM2,hs.trans s2⟩;simp only;rw[htj,filter_append,<-htk];simp[hpu]
    .have hj':j=ss.length:=by omega
     subst hj';rw[take_length]at htk;have hil:i=(ss.filter fun u=>!p u).length:=by rw[<-htk,lTa];omega
     refine sS ?_;obtain⟨d,hd⟩:∃ d,ss.length-i=d+1:=⟨ss.length-i-1,by omega⟩;rw[hd];show Mu (M' b) b i (d+1) (str []) _ M';rw[hM];refine⟨⟨by rw[ah];omega,rfl⟩,?_⟩;have e:(strs L).take i++replicate (d+1) (str [])++(strs L).drop (i+(d+1))=strs ((ss.filter fun u=>!p u)++replicate (d+1) []):=by
      rw[drop_of_length_le (by rw[ah];omega),append_nil,<-htk];simp[strs]
     rw[e,hil];refine sS ?_;exact ad (.inr ⟨rfl,hs.set hb _,_,by rw[aj];exact ae _ _ _⟩)
   .intro N1 s1 hno;refine sS ?_;exact ad (.inl ⟨rfl,hs0.trans s1,s1 _ _ hk,hno⟩)
  .rintro v' M' (⟨rfl,hs,hM,hp⟩|⟨L,rfl,hs,hM⟩)
   .exact hkeep M' hs hM hp
   .have hle:(ss.filter fun u=>!p u).length<=ss.length:=length_filter_le _ _;refine⟨M0.put b (.cells true (strs (ss.filter fun u=>!p u)) c),?_,h _ _ (.inr ⟨b,c,by rw[ah],hb,by rw[ah];omega,rfl⟩)⟩;intro i X hX;unfold Mem.put at hX;split at hX
    .rename_i e;subst e;injection hX with hX;subst hX;exact⟨_,hM,.inr ⟨true,_,strs L,c,rfl,by rw[kR]⟩⟩
    .exact⟨X,hs _ _ hX,.inl rfl⟩
end Go.Proofs.YtapimhjbilkfpaaGreatDoor
