/- Lemmas for FnExactConsole, part 12 of 46. -/
import Derived.Test.YtapimhjbilkfpaaGreatDoorZ10
import Derived.Test.YtapimhjbilkfpaaGreatDoorZ08
import Derived.Test.YtapimhjbilkfpaaGreatDoorZ05
import Derived.Test.YtapimhjbilkfpaaGreatDoorZ04
import Derived.Test.YtapimhjbilkfpaaGreatDoorZ07
import Derived.Lib.Bytealg
import Derived.Test.YtapimhjbilkfpaaGreatDoorZ06
set_option linter.unusedVariables false
set_option linter.unusedSimpArgs false
namespace Go.Proofs.YtapimhjbilkfpaaGreatDoor
open Go Go.Proofs.Tryz Go.RowKit List
def jm(l:List UInt8)(i:Nat):List UInt8:=(range l.length).map fun j=>if j<i\/l.length-i<=j then l.getD (l.length-1-j) 0 else l.getD j 0
theorem ft(l:List UInt8)(i:Nat):(jm l i).length=l.length:=by simp[jm]
theorem iD(l:List UInt8)(i:Nat){j:Nat}(hj:j<l.length):(jm l i)[j]?=some (if j<i\/l.length-i<=j then l.getD (l.length-1-j) 0 else l.getD j 0):=by
 unfold jm;rw[getElem?_map,getElem?_range hj];rfl
theorem H8(l:List UInt8):jm l 0=l:=by
 apply ext_getElem?;intro j;by_cases hj:j<l.length
 ·rw[iD l 0 hj,if_neg (by omega),getD_eq_getElem?_getD,getElem?_eq_getElem hj];rfl
 ·rw[getElem?_eq_none (by rw[ft];omega),getElem?_eq_none (by omega)]
theorem Lm{l:List UInt8}{i:Nat}(h:l.length<=2*i+1):jm l i=l.reverse:=by
 apply ext_getElem?;intro j;by_cases hj:j<l.length
 ·rw[iD l i hj,getElem?_reverse hj];have hk:l.length-1-j<l.length:=by omega
  rw[getElem?_eq_getElem hk];by_cases hc:j<i\/l.length-i<=j
  ·rw[if_pos hc,getD_eq_getElem?_getD,getElem?_eq_getElem hk];rfl
  ·rw[if_neg hc,getD_eq_getElem?_getD,getElem?_eq_getElem hj];have e:l.length-1-j=j:=by omega
   simp only[e,Option.getD_some]
 ·rw[getElem?_eq_none (by rw[ft];omega),getElem?_eq_none (by rw[length_reverse];omega)]
theorem HY{l:List UInt8}{i:Nat}(h:2*i+1<l.length):((jm l i).set i (l.getD (l.length-1-i) 0)).set (l.length-1-i) (l.getD i 0)=jm l (i+1):=by
 apply ext_getElem?;intro j;by_cases hj:j<l.length
 ·rw[getElem?_set,getElem?_set,iD l i hj,iD l (i+1) hj];have hlen:=ft l i;by_cases e1:l.length-1-i=j
  ·rw[if_pos e1,if_pos (by rw[length_set];omega),if_pos (by omega)]
   congr 2
   omega
  ·rw[if_neg e1];by_cases e2:i=j
   ·rw[if_pos e2,if_pos (by omega),if_pos (by omega),e2]
   ·rw[if_neg e2]
    congr 1
    by_cases hc:j<i\/l.length-i<=j
    ·rw[if_pos hc,if_pos (by omega)]
    ·rw[if_neg hc,if_neg (by omega)]
 ·rw[getElem?_eq_none (by rw[length_set,length_set,ft];omega),getElem?_eq_none (by rw[ft];omega)]
theorem Bo{l:List UInt8}{j:Nat}(hj:j<l.length):(av l)[j]?=some (.int .u8 (l.getD j 0).toNat):=by
 unfold av;rw[getElem?_map,getElem?_eq_getElem hj,getD_eq_getElem?_getD,getElem?_eq_getElem hj];rfl
theorem Hx(l:List UInt8)(j:Nat)(u:UInt8):(av l).set j (.int .u8 u.toNat)=av (l.set j u):=by simp[av,map_set]
theorem zL(b c:Nat)(l:List UInt8)(M:Mem)(R:VP)(hM:M b=some (.cells true (av l) c))(hl:l.length<=1000000)(h:R (.tuple #[]) (M.put b (.cells true (av l.reverse) c))):ar prog 311 [.slice (some ⟨b,0,none⟩) l.length c] M R:=by
 refine fnS func311 rfl ntmps311 results311 ?_;simp(disch:=omega);refine lupS [2,3,7,8,9,10,11,12,13,14,15,16,17,18,19,20,21,22,23,24,25,26,27] (fun i:Nat=>[(2,.int .i64 i),(3,.int .i64 ((l.length:Int)-1-i))]) (fun i M'=>2*i<=l.length+1/\M'=M.put b (.cells true (av (jm l i)) c)) (fun i=>l.length+1-i) 0 ⟨by omega,?_⟩ ?_
 ·rw[H8]
  funext i
  by_cases e:i=b
  ·subst e;rw[ag,hM]
  ·rw[ai _ _ e]
 rintro i M' g ⟨hi,rfl⟩
 have hk:(M.put b (.cells true (av (jm l i)) c)) b=some (.cells true (av (jm l i)) c):=ag _ _ _;by_cases hlt:2*i+1<l.length
 ·have hc:(i:Int)<(l.length:Int)-1-i:=by omega
  obtain⟨q,hq⟩:∃ q:Nat,q=l.length-1-i:=⟨_,rfl⟩;have hqi:(l.length:Int)-1-i=q:=by omega
  have hst:=HY hlt;rw[<-hq]at hst;have h1:=Bo (l:=jm l i) (j:=i) (by rw[ft];omega);have h2:=Bo (l:=jm l i) (j:=q) (by rw[ft];omega);have e1:(jm l i).getD i 0=l.getD i 0:=by
   rw[getD_eq_getElem?_getD,iD l i (by omega),if_neg (by omega)];rfl
  have e2:(jm l i).getD q 0=l.getD q 0:=by
   rw[getD_eq_getElem?_getD,iD l i (by omega),if_neg (by omega)];rfl
  rw[e1]at h1;rw[e2]at h2;have hsl:=ft l i;rw[hqi];generalize l.getD i 0=u at *;generalize l.getD q 0=w at *;have hnx:(l.length:Int)-1-((i:Int)+1)=(q:Int)-1:=by omega
  rw[hqi]at hc;simp(disch:=omega)[hc];refine plyS (ak [0,1,2,3,4,5,6,7,8,9,10,11,12] (.one 13 2 (ak [14] (.one 15 2 .fin)))) ?_;simp(disch:=omega)[aj hk,h1,h2,al,Hx,aS];exact rndA (i+1) (by simp(disch:=omega);omega) ⟨by omega,by simp only[a7,hst]⟩
 ·have hc:¬(i:Int)<(l.length:Int)-1-i:=by omega
  rw[Lm (by omega)];simp(disch:=omega)[hc];exact ad h
theorem j8(l:List UInt8)(M:Mem)(R:VP)(hl:l.length<=1000000)(h:R (str l.reverse) M):ar prog 225 [str l] M R:=by
 refine fnS func225 rfl ntmps225 results225 ?_;simp(disch:=omega);intro b c hb hc;rw[aS]at hc;simp(disch:=omega);refine zL b c l _ _ (ag _ _ _) hl ?_;rw[a7];have hk:(M.put b (.cells true (av l.reverse) c)) b=some (.cells true (av l.reverse) c):=ag _ _ _;have ht:(av l.reverse).take l.length=av l.reverse:=take_of_length_le (by rw[aS,length_reverse];omega);simp(disch:=omega)[aq hk,ht];exact ae ((Sub.refl M).put hb _) h
theorem iX(l:List UInt8)(M:Mem)(R:VP)(hl:l.length<=1000000)(h:R (.bool (ca l)) M):ar prog 335 [str l] M R:=by
 unfold ca at h;refine fnS func335 rfl ntmps335 results335 ?_;simp(disch:=omega);refine j8 l _ _ hl ?_;simp(disch:=omega);exact ad h
theorem E6(w:List UInt8)(M:Mem)(R:VP)(hl:w.length<=60)(h:R (.int .i64 ((w.length:Int)-(Dp w:Nat))) M):ar prog 312 [str w] M R:=by
 refine fnS func312 rfl ntmps312 results312 ?_;simp(disch:=omega);refine lupS [3,4,5,6,7,8,9,10] (fun i:Nat=>[(3,.int .i64 i)]) (fun i M'=>M'=M/\i<=w.length/\∀ j,j<i->ca (w.drop j)=false) (fun i=>w.length+1-i) 0 ⟨rfl,by omega,fun j hj=>by omega⟩ ?_
 rintro i M' g ⟨rfl,hi,hno⟩
 simp(disch:=omega);refine iX (w.drop i) _ _ (by rw[length_drop];omega) ?_;cases hp:ca (w.drop i)
 ·have hlt:i<w.length:=by
   rcases Nat.lt_or_ge i w.length with hh|hh
   ·exact hh
   ·rw[drop_of_length_le hh]at hp;cases hp
  simp(disch:=omega);refine rndS (i+1) ⟨rfl,by omega,fun j hj=>?_⟩;by_cases e:j=i
  ·rw[e,hp]
  ·exact hno j (by omega)
 ·rw[Jq hi hp hno]at h;simp(disch:=omega);exact ad h
theorem Cc(w:List UInt8)(M:Mem)(R:VP)(hl:w.length<=60)(h:R (str (lQ w)) M):ar prog 226 [str w] M R:=by
 have he:=Jk w;unfold lQ at h;refine fnS func226 rfl ntmps226 results226 ?_;simp(disch:=omega);refine E6 w _ _ hl ?_;obtain⟨i,hi⟩:∃ i,i=Dp w:=⟨_,rfl⟩;rw[<-hi]at h he ⊢;have e1:((w.length:Int)-((w.length:Int)-i))=i:=by omega
 simp(disch:=omega)[e1];refine j8 (w.take i) _ _ (by rw[length_take];omega) ?_;simp(disch:=omega);exact ad h
theorem Ci(w:List UInt8)(M:Mem)(R:VP)(hl:w.length<=60)(h:∀ v M',Own M v (ints (cy w)) M'->R v M'):ar prog 329 [str w] M R:=by
 refine fnS func329 rfl ntmps329 results329 ?_;simp(disch:=omega);refine lupS [3,4,5,6,7,8,9,10,11,12,13,14,15,16,17] (fun x:Nat×Value=>[(4,.int .i64 ((x.1:Int)+1)),(3,x.2)]) (fun x M'=>x.1<=w.length/\Own M x.2 (ints (jx w x.1)) M') (fun x=>w.length-x.1) (0,.slice none 0 0) ⟨by omega,Own.nil M⟩ ?_
 rintro⟨i,v⟩ M' g ⟨hi,ho⟩
 simp only at hi ho;have hpl:=tW w i;by_cases hlt:i<w.length
 ·have hs:=xK w i;simp(disch:=omega);refine fJ w (i+1) _ (by omega) _ _ hl (by omega) ?_;generalize jx w i=L at *;cases hp:hp w (i+1)
  ·rw[hp,if_neg (by decide),append_nil]at hs;simp(disch:=omega);refine rndS (i+1,v) ⟨by simp only;omega,?_⟩;simp only;rw[hs];exact ho
  ·rw[hp,if_pos rfl]at hs;simp(disch:=omega);intro b' hb';simp(disch:=omega);refine aN ho ((Sub.refl _).put hb' _) (by simp(disch:=omega);rfl) rfl rfl (by omega) (by simp(disch:=omega)) (by simp(disch:=omega);omega) ?_;intro v' M'' N'' ho' hs';simp(disch:=omega);refine rndM M'' (i+1,v') hs' ⟨by simp only;omega,?_⟩;simp only;rw[hs,<-cw];exact ho'
 ·have hi':i=w.length:=by omega
  subst hi';simp(disch:=omega);exact ad (h v M' ho)
theorem jC(w:List UInt8)(M:Mem)(R:VP)(hl:w.length<=60)(h1:1<=w.length)(hle:1<=cB w->cB w<=w.length->R (.int .i64 (cB w:Nat)) M):ar prog 317 [str w] M R:=by
 refine fnS func317 rfl ntmps317 results317 ?_;simp(disch:=omega);refine lupS [3,4,5,6,7,8,9] (fun p:Nat=>[(3,.int .i64 ((p:Int)+1))]) (fun p M'=>M'=M/\p<w.length/\∀ q,1<=q->q<p+1->hp w q=false) (fun p=>w.length-p) 0 ⟨rfl,by omega,fun q h1 h2=>by omega⟩ ?_
 rintro p M' g ⟨rfl,hi,hno⟩
 simp(disch:=omega);refine fJ w (p+1) _ (by omega) _ _ hl (by omega) ?_;cases hp':hp w (p+1)
 ·have hlt:p+1<w.length:=by
   rcases Nat.lt_or_ge (p+1) w.length with hh|hh
   ·exact hh
   ·have e:p+1=w.length:=by omega
    rw[e,Hg]at hp';cases hp'
  simp(disch:=omega);refine rndS (p+1) ⟨rfl,by omega,fun q h1 h2=>?_⟩;by_cases e:q=p+1
  ·rw[e,hp']
  ·exact hno q h1 (by omega)
 ·have e:=Kh (by omega) (by omega) hp' hno;rw[e]at hle;have:=hle (by omega) (by omega);simp(disch:=omega);exact ad this
theorem Ml(w:List UInt8)(M:Mem)(R:VP)(hl:w.length<=60)(h1:1<=w.length)(h:1<=(eh w).length->(eh w).length<=60->R (str (eh w)) M):ar prog 330 [str w] M R:=by
 unfold eh at h;refine fnS func330 rfl ntmps330 results330 ?_;simp(disch:=omega);refine jC w _ _ hl h1 ?_;intro hp1 hp2;generalize cB w=p at *;have e:((w.length:Int).tmod (p:Int)=0)↔w.length%p=0:=by
  rw[Int.tmod_eq_emod_of_nonneg (by omega)];omega
 have hp0:¬(p:Int)=0:=by omega
 by_cases hd:w.length%p=0
 ·have hd':=e.2 hd;rw[if_pos hd,length_take]at h;simp(disch:=omega)[hd'];exact ad (h (by omega) (by omega))
 ·have hd':¬(w.length:Int).tmod (p:Int)=0:=fun q=>hd (e.1 q);rw[if_neg hd]at h;simp(disch:=omega);exact ad (h (by omega) hl)
theorem gO(w:List UInt8)(k:Nat)(M:Mem)(R:VP)(hl:w.length<=60)(hk:k<=1000)(h:R (str (dD w k)) M):ar prog 155 [str w,.int .i64 k] M R:=by
 have e:Lib.repeatL w k=dD w k:=by
  unfold dD;clear h hk
  induction k with
  | zero=>rfl
  | succ k ih=>rw[Lib.repeatL,ih,replicate_succ,flatten_cons]
 refine dk (str (dD w k)) ⟨_,func155,by kernel_rfl,by kernel_rfl⟩ (fun W hW=>?_) h;rw[<-e];refine Tryz.strings_Repeat ⟨⟨w⟩⟩ k W (by omega) ?_;have hs:(⟨⟨w⟩⟩:ByteArray).size=w.length:=rfl;rw[hs];have:w.length*k<=60*1000:=Nat.mul_le_mul hl hk;omega
theorem fa(w:List UInt8)(M:Mem)(R:VP)(hl:w.length<=1099511627776)(h:∀ M',Sub M M'->R (.int .i64 (cg w)) M'):ar prog 315 [str w] M R:=by
 refine fnS func315 rfl ntmps315 results315 ?_;simp(disch:=omega);intro b1 hb1;simp(disch:=omega);have hs1:Sub M (M.put b1 (.cells true [str w] 1)):=(Sub.refl _).put hb1 _;refine bq _ _ [w] true (fun _=>True) _ _ (Rd.new rfl (Nat.le_refl 1)) (fM hl) (by simp) trivial bT (bG _) ?_;rw[cV];unfold cg at h;cases hw:isWord w
 ·rw[hw]at h;simp(disch:=omega);exact ad (h _ hs1)
 ·rw[hw]at h;by_cases h0:w=[]
  ·rw[if_pos rfl,if_pos h0]at h;subst h0;simp(disch:=omega);exact ad (h _ hs1)
  ·rw[if_pos rfl,if_neg h0]at h;have he:(w==[])=false:=jn h0;have he2:w.isEmpty=false:=by cases w with
    | nil=>exact absurd rfl h0
    | cons a l=>rfl
   simp(disch:=omega)[he];exact ad (h _ hs1)
theorem F1(w:List UInt8)(M:Mem)(R:VP)(hl:w.length<=1099511627776)(h:∀ M',Sub M M'->R (.tuple #[str (l0 w),.int .i64 (pa w),.int .i64 (cg w)]) M'):ar prog 237 [str w] M R:=by
 unfold l0 pa at h;refine fnS func237 rfl ntmps237 results237 ?_;simp(disch:=omega);refine fa w _ _ hl ?_;intro M1 s1;by_cases hc:cg w=0
 ·rw[if_pos hc,if_pos hc,hc]at h;rw[hc];have hw:isWord w=true/\w≠[]:=by
   unfold cg at hc;split at hc
   ·rename_i hw;split at hc
    ·cases hc
    ·rename_i h0;exact⟨hw,h0⟩
   ·cases hc
  have h60:=au hw.1;have h1:1<=w.length:=by
   cases w with
   | nil=>exact absurd rfl hw.2
   | cons a l=>simp
  simp(disch:=omega);refine Ml w _ _ h60 h1 ?_;intro r1 r2;have hr0:¬((eh w).length:Int)=0:=by omega
  have ed:((w.length:Int).tdiv ((eh w).length:Int))=((w.length/(eh w).length:Nat):Int):=by
   rw[Int.tdiv_eq_ediv_of_nonneg (by omega)];rfl
  have eb:(w.length/(eh w).length)<=60:=Nat.le_trans (Nat.div_le_self _ _) h60;generalize eh w=r at *;generalize w.length/r.length=q at *;simp(disch:=omega);refine plyS (ak [0,1,2,3,4,5,6,7,8] .fin) ?_;simp(disch:=omega);refine aU (a:=[]) (c:=[]) (bV w _ _ hl ⟨rfl,rfl⟩) ?_;simp(disch:=omega);refine aU (a:=[]) (c:=[]) (bV r _ _ (by omega) ⟨rfl,rfl⟩) ?_;have hrn:¬ r=[]:=by intro e;rw[e]at r1;simp at r1
  simp(disch:=omega)[hrn,ed];exact ad (h _ s1)
 ·rw[if_neg hc,if_neg hc]at h;generalize cg w=c at *;simp(disch:=omega);exact ad (h _ s1)
theorem xS(w:List UInt8)(M:Mem)(R:VP)(hl:w.length<=1099511627776)(h:∀ M',Sub M M'->R (aD (str (if isWord w then w.reverse else [])) (aJ w)) M'):ar prog 156 [str w] M R:=by
 refine fnS func156 rfl ntmps156 results156 ?_;simp(disch:=omega);intro b1 hb1;simp(disch:=omega);have hs1:Sub M (M.put b1 (.cells true [str w] 1)):=(Sub.refl _).put hb1 _;refine bq _ _ [w] true (fun _=>True) _ _ (Rd.new rfl (Nat.le_refl 1)) (fM hl) (by simp) trivial bT (bG _) ?_;rw[cV];unfold aD aJ at h;cases hw:isWord w
 ·rw[hw]at h;simp(disch:=omega);exact ad (h _ hs1)
 ·rw[hw]at h;have h60:=au hw;simp(disch:=omega);refine j8 w _ _ (by omega) ?_;simp(disch:=omega);exact ad (h _ hs1)
theorem nN(w:List UInt8)(M:Mem)(R:VP)(hl:w.length<=1099511627776)(h:Lst (aJ w) (ints (if isWord w then cy w else [])) M R):ar prog 235 [str w] M R:=by
 refine fnS func235 rfl ntmps235 results235 ?_;simp(disch:=omega);intro b1 hb1;simp(disch:=omega);have hs1:Sub M (M.put b1 (.cells true [str w] 1)):=(Sub.refl _).put hb1 _;refine bq _ _ [w] true (fun _=>True) _ _ (Rd.new rfl (Nat.le_refl 1)) (fM hl) (by simp) trivial bT (bG _) ?_;rw[cV];unfold aJ at h;cases hw:isWord w
 ·rw[hw]at h;simp(disch:=omega);exact ae hs1 (h _ _ (Own.nil M))
 ·rw[hw,if_pos rfl,if_pos rfl]at h;have h60:=au hw;simp(disch:=omega);refine Ci w _ _ h60 ?_;intro v M1 o1;obtain⟨M2,o2,s2⟩:=o1.base hs1;simp(disch:=omega);exact ae s2 (h _ _ o2)
theorem zy(w:List UInt8)(M:Mem)(R:VP)(hl:w.length<=1099511627776)(h:∀ M',Sub M M'->R (aD (str (ph w)) (pq w)) M'):ar prog 157 [str w] M R:=by
 refine fnS func157 rfl ntmps157 results157 ?_;simp(disch:=omega);intro b1 hb1;simp(disch:=omega);have hs1:Sub M (M.put b1 (.cells true [str w] 1)):=(Sub.refl _).put hb1 _;refine bq _ _ [w] true (fun _=>True) _ _ (Rd.new rfl (Nat.le_refl 1)) (fM hl) (by simp) trivial bT (bG _) ?_;rw[cV];unfold aD ph pq at h;cases hw:isWord w
 ·rw[hw]at h;simp(disch:=omega);exact ad (h _ hs1)
 ·rw[hw,if_pos rfl,if_pos rfl]at h;have h60:=au hw;have hcl:=AU w;simp(disch:=omega);refine Cc w _ _ h60 ?_;generalize lQ w=u at *;by_cases hbig:u.length<=60
  ·have hb':¬(60:Int)<u.length:=by omega
   rw[if_pos hbig,if_pos hbig]at h;simp(disch:=omega)[hb'];exact ad (h _ hs1)
  ·have hb':(60:Int)<u.length:=by omega
   rw[if_neg hbig,if_neg hbig]at h;simp(disch:=omega)[hb'];exact ad (h _ hs1)
end Go.Proofs.YtapimhjbilkfpaaGreatDoor
namespace Go.Proofs.YtapimhjbilkfpaaGreatDoor
open Go Go.Proofs.Tryz List
def RX(w u:List UInt8):Int:=if isWord w&&isWord u then 0 else 1
def mh(w u:List UInt8):Int:=if isWord w&&isWord u then (if 60<(w++u).length then 3 else 0) else 1
def lU(w u:List UInt8):List UInt8:=if isWord w&&isWord u then (if 60<(w++u).length then [] else w++u) else []
theorem Qr(w u:List UInt8):codeOf [w,u] true=RX w u:=by
 unfold RX codeOf;simp
theorem SB{w u:List UInt8}(hw:w.length<=1099511627776)(hu:u.length<=1099511627776):df [w,u]:=by
 intro x hx;simp only[mem_cons,not_mem_nil,or_false]at hx;rcases hx with rfl|rfl
 ·exact hw
 ·exact hu
theorem lq{L:List UInt8}{j:Nat}{v:UInt8}(h:L[j]?=some v)(hj:j<L.length):L[j]=v:=by
 rw[getElem?_eq_getElem hj]at h;injection h
theorem zB(w u:List UInt8)(M:Mem)(R:VP)(hw:w.length<=1099511627776)(hu:u.length<=1099511627776)(h:∀ M',Sub M M'->R (aD (str (lU w u)) (mh w u)) M'):ar prog 148 [str w,str u] M R:=by
 unfold aD lU mh at h;refine fnS func148 rfl ntmps148 results148 ?_;simp(disch:=omega);intro b1 hb1;simp(disch:=omega);have hs1:Sub M (M.put b1 (.cells true [str w,str u] 2)):=(Sub.refl _).put hb1 _;refine bq _ _ [w,u] true (fun _=>True) _ _ (Rd.new rfl (Nat.le_refl 2)) (SB hw hu) (by simp) trivial bT (bG _) ?_;rw[Qr];unfold RX;cases hb:isWord w&&isWord u
 ·rw[hb]at h;simp(disch:=omega);exact ad (h _ hs1)
 ·rw[hb,if_pos rfl,if_pos rfl]at h;by_cases hl:60<(w++u).length
  ·rw[if_pos hl,if_pos hl]at h;have hl':(60:Int)<(w.length:Int)+u.length:=by rw[length_append]at hl;omega
   simp(disch:=omega)[hl'];exact ad (h _ hs1)
  ·rw[if_neg hl,if_neg hl]at h;have hl':¬(60:Int)<(w.length:Int)+u.length:=by rw[length_append]at hl;omega
   simp(disch:=omega)[hl'];exact ad (h _ hs1)
theorem CJ(w:List UInt8)(M:Mem)(R:VP)(hw:w.length<=9007199254740992)(h:R (aD (str (if 60<w.length then [] else w)) (if 60<w.length then 3 else 0)) M):ar prog 177 [str w] M R:=by
 unfold aD at h;refine fnS func177 rfl ntmps177 results177 ?_;by_cases hl:60<w.length
 ·rw[if_pos hl,if_pos hl]at h;have hl':(60:Int)<(w.length:Nat):=by omega
  simp(disch:=omega)[hl'];exact ad h
 ·rw[if_neg hl,if_neg hl]at h;have hl':¬(60:Int)<(w.length:Nat):=by omega
  simp(disch:=omega)[hl'];exact ad h
theorem yu(w u:List UInt8)(M:Mem)(R:VP)(hw:w.length<=1099511627776)(hu:u.length<=1099511627776)(h:R (aD (str (lU w u)) (mh w u)) M):ar prog 109 [str w,str u] M R:=by
 unfold aD lU mh at h;refine fnS func109 rfl ntmps109 results109 ?_;simp(disch:=omega);refine ba w _ _ hw ?_;cases h1:isWord w
 ·rw[h1]at h;simp(disch:=omega);exact ad h
 ·rw[h1,Bool.true_and]at h;simp(disch:=omega);refine ba u _ _ hu ?_;cases h2:isWord u
  ·rw[h2]at h;simp(disch:=omega);exact ad h
  ·rw[h2,if_pos rfl,if_pos rfl]at h;simp(disch:=omega);refine CJ (w++u) _ _ (by rw[length_append];omega) ?_;rw[length_append]at h ⊢;simp(disch:=omega)[aD];exact ad h
theorem kQ(l:List UInt8)(M:Mem)(R:VP)(hl:l.length<=1000000)(h:∀ M',Sub M M'->R (str l.reverse) M'):ar prog 179 [str l] M R:=by
 refine fnS func179 rfl ntmps179 results179 ?_;simp(disch:=omega);intro b0 hb0;have o0:Own M (.slice (some ⟨b0,0,none⟩) 0 0) (av []) (M.put b0 (.cells true [] 0)):=Own.new hb0 rfl (Nat.le_refl 0);simp(disch:=omega);generalize M.put b0 (.cells true [] 0)=N0 at *;generalize Value.slice (some ⟨b0,0,none⟩) 0 0=v0 at *;refine lupS [3,4,9,10,11,12,13,14,15,16,17,18] (fun x:Nat×Value=>[(4,.int .i64 ((l.length:Int)-1-x.1)),(3,x.2)]) (fun x M'=>x.1<=l.length/\Own M x.2 (av (l.reverse.take x.1)) M') (fun x=>l.length-x.1) (0,v0) ⟨by omega,by rw[take_zero];exact o0⟩ ?_
 rintro⟨j,v⟩ M' g ⟨hj,ho⟩
 simp only at hj ho;by_cases hlt:j<l.length
 ·have hlr:j<l.reverse.length:=by rw[length_reverse];exact hlt
  have htk:=az l.reverse hlr;have hge:(0:Int)<=(l.length:Int)-1-j:=by omega
  obtain⟨q,hq⟩:∃ q:Nat,(l.length:Int)-1-j=q:=⟨l.length-1-j,by omega⟩;have hx:l[q]?=some l.reverse[j]:=by
   rw[getElem_reverse,getElem?_eq_getElem (by omega)]
   congr 1
   congr 1
   omega
  have hlen:(l.reverse.take j).length=j:=by rw[length_take,length_reverse];omega
  have hq0:(0:Int)<=q:=by omega
  have hqn:(q:Int)-1=(l.length:Int)-1-((j+1:Nat):Int):=by omega
  generalize l.reverse[j]=y at *;simp(disch:=omega)[hq,lq hx];intro b' hb';simp(disch:=omega);refine aN ho ((Sub.refl _).put hb' _) (by simp(disch:=omega);rfl) rfl rfl (by omega) (by simp(disch:=omega)) (by simp(disch:=omega);omega) ?_;intro v' M'' N'' ho' hs';simp(disch:=omega);refine rndB M'' (j+1,v') hs' (by simp(disch:=omega);omega) ⟨by simp only;omega,?_⟩;simp only;rw[htk,<-lD];exact ho'
 ·have hj':j=l.length:=by omega
  subst hj';have hge:¬(0:Int)<=(l.length:Int)-1-l.length:=by omega
  rw[take_of_length_le (by rw[length_reverse];exact Nat.le_refl _)]at ho;have hs:=ho.sub;rcases ho with ⟨rfl,he,rfl⟩|⟨b2,c2,rfl,hM,hc,rfl⟩
  ·have e0:l.reverse=[]:=by cases hr:l.reverse<;>simp[hr,av]at he ⊢
   rw[e0]at h;simp(disch:=omega);exact ad (h _ (Sub.refl _))
  ·have htk:take l.reverse.length (av l.reverse)=av l.reverse:=take_of_length_le (by rw[aS];exact Nat.le_refl _);have htk2:take l.length (av l.reverse)=av l.reverse:=take_of_length_le (by rw[aS,length_reverse];exact Nat.le_refl _);simp(disch:=omega)[htk2,mE];exact ad (h _ hs)
end Go.Proofs.YtapimhjbilkfpaaGreatDoor
namespace Go.Proofs.YtapimhjbilkfpaaGreatDoor
open Go Go.Proofs.Tryz Go.RowKit List
def zM(w:List UInt8)(k:Int):Int:=if isWord w then (if 0<=k/\k<=w.length then 0 else 2) else 1
def vM(w:List UInt8)(k:Int):List UInt8:=if isWord w then (if 0<=k/\k<=w.length then w.drop k.toNat++w.take k.toNat else []) else []
theorem A1(b:Nat)(v:Value):nd (fun M':Mem=>M'.get? b 0=some v):=by
 intro N b' B hG hb;have:b≠b':=by rintro rfl;unfold Mem.get? at hG;rw[hb]at hG;cases hG
 unfold Mem.get? at *;rw[ai _ _ this];exact hG
theorem Lg{F G:Mem->Prop}(hF:nd F)(hG:nd G):nd (fun M'=>F M'/\G M'):=fun N b B h hb=>⟨hF N b B h.1 hb,hG N b B h.2 hb⟩
theorem nE(w:List UInt8)(k:Nat)(M:Mem)(R:VP)(hw:w.length<=1000)(hk:k<=w.length)(h:R (str (w.drop k++w.take k)) M):ar prog 120 [str w,.int .i64 k] M R:=by
 refine fnS func120 rfl ntmps120 results120 ?_;refine drwS ?_;have hll:(w.drop k).length+(w.take k).length<=1000:=by rw[length_drop,length_take];omega
 simp(disch:=omega);exact ad h
theorem oY(w:List UInt8)(k:Int)(M:Mem)(R:VP)(hw:w.length<=1099511627776)(h:R (aD (str (vM w k)) (zM w k)) M):ar prog 66 [str w,.int .i64 k] M R:=by
 unfold aD vM zM at h;refine fnS func66 rfl ntmps66 results66 ?_;simp(disch:=omega);refine ba w _ _ hw ?_;cases h1:isWord w
 ·rw[h1]at h;simp(disch:=omega);exact ad h
 ·rw[h1,if_pos rfl,if_pos rfl]at h;simp(disch:=omega);refine bZ k 0 w.length _ _ ?_;by_cases h2:0<=k/\k<=(w.length:Int)
  ·rw[if_pos h2,if_pos h2]at h;rw[decide_eq_true h2];obtain⟨k,rfl⟩:∃ j:Nat,k=j:=⟨k.toNat,by omega⟩;rw[Int.toNat_natCast]at h;simp(disch:=omega);refine nE w k _ _ (by have:=au h1;omega) (by omega) ?_;simp(disch:=omega);exact ad h
  ·rw[if_neg h2,if_neg h2]at h;rw[decide_eq_false h2];simp(disch:=omega);exact ad h
theorem po(w:List UInt8)(k:Int)(M:Mem)(R:VP)(hw:w.length<=1099511627776)(h:∀ M',Sub M M'->R (aD (str (vM w k)) (zM w k)) M'):ar prog 107 [str w,.int .i64 k] M R:=by
 unfold aD vM zM at h;refine fnS func107 rfl ntmps107 results107 ?_;simp(disch:=omega);intro b2 hb2;simp(disch:=omega);intro b3 hb3;simp(disch:=omega);have s2:=(Sub.refl M).put hb2 (.cells true [str w] 1);have s3:=(Sub.refl _).put hb3 (.cells true [.int .i64 k] 1);have k2:=s3 _ _ (ag M b2 (.cells true [str w] 1));have k3:=ag (M.put b2 (.cells true [str w] 1)) b3 (.cells true [.int .i64 k] 1);have hs:=s2.trans s3;generalize (M.put b2 (.cells true [str w] 1)).put b3 (.cells true [.int .i64 k] 1)=N at *
 try simp(disch:=omega)[aj k2]
 intro b6 hb6;simp(disch:=omega);have s6:=(Sub.refl N).put hb6 (.cells true [str w] 1);have g2:=aj (s6 _ _ k2) 0;have g3:=aj (s6 _ _ k3) 0;refine bq _ _ [w] (decide (0<=k/\k<=(w.length:Int))) (fun M':Mem=>M'.get? b2 0=some (str w)/\M'.get? b3 0=some (.int .i64 k)) _ _ (Rd.new rfl (Nat.le_refl 1)) (fM hw) (by simp) ⟨g2,g3⟩ (Lg (A1 _ _) (A1 _ _)) ?_ ?_
 ·intro K R' hG hR';obtain⟨h2,h3⟩:=hG;simp(disch:=omega);refine fnS func175 rfl ntmps175 results175 ?_;simp(disch:=omega);refine drwS ?_;simp(disch:=omega)[h2,h3];refine aU (a:=[]) (c:=[]) (bV w _ _ hw ⟨rfl,rfl⟩) ?_;simp(disch:=omega);refine aU (a:=[]) (c:=[]) (bE _ _ _ _ _ ⟨rfl,rfl⟩) ?_;simp(disch:=omega);exact ad (by simpa using hR')
 ·rw[cV];have hs6:=hs.trans s6;cases h1:isWord w
  ·rw[h1]at h;simp(disch:=omega);exact ad (h _ hs6)
  ·rw[h1,if_pos rfl,if_pos rfl]at h;by_cases hk:0<=k/\k<=(w.length:Int)
   ·rw[if_pos hk,if_pos hk]at h;rw[decide_eq_true hk];have h60:=au h1;obtain⟨k,rfl⟩:∃ j:Nat,k=j:=⟨k.toNat,by omega⟩;rw[Int.toNat_natCast]at h;have l2:=s6 _ _ k2;have l3:=s6 _ _ k3;have hll:(w.drop k).length+(w.take k).length<=1000:=by rw[length_drop,length_take];omega
    generalize N.put b6 (.cells true [str w] 1)=N6 at *;simp(disch:=omega);refine drwS ?_;simp(disch:=omega)[aj l2,aj l3];exact ad (h _ hs6)
   ·rw[if_neg hk,if_neg hk]at h;rw[decide_eq_false hk];simp(disch:=omega);exact ad (h _ hs6)
end Go.Proofs.YtapimhjbilkfpaaGreatDoor
namespace Go.Proofs.YtapimhjbilkfpaaGreatDoor
open Go Go.Proofs.Tryz List
theorem dd{l:List UInt8}(h1:l.length<=60)(h2:l.all isL=true):isWord l=true:=by
 unfold isWord;rw[h2,Bool.and_true];exact decide_eq_true h1
theorem OQ{w u:List UInt8}(hw:isWord w=true)(hu:isWord u=true)(hl:(w++u).length<=60):isWord (w++u)=true:=
 dd hl (by rw[all_append,aV hw,aV hu];rfl)
theorem Pu{L:List UInt8}{j:Nat}{v:UInt8}(h:L[j]?=some v)(hj:j<L.length):L[j]=v:=by
 rw[getElem?_eq_getElem hj]at h;injection h
def fN(l:List UInt8)(c:UInt8):Nat->List (List UInt8)×Nat
 | 0=>([],0)
 | i+1=>if l.getD i 0=c then ((fN l c i).1++[(l.take i).drop (fN l c i).2],i+1) else fN l c i
def Ez(l:List UInt8)(c:UInt8):List (List UInt8):=(fN l c l.length).1++[l.drop (fN l c l.length).2]
theorem wJ(l:List UInt8)(c:UInt8):∀ i,(fN l c i).2<=i/\(fN l c i).1.length<=i
 | 0=>⟨Nat.le_refl 0,Nat.le_refl 0⟩
 | i+1=>by
  have ih:=wJ l c i;unfold fN;split
  ·rw[length_append,length_singleton];exact⟨Nat.le_refl _,by omega⟩
  ·exact⟨by omega,by omega⟩
theorem yM(l:List UInt8)(c:UInt8):∀ i,∀ w∈(fN l c i).1,w.length<=l.length
 | 0,w,h=>by cases h
 | i+1,w,h=>by
  unfold fN at h;split at h
  ·rcases List.mem_append.1 h with h|h
   ·exact yM l c i w h
   ·rw[List.mem_singleton.1 h,length_drop,length_take];omega
  ·exact yM l c i w h
theorem On(l:List UInt8)(c:UInt8):1<=(Ez l c).length/\(Ez l c).length<=l.length+1/\∀ w∈Ez l c,w.length<=l.length:=by
 unfold Ez;have h:=wJ l c l.length;rw[length_append,length_singleton];refine⟨by omega,by omega,fun w hw=>?_⟩;rcases List.mem_append.1 hw with hw|hw
 ·exact yM l c _ w hw
 ·rw[List.mem_singleton.1 hw,length_drop];omega
theorem p5(l:List UInt8)(c:UInt8)(M:Mem)(R:VP)(hl:l.length<=1099511627776)(h:∀ v M',Own M v (strs (Ez l c)) M'->R v M'):ar prog 51 [str l,.int .u8 c.toNat] M R:=by
 refine fnS func51 rfl ntmps51 results51 ?_;simp(disch:=omega);intro b0 hb0;simp(disch:=omega);refine aQ aR [5,6,7,9,10,11,12,13,14,15,16,17,18,19,20,21,22,23,24,25,26,27,28] (fun x:Nat×Value=>[(7,.int .i64 x.1),(6,.int .i64 ((fN l c x.1).2:Nat)),(5,x.2)]) (fun x M'=>x.1<=l.length/\Own M x.2 (strs (fN l c x.1).1) M') (fun x=>l.length-x.1) (0,.slice (some ⟨b0,0,none⟩) 0 0) (by kernel_rfl) (by simp(disch:=omega);rfl) ⟨Nat.zero_le _,Own.new hb0 rfl (Nat.le_refl 0)⟩ ?_
 rintro⟨i,v⟩ M1 g ⟨hi,ho⟩
 simp only at hi ho;have hat:=wJ l c i;by_cases hlt:i<l.length
 ·have hx:l[i]?=some l[i]:=getElem?_eq_getElem hlt;have e:fN l c (i+1)=if l.getD i 0=c then ((fN l c i).1++[(l.take i).drop (fN l c i).2],i+1) else fN l c i:=rfl
  have hd:l.getD i 0=l[i]:=by rw[getD_eq_getElem?_getD,hx];rfl
  rw[hd]at e;have hu:=l[i].toNat_lt;have hc:=c.toNat_lt;generalize l[i]=u at *;generalize fN l c i=P at *;obtain⟨P1,P2⟩:=P;simp only at hat ho e;have hq:((u.toNat:Int)==(c.toNat:Int))=decide (u=c):=by
   rw[Bool.eq_iff_iff,beq_iff_eq,decide_eq_true_eq];constructor
   ·intro h;exact UInt8.toNat_inj.1 (by omega)
   ·rintro rfl;rfl
  by_cases huc:u=c
  ·rw[if_pos huc]at e;rw[decide_eq_true huc]at hq;simp(disch:=omega)[Pu hx,hq];intro b' hb';simp(disch:=omega);refine aN ho ((Sub.refl _).put hb' _) (by simp(disch:=omega);rfl) rfl rfl (by omega) (by simp(disch:=omega)) (by simp(disch:=omega);omega) ?_;intro v' M'' N'' ho' hs';simp(disch:=omega);refine rndB M'' (i+1,v') hs' (by rw[e];simp(disch:=omega)) ⟨by simp only;omega,?_⟩;simp only;rw[e,<-cO];exact ho'
  ·rw[if_neg huc]at e;rw[decide_eq_false huc]at hq;simp(disch:=omega)[Pu hx,hq];refine rndA (i+1,v) (by rw[e];simp(disch:=omega)) ⟨by simp only;omega,?_⟩;simp only;rw[e];exact ho
 ·have hi':i=l.length:=by omega
  subst hi';have hL:Ez l c=(fN l c l.length).1++[l.drop (fN l c l.length).2]:=rfl;generalize fN l c l.length=P at *;obtain⟨P1,P2⟩:=P;simp only at hat ho hL;simp(disch:=omega);intro b' hb';simp(disch:=omega);refine aN ho ((Sub.refl _).put hb' _) (by simp(disch:=omega);rfl) rfl rfl (by omega) (by simp(disch:=omega)) (by simp(disch:=omega);omega) ?_;intro v' M'' N'' ho' hs';simp(disch:=omega);refine ae hs' (h v' _ ?_);rw[hL,<-cO];exact ho'
end Go.Proofs.YtapimhjbilkfpaaGreatDoor
