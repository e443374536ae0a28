/- Lemmas for FnExactConsole, part 10 of 46. -/
import Derived.Test.YtapimhjbilkfpaaGreatDoorZ08
import Derived.Test.YtapimhjbilkfpaaGreatDoorZ03
import Derived.Test.YtapimhjbilkfpaaGreatDoorZ04
set_option linter.unusedVariables false
set_option linter.unusedSimpArgs false
namespace Go.Proofs.YtapimhjbilkfpaaGreatDoor
open Go Go.Proofs.Tryz List
def isV(c:UInt8):Bool:=decide (65<=c.toNat)&&decide (c.toNat<68)
theorem tR{x:Int}(h:0<=x/\x<=127):IntKind.i32.wrap x=x:=by
 unfold IntKind.wrap;simp[IntKind.bits,IntKind.signed];omega
theorem zA{i:Nat}(h:i<=5):UInt8.ofNat ((97:Int)+i).toNat=ltr i:=by
 unfold ltr;rw[show ((97:Int)+i).toNat=97+i by omega]
theorem I5{N:Mem}{v:Value}{xs:List Value}(h:Rd N v xs)(h1:1<=xs.length):dp N v=some xs:=by
 rcases h with ⟨a,c,rfl,rfl⟩|⟨b,o,c,rfl,h,_⟩
 ·simp at h1
 ·exact h
theorem Sub.set{M N:Mem}{b:Nat}(h:Sub M N)(hb:M b=none)(B:Blk):Sub M (N.set b B):=by
 rw[al];intro i Bi hi;have:i≠b:=by rintro rfl;rw[hb]at hi;cases hi
 rw[ai _ _ this];exact h _ _ hi
theorem dc{c:UInt8}(h:isV c=true):65<=c.toNat/\c.toNat<68:=by
 unfold isV at h;simpa using h
def TG(p:List UInt8):Bool:=p.all isV
theorem bK{p:List UInt8}(h:aY p=true):1<=p.length/\p.length<=8/\p.all isV=true:=by
 unfold aY at h;rw[Bool.and_eq_true,decide_eq_true_eq]at h;exact⟨h.1.1,h.1.2,h.2⟩
def Sd(q:bA×Nat->Bool)(l:List (bA×Nat)):Bool:=l.any q
def eu(V:bA):Prop:=V.length=3/\∀ x∈V,x.length<=60
theorem oy{V:bA}(h:eu V){k:Nat}{x:List UInt8}(hx:x.length<=60):eu (V.set k x):=
 ⟨by rw[length_set];exact h.1,fun y hy=>by
  rcases mem_or_eq_of_mem_set hy with hy|rfl
  ·exact h.2 y hy
  ·exact hx⟩
theorem kB{V:bA}(h:eu V)(k:Nat):(V.getD k []).length<=60:=by
 rw[getD_eq_getElem?_getD];cases hk:V[k]? with
 | none=>simp
 | some x=>exact h.2 x (mem_of_getElem? hk)
theorem uj:eu V0:=⟨rfl,by intro x hx;unfold V0 at hx;simp at hx;subst hx;simp⟩
theorem oO{V:bA}(h:V.length=3){k:Nat}(hk:k<3):(strs V)[k]?=some (str (V.getD k [])):=by
 rw[bg,getElem?_eq_getElem (by omega),getD_eq_getElem?_getD,getElem?_eq_getElem (by omega)];rfl
theorem cS{V:bA}(h:V.length=3):(strs V).take 3=strs V:=take_of_length_le (by rw[ah];omega)
theorem qn(a b:List UInt8)(h:b.length<=a.length):(a.take b.length==b)=b.isPrefixOf a:=by
 rw[Bool.eq_iff_iff,beq_iff_eq,isPrefixOf_iff_prefix,prefix_iff_eq_take];exact⟨fun h=>h.symm,fun h=>h.symm⟩
theorem tU{a b:List UInt8}(h:a.length<b.length):b.isPrefixOf a=false:=by
 cases hp:b.isPrefixOf a with
 | false=>rfl
 | true=>have:=eA hp;omega
theorem wg(a b:List UInt8)(M:Mem)(R:VP)(ha:a.length<=1099511627776)(hb:b.length<=1099511627776)(h:R (.bool (b.isPrefixOf a)) M):ar prog 309 [str a,str b] M R:=by
 refine fnS func309 rfl ntmps309 results309 ?_;by_cases hlt:b.length<=a.length
 ·have e:=qn a b hlt;have hlt':(b.length:Int)<=a.length:=by omega
  simp(disch:=omega)[e,hlt'];exact ad h
 ·have hlt':¬(b.length:Int)<=a.length:=by omega
  rw[tU (by omega)]at h;simp(disch:=omega)[hlt'];exact ad h
theorem du(a b:List UInt8)(M:Mem)(R:VP)(ha:a.length<=1099511627776)(hb:b.length<=1099511627776)(h:R (.bool (b.isPrefixOf a)) M):ar prog 222 [str a,str b] M R:=by
 refine fnS func222 rfl ntmps222 results222 ?_;simp(disch:=omega);refine wg a b _ _ ha hb ?_;simp(disch:=omega);exact ad h
theorem tr(l:List UInt8):lT prog (.func (.func 86) #[] #[]) (av l) (onB isV) (fun _=>True):=by
 intro x hx M R _ h;obtain⟨u,hu,rfl⟩:=tK hx;rw[sV]at h;unfold isV at h;simp(disch:=omega);refine fnS func86 rfl ntmps86 results86 ?_;have:=u.toNat_lt;by_cases h1:65<=u.toNat
 ·rw[decide_eq_true h1,Bool.true_and]at h;have h1':(65:Int)<=u.toNat:=by omega
  simp(disch:=omega)[h1'];refine ad ?_;have e:decide ((u.toNat:Int)<68)=decide (u.toNat<68):=by
   by_cases h2:u.toNat<68
   ·rw[decide_eq_true h2];exact decide_eq_true (by omega)
   ·rw[decide_eq_false h2];exact decide_eq_false (by omega)
  rw[e];exact h
 ·rw[decide_eq_false h1,Bool.false_and]at h;have h1':¬(65:Int)<=u.toNat:=by omega
  simp(disch:=omega)[h1'];exact ad h
theorem jd(p:List UInt8)(M:Mem)(R:VP)(hl:p.length<=1099511627776)(h:R (.bool (aY p)) M):ar prog 45 [str p] M R:=by
 refine fnS func45 rfl ntmps45 results45 ?_;simp(disch:=omega);refine bV p _ _ hl ?_;simp(disch:=omega);refine bE _ 1 8 _ _ ?_;unfold aY at h;by_cases h1:1<=p.length/\p.length<=8
 ·rw[decide_eq_true h1,Bool.true_and]at h;have e:decide ((1:Int)<=(p.length:Int)/\(p.length:Int)<=8)=true:=decide_eq_true (by omega);rw[e];simp(disch:=omega);intro b c hb hc;simp(disch:=omega);refine kY _ _ (av p) (onB isV) (fun _=>True) _ _ (Rd.new (aS p) (by simp(disch:=omega) at hc;omega)) trivial bT (tr p) rfl (by rw[aS];omega) ?_;rw[tC];simp(disch:=omega);exact ae ((Sub.refl M).put hb _) h
 ·rw[decide_eq_false h1,Bool.false_and]at h;have e:decide ((1:Int)<=(p.length:Int)/\(p.length:Int)<=8)=false:=decide_eq_false (by omega);rw[e];simp(disch:=omega);exact ad h
theorem iU(p:List UInt8)(M:Mem)(R:VP)(hl:p.length<=1099511627776)(h:R (.bool (aY p)) M):ar prog 48 [str p] M R:=by
 refine fnS func48 rfl ntmps48 results48 ?_;simp(disch:=omega);refine lupS [2,3,4,5,6,7,8,9,10,11,12,13,14,15,16,17,18,19] (fun i:Nat=>[(3,.int .i64 i)]) (fun i M'=>M'=M/\i<=p.length/\TG (p.take i)=true) (fun i=>p.length-i) 0 ⟨rfl,by omega,rfl⟩ ?_
 rintro i M' g ⟨rfl,hi,hall⟩
 by_cases hlt:i<p.length
 ·have hx:p[i]?=some p[i]:=getElem?_eq_getElem hlt;have hu:=p[i].toNat_lt;by_cases hv:isV p[i]=true
  ·have hr:=dc hv;have h65':¬(p[i].toNat:Int)<65:=by omega
   have h68':¬ 67<(p[i].toNat:Int):=by omega
   simp(disch:=omega)[h65',h68'];refine rndS (i+1) ⟨rfl,by omega,?_⟩;unfold TG at hall ⊢;rw[az p hlt,all_append,hall];simpa using hv
  ·have hno:aY p=false:=by
    unfold aY;have:p.all (fun c=>decide (65<=c.toNat)&&decide (c.toNat<68))=false:=by
     cases hq:p.all (fun c=>decide (65<=c.toNat)&&decide (c.toNat<68)) with
     | false=>rfl
     | true=>exact absurd (List.all_eq_true.1 hq _ (getElem_mem hlt)) hv
    rw[this,Bool.and_false]
   rw[hno]at h;by_cases h65:65<=p[i].toNat
   ·have h68:¬ p[i].toNat<68:=fun hh=>hv (by unfold isV;simp;omega);have h65':¬(p[i].toNat:Int)<65:=by omega
    have h68':67<(p[i].toNat:Int):=by omega
    simp(disch:=omega)[h65',h68'];exact ad h
   ·have h65':(p[i].toNat:Int)<65:=by omega
    simp(disch:=omega)[h65'];exact ad h
 ·have hi':i=p.length:=by omega
  subst hi';rw[take_length]at hall;unfold aY at h;rw[show p.all (fun c=>decide (65<=c.toNat)&&decide (c.toNat<68))=true from hall,Bool.and_true]at h;by_cases h0:0<p.length
  ·have h0':0<(p.length:Int):=by omega
   simp(disch:=omega)[h0];refine ad ?_;have e:decide ((p.length:Int)<=8)=decide (1<=p.length/\p.length<=8):=by
    by_cases h8:p.length<=8
    ·rw[decide_eq_true (show 1<=p.length/\p.length<=8 by omega)];exact decide_eq_true (by omega)
    ·rw[decide_eq_false (show ¬(1<=p.length/\p.length<=8) by omega)];exact decide_eq_false (by omega)
   rw[e];exact h
  ·rw[decide_eq_false (by omega)]at h;have h0':¬ 0<(p.length:Int):=by omega
   simp(disch:=omega)[h0];exact ad h
theorem lF(w:List UInt8)(hl:w.length<=60)(q:bA×Nat->Bool)(fv:Value)(hfl:bF fv=true)(G:Mem->Prop)(hst:nd G)(ht:∀ V t M R,eu V->G M->R (.bool (q (V,t))) M->fj prog fv [.agg (strs V).toArray,.int .i64 (t:Nat)] R M) :
  ∀(p:List UInt8) (V:bA) (t:Nat) (M:Mem) (R:VP),p.all isV=true->p.length<=8->eu V->t<=w.length->G M->R (.bool ((cD w p V t).any q)) M->ar prog 319 [str w,str p,.agg (strs V).toArray,.int .i64 t,fv] M R
 | [],V,t,M,R,hp,hp8,hV,htl,hG,h=>by
  unfold cD at h;refine fnS func319 rfl ntmps319 results319 ?_;have h3:=cS hV.1;have h3':=hV.1;simp(disch:=omega);intro b7 hb7;simp(disch:=omega)[h3,h3'];refine ht V t _ _ hV (hst _ _ _ hG hb7) ?_;simp(disch:=omega);exact ae ((Sub.refl M).put hb7 _) (by simpa using h)
 | c::p,V,t,M,R,hp,hp8,hV,htl,hG,h=>by
  rw[all_cons,Bool.and_eq_true]at hp;have hc:=dc hp.1;refine fnS func319 rfl ntmps319 results319 ?_;have h3:=cS hV.1;have h3':=hV.1;have hk:((c.toNat:Int)-65).toNat=aE c:=by unfold aE;omega
  have hk3:aE c<3:=by unfold aE;omega
  have hgv:=oO hV.1 hk3;have hsm:=kB hV (aE c);have hold:=yN (w:=w) (p:=p) (V:=V) (t:=t) (c:=c);have hnew:=yV (w:=w) (p:=p) (V:=V) (t:=t) (c:=c);rw[length_cons]at hp8;obtain⟨own,hown⟩:∃ own,own=V.getD (aE c) []:=⟨_,rfl⟩;rw[<-hown]at hgv hsm hold hnew;obtain⟨k,hkk⟩:∃ k,k=aE c:=⟨_,rfl⟩;rw[<-hkk]at hk hk3 hgv hnew hown;simp(disch:=omega);intro b7 hb7;have hG7:=hst _ _ (.cells true (strs V) 3) hG hb7;have hs7:=(Sub.refl M).put hb7 (.cells true (strs V) 3);have k7:(M.put b7 (.cells true (strs V) 3)) b7=some (.cells true (strs V) 3):=ag _ _ _;simp(disch:=omega)[h3',hk,hgv];by_cases h0:own=[]
  ·rw[hnew h0]at h;subst h0;simp(disch:=omega);generalize M.put b7 (.cells true (strs V) 3)=N at *;refine lupS [10,13,14,48,49,50,51,52,53,54,55,56,57,58,59,60,61,62,63,64,65,66,67] (fun n:Nat=>[(13,.int .i64 (((t+n:Nat):Int)+1))]) (fun n M'=>M'=N/\t+n<=w.length/\Sd q (jy w p V k t n)=false) (fun n=>w.length-n) 0 ⟨rfl,by omega,rfl⟩ ?_
   rintro n M' g ⟨rfl,hn,hno⟩
   have hsucc:=yB w p V k t n;by_cases hlt:t+n<w.length
   ·simp(disch:=omega)[aq k7,h3,h3'];intro b14 hb14;simp(disch:=omega)[h3'];refine⟨dz V,?_⟩;have hG14:=hst _ _ (.cells true (strs (V.set k ((w.drop t).take (n+1)))) 3) hG7 hb14;have hV':eu (V.set k ((w.drop t).take (n+1))):=oy hV (by rw[length_take];omega);have h4:=cS hV'.1;refine drwS ?_;have hseg:drop t (take ((t:Int)+n+1).toNat w)=(w.drop t).take (n+1):=by
     rw[show ((t:Int)+n+1).toNat=t+(n+1) by omega,drop_take,show t+(n+1)-t=n+1 by omega]
    have e2:((t:Int)+n+1)=((t+(n+1):Nat):Int):=by omega
    simp(disch:=omega)[gG,hk,hseg,h4];rw[e2];refine aU (a:=[]) (c:=[]) (lF w hl q fv hfl G hst ht p (V.set k ((w.drop t).take (n+1))) (t+(n+1)) _ _ hp.2 (by omega) hV' (by omega) hG14 ⟨rfl,rfl⟩) ?_;cases hq:(cD w p (V.set k ((w.drop t).take (n+1))) (t+(n+1))).any q
    ·simp(disch:=omega);refine rndM M' (n+1) ((Sub.refl M').put hb14 _) ⟨rfl,by omega,?_⟩;unfold Sd at hno ⊢;rw[hsucc,any_append,hno,hq];rfl
    ·have hyes:(jy w p V k t (w.length-t)).any q=true:=by
      rw[any_eq_true]at hq ⊢;obtain⟨x,hx,hqx⟩:=hq;refine⟨x,?_,hqx⟩;unfold jy;exact List.mem_flatMap.2 ⟨n,List.mem_range.2 (by omega),hx⟩
     rw[hyes]at h;simp(disch:=omega);exact ae (hs7.putN hb14 _) h
   ·have hn':n=w.length-t:=by omega
    unfold Sd at hno;rw[<-hn',hno]at h;simp(disch:=omega);exact ae hs7 h
  ·have he:own.isEmpty=false:=by cases own with
    | nil=>exact absurd rfl h0
    | cons a l=>rfl
   rw[hold h0]at h;simp(disch:=omega)[he];refine drwS ?_;simp(disch:=omega);refine aU (a:=[]) (c:=[]) (du _ _ _ _ (by rw[length_drop];omega) (by omega) ⟨rfl,rfl⟩) ?_;cases hpre:own.isPrefixOf (w.drop t)
   ·rw[hpre]at h;simp(disch:=omega);exact ae hs7 h
   ·rw[hpre,if_pos rfl]at h;have hle:=eA hpre;rw[length_drop]at hle;have e1:((t:Int)+own.length)=((t+own.length:Nat):Int):=by push_cast;rfl
    simp(disch:=omega)[aq k7,h3,h3'];rw[e1];refine aU (a:=[]) (c:=[]) (lF w hl q fv hfl G hst ht p V (t+own.length) _ _ hp.2 (by omega) hV (by omega) hG7 ⟨rfl,rfl⟩) ?_;simp(disch:=omega);exact ae hs7 h
theorem L4(w p:List UInt8)(M:Mem)(R:VP)(hl:w.length<=60)(hp:aY p=true)(h:R (.bool (eM w p)) M):ar prog 403 [str w,str p] M R:=by
 obtain⟨hp1,hp8,hpv⟩:=bK hp;refine fnS func403 rfl ntmps403 results403 ?_;simp(disch:=omega);intro b2 hb2;have hs2:=(Sub.refl M).put hb2 (.cells true [str w] 1);have k2:(M.put b2 (.cells true [str w] 1)) b2=some (.cells true [str w] 1):=ag _ _ _;simp(disch:=omega);generalize M.put b2 (.cells true [str w] 1)=N at *;refine lF w hl (fun x=>x.2==w.length) _ rfl (fun M'=>M' b2=some (.cells true [str w] 1)) ?_ ?_ p V0 0 _ _ hpv hp8 uj (by omega) k2 ?_
 ·intro K b B q hb;have:b2≠b:=by rintro rfl;rw[hb]at q;cases q
  rw[ai _ _ this];exact q
 ·intro V t K R' hV q hR;have h3:=hV.1;simp(disch:=omega);refine fnS func430 rfl ntmps430 results430 ?_;simp(disch:=omega);intro b3 hb3;have hne:b2≠b3:=by rintro rfl;rw[hb3]at q;cases q
  have q3:(K.put b3 (.cells true (strs V) 3)) b2=some (.cells true [str w] 1):=by rw[ai _ _ hne];exact q
  simp(disch:=omega)[h3,aj q];have e:((t:Int)==(w.length:Int))=(t==w.length):=by
   rw[Bool.eq_iff_iff,beq_iff_eq,beq_iff_eq];omega
  rw[e];exact ae ((Sub.refl K).put hb3 _) hR
 ·rw[qQ w p V0 0 (by omega),drop_zero];simp(disch:=omega);exact ae hs2 h
def lE(w p:List UInt8)(n:Nat):Bool:=(range n).any fun i=>eM (w.drop i) p
theorem Dl(w p:List UInt8)(n:Nat):lE w p (n+1)=(lE w p n||eM (w.drop n) p):=by simp[lE,range_succ]
theorem Gc{w p:List UInt8}{n m:Nat}(hn:n<m)(h:eM (w.drop n) p=true):lE w p m=true:=by
 unfold lE;rw[any_eq_true];exact⟨n,List.mem_range.2 hn,h⟩
theorem As(w p:List UInt8)(M:Mem)(R:VP)(hl:w.length<=60)(hp:aY p=true)(h:R (.bool (eV w p)) M):ar prog 355 [str w,str p] M R:=by
 refine fnS func355 rfl ntmps355 results355 ?_;simp(disch:=omega);refine lupS [4,5,8,9,10,11,12,13,14,15,16] (fun i:Nat=>[(8,.int .i64 i)]) (fun i M'=>M'=M/\i<=w.length/\lE w p i=false) (fun i=>w.length-i) 0 ⟨rfl,by omega,rfl⟩ ?_
 rintro i M' g ⟨rfl,hi,hno⟩
 by_cases hlt:i<w.length
 ·have hs:=Dl w p i;simp(disch:=omega);refine L4 _ _ _ _ (by rw[length_drop];omega) hp ?_;cases hf:eM (w.drop i) p
  ·rw[hno,hf]at hs;simp(disch:=omega);exact rndS (i+1) ⟨rfl,by omega,hs⟩
  ·rw[show eV w p=true from Gc hlt hf]at h;simp(disch:=omega);exact ad h
 ·have hi':i=w.length:=by omega
  rw[show eV w p=lE w p w.length from rfl,<-hi',hno]at h;simp(disch:=omega);exact ad h
theorem cU(p:List UInt8)(b:Bool)(M:Mem)(R:VP)(hl:p.length<=1099511627776)(h:R (.int .i64 (if aY p then (if b then 0 else 2) else 1)) M):ar prog 264 [str p,.bool b] M R:=by
 refine fnS func264 rfl ntmps264 results264 ?_;simp(disch:=omega);refine jd p _ _ hl ?_;cases hp:aY p
 ·rw[hp]at h;simp(disch:=omega);exact ad h
 ·rw[hp]at h;cases b
  ·simp(disch:=omega);exact ad h
  ·simp(disch:=omega);exact ad h
theorem pE(p:List UInt8)(k w n t:Int)(M:Mem)(R:VP)(hl:p.length<=1099511627776)(h:R (.int .i64 (if aY p then (if decide (1<=k/\k<=w)&&decide (0<=n/\n<=t) then 0 else 2) else 1)) M):ar prog 202 [str p,.int .i64 k,.int .i64 w,.int .i64 n,.int .i64 t] M R:=by
 refine fnS func202 rfl ntmps202 results202 ?_;simp(disch:=omega);refine iU p _ _ hl ?_;cases hp:aY p
 ·rw[hp]at h;simp(disch:=omega);exact ad h
 ·rw[hp,if_pos rfl]at h;simp(disch:=omega);refine bZ _ _ _ _ _ ?_;cases h1:decide (1<=k/\k<=w)
  ·rw[h1]at h;simp(disch:=omega);exact ad h
  ·rw[h1,Bool.true_and]at h;simp(disch:=omega);refine bZ _ _ _ _ _ ?_;cases h2:decide (0<=n/\n<=t)
   ·rw[h2]at h;simp(disch:=omega);exact ad h
   ·rw[h2]at h;simp(disch:=omega);exact ad h
theorem ki{S:Type}(p:List UInt8)(k n:Nat)(hp:aY p=true)(hk:k<=5)(hn:n<=50)(fv:Value)(step:S->List UInt8->S×Bool)(J:S->Mem->Prop)(ht:∀ s w M R,w.length=n->J s M->(∀ M',J (step s w).1 M'->R (.bool (step s w).2) M')->fj prog fv [str w] R M) :
  ∀(d:Nat) (w:List UInt8) (s:S) (M:Mem) (R:VP),w.length+d=n->J s M->(∀ M',J (bR step s (avL p k d w)).1 M'->R (.bool (bR step s (avL p k d w)).2) M')->ar prog 265 [str p,.int .i64 k,.int .i64 n,str w,fv] M R
 | 0,w,s,M,R,hd,hJ,h=>by
  have hb:((w.length:Int)==n)=true:=by rw[beq_iff_eq];omega
  unfold avL at h;rw[yX]at h;refine fnS func265 rfl ntmps265 results265 ?_;simp(disch:=omega);refine bV w _ _ (by omega) ?_;simp(disch:=omega)[hb];refine ht s w _ _ (by omega) hJ fun M' hM'=>?_;simp(disch:=omega);exact ad (h M' hM')
 | d+1,w,s,M,R,hd,hJ,h=>by
  have hb:((w.length:Int)==n)=false:=beq_eq_false_iff_ne.2 (by omega);refine fnS func265 rfl ntmps265 results265 ?_;simp(disch:=omega);refine bV w _ _ (by omega) ?_;simp(disch:=omega)[hb];refine lupS [10,11,12,21,22,23,24,25,26,27,28,29,30,31,32,33,34,35,36,37,38,39,40] (fun i:Nat=>[(21,.int .i64 i)]) (fun i M'=>i<=k/\J (bR step s (avN p k d w i)).1 M'/\(bR step s (avN p k d w i)).2=false) (fun i=>k-i) 0 ⟨by omega,by rw[sT,nF];exact hJ,by rw[sT,nF]⟩ ?_
  rintro i M' g ⟨hi,hM',hno⟩
  have hs:=ra p k d w i;by_cases hlt:i<k
  ·simp(disch:=omega);refine cN i _ _ (by omega) ?_;simp(disch:=omega);have hl':(w++[ltr i]).length=w.length+1:=by simp
   refine As _ p _ _ (by omega) hp ?_;unfold avS at hs;cases he:eV (w++[ltr i]) p
   ·rw[he,if_neg (by decide)]at hs;simp(disch:=omega);refine ki p k n hp hk hn fv step J ht d (w++[ltr i]) (bR step s (avN p k d w i)).1 _ _ (by omega) hM' fun M2 hM2=>?_;rw[<-qM hno,<-hs]at hM2;have hrun:bR step (bR step s (avN p k d w i)).1 (avL p k d (w++[ltr i]))=bR step s (avN p k d w (i+1)):=by rw[hs,qM hno]
    rw[hrun];cases hr:(bR step s (avN p k d w (i+1))).2
    ·simp(disch:=omega);exact rndS (i+1) ⟨by omega,hM2,hr⟩
    ·obtain⟨rest,hrest⟩:=nS p k d w (i:=i+1) (by omega);rw[hrest,ux hr,hr]at h;simp(disch:=omega);exact ad (h M2 hM2)
   ·rw[he,if_pos rfl,append_nil]at hs;simp(disch:=omega);exact rndS (i+1) ⟨by omega,by rw[hs];exact hM',by rw[hs];exact hno⟩
  ·have hi':i=k:=by omega
   rw[hi']at hM' hno;rw[qO p k d w,hno]at h;simp(disch:=omega);exact ad (h M' hM')
theorem ng:∀(p w:List UInt8) (V:bA) (v:Value) (M:Mem) (R:VP),p.all isV=true->p.length<=8->w.length<=60->eu V->Rd M v (strs V)->(∀ v' M',Sub M M'->R (.tuple #[v',.bool (jr p w V)]) M') ->
  ar prog 359 [str w,str p,v] M R
 | [],w,V,v,M,R,hp,hp8,hl,hV,hv,h=>by
  unfold jr at h;obtain⟨a,c,rfl,ha⟩:=hv.opened;refine fnS func359 rfl ntmps359 results359 ?_;simp(disch:=omega);exact ad (h _ _ (Sub.refl M))
 | c::p,w,V,v,M,R,hp,hp8,hl,hV,hv,h=>by
  rw[all_cons,Bool.and_eq_true]at hp;have hc:=dc hp.1;have h3:=cS hV.1;have h3':=hV.1;have hk:((c.toNat:Int)-65).toNat=aE c:=by unfold aE;omega
  have hk3:aE c<3:=by unfold aE;omega
  have hgv:=oO hV.1 hk3;have hsm:=kB hV (aE c);have hlen:=je (c::p) w V;have hold:=OU (w:=w) (p:=p) (V:=V) (c:=c);have hnew:=Nc (w:=w) (p:=p) (V:=V) (c:=c);rw[length_cons]at hp8 hlen;obtain⟨own,hown⟩:∃ own,own=V.getD (aE c) []:=⟨_,rfl⟩;rw[<-hown]at hgv hsm hold hnew;obtain⟨k,hkk⟩:∃ k,k=aE c:=⟨_,rfl⟩;rw[<-hkk]at hk hk3 hgv hnew hown;obtain⟨a,cc,rfl,ha⟩:=hv.opened;rw[ah,h3']at ha hv ⊢;rcases ha with h0|⟨b,o,rfl,ha⟩
  ·omega
  have hg:=ha k hk3;rw[hgv]at hg;refine fnS func359 rfl ntmps359 results359 ?_;simp(disch:=omega);by_cases hsh:w.length<p.length+1
  ·have hno:jr (c::p) w V=false:=by
    cases hf:jr (c::p) w V with
    | false=>rfl
    | true=>have:=hlen hf;omega
   rw[hno]at h;simp(disch:=omega);exact ad (h _ _ (Sub.refl M))
  ·simp(disch:=omega)[hk,hg];by_cases h0:own=[]
   ·rw[hnew h0,O2]at h;subst h0;have hs0:=Sub.refl M;simp(disch:=omega);refine lupS [6,7,10,11,12,13,56,57,58,59,60,61,62,63,64,65,66,67,68,69,70,71,72,73,74,75,76,77,78,79,80,81,82,83,84,85,86] (fun n:Nat=>[(10,.int .i64 ((n:Int)+1))]) (fun n M'=>Sub M M'/\n<=w.length-p.length/\Aj p w V k n=false) (fun n=>w.length-p.length-n) 0 ⟨Sub.refl M,by omega,rfl⟩ ?_
    rintro n M' g ⟨hs,hn,hno⟩
    have hsucc:=LP p w V k n;by_cases hlt:n<w.length-p.length
    ·simp(disch:=omega);intro bn hbn;have hsrc:(M'.put bn (.cells true [] 0)).sub? b o 3=some (strs V):=I5 ((hv.sub hs).put hbn (.cells true [] 0)) (by rw[ah,h3'];decide);simp(disch:=omega)[hsrc,h3'];refine⟨dz V,?_⟩;intro b1 c1 hM hc1;rw[ah,h3']at hc1;have k1:(M'.put b1 (.cells true (strs V) c1)) b1=some (.cells true (strs V) c1):=ag _ _ _;have e1:((n:Int)+1).toNat=n+1:=by omega
     have hV':eu (V.set k (w.take (n+1))):=oy hV (by rw[length_take];omega);have s2:Sub M' (M'.put b1 (.cells true (strs (V.set k (w.take (n+1)))) c1)):=(Sub.refl M').putN hM _;have r2:Rd (M'.put b1 (.cells true (strs (V.set k (w.take (n+1)))) c1)) (.slice (some ⟨b1,0,none⟩) 3 c1) (strs (V.set k (w.take (n+1)))):=Rd.new (by rw[ah];exact hV'.1) hc1;simp(disch:=omega)[hk,gG,e1,h3'];generalize M'.put b1 (.cells true (strs (V.set k (w.take (n+1)))) c1)=N2 at *;refine plyS (ak [0,1,2,3,4,5] (.one 6 1 (ak [7,8,9,10,11] .fin))) ?_;simp(disch:=omega)[e1];refine ng p _ _ _ _ _ hp.2 (by omega) (by rw[length_drop];omega) hV' r2 fun v3 M3 s3=>?_;simp(disch:=omega);refine⟨s3,?_⟩;cases hf:jr p (w.drop (n+1)) (V.set k (w.take (n+1)))
     ·rw[hno,hf]at hsucc;simp(disch:=omega);exact rndS (n+1) ⟨(hs.trans s2).trans s3,by omega,hsucc⟩
     ·rw[Nd hlt hf]at h;simp(disch:=omega);exact ad (h _ _ ((hs.trans s2).trans s3))
    ·have hn':n=w.length-p.length:=by omega
     rw[<-hn',hno]at h;simp(disch:=omega);exact ad (h _ _ hs)
   ·have he:own.isEmpty=false:=by cases own with
     | nil=>exact absurd rfl h0
     | cons a l=>rfl
    rw[hold h0]at h;by_cases hlo:w.length<own.length
    ·rw[tU hlo,Bool.false_and]at h;have hlo':(w.length:Int)<own.length:=by omega
     simp(disch:=omega)[he,hlo'];exact ad (h _ _ (Sub.refl M))
    ·have hlo':¬(w.length:Int)<own.length:=by omega
     have hpb:=qn w own (by omega);cases hpre:own.isPrefixOf w
     ·rw[hpre,Bool.false_and]at h;rw[hpre]at hpb;simp(disch:=omega)[he,hlo',hpb];exact ad (h _ _ (Sub.refl M))
     ·rw[hpre,Bool.true_and]at h;rw[hpre]at hpb;simp(disch:=omega)[he,hlo',hpb];refine plyS (ak [0,1,2,3,4,5,6] (.one 7 1 (ak [8,9,10,11] .fin))) ?_;simp(disch:=omega);refine ng p _ V _ _ _ hp.2 (by omega) (by rw[length_drop];omega) hV hv fun v' M' hs=>?_;simp(disch:=omega);exact⟨hs,ad (h _ _ hs)⟩
theorem rT(w p:List UInt8)(M:Mem)(R:VP)(hl:w.length<=60)(hp:aY p=true)(h:R (.bool (eM w p)) M):ar prog 278 [str w,str p] M R:=by
 obtain⟨hp1,hp8,hpv⟩:=bK hp;refine fnS func278 rfl ntmps278 results278 ?_;simp(disch:=omega);intro b hb;simp(disch:=omega);refine ng p w V0 _ _ _ hpv hp8 hl uj (Rd.new rfl (Nat.le_refl 3)) fun v' M' hs=>?_;simp(disch:=omega);exact ae (((Sub.refl M).put hb _).trans hs) h
theorem lb(w p:List UInt8)(M:Mem)(R:VP)(hl:w.length<=60)(hp:aY p=true)(h:R (.bool (eV w p)) M):ar prog 295 [str w,str p] M R:=by
 obtain⟨hp1,hp8,hpv⟩:=bK hp;rw[Mx w p hp1]at h;obtain⟨m,hm⟩:∃ m,m=w.length+1-p.length:=⟨_,rfl⟩;rw[<-hm]at h;refine fnS func295 rfl ntmps295 results295 ?_;simp(disch:=omega);refine lupS [4,5,11,12,13,14,15,16,17,18,19] (fun i:Int=>[(5,.int .i64 i)]) (fun i M'=>M'=M/\-8<=i/\i<=(w.length:Int)-p.length/\i<60/\lB w p i m=false) (fun i=>(i+9).toNat) ((w.length:Int)-p.length) ⟨rfl,by omega,by omega,by omega,?_⟩ ?_
 ·rcases Nat.lt_or_ge w.length p.length with hh|hh
  ·rw[hm,show w.length+1-p.length=0 by omega];rfl
  ·exact G7 (by omega)
 rintro i M' g ⟨rfl,hi8,hi,hi60,hno⟩
 by_cases hlt:0<=i
 ·obtain⟨i,rfl⟩:∃ n:Nat,i=n:=⟨i.toNat,by omega⟩;have hs:=Fy w p (i:=i) (m:=m) (by omega);simp(disch:=omega);refine rT _ _ _ _ (by rw[length_drop];omega) hp ?_;cases hf:eM (w.drop i) p
  ·rw[hno,hf]at hs;simp(disch:=omega);exact rndS ((i:Int)-1) ⟨rfl,by omega,by omega,by omega,hs⟩
  ·rw[show (range m).any (fun i=>eM (w.drop i) p)=true from List.any_eq_true.2 ⟨i,List.mem_range.2 (by omega),hf⟩]at h;simp(disch:=omega);exact ad h
 ·rw[Iq (by omega)]at hno;rw[hno]at h;simp(disch:=omega)[hlt];exact ad h
def hdL(l:List (List UInt8)):List UInt8:=l.headD []
def emL(l:List (List UInt8)):Bool:=l.isEmpty
theorem wD{l:List (List UInt8)}(h:emL l=true):l=[]:=List.isEmpty_iff.1 h
def tH(l:List (List UInt8)):Value:=.tuple #[str (hdL l),.bool (!emL l)]
theorem C8{l r:List (List UInt8)}(h:emL l=false):tH (l++r)=tH l:=by
 cases l with
 | nil=>cases h
 | cons a l=>rfl
theorem pg(p:List UInt8)(k:Nat)(hp:aY p=true)(hk:k<=5):∀(d:Nat) (w:List UInt8) (M:Mem) (R:VP),w.length+d<=60->R (tH (avL p k d w)) M->ar prog 203 [str w,str p,.int .i64 k,.int .i64 d] M R
 | 0,w,M,R,hd,h=>by
  unfold avL at h;refine fnS func203 rfl ntmps203 results203 ?_;simp(disch:=omega);exact ad h
 | d+1,w,M,R,hd,h=>by
  refine fnS func203 rfl ntmps203 results203 ?_;have hb:(((d:Int)+1)==0)=false:=beq_eq_false_iff_ne.2 (by omega);simp(disch:=omega)[hb];refine lupS [8,9,10,11,12,13,17,18,19,20,21,22,23,24,25,26,27,28,29,30,31,32,33,34,35,36,37,38,39] (fun i:Nat=>[(10,.int .i64 i)]) (fun i M'=>M'=M/\i<=k/\emL (avN p k d w i)=true) (fun i=>k-i) 0 ⟨rfl,by omega,rfl⟩ ?_
  rintro i M' g ⟨rfl,hi,hno⟩
  have hs:=ra p k d w i;have hnil:avN p k d w i=[]:=wD hno;rw[hnil,nil_append]at hs;by_cases hlt:i<k
  ·simp(disch:=omega);refine iN i _ _ (by omega) ?_;simp(disch:=omega);have hl':(w++[ltr i]).length=w.length+1:=by simp
   refine lb _ p _ _ (by omega) hp ?_;unfold avS at hs;cases he:eV (w++[ltr i]) p
   ·rw[he,if_neg (by decide)]at hs;simp(disch:=omega);refine pg p k hp hk d _ _ _ (by omega) ?_;rw[<-hs];cases hr:emL (avN p k d w (i+1))
    ·obtain⟨rest,hrest⟩:=nS p k d w (i:=i+1) (by omega);rw[hrest,C8 hr]at h;unfold tH at h ⊢;rw[hr]at h ⊢;simp(disch:=omega);exact ad h
    ·unfold tH;rw[hr];simp(disch:=omega);exact rndS (i+1) ⟨rfl,by omega,hr⟩
   ·rw[he,if_pos rfl]at hs;simp(disch:=omega);exact rndS (i+1) ⟨rfl,by omega,by rw[hs];rfl⟩
  ·have hi':i=k:=by omega
   rw[hi']at hnil;rw[qO,hnil]at h;simp(disch:=omega);exact ad h
theorem uq(ws:List (List UInt8))(w:List UInt8):ig ws w 1=gU ws w:=by
 unfold ig gU;rw[show decide ((0:Int)<=1/\(1:Int)<=100)=true by decide,Bool.and_true]
theorem DT(v:Value)(ws:List (List UInt8))(w:List UInt8)(M:Mem)(R:VP)(hv:Rd M v (strs ws))(hf:df ws)(hn:ws.length<=1099511627776)(hl:w.length<=1099511627776)(h:R (aD (str (nJ ws w 1)) (nv ws w 1)) M):ar prog 158 [.agg #[v],str w] M R:=by
 refine fnS func158 rfl ntmps158 results158 ?_;obtain⟨a,c,rfl,ha⟩:=hv.opened;rw[ah]at hv ⊢;simp(disch:=omega);intro b1 hb1;simp(disch:=omega);refine C0 _ ws w 1 _ _ (hv.put hb1 _) hf hn hl ?_;simp(disch:=omega)[aD];exact ae ((Sub.refl M).put hb1 _) h
theorem DE(v:Value)(ws:List (List UInt8))(w:List UInt8)(M:Mem)(R:VP)(hv:Rd M v (strs ws))(hf:df ws)(hn:ws.length<=1099511627776)(hl:w.length<=1099511627776)(h:R (aD (str (nJ ws w 1)) (nv ws w 1)) M):ar prog 117 [.agg #[v],str w] M R:=by
 refine fnS func117 rfl ntmps117 results117 ?_;obtain⟨a,c,rfl,ha⟩:=hv.opened;rw[ah]at hv ⊢;simp(disch:=omega);intro b1 hb1;have hs:=(Sub.refl M).put hb1 (.cells true [.slice a ws.length c] 1);simp(disch:=omega);refine qW _ ws w _ _ (hv.put hb1 _) hf hn hl ?_;unfold nJ nv at h;by_cases h0:ig ws w 1=0
 ·obtain⟨g1,g2,g3,_,_⟩:=ld h0;rw[if_pos h0,if_pos h0,show (1:Int).toNat=1 from rfl,qw]at h;rw[<-uq,h0];have hx:=xx (aV g2) g3;have hil:=iy g1 hx;have h60:=au g2;simp(disch:=omega);refine jX _ ws w _ _ (hv.put hb1 _) g1 h60 hx ?_;by_cases hbig:60<(aP ws w).length
  ·rw[if_pos hbig]at h;have hbig':(60:Int)<(aP ws w).length:=by omega
   simp(disch:=omega)[hbig'];exact ae hs h
  ·rw[if_neg hbig]at h;have hbig':¬(60:Int)<(aP ws w).length:=by omega
   simp(disch:=omega)[hbig'];exact ae hs h
 ·rw[if_neg h0,if_neg h0]at h;rw[<-uq];generalize ig ws w 1=code at *;simp(disch:=omega);exact ae hs h
end Go.Proofs.YtapimhjbilkfpaaGreatDoor
