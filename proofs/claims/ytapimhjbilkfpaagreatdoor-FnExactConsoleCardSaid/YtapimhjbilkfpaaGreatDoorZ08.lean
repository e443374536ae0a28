/- Lemmas for FnExactDeskAfter, part 9 of 33. -/
import Derived.Test.YtapimhjbilkfpaaGreatDoorZ07
set_option linter.unusedVariables false
set_option linter.unusedSimpArgs false
namespace Go.Proofs.YtapimhjbilkfpaaGreatDoor
open Go Go.Proofs.Tryz List
def hp(v:B8)(q:Nat):Bool:=v.drop q==v.take (v.length-q)
def eJ(u:B8)(n:Nat):Bool:=(range n).any fun q=>hp (u.drop (u.length-2*(q+1))) (q+1)
def dz(u:B8):Bool:=eJ u (u.length/2)
theorem pJ(u:B8)(n:Nat):eJ u (n+1)=(eJ u n||hp (u.drop (u.length-2*(n+1))) (n+1)):=by simp[eJ,range_succ]
theorem tI{u:B8}{n m:Nat}(h:n<m)(hh:hp (u.drop (u.length-2*(n+1))) (n+1)=true):eJ u m=true:=by
 unfold eJ;rw[any_eq_true];exact⟨n,List.mem_range.2 h,hh⟩
def nR(P:Nat->Nat->Bool)(i q:Nat):List (List Int):=((range q).filter fun m=>P i (m+1)).map fun (m:Nat)=>[(i:Int),((m+1:Nat):Int)]
def el(P:Nat->Nat->Bool)(L k n:Nat):List (List Int):=(range n).flatMap fun i=>nR P i ((L-i)/k)
theorem zm(P:Nat->Nat->Bool)(i q:Nat):nR P i (q+1)=nR P i q++if P i (q+1) then [[(i:Int),((q+1:Nat):Int)]] else []:=by
 unfold nR;rw[range_succ,filter_append,map_append]
 congr 1
 cases h:P i (q+1)<;>simp[h]
theorem wk(P:Nat->Nat->Bool)(L k n:Nat):el P L k (n+1)=el P L k n++nR P n ((L-n)/k):=by simp[el,range_succ]
theorem BT(P:Nat->Nat->Bool)(i q:Nat):(nR P i q).length<=q:=by
 unfold nR;rw[length_map];exact Nat.le_trans (length_filter_le _ _) (by rw[length_range];exact lRf _)
theorem JQ(P:Nat->Nat->Bool)(L k n:Nat):(el P L k n).length<=n*L:=by
 induction n with
 | zero=>simp[el]
 | succ n ih=>
  have h1:=BT P n ((L-n)/k);have h2:(L-n)/k<=L:=Nat.le_trans (Nat.div_le_self _ _) (Nat.sub_le _ _);rw[wk,lAp,Nat.succ_mul];omega
def mG(w:B8):Bool:=(range w.length).any fun i=>(range ((w.length-i)/2)).any fun m=>hp (seg w i (2*(m+1))) (m+1)
def pwP(w:B8)(k:Nat):Nat->Nat->Bool:=fun i m=>hp (seg w i (k*m)) m
theorem Na(w:B8):(el (pwP w 2) w.length 2 w.length).isEmpty = !mG w:=by
 have key:(el (pwP w 2) w.length 2 w.length).isEmpty=false↔mG w=true:=by
  unfold mG;rw[any_eq_true];constructor
  ·intro h;cases hr:el (pwP w 2) w.length 2 w.length with
   | nil=>rw[hr]at h;cases h
   | cons a l=>
    have ha:a∈el (pwP w 2) w.length 2 w.length:=by rw[hr];exact mem_cons_self ..
    unfold el at ha;obtain⟨i,hi,ha⟩:=List.mem_flatMap.1 ha;unfold nR at ha;obtain⟨m,hm,_⟩:=List.mem_map.1 ha;obtain⟨h1,h2⟩:=List.mem_filter.1 hm;exact⟨i,hi,List.any_eq_true.2 ⟨m,h1,h2⟩⟩
  ·rintro⟨i,hi,h⟩
   obtain⟨m,hm,h2⟩:=List.any_eq_true.1 h;have:[(i:Int),((m+1:Nat):Int)]∈el (pwP w 2) w.length 2 w.length:=by
    unfold el;refine List.mem_flatMap.2 ⟨i,hi,?_⟩;unfold nR;exact List.mem_map.2 ⟨m,List.mem_filter.2 ⟨hm,h2⟩,rfl⟩
   cases hr:el (pwP w 2) w.length 2 w.length with
   | nil=>rw[hr]at this;cases this
   | cons a l=>rfl
 cases h:mG w
 ·cases h2:(el (pwP w 2) w.length 2 w.length).isEmpty
  ·rw[key.1 h2]at h;cases h
  ·rfl
 ·rw[key.2 h];rfl
theorem Nv(w:B8):mG w=(range (w.length+1)).any fun n=>dz (w.take n):=by
 rw[Bool.eq_iff_iff];unfold mG dz eJ;rw[any_eq_true,any_eq_true];constructor
 ·rintro⟨i,hi,h⟩
  obtain⟨m,hm,h2⟩:=List.any_eq_true.1 h;have h1:=List.mem_range.1 hi;have h3:=List.mem_range.1 hm;have h4:i+2*(m+1)<=w.length:=by omega
  have hl:(w.take (i+2*(m+1))).length=i+2*(m+1):=by rw[lTa];omega
  refine⟨i+2*(m+1),List.mem_range.2 (by omega),List.any_eq_true.2 ⟨m,List.mem_range.2 (by rw[hl];omega),?_⟩⟩;rw[hl,show i+2*(m+1)-2*(m+1)=i by omega];exact h2
 ·rintro⟨n,hn,h⟩
  obtain⟨m,hm,h2⟩:=List.any_eq_true.1 h;have h1:=List.mem_range.1 hn;have hl:(w.take n).length=n:=by rw[lTa];omega
  rw[hl]at hm h2;have h3:=List.mem_range.1 hm;refine⟨n-2*(m+1),List.mem_range.2 (by omega),List.any_eq_true.2 ⟨m,List.mem_range.2 (by omega),?_⟩⟩;unfold seg;rw[show n-2*(m+1)+2*(m+1)=n by omega];exact h2
theorem V9{u:B8}{q:Nat}(h:2*q<=u.length):(u.drop (u.length-q)==(u.take (u.length-q)).drop (u.length-2*q))=hp (u.drop (u.length-2*q)) q:=by
 unfold hp;rw[drop_drop,length_drop,show u.length-2*q+q=u.length-q by omega,show u.length-(u.length-2*q)-q=q by omega,drop_take,show u.length-q-(u.length-2*q)=q by omega]
def grL(k:Nat):Nat->B8->List B8
 | 0,w=>[w]
 | d+1,w=>(range k).flatMap fun i=>if dz (w++[ltr i]) then [] else grL k d (w++[ltr i])
def grS(k d:Nat)(w:B8)(i:Nat):List B8:=if dz (w++[ltr i]) then [] else grL k d (w++[ltr i])
def grN(k d:Nat)(w:B8)(i:Nat):List B8:=(range i).flatMap (grS k d w)
theorem Fh(k d:Nat)(w:B8):grN k d w 0=[]:=rfl
theorem FV(k d:Nat)(w:B8)(i:Nat):grN k d w (i+1)=grN k d w i++grS k d w i:=by simp[grN,range_succ]
theorem E4(k d:Nat)(w:B8):grL k (d+1) w=grN k d w k:=rfl
theorem Cq(k d:Nat)(w:B8){i:Nat}(h:i<=k):∃ rest,grL k (d+1) w=grN k d w i++rest:=by
 refine⟨(range' i (k-i)).flatMap (grS k d w),?_⟩;rw[E4];unfold grN;rw[<-flatMap_append]
 congr 1
 rw[range_eq_range',range_eq_range'];have:=range'_append_1 (s:=0) (m:=i) (n:=k-i);rw[Nat.zero_add,show i+(k-i)=k by omega]at this;exact this.symm
theorem Hk(k:Nat):∀(d:Nat) (w u:B8),u∈grL k d w->u.length=w.length+d/\∀ c∈u,c∈w\/∃ i,i<k/\c=ltr i
 | 0,w,u,h=>by
  unfold grL at h;rw[List.mem_singleton.1 h];exact⟨rfl,fun c hc=>.inl hc⟩
 | d+1,w,u,h=>by
  unfold grL at h;obtain⟨i,hi,h⟩:=List.mem_flatMap.1 h;split at h
  ·cases h
  ·obtain⟨h1,h2⟩:=Hk k d _ u h;rw[lAp,length_singleton]at h1;refine⟨by omega,fun c hc=>?_⟩;rcases h2 c hc with h3|h3
   ·rcases List.mem_append.1 h3 with h3|h3
    ·exact .inl h3
    ·exact .inr ⟨i,List.mem_range.1 hi,List.mem_singleton.1 h3⟩
   ·exact .inr h3
def Lt0(k:Nat)(w:B8):Prop:=∀ u∈w,97<=u.toNat/\u.toNat-97<k
theorem Le(k:Nat):Lt0 k []:=fun u h=>by cases h
theorem gE{i:Nat}(h:i<=100):(ltr i).toNat=97+i:=by
 unfold ltr;rw[UInt8.toNat_ofNat_of_lt' (by show 97+i<256;omega)]
theorem Fi{k:Nat}{w:B8}(h:Lt0 k w){i:Nat}(hi:i<k)(hk:i<=100):Lt0 k (w++[ltr i]):=by
 intro u hu;rcases List.mem_append.1 hu with hu|hu
 ·exact h u hu
 ·rw[List.mem_singleton.1 hu,gE hk];omega
def uj(ws:List B8)(d:Nat)(w:B8):Option B8:=(grL ws.length d w).find? fun u=>mG (aQ ws u)
def FO(ws:List B8):B8->B8->B8×Bool:=fun _ u=>(u,mG (aQ ws u))
theorem CG(ws:List B8):∀(l:List B8) (s:B8),(bT (FO ws) s l).2=(l.find? fun u=>mG (aQ ws u)).isSome/\∀ u,(l.find? fun u=>mG (aQ ws u))=some u->(bT (FO ws) s l).1=u
 | [],s=>⟨rfl,fun u h=>by cases h⟩
 | a::l,s=>by
  have ih:=CG ws l a;unfold bT;rw[find?_cons];cases h:mG (aQ ws a)
  ·have e:(FO ws s a).2=false:=h;rw[e,if_neg (by decide)];exact ih
  ·have e:(FO ws s a).2=true:=h;rw[e,if_pos rfl];exact⟨rfl,fun u hu=>by injection hu⟩
def jn(ws:List B8)(n:Nat):Option B8:=(range n).findSome? fun m=>uj ws m []
theorem wA(ws:List B8)(n:Nat):jn ws (n+1)=(jn ws n).or (uj ws n []):=by
 unfold jn;rw[range_succ,Bh]
theorem z7{ws:List B8}{n m:Nat}{u:B8}(h:n<m)(h0:jn ws n=none)(hu:uj ws n []=some u):jn ws m=some u:=Rc h h0 hu
def isV(c:UInt8):Bool:=decide (65<=c.toNat)&&decide (c.toNat<68)
theorem uP{x:Int}(h:0<=x/\x<=127):IntKind.i32.wrap x=x:=by
 unfold IntKind.wrap;simp[IntKind.bits,IntKind.signed];omega
theorem zc{i:Nat}(h:i<=5):UInt8.ofNat ((97:Int)+i).toNat=ltr i:=by
 unfold ltr;rw[show ((97:Int)+i).toNat=97+i by omega]
theorem Jf{N:Mem}{v:Value}{xs:List Value}(h:Rd N v xs)(h1:1<=xs.length):dw N v=some xs:=by
 rcases h with ⟨a,c,rfl,rfl⟩|⟨b,o,c,rfl,h,_⟩
 ·simp at h1
 ·exact h
theorem Sub.set{M N:Mem}{b:Nat}(h:Sub M N)(hb:M b=none)(B:Blk):Sub M (N.set b B):=by
 rw[aj];intro i Bi hi;have:i≠b:=by rintro rfl;rw[hb]at hi;cases hi
 rw[ai _ _ this];exact h _ _ hi
theorem di{c:UInt8}(h:isV c=true):65<=c.toNat/\c.toNat<68:=by
 unfold isV at h;simpa using h
def VJ(p:B8):Bool:=p.all isV
theorem bJ{p:B8}(h:a7 p=true):1<=p.length/\p.length<=8/\p.all isV=true:=by
 unfold a7 at h;rw[Bool.and_eq_true,decide_eq_true_eq]at h;exact⟨h.1.1,h.1.2,h.2⟩
def TU(q:bC×Nat->Bool)(l:List (bC×Nat)):Bool:=l.any q
def eE(V:bC):Prop:=V.length=3/\∀ x∈V,x.length<=60
theorem oY{V:bC}(h:eE V){k:Nat}{x:B8}(hx:x.length<=60):eE (V.set k x):=
 ⟨by rw[length_set];exact h.1,fun y hy=>by
  rcases mem_or_eq_of_mem_set hy with hy|rfl
  ·exact h.2 y hy
  ·exact hx⟩
theorem la{V:bC}(h:eE V)(k:Nat):(V.getD k []).length<=60:=by
 rw[gDe];cases hk:V[k]? with
 | none=>simp
 | some x=>exact h.2 x (mem_of_getElem? hk)
theorem ux:eE V0:=⟨rfl,by intro x hx;unfold V0 at hx;simp at hx;subst hx;simp⟩
theorem px{V:bC}(h:V.length=3){k:Nat}(hk:k<3):(strs V)[k]?=some (str (V.getD k [])):=by
 rw[ba,gEl (by omega),gDe,gEl (by omega)];rfl
theorem cZ{V:bC}(h:V.length=3):(strs V).take 3=strs V:=take_of_length_le (by rw[ah];omega)
theorem qn(a b:B8)(h:b.length<=a.length):(a.take b.length==b)=b.isPrefixOf a:=by
 rw[Bool.eq_iff_iff,beq_iff_eq,isPrefixOf_iff_prefix,prefix_iff_eq_take];exact⟨fun h=>h.symm,fun h=>h.symm⟩
theorem uD{a b:B8}(h:a.length<b.length):b.isPrefixOf a=false:=by
 cases hp:b.isPrefixOf a with
 | false=>rfl
 | true=>have:=eK hp;omega
theorem xc(a b:B8)(M:Mem)(R:VP)(ha:a.length<=1099511627776)(hb:b.length<=1099511627776)(h:R (.bool (b.isPrefixOf a)) M):ar prog 309 [str a,str b] M R:=by
 refine fnS func309 rfl ntmps309 results309 ?_;by_cases hlt:b.length<=a.length
 ·have e:=qn a b hlt;have hlt':(b.length:Int)<=a.length:=by omega
  simp(disch:=omega)[e,hlt'];exact ad h
 ·have hlt':¬(b.length:Int)<=a.length:=by omega
  rw[uD (by omega)]at h;simp(disch:=omega)[hlt'];exact ad h
theorem dG(a b:B8)(M:Mem)(R:VP)(ha:a.length<=1099511627776)(hb:b.length<=1099511627776)(h:R (.bool (b.isPrefixOf a)) M):ar prog 222 [str a,str b] M R:=by
 refine fnS func222 rfl ntmps222 results222 ?_;simp(disch:=omega);refine xc a b _ _ ha hb ?_;simp(disch:=omega);exact ad h
theorem vh(l:B8):mF prog (.func (.func 86) #[] #[]) (av l) (onB isV) (fun _=>True):=by
 intro x hx M R _ h;obtain⟨u,hu,rfl⟩:=vg hx;rw[r8]at h;unfold isV at h;simp(disch:=omega);refine fnS func86 rfl ntmps86 results86 ?_;have:=u.toNat_lt;by_cases h1:65<=u.toNat
 ·rw[decide_eq_true h1,Bool.true_and]at h;have h1':(65:Int)<=u.toNat:=by omega
  simp(disch:=omega)[h1'];refine ad ?_;have e:decide ((u.toNat:Int)<68)=decide (u.toNat<68):=by
   by_cases h2:u.toNat<68
   ·rw[decide_eq_true h2];exact decide_eq_true (by omega)
   ·rw[decide_eq_false h2];exact decide_eq_false (by omega)
  rw[e];exact h
 ·rw[decide_eq_false h1,Bool.false_and]at h;have h1':¬(65:Int)<=u.toNat:=by omega
  simp(disch:=omega)[h1'];exact ad h
theorem fW(p:B8)(M:Mem)(R:VP)(hl:p.length<=1099511627776)(h:R (.bool (a7 p)) M):ar prog 45 [str p] M R:=by
 refine fnS func45 rfl ntmps45 results45 ?_;simp(disch:=omega);refine bY p _ _ hl ?_;simp(disch:=omega);refine bF _ 1 8 _ _ ?_;unfold a7 at h;by_cases h1:1<=p.length/\p.length<=8
 ·rw[decide_eq_true h1,Bool.true_and]at h;have e:decide ((1:Int)<=(p.length:Int)/\(p.length:Int)<=8)=true:=decide_eq_true (by omega);rw[e];simp(disch:=omega);intro b c hb hc;simp(disch:=omega);refine l6 _ _ (av p) (onB isV) (fun _=>True) _ _ (Rd.new (aS p) (by simp(disch:=omega) at hc;omega)) trivial bV (vh p) rfl (by rw[aS];omega) ?_;rw[uq];simp(disch:=omega);exact ae ((Sub.refl M).put hb _) h
 ·rw[decide_eq_false h1,Bool.false_and]at h;have e:decide ((1:Int)<=(p.length:Int)/\(p.length:Int)<=8)=false:=decide_eq_false (by omega);rw[e];simp(disch:=omega);exact ad h
theorem gp(p:B8)(M:Mem)(R:VP)(hl:p.length<=1099511627776)(h:R (.bool (a7 p)) M):ar prog 48 [str p] M R:=by
 refine fnS func48 rfl ntmps48 results48 ?_;simp(disch:=omega);refine lupS (rlA [] 2 18) (fun i:Nat=>[(3,.int .i64 i)]) (fun i M'=>M'=M/\i<=p.length/\VJ (p.take i)=true) (fun i=>p.length-i) 0 ⟨rfl,by omega,rfl⟩ ?_
 rintro i M' g ⟨rfl,hi,hall⟩
 by_cases hlt:i<p.length
 ·have hx:p[i]?=some p[i]:=gEl hlt;have hu:=p[i].toNat_lt;by_cases hv:isV p[i]=true
  ·have hr:=di hv;have h65':¬(p[i].toNat:Int)<65:=by omega
   have h68':¬ 67<(p[i].toNat:Int):=by omega
   simp(disch:=omega)[h65',h68'];refine rndS (i+1) ⟨rfl,by omega,?_⟩;unfold VJ at hall ⊢;rw[aw p hlt,all_append,hall];simpa using hv
  ·have hno:a7 p=false:=by
    unfold a7;have:p.all (fun c=>decide (65<=c.toNat)&&decide (c.toNat<68))=false:=by
     cases hq:p.all (fun c=>decide (65<=c.toNat)&&decide (c.toNat<68)) with
     | false=>rfl
     | true=>exact absurd (List.all_eq_true.1 hq _ (getElem_mem hlt)) hv
    rw[this,Bool.and_false]
   rw[hno]at h;by_cases h65:65<=p[i].toNat
   ·have h68:¬ p[i].toNat<68:=fun hh=>hv (by unfold isV;simp;omega);have h65':¬(p[i].toNat:Int)<65:=by omega
    have h68':67<(p[i].toNat:Int):=by omega
    simp(disch:=omega)[h65',h68'];exact ad h
   ·have h65':(p[i].toNat:Int)<65:=by omega
    simp(disch:=omega)[h65'];exact ad h
 ·have hi':i=p.length:=by omega
  subst hi';rw[take_length]at hall;unfold a7 at h;rw[show p.all (fun c=>decide (65<=c.toNat)&&decide (c.toNat<68))=true from hall,Bool.and_true]at h;by_cases h0:0<p.length
  ·have h0':0<(p.length:Int):=by omega
   simp(disch:=omega)[h0];refine ad ?_;have e:decide ((p.length:Int)<=8)=decide (1<=p.length/\p.length<=8):=by
    by_cases h8:p.length<=8
    ·rw[decide_eq_true (show 1<=p.length/\p.length<=8 by omega)];exact decide_eq_true (by omega)
    ·rw[decide_eq_false (show ¬(1<=p.length/\p.length<=8) by omega)];exact decide_eq_false (by omega)
   rw[e];exact h
  ·rw[decide_eq_false (by omega)]at h;have h0':¬ 0<(p.length:Int):=by omega
   simp(disch:=omega)[h0];exact ad h
theorem mc(w:B8)(hl:w.length<=60)(q:bC×Nat->Bool)(fv:Value)(hfl:bH fv=true)(G:Mem->Prop)(hst:ng G)(ht:∀ V t M R,eE V->G M->R (.bool (q (V,t))) M->fq prog fv [.agg (strs V).toArray,.int .i64 (t:Nat)] R M) :
  ∀(p:B8) (V:bC) (t:Nat) (M:Mem) (R:VP),p.all isV=true->p.length<=8->eE V->t<=w.length->G M->R (.bool ((cH w p V t).any q)) M->ar prog 319 [str w,str p,.agg (strs V).toArray,.int .i64 t,fv] M R
 | [],V,t,M,R,hp,hp8,hV,htl,hG,h=>by
  unfold cH at h;refine fnS func319 rfl ntmps319 results319 ?_;have h3:=cZ hV.1;have h3':=hV.1;simp(disch:=omega);intro b7 hb7;simp(disch:=omega)[h3,h3'];refine ht V t _ _ hV (hst _ _ _ hG hb7) ?_;simp(disch:=omega);exact ae ((Sub.refl M).put hb7 _) (by simpa using h)
 | c::p,V,t,M,R,hp,hp8,hV,htl,hG,h=>by
  rw[all_cons,Bool.and_eq_true]at hp;have hc:=di hp.1;refine fnS func319 rfl ntmps319 results319 ?_;have h3:=cZ hV.1;have h3':=hV.1;have hk:((c.toNat:Int)-65).toNat=aF c:=by unfold aF;omega
  have hk3:aF c<3:=by unfold aF;omega
  have hgv:=px hV.1 hk3;have hsm:=la hV (aF c);have hold:=zD (w:=w) (p:=p) (V:=V) (t:=t) (c:=c);have hnew:=zY (w:=w) (p:=p) (V:=V) (t:=t) (c:=c);rw[length_cons]at hp8;obtain⟨own,hown⟩:∃ own,own=V.getD (aF c) []:=⟨_,rfl⟩;rw[<-hown]at hgv hsm hold hnew;obtain⟨k,hkk⟩:∃ k,k=aF c:=⟨_,rfl⟩;rw[<-hkk]at hk hk3 hgv hnew hown;simp(disch:=omega);intro b7 hb7;have hG7:=hst _ _ (.cells true (strs V) 3) hG hb7;have hs7:=(Sub.refl M).put hb7 (.cells true (strs V) 3);have k7:(M.put b7 (.cells true (strs V) 3)) b7=some (.cells true (strs V) 3):=ag _ _ _;simp(disch:=omega)[h3',hk,hgv];by_cases h0:own=[]
  ·rw[hnew h0]at h;subst h0;simp(disch:=omega);generalize M.put b7 (.cells true (strs V) 3)=N at *;refine lupS (rlA [10,13,14] 48 20) (fun n:Nat=>[(13,.int .i64 (((t+n:Nat):Int)+1))]) (fun n M'=>M'=N/\t+n<=w.length/\TU q (j8 w p V k t n)=false) (fun n=>w.length-n) 0 ⟨rfl,by omega,rfl⟩ ?_
   rintro n M' g ⟨rfl,hn,hno⟩
   have hsucc:=Am w p V k t n;by_cases hlt:t+n<w.length
   ·simp(disch:=omega)[aq k7,h3,h3'];intro b14 hb14;simp(disch:=omega)[h3'];refine⟨dB V,?_⟩;have hG14:=hst _ _ (.cells true (strs (V.set k ((w.drop t).take (n+1)))) 3) hG7 hb14;have hV':eE (V.set k ((w.drop t).take (n+1))):=oY hV (by rw[lTa];omega);have h4:=cZ hV'.1;refine drwS ?_;have hseg:drop t (take ((t:Int)+n+1).toNat w)=(w.drop t).take (n+1):=by
     rw[show ((t:Int)+n+1).toNat=t+(n+1) by omega,drop_take,show t+(n+1)-t=n+1 by omega]
    have e2:((t:Int)+n+1)=((t+(n+1):Nat):Int):=by omega
    simp(disch:=omega)[ix,hk,hseg,h4];rw[e2];refine aU (a:=[]) (c:=[]) (mc w hl q fv hfl G hst ht p (V.set k ((w.drop t).take (n+1))) (t+(n+1)) _ _ hp.2 (by omega) hV' (by omega) hG14 ⟨rfl,rfl⟩) ?_;cases hq:(cH w p (V.set k ((w.drop t).take (n+1))) (t+(n+1))).any q
    ·simp(disch:=omega);refine rndM M' (n+1) ((Sub.refl M').put hb14 _) ⟨rfl,by omega,?_⟩;unfold TU at hno ⊢;rw[hsucc,any_append,hno,hq];rfl
    ·have hyes:(j8 w p V k t (w.length-t)).any q=true:=by
      rw[any_eq_true]at hq ⊢;obtain⟨x,hx,hqx⟩:=hq;refine⟨x,?_,hqx⟩;unfold j8;exact List.mem_flatMap.2 ⟨n,List.mem_range.2 (by omega),hx⟩
     rw[hyes]at h;simp(disch:=omega);exact ae (hs7.putN hb14 _) h
   ·have hn':n=w.length-t:=by omega
    unfold TU at hno;rw[<-hn',hno]at h;simp(disch:=omega);exact ae hs7 h
  ·have he:own.isEmpty=false:=by cases own with
    | nil=>exact absurd rfl h0
    | cons a l=>rfl
   rw[hold h0]at h;simp(disch:=omega)[he];refine drwS ?_;simp(disch:=omega);refine aU (a:=[]) (c:=[]) (dG _ _ _ _ (by rw[length_drop];omega) (by omega) ⟨rfl,rfl⟩) ?_;cases hpre:own.isPrefixOf (w.drop t)
   ·rw[hpre]at h;simp(disch:=omega);exact ae hs7 h
   ·rw[hpre,if_pos rfl]at h;have hle:=eK hpre;rw[length_drop]at hle;have e1:((t:Int)+own.length)=((t+own.length:Nat):Int):=by push_cast;rfl
    simp(disch:=omega)[aq k7,h3,h3'];rw[e1];refine aU (a:=[]) (c:=[]) (mc w hl q fv hfl G hst ht p V (t+own.length) _ _ hp.2 (by omega) hV (by omega) hG7 ⟨rfl,rfl⟩) ?_;simp(disch:=omega);exact ae hs7 h
theorem Mj(w p:B8)(M:Mem)(R:VP)(hl:w.length<=60)(hp:a7 p=true)(h:R (.bool (eW w p)) M):ar prog 403 [str w,str p] M R:=by
 obtain⟨hp1,hp8,hpv⟩:=bJ hp;refine fnS func403 rfl ntmps403 results403 ?_;simp(disch:=omega);intro b2 hb2;have hs2:=(Sub.refl M).put hb2 (.cells true [str w] 1);have k2:(M.put b2 (.cells true [str w] 1)) b2=some (.cells true [str w] 1):=ag _ _ _;simp(disch:=omega);generalize M.put b2 (.cells true [str w] 1)=N at *;refine mc w hl (fun x=>x.2==w.length) _ rfl (fun M'=>M' b2=some (.cells true [str w] 1)) ?_ ?_ p V0 0 _ _ hpv hp8 ux (by omega) k2 ?_
 ·intro K b B q hb;have:b2≠b:=by rintro rfl;rw[hb]at q;cases q
  rw[ai _ _ this];exact q
 ·intro V t K R' hV q hR;have h3:=hV.1;simp(disch:=omega);refine fnS func430 rfl ntmps430 results430 ?_;simp(disch:=omega);intro b3 hb3;have hne:b2≠b3:=by rintro rfl;rw[hb3]at q;cases q
  have q3:(K.put b3 (.cells true (strs V) 3)) b2=some (.cells true [str w] 1):=by rw[ai _ _ hne];exact q
  simp(disch:=omega)[h3,al q];have e:((t:Int)==(w.length:Int))=(t==w.length):=by
   rw[Bool.eq_iff_iff,beq_iff_eq,beq_iff_eq];omega
  rw[e];exact ae ((Sub.refl K).put hb3 _) hR
 ·rw[ta w p V0 0 (by omega),drop_zero];simp(disch:=omega);exact ae hs2 h
def mf(w p:B8)(n:Nat):Bool:=(range n).any fun i=>eW (w.drop i) p
theorem DQ(w p:B8)(n:Nat):mf w p (n+1)=(mf w p n||eW (w.drop n) p):=by simp[mf,range_succ]
theorem GK{w p:B8}{n m:Nat}(hn:n<m)(h:eW (w.drop n) p=true):mf w p m=true:=by
 unfold mf;rw[any_eq_true];exact⟨n,List.mem_range.2 hn,h⟩
theorem A6(w p:B8)(M:Mem)(R:VP)(hl:w.length<=60)(hp:a7 p=true)(h:R (.bool (fh w p)) M):ar prog 355 [str w,str p] M R:=by
 refine fnS func355 rfl ntmps355 results355 ?_;simp(disch:=omega);refine lupS (rlA [4,5] 8 9) (fun i:Nat=>[(8,.int .i64 i)]) (fun i M'=>M'=M/\i<=w.length/\mf w p i=false) (fun i=>w.length-i) 0 ⟨rfl,by omega,rfl⟩ ?_
 rintro i M' g ⟨rfl,hi,hno⟩
 by_cases hlt:i<w.length
 ·have hs:=DQ w p i;simp(disch:=omega);refine Mj _ _ _ _ (by rw[length_drop];omega) hp ?_;cases hf:eW (w.drop i) p
  ·rw[hno,hf]at hs;simp(disch:=omega);exact rndS (i+1) ⟨rfl,by omega,hs⟩
  ·rw[show fh w p=true from GK hlt hf]at h;simp(disch:=omega);exact ad h
 ·have hi':i=w.length:=by omega
  rw[show fh w p=mf w p w.length from rfl,<-hi',hno]at h;simp(disch:=omega);exact ad h
theorem da(p:B8)(b:Bool)(M:Mem)(R:VP)(hl:p.length<=1099511627776)(h:R (.int .i64 (if a7 p then (if b then 0 else 2) else 1)) M):ar prog 264 [str p,.bool b] M R:=by
 refine fnS func264 rfl ntmps264 results264 ?_;simp(disch:=omega);refine fW p _ _ hl ?_;cases hp:a7 p
 ·rw[hp]at h;simp(disch:=omega);exact ad h
 ·rw[hp]at h;cases b
  ·simp(disch:=omega);exact ad h
  ·simp(disch:=omega);exact ad h
theorem qc(p:B8)(k w n t:Int)(M:Mem)(R:VP)(hl:p.length<=1099511627776)(h:R (.int .i64 (if a7 p then (if decide (1<=k/\k<=w)&&decide (0<=n/\n<=t) then 0 else 2) else 1)) M):ar prog 202 [str p,.int .i64 k,.int .i64 w,.int .i64 n,.int .i64 t] M R:=by
 refine fnS func202 rfl ntmps202 results202 ?_;simp(disch:=omega);refine gp p _ _ hl ?_;cases hp:a7 p
 ·rw[hp]at h;simp(disch:=omega);exact ad h
 ·rw[hp,if_pos rfl]at h;simp(disch:=omega);refine cg _ _ _ _ _ ?_;cases h1:decide (1<=k/\k<=w)
  ·rw[h1]at h;simp(disch:=omega);exact ad h
  ·rw[h1,Bool.true_and]at h;simp(disch:=omega);refine cg _ _ _ _ _ ?_;cases h2:decide (0<=n/\n<=t)
   ·rw[h2]at h;simp(disch:=omega);exact ad h
   ·rw[h2]at h;simp(disch:=omega);exact ad h
theorem kO{S:Type}(p:B8)(k n:Nat)(hp:a7 p=true)(hk:k<=5)(hn:n<=50)(fv:Value)(step:S->B8->S×Bool)(J:S->Mem->Prop)(ht:∀ s w M R,w.length=n->J s M->(∀ M',J (step s w).1 M'->R (.bool (step s w).2) M')->fq prog fv [str w] R M) :
  ∀(d:Nat) (w:B8) (s:S) (M:Mem) (R:VP),w.length+d=n->J s M->(∀ M',J (bT step s (avL p k d w)).1 M'->R (.bool (bT step s (avL p k d w)).2) M')->ar prog 265 [str p,.int .i64 k,.int .i64 n,str w,fv] M R
 | 0,w,s,M,R,hd,hJ,h=>by
  have hb:((w.length:Int)==n)=true:=by rw[beq_iff_eq];omega
  unfold avL at h;rw[zd]at h;refine fnS func265 rfl ntmps265 results265 ?_;simp(disch:=omega);refine bY w _ _ (by omega) ?_;simp(disch:=omega)[hb];refine ht s w _ _ (by omega) hJ fun M' hM'=>?_;simp(disch:=omega);exact ad (h M' hM')
 | d+1,w,s,M,R,hd,hJ,h=>by
  have hb:((w.length:Int)==n)=false:=bNe.2 (by omega);refine fnS func265 rfl ntmps265 results265 ?_;simp(disch:=omega);refine bY w _ _ (by omega) ?_;simp(disch:=omega)[hb];refine lupS (rlA [10,11,12] 21 20) (fun i:Nat=>[(21,.int .i64 i)]) (fun i M'=>i<=k/\J (bT step s (avN p k d w i)).1 M'/\(bT step s (avN p k d w i)).2=false) (fun i=>k-i) 0 ⟨by omega,by rw[sG,mY];exact hJ,by rw[sG,mY]⟩ ?_
  rintro i M' g ⟨hi,hM',hno⟩
  have hs:=tv p k d w i;by_cases hlt:i<k
  ·simp(disch:=omega);refine cS i _ _ (by omega) ?_;simp(disch:=omega);have hl':(w++[ltr i]).length=w.length+1:=by simp
   refine A6 _ p _ _ (by omega) hp ?_;unfold avS at hs;cases he:fh (w++[ltr i]) p
   ·rw[he,if_neg (by decide)]at hs;simp(disch:=omega);refine kO p k n hp hk hn fv step J ht d (w++[ltr i]) (bT step s (avN p k d w i)).1 _ _ (by omega) hM' fun M2 hM2=>?_;rw[<-tk hno,<-hs]at hM2;have hrun:bT step (bT step s (avN p k d w i)).1 (avL p k d (w++[ltr i]))=bT step s (avN p k d w (i+1)):=by rw[hs,tk hno]
    rw[hrun];cases hr:(bT step s (avN p k d w (i+1))).2
    ·simp(disch:=omega);exact rndS (i+1) ⟨by omega,hM2,hr⟩
    ·obtain⟨rest,hrest⟩:=oQ p k d w (i:=i+1) (by omega);rw[hrest,uJ hr,hr]at h;simp(disch:=omega);exact ad (h M2 hM2)
   ·rw[he,if_pos rfl,append_nil]at hs;simp(disch:=omega);exact rndS (i+1) ⟨by omega,by rw[hs];exact hM',by rw[hs];exact hno⟩
  ·have hi':i=k:=by omega
   rw[hi']at hM' hno;rw[sE p k d w,hno]at h;simp(disch:=omega);exact ad (h M' hM')
theorem oy:∀(p w:B8) (V:bC) (v:Value) (M:Mem) (R:VP),p.all isV=true->p.length<=8->w.length<=60->eE V->Rd M v (strs V)->(∀ v' M',Sub M M'->R (.tuple #[v',.bool (jP p w V)]) M') ->
  ar prog 359 [str w,str p,v] M R
 | [],w,V,v,M,R,hp,hp8,hl,hV,hv,h=>by
  unfold jP at h;obtain⟨a,c,rfl,ha⟩:=hv.opened;refine fnS func359 rfl ntmps359 results359 ?_;simp(disch:=omega);exact ad (h _ _ (Sub.refl M))
 | c::p,w,V,v,M,R,hp,hp8,hl,hV,hv,h=>by
  rw[all_cons,Bool.and_eq_true]at hp;have hc:=di hp.1;have h3:=cZ hV.1;have h3':=hV.1;have hk:((c.toNat:Int)-65).toNat=aF c:=by unfold aF;omega
  have hk3:aF c<3:=by unfold aF;omega
  have hgv:=px hV.1 hk3;have hsm:=la hV (aF c);have hlen:=jL (c::p) w V;have hold:=QW (w:=w) (p:=p) (V:=V) (c:=c);have hnew:=O8 (w:=w) (p:=p) (V:=V) (c:=c);rw[length_cons]at hp8 hlen;obtain⟨own,hown⟩:∃ own,own=V.getD (aF c) []:=⟨_,rfl⟩;rw[<-hown]at hgv hsm hold hnew;obtain⟨k,hkk⟩:∃ k,k=aF c:=⟨_,rfl⟩;rw[<-hkk]at hk hk3 hgv hnew hown;obtain⟨a,cc,rfl,ha⟩:=hv.opened;rw[ah,h3']at ha hv ⊢;rcases ha with h0|⟨b,o,rfl,ha⟩
  ·omega
  have hg:=ha k hk3;rw[hgv]at hg;refine fnS func359 rfl ntmps359 results359 ?_;simp(disch:=omega);by_cases hsh:w.length<p.length+1
  ·have hno:jP (c::p) w V=false:=by
    cases hf:jP (c::p) w V with
    | false=>rfl
    | true=>have:=hlen hf;omega
   rw[hno]at h;simp(disch:=omega);exact ad (h _ _ (Sub.refl M))
  ·simp(disch:=omega)[hk,hg];by_cases h0:own=[]
   ·rw[hnew h0,On]at h;subst h0;have hs0:=Sub.refl M;simp(disch:=omega);refine lupS (rlA [6,7,10,11,12,13] 56 31) (fun n:Nat=>[(10,.int .i64 ((n:Int)+1))]) (fun n M'=>Sub M M'/\n<=w.length-p.length/\AT p w V k n=false) (fun n=>w.length-p.length-n) 0 ⟨Sub.refl M,by omega,rfl⟩ ?_
    rintro n M' g ⟨hs,hn,hno⟩
    have hsucc:=Nt p w V k n;by_cases hlt:n<w.length-p.length
    ·simp(disch:=omega);intro bn hbn;have hsrc:(M'.put bn (.cells true [] 0)).sub? b o 3=some (strs V):=Jf ((hv.sub hs).put hbn (.cells true [] 0)) (by rw[ah,h3'];decide);simp(disch:=omega)[hsrc,h3'];refine⟨dB V,?_⟩;intro b1 c1 hM hc1;rw[ah,h3']at hc1;have k1:(M'.put b1 (.cells true (strs V) c1)) b1=some (.cells true (strs V) c1):=ag _ _ _;have e1:((n:Int)+1).toNat=n+1:=by omega
     have hV':eE (V.set k (w.take (n+1))):=oY hV (by rw[lTa];omega);have s2:Sub M' (M'.put b1 (.cells true (strs (V.set k (w.take (n+1)))) c1)):=(Sub.refl M').putN hM _;have r2:Rd (M'.put b1 (.cells true (strs (V.set k (w.take (n+1)))) c1)) (.slice (some ⟨b1,0,none⟩) 3 c1) (strs (V.set k (w.take (n+1)))):=Rd.new (by rw[ah];exact hV'.1) hc1;simp(disch:=omega)[hk,ix,e1,h3'];generalize M'.put b1 (.cells true (strs (V.set k (w.take (n+1)))) c1)=N2 at *;refine plyS (ak [0,1,2,3,4,5] (.one 6 1 (ak [7,8,9,10,11] .fin))) ?_;simp(disch:=omega)[e1];refine oy p _ _ _ _ _ hp.2 (by omega) (by rw[length_drop];omega) hV' r2 fun v3 M3 s3=>?_;simp(disch:=omega);refine⟨s3,?_⟩;cases hf:jP p (w.drop (n+1)) (V.set k (w.take (n+1)))
     ·rw[hno,hf]at hsucc;simp(disch:=omega);exact rndS (n+1) ⟨(hs.trans s2).trans s3,by omega,hsucc⟩
     ·rw[Pp hlt hf]at h;simp(disch:=omega);exact ad (h _ _ ((hs.trans s2).trans s3))
    ·have hn':n=w.length-p.length:=by omega
     rw[<-hn',hno]at h;simp(disch:=omega);exact ad (h _ _ hs)
   ·have he:own.isEmpty=false:=by cases own with
     | nil=>exact absurd rfl h0
     | cons a l=>rfl
    rw[hold h0]at h;by_cases hlo:w.length<own.length
    ·rw[uD hlo,Bool.false_and]at h;have hlo':(w.length:Int)<own.length:=by omega
     simp(disch:=omega)[he,hlo'];exact ad (h _ _ (Sub.refl M))
    ·have hlo':¬(w.length:Int)<own.length:=by omega
     have hpb:=qn w own (by omega);cases hpre:own.isPrefixOf w
     ·rw[hpre,Bool.false_and]at h;rw[hpre]at hpb;simp(disch:=omega)[he,hlo',hpb];exact ad (h _ _ (Sub.refl M))
     ·rw[hpre,Bool.true_and]at h;rw[hpre]at hpb;simp(disch:=omega)[he,hlo',hpb];refine plyS (ak [0,1,2,3,4,5,6] (.one 7 1 (ak [8,9,10,11] .fin))) ?_;simp(disch:=omega);refine oy p _ V _ _ _ hp.2 (by omega) (by rw[length_drop];omega) hV hv fun v' M' hs=>?_;simp(disch:=omega);exact⟨hs,ad (h _ _ hs)⟩
theorem tc(w p:B8)(M:Mem)(R:VP)(hl:w.length<=60)(hp:a7 p=true)(h:R (.bool (eW w p)) M):ar prog 278 [str w,str p] M R:=by
 obtain⟨hp1,hp8,hpv⟩:=bJ hp;refine fnS func278 rfl ntmps278 results278 ?_;simp(disch:=omega);intro b hb;simp(disch:=omega);refine oy p w V0 _ _ _ hpv hp8 hl ux (Rd.new rfl (lRf 3)) fun v' M' hs=>?_;simp(disch:=omega);exact ae (((Sub.refl M).put hb _).trans hs) h
theorem lP(w p:B8)(M:Mem)(R:VP)(hl:w.length<=60)(hp:a7 p=true)(h:R (.bool (fh w p)) M):ar prog 295 [str w,str p] M R:=by
 obtain⟨hp1,hp8,hpv⟩:=bJ hp;rw[NL w p hp1]at h;obtain⟨m,hm⟩:∃ m,m=w.length+1-p.length:=⟨_,rfl⟩;rw[<-hm]at h;refine fnS func295 rfl ntmps295 results295 ?_;simp(disch:=omega);refine lupS (rlA [4,5] 11 9) (fun i:Int=>[(5,.int .i64 i)]) (fun i M'=>M'=M/\-8<=i/\i<=(w.length:Int)-p.length/\i<60/\lD w p i m=false) (fun i=>(i+9).toNat) ((w.length:Int)-p.length) ⟨rfl,by omega,by omega,by omega,?_⟩ ?_
 ·rcases Nat.lt_or_ge w.length p.length with hh|hh
  ·rw[hm,show w.length+1-p.length=0 by omega];rfl
  ·exact Jl (by omega)
 rintro i M' g ⟨rfl,hi8,hi,hi60,hno⟩
 by_cases hlt:0<=i
 ·obtain⟨i,rfl⟩:∃ n:Nat,i=n:=⟨i.toNat,by omega⟩;have hs:=Gk w p (i:=i) (m:=m) (by omega);simp(disch:=omega);refine tc _ _ _ _ (by rw[length_drop];omega) hp ?_;cases hf:eW (w.drop i) p
  ·rw[hno,hf]at hs;simp(disch:=omega);exact rndS ((i:Int)-1) ⟨rfl,by omega,by omega,by omega,hs⟩
  ·rw[show (range m).any (fun i=>eW (w.drop i) p)=true from List.any_eq_true.2 ⟨i,List.mem_range.2 (by omega),hf⟩]at h;simp(disch:=omega);exact ad h
 ·rw[J7 (by omega)]at hno;rw[hno]at h;simp(disch:=omega)[hlt];exact ad h
def hdL(l:List B8):B8:=l.headD []
def emL(l:List B8):Bool:=l.isEmpty
theorem xL{l:List B8}(h:emL l=true):l=[]:=List.isEmpty_iff.1 h
def vF(l:List B8):Value:=.tuple #[str (hdL l),.bool (!emL l)]
theorem E0{l r:List B8}(h:emL l=false):vF (l++r)=vF l:=by
 cases l with
 | nil=>cases h
 | cons a l=>rfl
theorem pN(p:B8)(k:Nat)(hp:a7 p=true)(hk:k<=5):∀(d:Nat) (w:B8) (M:Mem) (R:VP),w.length+d<=60->R (vF (avL p k d w)) M->ar prog 203 [str w,str p,.int .i64 k,.int .i64 d] M R
 | 0,w,M,R,hd,h=>by
  unfold avL at h;refine fnS func203 rfl ntmps203 results203 ?_;simp(disch:=omega);exact ad h
 | d+1,w,M,R,hd,h=>by
  refine fnS func203 rfl ntmps203 results203 ?_;have hb:(((d:Int)+1)==0)=false:=bNe.2 (by omega);simp(disch:=omega)[hb];refine lupS (rlA [8,9,10,11,12,13] 17 23) (fun i:Nat=>[(10,.int .i64 i)]) (fun i M'=>M'=M/\i<=k/\emL (avN p k d w i)=true) (fun i=>k-i) 0 ⟨rfl,by omega,rfl⟩ ?_
  rintro i M' g ⟨rfl,hi,hno⟩
  have hs:=tv p k d w i;have hnil:avN p k d w i=[]:=xL hno;rw[hnil,nil_append]at hs;by_cases hlt:i<k
  ·simp(disch:=omega);refine jy i _ _ (by omega) ?_;simp(disch:=omega);have hl':(w++[ltr i]).length=w.length+1:=by simp
   refine lP _ p _ _ (by omega) hp ?_;unfold avS at hs;cases he:fh (w++[ltr i]) p
   ·rw[he,if_neg (by decide)]at hs;simp(disch:=omega);refine pN p k hp hk d _ _ _ (by omega) ?_;rw[<-hs];cases hr:emL (avN p k d w (i+1))
    ·obtain⟨rest,hrest⟩:=oQ p k d w (i:=i+1) (by omega);rw[hrest,E0 hr]at h;unfold vF at h ⊢;rw[hr]at h ⊢;simp(disch:=omega);exact ad h
    ·unfold vF;rw[hr];simp(disch:=omega);exact rndS (i+1) ⟨rfl,by omega,hr⟩
   ·rw[he,if_pos rfl]at hs;simp(disch:=omega);exact rndS (i+1) ⟨rfl,by omega,by rw[hs];rfl⟩
  ·have hi':i=k:=by omega
   rw[hi']at hnil;rw[sE,hnil]at h;simp(disch:=omega);exact ad h
theorem uT(ws:List B8)(w:B8):iM ws w 1=il ws w:=by
 unfold iM il;rw[show decide ((0:Int)<=1/\(1:Int)<=100)=true by decide,Bool.and_true]
theorem Dq(v:Value)(ws:List B8)(w:B8)(M:Mem)(R:VP)(hv:Rd M v (strs ws))(hf:cP ws)(hn:ws.length<=1099511627776)(hl:w.length<=1099511627776)(h:R (aE (str (mP ws w 1)) (nU ws w 1)) M):ar prog 158 [.agg #[v],str w] M R:=by
 refine fnS func158 rfl ntmps158 results158 ?_;obtain⟨a,c,rfl,ha⟩:=hv.opened;rw[ah]at hv ⊢;simp(disch:=omega);intro b1 hb1;simp(disch:=omega);refine Dr _ ws w 1 _ _ (hv.put hb1 _) hf hn hl ?_;simp(disch:=omega)[aE];exact ae ((Sub.refl M).put hb1 _) h
theorem Ep(v:Value)(ws:List B8)(w:B8)(M:Mem)(R:VP)(hv:Rd M v (strs ws))(hf:cP ws)(hn:ws.length<=1099511627776)(hl:w.length<=1099511627776)(h:R (aE (str (mP ws w 1)) (nU ws w 1)) M):ar prog 117 [.agg #[v],str w] M R:=by
 refine fnS func117 rfl ntmps117 results117 ?_;obtain⟨a,c,rfl,ha⟩:=hv.opened;rw[ah]at hv ⊢;simp(disch:=omega);intro b1 hb1;have hs:=(Sub.refl M).put hb1 (.cells true [.slice a ws.length c] 1);simp(disch:=omega);refine sW _ ws w _ _ (hv.put hb1 _) hf hn hl ?_;unfold mP nU at h;by_cases h0:iM ws w 1=0
 ·obtain⟨g1,g2,g3,_,_⟩:=mb h0;rw[if_pos h0,if_pos h0,show (1:Int).toNat=1 from rfl,qq]at h;rw[<-uT,h0];have hx:=yM (aZ g2) g3;have hil:=iN g1 hx;have h60:=au g2;simp(disch:=omega);refine kL _ ws w _ _ (hv.put hb1 _) g1 h60 hx ?_;by_cases hbig:60<(aQ ws w).length
  ·rw[if_pos hbig]at h;have hbig':(60:Int)<(aQ ws w).length:=by omega
   simp(disch:=omega)[hbig'];exact ae hs h
  ·rw[if_neg hbig]at h;have hbig':¬(60:Int)<(aQ ws w).length:=by omega
   simp(disch:=omega)[hbig'];exact ae hs h
 ·rw[if_neg h0,if_neg h0]at h;rw[<-uT];generalize iM ws w 1=code at *;simp(disch:=omega);exact ae hs h
def mnL:List Nat->Nat
 | []=>0
 | a::l=>l.foldl Nat.min a
def mxL:List Nat->Nat
 | []=>0
 | a::l=>l.foldl Nat.max a
theorem G4{l:List Nat}(h:1<=l.length)(a:Nat):mnL (l++[a])=Nat.min (mnL l) a:=by
 cases l with
 | nil=>simp at h
 | cons b l=>simp[mnL]
theorem Ff{l:List Nat}(h:1<=l.length)(a:Nat):mxL (l++[a])=Nat.max (mxL l) a:=by
 cases l with
 | nil=>simp at h
 | cons b l=>simp[mxL]
theorem Ly(a:Nat):mnL [a]=a:=rfl
theorem KR(a:Nat):mxL [a]=a:=rfl
theorem Qd(a b:Nat):(if b<a then (b:Int) else a)=(Nat.min a b:Nat):=by
 show _=((min a b:Nat):Int);split<;>omega
theorem Qf(a b:Nat):(if a<b then (b:Int) else a)=(Nat.max a b:Nat):=by
 show _=((max a b:Nat):Int);split<;>omega
def lens(ws:List B8):List Nat:=ws.map length
theorem jY(ws:List B8):(lens ws).length=ws.length:=by simp[lens]
theorem ND(ws:List B8)(w:B8):lens (ws++[w])=lens ws++[w.length]:=by simp[lens]
theorem qo:∀(l:List Nat) (a:Nat),l.foldl Nat.min a<=a/\∀ x∈l,l.foldl Nat.min a<=x
 | [],a=>⟨lRf a,fun _ h=>by cases h⟩
 | b::l,a=>by
  obtain⟨h1,h2⟩:=qo l (Nat.min a b);have e:Nat.min a b=min a b:=rfl;refine⟨by rw[foldl_cons];omega,fun x hx=>?_⟩;rw[foldl_cons];rcases List.mem_cons.1 hx with rfl|hx
  ·omega
  ·exact h2 x hx
theorem Uh{l:List Nat}{x:Nat}(h:x∈l):mnL l<=x:=by
 cases l with
 | nil=>cases h
 | cons a l=>
  rcases List.mem_cons.1 h with rfl|h
  ·exact(qo l x).1
  ·exact(qo l a).2 x h
theorem Hv:∀(l:List Nat) (a:Nat),l.foldl Nat.max a∈a::l
 | [],a=>mem_cons_self ..
 | b::l,a=>by
  rw[foldl_cons];have:=Hv l (Nat.max a b);have e:Nat.max a b=a\/Nat.max a b=b:=by show max a b=a\/max a b=b;omega
  rcases List.mem_cons.1 this with h|h
  ·rw[h];rcases e with e|e<;>rw[e]<;>simp
  ·exact mem_cons_of_mem _ (mem_cons_of_mem _ h)
theorem Rn{l:List Nat}(h:1<=l.length):mxL l∈l:=by
 cases l with
 | nil=>simp at h
 | cons a l=>exact Hv l a
def lu(ws:List B8):Int:=if aY ws then 0 else 1
def jH(ws:List B8):Nat:=if mnL (lens ws)=0 then 0 else max 3 ((mxL (lens ws)-3+mnL (lens ws)-1)/mnL (lens ws)+1)
def LO(ws:List B8):Nat:=if aY ws then jH ws else 0
def kS(ws:List B8):Int:=if aY ws then (if jH ws=0 then 5 else 0) else 1
theorem K3{ws:List B8}(h:aY ws=true):mnL (lens ws)<=12/\mxL (lens ws)<=12/\mnL (lens ws)<=mxL (lens ws):=by
 have h1:=aV h;have h2:=Rn (l:=lens ws) (by rw[jY];omega);obtain⟨w,hw,he⟩:=List.mem_map.1 h2;have:=(bL h hw).1;have:=Uh h2;omega
theorem eF(l:List Nat)(a:Nat):aD l++[.int .i64 a]=aD (l++[a]):=by simp[aD]
theorem take_one{α:Type}{l:List α}(h:0<l.length):l.take 1=[l[0]]:=by
 cases l with
 | nil=>simp at h
 | cons a l=>rfl
theorem rZ(v:Value)(ws:List B8)(M:Mem)(R:VP)(hv:Rd M v (strs ws))(hf:cP ws)(hn:ws.length<=1000000)(h:∀ v' M',Own M v' (aD (lens ws)) M'->R v' M'):ar prog 388 [.agg #[v]] M R:=by
 refine fnS func388 rfl ntmps388 results388 ?_;obtain⟨a,c,rfl,ha⟩:=hv.opened;rw[ah]at ha hv ⊢;simp(disch:=omega);intro b1 hb1;have hs1:Sub M (M.put b1 (.cells true [.slice a ws.length c] 1)):=(Sub.refl M).put hb1 _;simp(disch:=omega);generalize M.put b1 (.cells true [.slice a ws.length c] 1)=N at *;refine lupS (rlA [3,5] 9 10) (fun x:Nat×Value=>[(9,.int .i64 x.1),(3,x.2)]) (fun x M'=>x.1<=ws.length/\Own N x.2 (aD (lens (ws.take x.1))) M') (fun x=>ws.length-x.1) (0,.slice none 0 0) ⟨by simp,Own.nil _⟩ ?_
 rintro⟨i,v⟩ M' g ⟨hi,ho⟩
 simp only at hi ho;by_cases hlt:i<ws.length
 ·rcases ha with h0|⟨b,o,rfl,ha⟩
  ·omega
  have hg0:=ha i hlt;rw[ba,gEl hlt]at hg0;have hg:=aX (aX hg0 hs1) ho.sub;have hw:=hf _ (getElem_mem hlt);have hle:(aD (lens (ws.take i))).length<=1000000:=by rw[aB,jY,lTa];omega
  simp(disch:=omega)[hg];refine bY _ _ _ hw ?_;simp(disch:=omega);intro b' hb';simp(disch:=omega);refine aN ho ((Sub.refl _).put hb' _) (by simp(disch:=omega);rfl) rfl rfl (by omega) (by simp(disch:=omega)) (by simp(disch:=omega);omega) ?_;intro v' M'' N'' ho' hs';simp(disch:=omega);refine rndM M'' (i+1,v') hs' ⟨by simp only;omega,?_⟩;rw[eF,<-ND,<-aw ws hlt]at ho';exact ho'
 ·have hi':i=ws.length:=by omega
  subst hi';simp(disch:=omega);rw[take_length]at ho;obtain⟨M'',ho',hs'⟩:=ho.base hs1;exact ae hs' (h v M'' ho')
theorem QL(v:Value)(ns:List Nat)(M:Mem)(R:VP)(hv:Rd M v (aD ns))(h1:1<=ns.length)(hl:ns.length<=1000000)(h:R (.int .i64 (mnL ns)) M):ar prog 387 [v] M R:=by
 refine fnS func387 rfl ntmps387 results387 ?_;obtain⟨a,c,rfl,ha⟩:=hv.opened;rw[aB]at ha ⊢;rcases ha with h0|⟨b,o,rfl,ha⟩
 ·omega
 have hg0:=ha 0 (by omega);rw[bU,gEl (by omega),Nat.add_zero]at hg0;simp(disch:=omega)[hg0];refine aP aR (rlA [3,4] 12 12) (fun i:Nat=>[(4,.int .i64 i),(3,.int .i64 (mnL (ns.take i)))]) (fun i M'=>M'=M/\1<=i/\i<=ns.length) (fun i=>ns.length-i) 1 (by kernel_rfl) (by rw[take_one (by omega)];simp(disch:=omega)[Ly]) ⟨rfl,by omega,h1⟩ ?_
 rintro i M' g ⟨rfl,hi1,hi⟩
 by_cases hlt:i<ns.length
 ·have hg:=ha i hlt;rw[bU,gEl hlt]at hg;simp(disch:=omega)[hg,Qd];refine rndA (i+1) ?_ ⟨rfl,by omega,by omega⟩;rw[aw ns hlt,G4 (by rw[lTa];omega)];simp(disch:=omega)
 ·have hi':i=ns.length:=by omega
  subst hi';rw[take_length];simp(disch:=omega);exact ad h
theorem PN(v:Value)(ns:List Nat)(M:Mem)(R:VP)(hv:Rd M v (aD ns))(h1:1<=ns.length)(hl:ns.length<=1000000)(h:R (.int .i64 (mxL ns)) M):ar prog 389 [v] M R:=by
 refine fnS func389 rfl ntmps389 results389 ?_;obtain⟨a,c,rfl,ha⟩:=hv.opened;rw[aB]at ha ⊢;rcases ha with h0|⟨b,o,rfl,ha⟩
 ·omega
 have hg0:=ha 0 (by omega);rw[bU,gEl (by omega),Nat.add_zero]at hg0;simp(disch:=omega)[hg0];refine aP aR (rlA [3,4] 12 12) (fun i:Nat=>[(4,.int .i64 i),(3,.int .i64 (mxL (ns.take i)))]) (fun i M'=>M'=M/\1<=i/\i<=ns.length) (fun i=>ns.length-i) 1 (by kernel_rfl) (by rw[take_one (by omega)];simp(disch:=omega)[KR]) ⟨rfl,by omega,h1⟩ ?_
 rintro i M' g ⟨rfl,hi1,hi⟩
 by_cases hlt:i<ns.length
 ·have hg:=ha i hlt;rw[bU,gEl hlt]at hg;simp(disch:=omega)[hg,Qf];refine rndA (i+1) ?_ ⟨rfl,by omega,by omega⟩;rw[aw ns hlt,Ff (by rw[lTa];omega)];simp(disch:=omega)
 ·have hi':i=ns.length:=by omega
  subst hi';rw[take_length];simp(disch:=omega);exact ad h
theorem Qe:cP []:=by intro w hw;cases hw
theorem JO(M:Mem):Rd M (.slice none 0 0) []:=(Own.nil M).rd
theorem fy(v:Value)(ws:List B8)(M:Mem)(R:VP)(hv:Rd M v (strs ws))(hf:cP ws)(hn:ws.length<=1099511627776)(h:R (.int .i64 (lu ws)) M):ar prog 228 [.agg #[v],.func (.func 213) #[] #[],.slice none 0 0] M R:=by
 refine dq v _ _ ws [] true (fun _=>True) M R hv hf hn (JO M) Qe (by simp) rfl trivial bV (bI _) ?_;have e:gn [] ([].all (fun u=>iC u ws.length)&&true)=0:=rfl;rw[e];exact h
theorem Gc{a b:Nat}(ha:1<=a)(ha':a<=12)(hb:b<=12):((((b-3:Nat):Int)+a-1).tdiv a)=(((b-3+a-1)/a:Nat):Int):=by
 have e:((b-3:Nat):Int)+a-1=((b-3+a-1:Nat):Int):=by omega
 rw[e,Int.tdiv_eq_ediv_of_nonneg (by omega)]
 push_cast;rfl
theorem La{a b:Nat}(hb:b<=12)(ha:a<=12):(b-3+a-1)/a<=21:=Nat.le_trans (Nat.div_le_self _ _) (by omega)
theorem SG(r:Nat):(if (3:Int)<(r:Int)+1 then (r:Int)+1 else 3)=(max 3 (r+1):Nat):=by split<;>omega
theorem WQ(b:Nat):(if (b:Int)-3<0 then (0:Int) else (b:Int)-3)=((b-3:Nat):Int):=by split<;>omega
theorem wK(v:Value)(ws:List B8)(M:Mem)(R:VP)(hv:Rd M v (strs ws))(hf:cP ws)(hn:ws.length<=1099511627776)(h:R (aE (.int .i64 (LO ws)) (kS ws)) M):ar prog 336 [.agg #[v]] M R:=by
 refine fnS func336 rfl ntmps336 results336 ?_;obtain⟨a,c,rfl,ha⟩:=hv.opened;rw[ah]at hv ⊢;simp(disch:=omega);intro b1 hb1;have hs1:Sub M (M.put b1 (.cells true [.slice a ws.length c] 1)):=(Sub.refl M).put hb1 _;have hv1:=hv.put hb1 (.cells true [.slice a ws.length c] 1);have k1:(M.put b1 (.cells true [.slice a ws.length c] 1)) b1=some (.cells true [.slice a ws.length c] 1):=ag _ _ _;simp(disch:=omega);generalize M.put b1 (.cells true [.slice a ws.length c] 1)=N at *;refine fy _ ws _ _ hv1 hf hn ?_;unfold LO kS at h;unfold lu;cases hm:aY ws
 ·rw[hm]at h;simp(disch:=omega);exact ae hs1 h
 ·rw[hm,if_pos rfl,if_pos rfl]at h;have h15:=aV hm;have hll:=jY ws;obtain⟨q1,q2,q3⟩:=K3 hm;unfold jH at h;simp(disch:=omega);refine plyS (ak [0,3] (.one 1 1 (.one 2 1 (.one 4 1 (.one 5 1 (ak [6,7] .fin)))))) ?_;simp(disch:=omega)[aq k1];refine rZ _ ws _ _ hv1 hf (by omega) ?_;intro v2 N2 o2;simp(disch:=omega);refine⟨o2.sub,?_⟩;refine QL _ _ _ _ o2.rd (by omega) (by omega) ?_;simp(disch:=omega);refine rZ _ ws _ _ (hv1.sub o2.sub) hf (by omega) ?_;intro v3 N3 o3;simp(disch:=omega);refine⟨o3.sub,?_⟩;refine PN _ _ _ _ o3.rd (by omega) (by omega) ?_;have hsz:=(hs1.trans o2.sub).trans o3.sub;generalize mnL (lens ws)=p at *;generalize mxL (lens ws)=q at *;by_cases h0:p=0
  ·subst h0;simp(disch:=omega);exact ae hsz h
  ·have h0':¬(p:Int)=0:=by omega
   rw[if_neg h0]at h;have t1:=Gc (a:=p) (b:=q) (by omega) q1 q2;have t2:=La (a:=p) (b:=q) q2 q1;have t3:=WQ q;generalize (q-3+p-1)/p=r at *;simp(disch:=omega)[t3,t1,SG];rw[if_neg (show ¬ max 3 (r+1)=0 by omega)]at h;exact ae hsz h
theorem EK(v:Value)(ws:List B8)(M:Mem)(R:VP)(hv:Rd M v (strs ws))(hm:aY ws=true)(h:R (.int .i64 (jH ws)) M):ar prog 275 [.agg #[v]] M R:=by
 refine fnS func275 rfl ntmps275 results275 ?_;obtain⟨a,c,rfl,ha⟩:=hv.opened;have h15:=aV hm;have hll:=jY ws;obtain⟨q1,q2,q3⟩:=K3 hm;rw[ah]at ha hv ⊢;simp(disch:=omega);intro b1 hb1;have hs1:Sub M (M.put b1 (.cells true [.slice a ws.length c] 1)):=(Sub.refl M).put hb1 _;have k1:(M.put b1 (.cells true [.slice a ws.length c] 1)) b1=some (.cells true [.slice a ws.length c] 1):=ag _ _ _;rcases ha with h0|⟨b,o,rfl,ha⟩
 ·omega
 simp(disch:=omega);generalize M.put b1 (.cells true [.slice (some ⟨b,o,none⟩) ws.length c] 1)=N at *;have hget:∀ i,(hi:i<ws.length)->N.get? b (o+i)=some (str ws[i]):=by
  intro i hi;have hg0:=ha i hi;rw[ba,gEl hi]at hg0;exact aX hg0 hs1
 have hg1:=hget 0 (by omega);rw[Nat.add_zero]at hg1;have hl0:(lens ws)[0]'(by omega)=(ws[0]'(by omega)).length:=by simp[lens]
 refine drwS ?_;simp(disch:=omega)[al k1,hg1];refine aP aR (rlA [3,4,5] 16 23) (fun i:Nat=>[(5,.int .i64 i),(3,.int .i64 (mnL ((lens ws).take i))),(4,.int .i64 (mxL ((lens ws).take i)))]) (fun i M'=>M'=N/\1<=i/\i<=ws.length) (fun i=>ws.length-i) 1 (by kernel_rfl) (by rw[take_one (by omega),Ly,KR,hl0];simp(disch:=omega)) ⟨rfl,by omega,by omega⟩ ?_
 rintro i M' g ⟨rfl,hi1,hi⟩
 by_cases hlt:i<ws.length
 ·have hg:=hget i hlt;have hli:(lens ws)[i]'(by omega)=ws[i].length:=by simp[lens]
  simp(disch:=omega)[al k1,hg,Qd,Qf];refine rndA (i+1) ?_ ⟨rfl,by omega,by omega⟩;rw[aw (lens ws) (by omega),hli,G4 (by rw[lTa];omega),Ff (by rw[lTa];omega)];simp(disch:=omega)
 ·have hi':i=ws.length:=by omega
  rw[take_of_length_le (by omega)];unfold jH at h;generalize mnL (lens ws)=p at *;generalize mxL (lens ws)=q at *;by_cases h0:p=0
  ·subst h0;simp(disch:=omega)[al k1];exact ae hs1 h
  ·have h0':¬(p:Int)=0:=by omega
   rw[if_neg h0]at h;have t1:=Gc (a:=p) (b:=q) (by omega) q1 q2;have t2:=La (a:=p) (b:=q) q2 q1;have t3:=WQ q;generalize (q-3+p-1)/p=r at *;simp(disch:=omega)[al k1,t3,t1,SG];exact ae hs1 h
end Go.Proofs.YtapimhjbilkfpaaGreatDoor
