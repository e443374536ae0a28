/- Lemmas for FnExactConsole, part 20 of 46. -/
import Derived.Test.YtapimhjbilkfpaaGreatDoorZ15
import Derived.Test.YtapimhjbilkfpaaGreatDoorZ08
import Derived.Test.YtapimhjbilkfpaaGreatDoorZ10
import Derived.Test.YtapimhjbilkfpaaGreatDoorZ04
set_option linter.unusedVariables false
set_option linter.unusedSimpArgs false
namespace Go.Proofs.YtapimhjbilkfpaaGreatDoor
open Go.Proofs.Tryz List
def xg(u p:List UInt8):Bool:=(cD u p V0 0).any fun _=>true
theorem qK{u p:List UInt8}(hp:∀ c∈p,aE c<3):xg u p=true↔∃ V,qz p V0 V/\fC p V <+: u:=by
 unfold xg;rw[any_eq_true];constructor
 ·rintro⟨⟨V,t⟩,hm,_⟩
  obtain⟨h1,_,h3⟩:=(my hp).1 hm;exact⟨V,h1,h3⟩
 ·rintro⟨V,h1,h2⟩
  exact⟨(V,(fC p V).length),(my hp).2 ⟨h1,rfl,h2⟩,rfl⟩
def lR(w p:List UInt8)(n:Nat):Bool:=(range n).any fun i=>xg (w.drop i) p
def hasB(w p:List UInt8):Bool:=lR w p w.length
theorem zb(w p:List UInt8)(n:Nat):lR w p (n+1)=(lR w p n||xg (w.drop n) p):=by simp[lR,range_succ]
theorem tn{w p:List UInt8}{n m:Nat}(h:n<m)(hh:xg (w.drop n) p=true):lR w p m=true:=by
 unfold lR;rw[any_eq_true];exact⟨n,List.mem_range.2 h,hh⟩
theorem y5{p:List UInt8}{V:bA}(h:qz p V0 V)(hp:p≠[]):1<=(fC p V).length:=by
 cases p with
 | nil=>exact absurd rfl hp
 | cons c p=>
  have:=(h.new (aE c) (um _)).2 ((cT _ _ _).2 (.inl rfl));rw[cE,length_append];cases hq:V.getD (aE c) [] with
  | nil=>exact absurd hq this
  | cons x l=>simp;omega
theorem Oi{w p:List UInt8}(hp:∀ c∈p,aE c<3)(hp1:p≠[]):hasB w p=true↔∃ i V,qz p V0 V/\fC p V <+: w.drop i:=by
 unfold hasB lR;rw[any_eq_true];constructor
 ·rintro⟨i,_,h⟩
  obtain⟨V,h1,h2⟩:=(qK hp).1 h;exact⟨i,V,h1,h2⟩
 ·rintro⟨i,V,h1,h2⟩
  have:=y5 h1 hp1;have hl:=h2.length_le;rw[length_drop]at hl;exact⟨i,List.mem_range.2 (by omega),(qK hp).2 ⟨V,h1,h2⟩⟩
def rh(w p:List UInt8)(n:Nat):Bool:=(range n).any fun m=>eV (w.take (p.length+m)) p
def FG(w p:List UInt8):Bool:=rh w p (w.length+1-p.length)
theorem HD(w p:List UInt8)(n:Nat):rh w p (n+1)=(rh w p n||eV (w.take (p.length+n)) p):=by simp[rh,range_succ]
theorem L3{w p:List UInt8}{n m:Nat}(h:n<m)(hh:eV (w.take (p.length+n)) p=true):rh w p m=true:=by
 unfold rh;rw[any_eq_true];exact⟨n,List.mem_range.2 h,hh⟩
theorem xH{w p:List UInt8}(hp:∀ c∈p,aE c<3)(hp1:p≠[]):FG w p=hasB w p:=by
 rw[Bool.eq_iff_iff,Oi hp hp1];unfold FG rh eV;rw[any_eq_true];constructor
 ·rintro⟨m,hm,h⟩
  obtain⟨i,hi,h⟩:=List.any_eq_true.1 h;obtain⟨V,hf⟩:=(uA hp).1 h;refine⟨i,V,hf.goes,?_⟩;rw[hf.word,drop_take];exact List.take_prefix _ _
 ·rintro⟨i,V,h1,h2⟩
  have hpos:=y5 h1 hp1;have hl:=h2.length_le;rw[length_drop]at hl;have hfit:Fit p ((w.take (i+(fC p V).length)).drop i) V:=by
   refine⟨h1,?_⟩;rw[drop_take,show i+(fC p V).length-i=(fC p V).length by omega];exact(take_prefix h2).symm
  have hfb:=(uA hp).2 ⟨V,hfit⟩;have hlen:=je _ _ _ hfb;rw[length_drop,length_take]at hlen;refine⟨i+(fC p V).length-p.length,List.mem_range.2 (by omega),?_⟩;rw[show p.length+(i+(fC p V).length-p.length)=i+(fC p V).length by omega,any_eq_true];exact⟨i,List.mem_range.2 (by rw[length_take];omega),hfb⟩
end Go.Proofs.YtapimhjbilkfpaaGreatDoor
namespace Go.Proofs.YtapimhjbilkfpaaGreatDoor
open Go Go.Proofs.Tryz List
theorem FA(w p:List UInt8)(M:Mem)(R:VP)(hl:w.length<=60)(hp:aY p=true)(h:R (.bool (xg w p)) M):ar prog 426 [str w,str p] M R:=by
 obtain⟨hp1,hp8,hpv⟩:=bK hp;refine fnS func426 rfl ntmps426 results426 ?_;simp(disch:=omega);refine lF w hl (fun _=>true) _ rfl (fun _=>True) bT ?_ p V0 0 _ _ hpv hp8 uj (by omega) trivial ?_
 ·intro V t K R' hV _ hR;have h3:=cS hV.1;have h3':=hV.1;simp(disch:=omega);refine fnS func441 rfl ntmps441 results441 ?_;simp(disch:=omega);intro b3 hb3;simp(disch:=omega);exact ae ((Sub.refl K).put hb3 _) hR
 ·have e:(cD w p V0 0).any (fun _=>true)=xg w p:=rfl;rw[e];simp(disch:=omega);exact ad h
theorem Be(w p:List UInt8)(M:Mem)(R:VP)(hl:w.length<=60)(hp:aY p=true)(h:R (.bool (hasB w p)) M):ar prog 399 [str w,str p] M R:=by
 refine fnS func399 rfl ntmps399 results399 ?_;simp(disch:=omega);refine lupS [4,5,8,9,10,11,12,13,14,15,16] (fun i:Nat=>[(8,.int .i64 i)]) (fun i M'=>M'=M/\i<=w.length/\lR w p i=false) (fun i=>w.length-i) 0 ⟨rfl,by omega,rfl⟩ ?_
 rintro i M' g ⟨rfl,hi,hno⟩
 by_cases hlt:i<w.length
 ·have hs:=zb w p i;simp(disch:=omega);refine FA _ _ _ _ (by rw[length_drop];omega) hp ?_;cases hf:xg (w.drop i) p
  ·rw[hno,hf]at hs;simp(disch:=omega);exact rndS (i+1) ⟨rfl,by omega,hs⟩
  ·have e:hasB w p=true:=tn hlt hf;rw[e]at h;simp(disch:=omega);exact ad h
 ·have hi':i=w.length:=by omega
  subst hi';have e:hasB w p=false:=hno;rw[e]at h;simp(disch:=omega);exact ad h
def Ea(w p:List UInt8):Int:=if isWord w&&aY p then 0 else 1
theorem wt(w p:List UInt8)(M:Mem)(R:VP)(hw:w.length<=1099511627776)(hp:p.length<=1099511627776)(h:R (aD (.bool ((isWord w&&aY p)&&hasB w p)) (Ea w p)) M):ar prog 349 [str w,str p] M R:=by
 unfold Ea aD at h;refine fnS func349 rfl ntmps349 results349 ?_;simp(disch:=omega);refine kl w p _ _ hw hp ?_;cases hb:isWord w&&aY p
 ·rw[hb]at h;simp(disch:=omega);exact ad h
 ·rw[hb]at h;rw[Bool.and_eq_true]at hb;have h60:=au hb.1;rw[if_pos rfl,Bool.true_and]at h;simp(disch:=omega);refine Be w p _ _ h60 hb.2 ?_;simp(disch:=omega);exact ad h
theorem Ox{w:List UInt8}{ls:List Nat}{p:List UInt8}{V:bA}{t i:Nat}(hi:i<p.length):gvF w ls (p.take (i+1)) V t=gvS w ls (gvF w ls (p.take i) V t) p[i]:=by
 unfold gvF;rw[az p hi,foldl_append];rfl
theorem EO{w:List UInt8}{ls:List Nat}{p:List UInt8}{V:bA}{t i:Nat}(h:gvF w ls (p.take i) V t=none):gvF w ls p V t=none:=by
 have e:gvF w ls p V t=(p.drop i).foldl (gvS w ls) (gvF w ls (p.take i) V t):=by
  unfold gvF;rw[<-foldl_append,take_append_drop]
 rw[e,h,wL]
theorem Mk{V:bA}{j:Nat}(hj:j<V.length):jw (V.take (j+1))=jw (V.take j)++if V[j].isEmpty then [] else [V[j]]:=by
 unfold jw;rw[az V hj,filter_append];cases h:V[j].isEmpty<;>simp[h]
theorem getD_at{V:bA}{j:Nat}(hj:j<V.length):V.getD j []=V[j]:=by
 rw[getD_eq_getElem?_getD,getElem?_eq_getElem hj];rfl
theorem EW{ls:List Nat}{k:Nat}(hk:k<ls.length):(aB ls)[k]?=some (.int .i64 (ls.getD k 0:Nat)):=by
 rw[bS,getElem?_eq_getElem hk,getD_eq_getElem?_getD,getElem?_eq_getElem hk];rfl
def Low(ls:List Nat):Prop:=∀ k,ls.getD k 0<=60
theorem sd(w p:List UInt8)(M:Mem)(R:VP)(hw:w.length<=1099511627776)(hp:p.length<=1099511627776)(h:R (.int .i64 (if isWord w&&aY p then 0 else 1)) M):ar prog 277 [str w,str p] M R:=by
 refine fnS func277 rfl ntmps277 results277 ?_;simp(disch:=omega);refine ba w _ _ hw ?_;cases h1:isWord w
 ·rw[h1]at h;simp(disch:=omega);exact ad h
 ·rw[h1]at h;simp(disch:=omega);refine iU p _ _ hp ?_;cases h2:aY p
  ·rw[h2]at h;simp(disch:=omega);exact ad h
  ·rw[h2]at h;simp(disch:=omega);exact ad h
theorem Aa(w p:List UInt8)(v:Value)(ls:List Nat)(M:Mem)(R:VP)(hl:w.length<=60)(hpv:p.all isV=true)(hp8:p.length<=8)(hv:Rd M v (aB ls))(h3:ls.length=3)(hlow:Low ls)
  (h1:∀ V t,gvF w ls p V0 0=some (V,t)->∀ v' M',Own M v' (strs (jw V)) M'->R (.tuple #[v',.bool (decide (t=w.length))]) M') (h0:gvF w ls p V0 0=none->∀ M',Sub M M'->R (.tuple #[.slice none 0 0,.bool false]) M') :
  ar prog 360 [str w,str p,v] M R:=by
 obtain⟨a,c,rfl,ha⟩:=hv.opened;rw[aA,h3]at ha ⊢;rcases ha with hz|⟨b,o,rfl,ha⟩
 ·omega
 refine fnS func360 rfl ntmps360 results360 ?_;simp(disch:=omega);intro b8 hb8;simp(disch:=omega);have hne:∀ k,k<3->∀ X,(M.put b8 X).get? b (o+k)=some (.int .i64 (ls.getD k 0:Nat)):=by
  intro k hk X;have hg:=ha k hk;rw[EW (by omega)]at hg;exact aT hg ((Sub.refl M).put hb8 X)
 refine lupS [6,7,9,10,11,12,16,17,18,19,20,21,22,23,24,25,26,27,28,29,30,31,32,33,34,35,36,37,38,39,40,41,42,43,44,45,46,47,48,49,50,51,52,53,54,55,56,57,58,59,60,61,62,63,64,65,66] (fun x:Nat×bA×Nat=>[(10,.int .i64 x.1),(9,.int .i64 x.2.2)]) (fun x M'=>x.1<=p.length/\M'=M.put b8 (.cells true (strs x.2.1) 3)/\eu x.2.1/\x.2.2<=w.length/\gvF w ls (p.take x.1) V0 0=some x.2) (fun x=>p.length-x.1) (0,V0,0) ⟨by simp,rfl,uj,by simp,rfl⟩ ?_
 rintro⟨i,V,t⟩ M' g ⟨hi,rfl,hV,ht,hgv⟩
 simp only at hi hV ht hgv;by_cases hlt:i<p.length
 ·have hx:p[i]?=some p[i]:=getElem?_eq_getElem hlt;have hc:=dc (List.all_eq_true.1 hpv _ (getElem_mem hlt));have hsn:=Ox (w:=w) (ls:=ls) (V:=V0) (t:=0) hlt;rw[hgv,Eu]at hsn;generalize p[i]=c at *;have hk:((c.toNat:Int)-65).toNat=aE c:=by unfold aE;omega
  have hk3:aE c<3:=by unfold aE;omega
  have hgl:=hne (aE c) hk3;have hlo:=hlow (aE c);have hgv3:=oO hV.1 hk3;have hsm:=kB hV (aE c);have hkb:=hV.1;have k8:(M.put b8 (.cells true (strs V) 3)) b8=some (.cells true (strs V) 3):=ag _ _ _;generalize aE c=k at *;generalize ls.getD k 0=l at *;obtain⟨own,hown⟩:∃ own,own=V.getD k []:=⟨_,rfl⟩;rw[<-hown]at hgv3 hsm hsn;by_cases hle:t+l<=w.length
  ·have hle':¬(w.length:Int)<(t:Int)+l:=by omega
   have hseg:drop t (take ((t:Int)+l).toNat w)=(w.drop t).take l:=by
    rw[show ((t:Int)+l).toNat=t+l by omega,drop_take,show t+l-t=l by omega]
   have hul:((w.drop t).take l).length<=60:=by rw[length_take,length_drop];omega
   have hV':eu (V.set k ((w.drop t).take l)):=oy hV hul;generalize (w.drop t).take l=u at *;by_cases h00:own=[]
   ·rw[if_pos ⟨hle,.inl h00⟩]at hsn;have he:own.isEmpty=true:=by rw[h00];rfl
    simp(disch:=omega)[qT hx,hk,hgl _,hle',hseg,aj k8,hgv3,he];refine rndS (i+1,V.set k u,t+l) ⟨by simp only;omega,?_,hV',by simp only;omega,hsn⟩;simp only[gG]
   ·have he:own.isEmpty=false:=by cases own with
     | nil=>exact absurd rfl h00
     | cons a l=>rfl
    by_cases hou:own=u
    ·rw[if_pos ⟨hle,.inr hou⟩]at hsn;have hbe:(own==u)=true:=by rw[hou];exact beq_self_eq_true _
     simp(disch:=omega)[qT hx,hk,hgl _,hle',hseg,aj k8,hgv3,he,hbe];refine rndS (i+1,V.set k u,t+l) ⟨by simp only;omega,?_,hV',by simp only;omega,hsn⟩;simp only[gG]
    ·rw[if_neg (by rintro⟨_,hh|hh⟩;exact h00 hh;exact hou hh)]at hsn;have hbe:(own==u)=false:=beq_eq_false_iff_ne.2 hou;simp(disch:=omega)[qT hx,hk,hgl _,hle',hseg,aj k8,hgv3,he,hbe];exact ae ((Sub.refl M).put hb8 _) (h0 (EO hsn) _ (Sub.refl _))
  ·have hle':(w.length:Int)<(t:Int)+l:=by omega
   rw[if_neg (by rintro⟨hh,_⟩;exact hle hh)]at hsn;simp(disch:=omega)[qT hx,hk,hgl _,hle'];exact ae ((Sub.refl M).put hb8 _) (h0 (EO hsn) _ (Sub.refl _))
 ·have hi':i=p.length:=by omega
  subst hi';rw[take_length]at hgv;have k8:(M.put b8 (.cells true (strs V) 3)) b8=some (.cells true (strs V) 3):=ag _ _ _;have hs8:Sub M (M.put b8 (.cells true (strs V) 3)):=(Sub.refl M).put hb8 _;simp(disch:=omega);generalize M.put b8 (.cells true (strs V) 3)=N at *;intro bo hbo;simp(disch:=omega);refine lupS [13,14,68,69,70,71,72,73,74,75,76,77,78,79,80,81,82,83] (fun x:Nat×Value=>[(14,.int .i64 x.1),(13,x.2)]) (fun x M'=>x.1<=3/\Own N x.2 (strs (jw (V.take x.1))) M') (fun x=>3-x.1) (0,.slice (some ⟨bo,0,none⟩) 0 0) ⟨by omega,Own.new hbo rfl (Nat.le_refl 0)⟩ ?_
  rintro⟨j,v2⟩ M2 g2 ⟨hj,ho⟩
  simp only at hj ho;by_cases hjl:j<3
  ·have hjV:j<V.length:=by rw[hV.1];exact hjl
   have hgv3:=oO hV.1 hjl;have hsn:=Mk hjV;rw[<-getD_at hjV]at hsn;generalize V.getD j []=u at *;have hk8:=ho.sub _ _ k8;have hlen:(jw (V.take j)).length<=3:=by
    unfold jw;exact Nat.le_trans (length_filter_le _ _) (by rw[length_take];omega)
   generalize jw (V.take j)=L at *;cases he:u.isEmpty
   ·rw[he,if_neg (by decide)]at hsn;simp(disch:=omega)[aj hk8,hgv3,he];intro b' hb';simp(disch:=omega);refine aN ho ((Sub.refl _).put hb' _) (by simp(disch:=omega);rfl) rfl rfl (by omega) (by simp(disch:=omega)) (by simp(disch:=omega);omega) ?_;intro v' M'' N'' ho' hs';simp(disch:=omega);refine rndM M'' (j+1,v') hs' ⟨by simp only;omega,?_⟩;simp only;rw[hsn,<-cO];exact ho'
   ·rw[he,if_pos rfl,append_nil]at hsn;simp(disch:=omega)[aj hk8,hgv3,he];refine rndS (j+1,v2) ⟨by simp only;omega,?_⟩;simp only;rw[hsn];exact ho
  ·have hj':j=3:=by omega
   subst hj';rw[take_of_length_le (by rw[hV.1];omega)]at ho;obtain⟨M3,o3,s3⟩:=ho.base hs8;simp(disch:=omega);have e:((t:Int)==(w.length:Int))=decide (t=w.length):=by
    rw[Bool.eq_iff_iff,beq_iff_eq,decide_eq_true_eq];omega
   rw[e];exact ae s3 (h1 V t hgv _ _ o3)
theorem LF{p:List UInt8}{ls:List Nat}{i:Nat}(hi:i<p.length):gZ (p.take (i+1)) ls=gZ (p.take i) ls+ls.getD (aE p[i]) 0:=by
 unfold gZ;rw[az p hi,map_append,sum_append];simp
theorem KY{p:List UInt8}{k i:Nat}(hi:i<p.length):fL (p.take (i+1)) k=fL (p.take i) k+if aE p[i]=k then 1 else 0:=by
 unfold fL;rw[az p hi,countP_append,countP_singleton];simp
theorem JS{ls:List Nat}(h:Low ls):∀ p:List UInt8,gZ p ls<=60*p.length
 | []=>by simp[gZ]
 | c::p=>by
  have ih:=JS h p;have h1:=h (aE c);have e:gZ (c::p) ls=ls.getD (aE c) 0+gZ p ls:=by simp[gZ]
  rw[e,length_cons];omega
theorem QN(p:List UInt8)(k:Nat):fL p k<=p.length:=countP_le_length
theorem GF{ls:List Nat}(h:Low ls){n:Nat}(hn:n<=60):Low (ls++[n]):=by
 intro k;rw[getD_eq_getElem?_getD];by_cases hk:k<ls.length
 ·rw[getElem?_append_left hk,<-getD_eq_getElem?_getD];exact h k
 ·rw[getElem?_append_right (by omega)];cases hq:([n]:List Nat)[k-ls.length]? with
  | none=>simp
  | some x=>
   have:=mem_of_getElem? hq;rw[List.mem_singleton.1 this];exact hn
theorem P0:Low []:=fun k=>by simp
theorem zr(ls:List Nat):∀ v∈aB ls,bF v=true:=by
 intro v hv;obtain⟨n,_,rfl⟩:=List.mem_map.1 hv;rfl
theorem Lf{ls:List Nat}{k:Nat}(h:ls.length<=k):ls.getD k 0=0:=by
 rw[getD_eq_getElem?_getD,getElem?_eq_none h];rfl
def jY(w p:List UInt8)(d:Nat)(ls:List Nat)(m:Nat):Option bA:=(range m).findSome? fun n=>lK w p d (ls++[n+1])
theorem uU{w p:List UInt8}{d m:Nat}{ls:List Nat}(h:jY w p d ls m=none):jY w p d ls (m+1)=lK w p d (ls++[m+1]):=by
 unfold jY at *;rw[range_succ,findSome?_append,h,Option.none_or];cases hf:lK w p d (ls++[m+1])<;>simp[findSome?,hf]
theorem H9{w p:List UInt8}{d m n:Nat}{ls:List Nat}{V:bA}(hm:m<n)(h0:jY w p d ls m=none)(h:lK w p d (ls++[m+1])=some V):jY w p d ls n=some V:=by
 have h1:jY w p d ls (m+1)=some V:=by rw[uU h0,h]
 obtain⟨e,rfl⟩:∃ e,n=m+1+e:=⟨n-m-1,by omega⟩;unfold jY at *;rw[range_add,findSome?_append,h1,Option.some_or]
theorem tT{M N:Mem}{v:Value}{l:List Value}(h:dp M v=some l)(hs:Sub M N):dp N v=some l:=by
 unfold dp at *;split at h
 ·exact h
 ·rename_i b o n c;show N.sub? b o n=some l;unfold Mem.sub? at *;split at h
  ·rename_i hb;rw[hs _ _ hb];exact h
  ·cases h
 ·exact h
 ·cases h
theorem BR(ls:List Nat)(n:Nat):aB ls++[.int .i64 (n:Nat)]=aB (ls++[n]):=by simp[aB]
theorem ib(w p:List UInt8)(hl:w.length<=60)(hpv:p.all isV=true)(hp8:p.length<=8):∀(d:Nat) (ls:List Nat) (v:Value) (M:Mem) (R:VP),Rd M v (aB ls)->dp M v=some (aB ls)->ls.length+d=3->Low ls ->
  (∀ V,lK w p d ls=some V->∀ v' M',Own M v' (strs (jw V)) M'->R (.tuple #[v',.bool true]) M')->(lK w p d ls=none->∀ v' M',Sub M M'->R (.tuple #[v',.bool false]) M') ->
  ar prog 279 [str w,str p,v] M R
 | 0,ls,v,M,R,hv,hsv,h3,hlow,h1,h0=>by
  obtain⟨a,c,rfl,ha⟩:=hv.opened;have h3:ls.length=3:=by omega
  unfold lK at h1 h0;rw[aA,h3]at hv ⊢;refine fnS func279 rfl ntmps279 results279 ?_;simp(disch:=omega);refine Aa w p _ ls _ _ hl hpv hp8 hv h3 hlow ?_ ?_
  ·intro V t hg v' M' ho;rw[hg]at h1 h0;simp only at h1 h0;by_cases ht:t=w.length
   ·rw[if_pos ht]at h1;rw[decide_eq_true ht];simp(disch:=omega);exact ad (h1 V rfl v' M' ho)
   ·rw[if_neg ht]at h0;rw[decide_eq_false ht];simp(disch:=omega);exact ad (h0 rfl v' M' ho.sub)
  ·intro hg M' hs;rw[hg]at h0;simp(disch:=omega);exact ad (h0 rfl _ M' hs)
 | d+1,ls,v,M,R,hv,hsv,h3,hlow,h1,h0=>by
  obtain⟨a,c,rfl,ha⟩:=hv.opened;have hll:ls.length<=2:=by omega
  unfold lK at h1 h0;obtain⟨m,hm⟩:∃ m,m=ls.length:=⟨_,rfl⟩;rw[aA,<-hm]at ha hv hsv ⊢;rw[<-hm]at h1 h0;have hm3:¬(m:Int)=3:=by omega
  have hwr:IntKind.u8.wrap (65+(m:Int))=65+m:=by unfold IntKind.wrap;simp[IntKind.bits,IntKind.signed];omega
  refine fnS func279 rfl ntmps279 results279 ?_;simp(disch:=omega)[hwr];refine aQ aR [9,10,11,28,29,30,31,32,33,34,35,36,37,38,39,40,41,42,43,44,45,46,47,48,49,50,51,52,53,54,55,56,57] (fun i:Nat=>[(11,.int .i64 i),(9,.int .i64 (gZ (p.take i) ls:Nat)),(10,.int .i64 (fL (p.take i) m:Nat))]) (fun i M'=>i<=p.length/\M'=M) (fun i=>p.length-i) 0 (by kernel_rfl) (by simp(disch:=omega);exact⟨rfl,rfl⟩) ⟨by omega,rfl⟩ ?_
  rintro i M' g ⟨hi,rfl⟩
  have hsl:=JS hlow (p.take i);have hcl:=QN (p.take i) m;rw[length_take]at hsl hcl;by_cases hlt:i<p.length
  ·have hx:p[i]?=some p[i]:=getElem?_eq_getElem hlt;have hc:=dc (List.all_eq_true.1 hpv _ (getElem_mem hlt));have e1:=LF (ls:=ls) hlt;have e2:=KY (k:=m) hlt;have hlo:=hlow (aE p[i]);generalize gZ (p.take i) ls=sm at *;generalize fL (p.take i) m=ct at *;generalize p[i]=u at *;have hk:((u.toNat:Int)-65).toNat=aE u:=by unfold aE;omega
   have hk':aE u=u.toNat-65:=rfl;by_cases h3':aE u<m
   ·rcases ha with hz|⟨b,o,rfl,ha⟩
    ·omega
    have hne:((u.toNat:Int)==65+(m:Int))=false:=beq_eq_false_iff_ne.2 (by omega);have hlt':(u.toNat:Int)-65<m:=by omega
    have hg:=ha _ h3';rw[EW (by omega)]at hg;rw[if_neg (by omega)]at e2;generalize ls.getD (aE u) 0=l at *;simp(disch:=omega)[qT hx,hk,hne,hlt',hg];exact rndA (i+1) (by simp(disch:=omega)[e1,e2]) ⟨by omega,rfl⟩
   ·have hlt':¬(u.toNat:Int)-65<m:=by omega
    rw[Lf (by omega),Nat.add_zero]at e1;by_cases h4:aE u=m
    ·have hne:((u.toNat:Int)==65+(m:Int))=true:=by rw[beq_iff_eq];omega
     rw[if_pos h4]at e2;simp(disch:=omega)[qT hx,hne,hlt'];exact rndA (i+1) (by simp(disch:=omega)[e1,e2]) ⟨by omega,rfl⟩
    ·have hne:((u.toNat:Int)==65+(m:Int))=false:=beq_eq_false_iff_ne.2 (by omega);rw[if_neg h4,Nat.add_zero]at e2;simp(disch:=omega)[qT hx,hne,hlt'];exact rndA (i+1) (by simp(disch:=omega)[e1,e2]) ⟨by omega,rfl⟩
  ·have hi':i=p.length:=by omega
   subst hi';rw[take_length];rw[Nat.min_self]at hsl hcl;rw[take_length]at hsl hcl;by_cases hc0:fL p m=0
   ·rw[if_pos hc0]at h1 h0;rw[hc0];simp(disch:=omega);intro bn hbn;have o0:Own M' (.slice (some ⟨bn,0,none⟩) 0 0) [] (M'.put bn (.cells true [] 0)):=Own.new hbn rfl (Nat.le_refl 0);dsimp only;generalize M'.put bn (.cells true [] 0)=N0 at *;generalize Value.slice (some ⟨bn,0,none⟩) 0 0=v0 at *;simp(disch:=omega);refine aN o0 (Sub.refl _) (tT hsv o0.sub) rfl rfl (by omega) (zr ls) (by simp(disch:=omega)[aA];omega) ?_;intro v1 M1 N1 o1 s1;simp(disch:=omega);intro b2 hb2;simp(disch:=omega);refine aN o1 (s1.trans ((Sub.refl _).put hb2 _)) (by simp(disch:=omega);rfl) rfl rfl (by omega) (by simp(disch:=omega)) (by simp(disch:=omega);rw[aA];omega) ?_;intro v3 M3 N3 o3 s3;have e3:[]++aB ls++[Value.int .i64 0]=aB (ls++[0]):=BR ls 0;rw[e3]at o3;have r3:=o3.rd.sub s3;simp(disch:=omega);refine ib w p hl hpv hp8 d (ls++[0]) v3 N3 _ r3 (I5 r3 (by rw[aA];simp)) (by simp;omega) (GF hlow (by omega)) ?_ ?_
    ·intro V hV v' M4 o4;obtain⟨M5,o5,s5⟩:=o4.base (o3.sub.trans s3);simp(disch:=omega);exact ae s5 (h1 V hV v' _ o5)
    ·intro hno v' M4 s4;simp(disch:=omega);exact ad (h0 hno v' _ ((o3.sub.trans s3).trans s4))
   ·rw[if_neg hc0]at h1 h0;have hcp:0<fL p m:=Nat.pos_of_ne_zero hc0;have hc0':¬(fL p m:Int)=0:=by omega
    have hdiv:=fun n=>Nat.le_div_iff_mul_le hcp (x:=n) (y:=w.length-gZ p ls);have hq:(w.length-gZ p ls)/fL p m<=w.length-gZ p ls:=Nat.div_le_self _ _;have h1:∀ V,jY w p d ls ((w.length-gZ p ls)/fL p m)=some V->∀ v' M'',Own M' v' (strs (jw V)) M''->R (.tuple #[v',.bool true]) M'':=h1;have h0:jY w p d ls ((w.length-gZ p ls)/fL p m)=none->∀ v' M'',Sub M' M''->R (.tuple #[v',.bool false]) M'':=h0;generalize gZ p ls=sm at *;generalize hct:fL p m=ct at *;generalize (w.length-sm)/ct=q at *;simp(disch:=omega);refine lupS [6,7,12,13,14,70,71,72,73,74,75,76,77,78,79,80,81,82,83,84,85,86,87,88,89,90,91,92,93] (fun n:Nat=>[(12,.int .i64 ((n:Int)+1))]) (fun n M''=>n<=q/\Sub M' M''/\jY w p d ls n=none) (fun n=>q-n) 0 ⟨Nat.zero_le _,Sub.refl _,rfl⟩ ?_
    rintro n M'' g2 ⟨hn,hs,hno⟩
    obtain⟨z,hz⟩:∃ z,z=(n+1)*ct:=⟨_,rfl⟩;have hz':((n:Int)+1)*(ct:Int)=(z:Int):=by rw[hz];push_cast;rfl
    have hd1:=hdiv (n+1);rw[<-hz]at hd1;have hzb:z<=61*8:=by rw[hz];exact Nat.mul_le_mul (by omega) (by omega)
    by_cases hlt2:n<q
    ·have hcond:(sm:Int)+z<=w.length:=by
      have:=hd1.1 (by omega);have:0<z:=by rw[hz];exact Nat.mul_pos (by omega) hcp
      omega
     simp(disch:=omega)[hz',hcond];intro bn hbn;have o0:Own M'' (.slice (some ⟨bn,0,none⟩) 0 0) [] (M''.put bn (.cells true [] 0)):=Own.new hbn rfl (Nat.le_refl 0);dsimp only;generalize M''.put bn (.cells true [] 0)=N0 at *;generalize Value.slice (some ⟨bn,0,none⟩) 0 0=v0 at *;simp(disch:=omega);refine aN o0 (Sub.refl _) (tT (tT hsv hs) o0.sub) rfl rfl (by omega) (zr ls) (by simp(disch:=omega)[aA];omega) ?_;intro v1 M1 N1 o1 s1;simp(disch:=omega);intro b2 hb2;simp(disch:=omega);refine aN o1 (s1.trans ((Sub.refl _).put hb2 _)) (by simp(disch:=omega);rfl) rfl rfl (by omega) (by simp(disch:=omega)) (by simp(disch:=omega);rw[aA];omega) ?_;intro v3 M3 N3 o3 s3;have e3:[]++aB ls++[Value.int .i64 ((n:Int)+1)]=aB (ls++[n+1]):=BR ls (n+1);rw[e3]at o3;have r3:=o3.rd.sub s3;have s13:=hs.trans (o3.sub.trans s3);have hn60:n+1<=60:=by omega
     simp(disch:=omega);refine ib w p hl hpv hp8 d (ls++[n+1]) v3 N3 _ r3 (I5 r3 (by rw[aA];simp)) (by simp;omega) (GF hlow hn60) ?_ ?_
     ·intro V hV v' M4 o4;obtain⟨M5,o5,s5⟩:=o4.base s13;simp(disch:=omega);exact ae s5 (h1 V (H9 hlt2 hno hV) v' _ o5)
     ·intro hno2 v' M4 s4;simp(disch:=omega);exact rndS (n+1) ⟨by omega,s13.trans s4,by rw[uU hno,hno2]⟩
    ·have hcond:¬(sm:Int)+z<=w.length:=by
      intro hh;have:=hd1.2 (by omega);omega
     have hnq:n=q:=by omega
     subst hnq;simp(disch:=omega)[hz',hcond];exact ad (h0 hno _ _ hs)
theorem wj(w p:List UInt8)(M:Mem)(R:VP)(hw:w.length<=1099511627776)(hp:p.length<=1099511627776)(h:UJ (plI w p) (plC w p) (strs (plL w p)) M R):ar prog 190 [str w,str p] M R:=by
 unfold plI plC plL at h;refine fnS func190 rfl ntmps190 results190 ?_;simp(disch:=omega);refine sd w p _ _ hw hp ?_;cases hb:isWord w&&aY p
 ·rw[hb]at h;simp(disch:=omega);exact ad (h _ _ (Own.nil M))
 ·rw[hb,if_pos rfl,if_pos rfl,if_pos rfl]at h;rw[Bool.and_eq_true]at hb;have h60:=au hb.1;obtain⟨hp1,hp8,hpv⟩:=bK hb.2;have hpi:∀ c∈p,aE c<3:=fun c hc=>by
   have:=dc (List.all_eq_true.1 hpv c hc);unfold aE;omega
  simp(disch:=omega);refine lupS [4,5,6,8,9,10,11,18,19,20,21,22,23,24,25,26,27,28,29,30,31,32,33,34,35,36,37,38,39,40,41,42,43,44,45,46,47,48,49,50,51,52] (fun i:Nat=>[(8,.int .i64 i)]) (fun i M'=>i<=w.length/\M'=M/\en w p i=none) (fun i=>w.length-i) 0 ⟨by omega,rfl,rfl⟩ ?_
  rintro i M' g ⟨hi,rfl,hno⟩
  by_cases hlt:i<w.length
  ·have hbest:=Kv (u:=w.drop i) hpi (by intro e;rw[e]at hp1;simp at hp1);have hat:iv w p i=if 0<(fo (cD (w.drop i) p V0 0)).1 then some (i,(fo (cD (w.drop i) p V0 0)).2) else none:=rfl
   have hul:(w.drop i).length=w.length-i:=length_drop;generalize fo (cD (w.drop i) p V0 0)=s at *;obtain⟨least,best⟩:=s;simp only at hbest hat;have hshort:0<least->p.length<=least:=by
    intro h0;rcases hbest with ⟨hz,_⟩|⟨_,hle,hf,_⟩
    ·omega
    ·have:=je _ _ _ hf;rw[length_take]at this;omega
   simp(disch:=omega);refine lupS [4,5,6,9,10,11,28,29,30,31,32,33,34,35,36,37,38,39,40,41,42,43,44,45,46,47,48,49,50,51,52] (fun k:Nat=>[(9,.int .i64 k)]) (fun k M2=>M2=M'/\i+p.length<=k/\k<=w.length+9/\(0<least->k<=i+least)) (fun k=>w.length+9-k) (i+p.length) ⟨rfl,by omega,by omega,fun h0=>by have:=hshort h0;omega⟩ ?_
   rintro k M2 g2 ⟨rfl,hk,hk9,hkl⟩
   by_cases hkw:k<=w.length
   ·have hseg:(w.take k).drop i=(w.drop i).take (k-i):=by rw[drop_take]
    have hsl:((w.drop i).take (k-i)).length<=60:=by rw[length_take,hul];omega
    simp(disch:=omega)[hseg];refine rT _ p _ _ hsl hb.2 ?_;by_cases hend:0<least/\k=i+least
    ·obtain⟨h0,hke⟩:=hend;rcases hbest with ⟨hz,_⟩|⟨_,hle,hf,_,hs⟩
     ·omega
     rw[if_pos h0]at hat;have hpl:iV w p=some (i,best):=vw hlt hno hat;rw[hpl]at h;rw[show k-i=least by omega]at hsl hseg ⊢;rw[hf];generalize (w.drop i).take least=u at *;simp(disch:=omega)[hseg];intro bn hbn;have rn:Rd (M2.put bn (.cells true [] 0)) (.slice (some ⟨bn,0,none⟩) 0 0) (aB []):=Rd.new rfl (Nat.le_refl 0);have sn:dp (M2.put bn (.cells true [] 0)) (.slice (some ⟨bn,0,none⟩) 0 0)=some (aB []):=by
      show Mem.sub? _ bn 0 0=some [];rw[aq (ag _ _ _)];simp[lO]
     have s0:Sub M2 (M2.put bn (.cells true [] 0)):=(Sub.refl _).put hbn _;simp(disch:=omega);generalize M2.put bn (.cells true [] 0)=N at *;have key:=fun R'=>ib u p hsl hpv hp8 3 [] _ N R' rn sn (by simp) P0;refine key _ ?_ ?_
     ·intro V hV v' M3 o3;rw[hs]at hV;injection hV with hV
      subst hV;obtain⟨M4,o4,s4⟩:=o3.base s0;simp(disch:=omega);exact ae s4 (h _ _ o4)
     ·intro hn;rw[hs]at hn;cases hn
    ·have hf:eM ((w.drop i).take (k-i)) p=false:=by
      rcases hbest with ⟨hz,hall⟩|⟨_,hle,_,hall,_⟩
      ·exact hall _ (by omega)
      ·exact hall _ (by have:=hkl (by omega);omega)
     rw[hf];simp(disch:=omega);exact rndS (k+1) ⟨rfl,by omega,by omega,fun h0=>by have:=hkl h0;omega⟩
   ·have h0:¬ 0<least:=by
     intro h0;rcases hbest with ⟨hz,_⟩|⟨_,hle,_⟩
     ·omega
     ·have:=hkl h0;omega
    rw[if_neg h0]at hat;simp(disch:=omega);exact rndS (i+1) ⟨by omega,rfl,by rw[ix hno,hat]⟩
  ·have hi':i=w.length:=by omega
   subst hi';have e:iV w p=none:=hno;rw[e]at h;simp(disch:=omega);exact ad (h _ _ (Own.nil _))
theorem Br{p:List UInt8}(h:aY p=true):1<=p.length/\p.length<=8:=⟨(bK h).1,(bK h).2.1⟩
theorem qp{p:List UInt8}(h:aY p=true):∀ c∈p,aE c<3:=fun c hc=>by
 have:=dc (List.all_eq_true.1 (bK h).2.2 c hc);unfold aE;omega
theorem vz(w p:List UInt8)(M:Mem)(R:VP)(hl:w.length<=60)(hp:aY p=true)(h:R (.bool (FG w p)) M):ar prog 368 [str w,str p] M R:=by
 have hpl:1<=p.length/\p.length<=8:=Br hp;refine fnS func368 rfl ntmps368 results368 ?_;simp(disch:=omega);refine lupS [4,5,8,9,10,11,12,13,14,15,16,17,18] (fun i:Nat=>[(5,.int .i64 i)]) (fun i M'=>M=M'/\p.length<=i/\i<=max (w.length+1) p.length/\rh w p (i-p.length)=false) (fun i=>w.length+1-i) p.length ⟨rfl,by omega,by omega,by rw[Nat.sub_self];rfl⟩ ?_
 rintro i M' g ⟨rfl,hi1,hi2,hno⟩
 by_cases hlt:i<=w.length
 ·simp(disch:=omega);refine lb (w.take i) p _ _ (by rw[length_take];omega) hp ?_;have e1:i+1-p.length=i-p.length+1:=by omega
  have e2:p.length+(i-p.length)=i:=by omega
  have hst:=HD w p (i-p.length);rw[e2]at hst;cases he:eV (w.take i) p
  ·simp(disch:=omega);rw[he]at hst;refine rndS (i+1) ⟨rfl,by omega,by omega,?_⟩;rw[e1,hst,hno];rfl
  ·simp(disch:=omega);have:FG w p=true:=L3 (n:=i-p.length) (by omega) (by rw[e2];exact he);rw[this]at h;exact ad h
 ·simp(disch:=omega);have:FG w p=false:=by
   unfold FG;by_cases hq:p.length<=w.length
   ·rw[show w.length+1-p.length=i-p.length by omega];exact hno
   ·rw[show w.length+1-p.length=0 by omega];rfl
  rw[this]at h;exact ad h
theorem wq(w p:List UInt8)(M:Mem)(R:VP)(hw:w.length<=1099511627776)(hp:p.length<=1099511627776)(h:R (aD (.bool ((isWord w&&aY p)&&hasB w p)) (Ea w p)) M):ar prog 292 [str w,str p] M R:=by
 unfold Ea aD at h;refine fnS func292 rfl ntmps292 results292 ?_;simp(disch:=omega);refine sd w p _ _ hw hp ?_;cases hb:isWord w&&aY p
 ·rw[hb]at h;simp(disch:=omega);exact ad h
 ·rw[hb]at h;rw[Bool.and_eq_true]at hb;have h60:=au hb.1;rw[if_pos rfl,Bool.true_and,<-xH (qp hb.2) (by have:=Br hb.2;intro e;rw[e]at this;simp at this)]at h;simp(disch:=omega);refine vz w p _ _ h60 hb.2 ?_;simp(disch:=omega);exact ad h
def jt:Nat->List UInt8
 | 0=>[]
 | n+1=>jt n++(ltr n::jt n)
theorem qF:∀ n,n<=5->(jt n).length<=31:=by decide
theorem xZ(n:Nat)(M:Mem)(R:VP)(hn:n<=5)(h:R (str (jt n)) M):ar prog 176 [.int .i64 n] M R:=by
 refine fnS func176 rfl ntmps176 results176 ?_;simp(disch:=omega);refine aQ aR [3,4,6,7,8,9,10,11,12,13,14,15] (fun i:Nat=>[(6,.int .i64 i),(3,str (jt i))]) (fun i M'=>M=M'/\i<=n) (fun i=>n-i) 0 (by kernel_rfl) (by simp(disch:=omega)[jt]) ⟨rfl,by omega⟩ ?_
 rintro i M' g ⟨rfl,hi⟩
 by_cases hlt:i<n
 ·have hz:=qF i (by omega);have hs:jt (i+1)=jt i++(ltr i::jt i):=rfl;simp(disch:=omega);refine cN i _ _ (by omega) ?_;generalize hc:ltr i=c at *;generalize hzz:jt i=z at *;simp(disch:=omega);refine rndA (i+1) (by simp(disch:=omega)[hs]) ⟨rfl,by omega⟩
 ·have hi':i=n:=by omega
  subst hi';simp(disch:=omega);exact ad h
theorem kh:∀(n:Nat) (M:Mem) (R:VP),n<=4->R (str (jt (n+1))) M->ar prog 121 [.int .i64 ((n:Int)+1)] M R
 | 0,M,R,hn,h=>by
  have e:jt (0+1)=[97]:=by decide
  rw[e]at h;refine fnS func121 rfl ntmps121 results121 ?_;simp(disch:=omega);exact ad h
 | n+1,M,R,hn,h=>by
  have hs:jt (n+1+1)=jt (n+1)++(ltr (n+1)::jt (n+1)):=rfl;have hz:=qF (n+1) (by omega);rw[hs]at h;have hne:¬(((n+1:Nat):Int)+1=1):=by omega
  have hne2:((((n+1:Nat):Int)+1)==1)=false:=beq_eq_false_iff_ne.2 hne;have ih:=fun (M:Mem) (R:VP) (h:R (str (jt (n+1))) M)=>kh n M R (by omega) h;obtain⟨q,hq⟩:∃ q:Nat,q=n+1:=⟨_,rfl⟩;rw[<-hq]at h hz hne hne2 ih ⊢;have hm1:(q:Int)+1-1=(n:Int)+1:=by omega
  have hm2:(n:Int)+1=(q:Nat):=by omega
  refine fnS func121 rfl ntmps121 results121 ?_;simp(disch:=omega)[hne2,hm1];refine ih _ _ ?_;simp(disch:=omega)[hm1,hm2];refine iN q _ _ (by omega) ?_;generalize hc:ltr q=c at *;simp(disch:=omega)[hm1,hm2];rw[<-hm2];refine ih _ _ ?_;generalize jt q=z at *;simp(disch:=omega);exact ad (by simpa using h)
def oc(p:List UInt8)(k:Nat):Bool:=p.any fun c=>aE c==k
def vD(p:List UInt8):List Value:=[.bool (oc p 0),.bool (oc p 1),.bool (oc p 2)]
def jq(p:List UInt8):Nat:=(if oc p 0 then 1 else 0)+(if oc p 1 then 1 else 0)+(if oc p 2 then 1 else 0)
theorem Jd(p:List UInt8)(c:UInt8)(k:Nat):oc (p++[c]) k=(oc p k||(aE c==k)):=by simp[oc]
theorem Qd(p:List UInt8){k:Nat}(h:k<3):(vD p)[k]?=some (.bool (oc p k)):=by
 have:k=0\/k=1\/k=2:=by omega
 rcases this with rfl|rfl|rfl<;>rfl
theorem QF(p:List UInt8)(c:UInt8)(h:aE c<3)(hn:oc p (aE c)=false):(vD p).set (aE c) (.bool true)=vD (p++[c])/\jq (p++[c])=jq p+1:=by
 unfold vD jq;simp only[Jd];have:aE c=0\/aE c=1\/aE c=2:=by omega
 rcases this with e|e|e<;>rw[e]at hn ⊢<;>simp[hn]<;>omega
theorem O0(p:List UInt8)(c:UInt8)(h:aE c<3)(hn:oc p (aE c)=true):vD (p++[c])=vD p/\jq (p++[c])=jq p:=by
 unfold vD jq;simp only[Jd];have:aE c=0\/aE c=1\/aE c=2:=by omega
 rcases this with e|e|e<;>rw[e]at hn ⊢<;>simp[hn]
theorem AT{p:List UInt8}(h1:p≠[])(hp:∀ c∈p,aE c<3):1<=jq p/\jq p<=3:=by
 constructor
 ·cases p with
  | nil=>exact absurd rfl h1
  | cons c p=>
   have hc:=hp c mem_cons_self;have ho:oc (c::p) (aE c)=true:=by unfold oc;rw[any_cons,beq_self_eq_true,Bool.true_or]
   unfold jq;have:aE c=0\/aE c=1\/aE c=2:=by omega
   rcases this with e|e|e<;>rw[e]at ho<;>rw[ho]<;>simp<;>omega
 ·unfold jq;split<;>split<;>split<;>omega
def uW(p:List UInt8):Bool:=aY p&&hasB (jt (jq p)) p
def u0(p:List UInt8):Int:=if aY p then 0 else 1
theorem qj(p:List UInt8)(M:Mem)(R:VP)(hl:p.length<=1099511627776)(h:∀ M',Sub M M'->R (aD (.bool (uW p)) (u0 p)) M'):ar prog 293 [str p] M R:=by
 unfold aD uW u0 at h;refine fnS func293 rfl ntmps293 results293 ?_;simp(disch:=omega);refine iU p _ _ hl ?_;cases hp:aY p
 ·rw[hp]at h;simp(disch:=omega);exact ad (h _ (Sub.refl _))
 ·rw[hp,if_pos rfl,Bool.true_and]at h;obtain⟨hp1,hp8,hpv⟩:=bK hp;have hlt3:=qp hp;have hne:p≠[]:=by rintro rfl;simp at hp1
  have hr:=AT hne hlt3;rw[<-xH hlt3 hne]at h;simp(disch:=omega);intro b hb;have hs:∀ X,Sub M (M.put b X):=fun X=>(Sub.refl M).put hb X;simp(disch:=omega);refine aQ aR [5,6,11,12,13,14,15,16,17,18,19,20,21,22,23,24,25,26,27,28,29,30,31,32] (fun i:Nat=>[(6,.int .i64 i),(5,.int .i64 (jq (p.take i):Nat))]) (fun i M'=>M.put b (.cells true (vD (p.take i)) 3)=M'/\i<=p.length/\jq (p.take i)<=i) (fun i=>p.length-i) 0 (by kernel_rfl) (by simp(disch:=omega)[jq,oc]) ⟨rfl,by omega,by simp[jq,oc]⟩ ?_
  rintro i M' g ⟨rfl,hi,hd⟩
  by_cases hlt:i<p.length
  ·have hpx:p[i]?=some p[i]:=getElem?_eq_getElem hlt;have hpr:=dc (List.all_eq_true.1 hpv _ (getElem_mem hlt));have hv3:=hlt3 _ (getElem_mem hlt);have hvk:(p[i].toNat:Int)-65=(aE p[i]:Nat):=by unfold aE;omega
   have htk:=az p hlt;have hg:=Qd (p.take i) hv3;have k0:(M.put b (.cells true (vD (p.take i)) 3)) b=some (.cells true (vD (p.take i)) 3):=ag _ _ _;have hgg:=aj k0 (aE p[i]);rw[hg]at hgg;have hml:(vD (p.take i)).length=3:=rfl;cases ho:oc (p.take i) (aE p[i])
   ·obtain⟨m1,m2⟩:=QF (p.take i) p[i] hv3 ho;rw[<-htk]at m1 m2;rw[ho]at hgg;generalize vD (p.take i)=L0 at *;generalize aE p[i]=K at *;generalize p[i]=u at *;simp(disch:=omega)[qT hpx,hvk,hgg,m1,al];refine rndA (i+1) (by simp(disch:=omega)[m2]) ⟨by first|rfl|rw[a7],by omega,by omega⟩
   ·obtain⟨m1,m2⟩:=O0 (p.take i) p[i] hv3 ho;rw[<-htk]at m1 m2;rw[ho]at hgg;generalize aE p[i]=K at *;generalize p[i]=u at *;simp(disch:=omega)[qT hpx,hvk,hgg];refine rndA (i+1) (by simp(disch:=omega)[m2]) ⟨by rw[m1],by omega,by omega⟩
  ·have hi':i=p.length:=by omega
   subst hi';rw[take_length]at hd ⊢;obtain⟨q,hq⟩:∃ q,jq p=q+1:=⟨jq p-1,by omega⟩;rw[hq]at h ⊢;have hqi:((q+1:Nat):Int)=(q:Int)+1:=by omega
   have hzl:=qF (q+1) (by omega);simp(disch:=omega)[hqi];refine kh q _ _ (by omega) ?_;simp(disch:=omega);refine vz (jt (q+1)) p _ _ (by omega) hp ?_;simp(disch:=omega);exact ad (h _ (hs _))
end Go.Proofs.YtapimhjbilkfpaaGreatDoor
