/- Lemmas, part 6. -/
import Derived.Test.YtapimhjbilkfpaaGreatDoorY04
import Derived.Lib.SlTrimSet
import Derived.Shelf.Strings.SlTrimAscii
set_option linter.unusedVariables false
set_option linter.unusedSimpArgs false
set_option maxHeartbeats 8000000
namespace Go.Proofs.YtapimhjbilkfpaaGreatDoor
open Go.Proofs.Tryz List
def yj(u p:B8):Bool:=(cT u p V0 0).any fun _=>true
theorem uj{u p:B8}(hp:∀ c∈p,aI c<3):yj u p=true↔∃ V,qI p V0 V/\gg p V <+: u:=by
 unfold yj;rw[any_eq_true];constructor
 .rintro⟨⟨V,t⟩,hm,_⟩
  obtain⟨h1,_,h3⟩:=(oh hp).1 hm;exact⟨V,h1,h3⟩
 .rintro⟨V,h1,h2⟩
  exact⟨(V,(gg p V).length),(oh hp).2 ⟨h1,rfl,h2⟩,rfl⟩
def mP(w p:B8)(n:Nat):Bool:=(range n).any fun i=>yj (w.drop i) p
def hasB(w p:B8):Bool:=mP w p w.length
theorem zX(w p:B8)(n:Nat):mP w p (n+1)=(mP w p n||yj (w.drop n) p):=by simp[mP,range_succ]
theorem vk{w p:B8}{n m:Nat}(h:n<m)(hh:yj (w.drop n) p=true):mP w p m=true:=by
 unfold mP;rw[any_eq_true];exact⟨n,mem_range.2 h,hh⟩
theorem yw{p:B8}{V:bD}(h:qI p V0 V)(hp:p≠[]):1<=(gg p V).length:=by
 cases p with
 | nil=>exact absurd rfl hp
 | cons c p=>
  have:=(h.new (aI c) (uF _)).2 ((dm _ _ _).2 (.inl rfl));rw[cU,lAp];cases hq:V.getD (aI c) [] with
  | nil=>exact absurd hq this
  | cons x l=>simp;omega
theorem Q3{w p:B8}(hp:∀ c∈p,aI c<3)(hp1:p≠[]):hasB w p=true↔∃ i V,qI p V0 V/\gg p V <+: w.drop i:=by
 unfold hasB mP;rw[any_eq_true];constructor
 .rintro⟨i,_,h⟩
  obtain⟨V,h1,h2⟩:=(uj hp).1 h;exact⟨i,V,h1,h2⟩
 .rintro⟨i,V,h1,h2⟩
  have:=yw h1 hp1;have hl:=h2.length_le;rw[lDr]at hl;exact⟨i,mem_range.2 (by omega),(uj hp).2 ⟨V,h1,h2⟩⟩
def tE(w p:B8)(n:Nat):Bool:=(range n).any fun m=>fD (w.take (p.length+m)) p
def H6(w p:B8):Bool:=tE w p (w.length+1-p.length)
theorem JT(w p:B8)(n:Nat):tE w p (n+1)=(tE w p n||fD (w.take (p.length+n)) p):=by simp[tE,range_succ]
theorem NH{w p:B8}{n m:Nat}(h:n<m)(hh:fD (w.take (p.length+n)) p=true):tE w p m=true:=by
 unfold tE;rw[any_eq_true];exact⟨n,mem_range.2 h,hh⟩
theorem y9{w p:B8}(hp:∀ c∈p,aI c<3)(hp1:p≠[]):H6 w p=hasB w p:=by
 rw[Bool.eq_iff_iff,Q3 hp hp1];unfold H6 tE fD;rw[any_eq_true];constructor
 .rintro⟨m,hm,h⟩
  obtain⟨i,hi,h⟩:=any_eq_true.1 h;obtain⟨V,hf⟩:=(vg hp).1 h;refine⟨i,V,hf.goes,?_⟩;rw[hf.word,drop_take];exact List.take_prefix _ _
 .rintro⟨i,V,h1,h2⟩
  have hpos:=yw h1 hp1;have hl:=h2.length_le;rw[lDr]at hl;have hfit:Fit p ((w.take (i+(gg p V).length)).drop i) V:=by
   refine⟨h1,?_⟩;rw[drop_take,show i+(gg p V).length-i=(gg p V).length by omega];exact(take_prefix h2).symm
  have hfb:=(vg hp).2 ⟨V,hfit⟩;have hlen:=jG _ _ _ hfb;rw[lDr,lTa]at hlen;refine⟨i+(gg p V).length-p.length,mem_range.2 (by omega),?_⟩;rw[show p.length+(i+(gg p V).length-p.length)=i+(gg p V).length by omega,any_eq_true];exact⟨i,mem_range.2 (by rw[lTa];omega),hfb⟩
end Go.Proofs.YtapimhjbilkfpaaGreatDoor
namespace Go.Proofs.YtapimhjbilkfpaaGreatDoor
open Go Go.Proofs.Tryz List
theorem Iy(w p:B8)(M:Mem)(R:VP)(hl:w.length<=60)(hp:a8 p=true)(h:R (.bool (yj w p)) M):ar prog 426 [str w,str p] M R:=by
 obtain⟨hp1,hp8,hpv⟩:=bC hp;refine fnT func426 rfl ntmps426 results426 ?_;refine lW w hl (fun _=>true) _ rfl (fun _=>True) bW ?_ p V0 0 _ _ hpv hp8 uE (by omega) trivial ?_
 .intro V t K R' hV _ hR;have h3:=dj hV.1;have h3':=hV.1;refine sS ?_;refine fnT func441 rfl ntmps441 results441 ?_;intro b3 hb3;refine sS ?_;exact ag ((Sub.refl K).put hb3 _) hR
 .have e:(cT w p V0 0).any (fun _=>true)=yj w p:=rfl;rw[e];refine sS ?_;exact ad h
theorem CB(w p:B8)(M:Mem)(R:VP)(hl:w.length<=60)(hp:a8 p=true)(h:R (.bool (hasB w p)) M):ar prog 399 [str w,str p] M R:=by
 refine fnT func399 rfl ntmps399 results399 ?_;refine lupS (rlA [4,5] 8 9) (fun i:Nat=>[(8,.int .i64 i)]) (fun i M'=>M'=M/\i<=w.length/\mP w p i=false) (fun i=>w.length-i) 0 ⟨rfl,by omega,rfl⟩ ?_
 rintro i M' g ⟨rfl,hi,hno⟩
 by_cases hlt:i<w.length
 .have hs:=zX w p i;refine sS ?_;refine Iy _ _ _ _ (by rw[lDr];omega) hp ?_;cases hf:yj (w.drop i) p
  .rw[hno,hf]at hs;refine sS ?_;exact rndS (i+1) ⟨rfl,by omega,hs⟩
  .have e:hasB w p=true:=vk hlt hf;rw[e]at h;refine sS ?_;exact ad h
 .have hi':i=w.length:=by omega
  subst hi';have e:hasB w p=false:=hno;rw[e]at h;refine sS ?_;exact ad h
def IA(w p:B8):Int:=if isWord w&&a8 p then 0 else 1
theorem xu(w p:B8)(M:Mem)(R:VP)(hw:w.length<=1099511627776)(hp:p.length<=1099511627776)(h:R (aF (.bool ((isWord w&&a8 p)&&hasB w p)) (IA w p)) M):ar prog 349 [str w,str p] M R:=by
 unfold IA aF at h;refine fnT func349 rfl ntmps349 results349 ?_;refine lv w p _ _ hw hp ?_;cases hb:isWord w&&a8 p
 .rw[hb]at h;refine sS ?_;exact ad h
 .rw[hb]at h;rw[bAn]at hb;have h60:=au hb.1;rw[if_pos rfl,Bool.true_and]at h;refine sS ?_;refine CB w p _ _ h60 hb.2 ?_;refine sS ?_;exact ad h
theorem QI{w:B8}{ls:List Nat}{p:B8}{V:bD}{t i:Nat}(hi:i<p.length):gvF w ls (p.take (i+1)) V t=gvS w ls (gvF w ls (p.take i) V t) p[i]:=by
 unfold gvF;rw[aw p hi,foldl_append];rfl
theorem FO{w:B8}{ls:List Nat}{p:B8}{V:bD}{t i:Nat}(h:gvF w ls (p.take i) V t=none):gvF w ls p V t=none:=by
 have e:gvF w ls p V t=(p.drop i).foldl (gvS w ls) (gvF w ls (p.take i) V t):=by
  unfold gvF;rw[<-foldl_append,take_append_drop]
 rw[e,h,xH]
theorem MW{V:bD}{j:Nat}(hj:j<V.length):kE (V.take (j+1))=kE (V.take j)++if V[j].isEmpty then [] else [V[j]]:=by
 unfold kE;rw[aw V hj,filter_append];cases h:V[j].isEmpty<;>simp[h]
theorem getD_at{V:bD}{j:Nat}(hj:j<V.length):V.getD j []=V[j]:=by
 rw[gDe,gEl hj];rfl
theorem G0{ls:List Nat}{k:Nat}(hk:k<ls.length):(aB ls)[k]?=some (.int .i64 (ls.getD k 0:Nat)):=by
 rw[bV,gEl hk,gDe,gEl hk];rfl
def Low(ls:List Nat):Prop:=∀ k,ls.getD k 0<=60
theorem tx(w p:B8)(M:Mem)(R:VP)(hw:w.length<=1099511627776)(hp:p.length<=1099511627776)(h:R (.int .i64 (if isWord w&&a8 p then 0 else 1)) M):ar prog 277 [str w,str p] M R:=by
 refine fnT func277 rfl ntmps277 results277 ?_;refine bg w _ _ hw ?_;cases h1:isWord w
 .rw[h1]at h;refine sS ?_;exact ad h
 .rw[h1]at h;refine sS ?_;refine gU p _ _ hp ?_;cases h2:a8 p
  .rw[h2]at h;refine sS ?_;exact ad h
  .rw[h2]at h;refine sS ?_;exact ad h
theorem BM(w p:B8)(v:Value)(ls:List Nat)(M:Mem)(R:VP)(hl:w.length<=60)(hpv:p.all isV=true)(hp8:p.length<=8)(hv:Rd M v (aB ls))(h3:ls.length=3)(hlow:Low ls)
  (h1:∀ V t,gvF w ls p V0 0=some (V,t)->∀ v' M',Own M v' (strs (kE V)) M'->R (.tuple #[v',.bool (decide (t=w.length))]) M') (h0:gvF w ls p V0 0=none->∀ M',Sub M M'->R (.tuple #[.slice none 0 0,.bool false]) M') :
  ar prog 360 [str w,str p,v] M R:=by
 obtain⟨a,c,rfl,ha⟩:=hv.opened;rw[aA,h3]at ha ⊢;rcases ha with hz|⟨b,o,rfl,ha⟩
 .omega
 refine fnT func360 rfl ntmps360 results360 ?_;intro b8 hb8;refine sS ?_;have hne:∀ k,k<3->∀ X,(M.put b8 X).get? b (o+k)=some (.int .i64 (ls.getD k 0:Nat)):=by
  intro k hk X;have hg:=ha k hk;rw[G0 (by omega)]at hg;exact aT hg ((Sub.refl M).put hb8 X)
 refine lupS (rlA [6,7,9,10,11,12] 16 51) (fun x:Nat×bD×Nat=>[(10,.int .i64 x.1),(9,.int .i64 x.2.2)]) (fun x M'=>x.1<=p.length/\M'=M.put b8 (.cells true (strs x.2.1) 3)/\fa x.2.1/\x.2.2<=w.length/\gvF w ls (p.take x.1) V0 0=some x.2) (fun x=>p.length-x.1) (0,V0,0) ⟨by simp,rfl,uE,by simp,rfl⟩ ?_
 rintro⟨i,V,t⟩ M' g ⟨hi,rfl,hV,ht,hgv⟩
 simp only at hi hV ht hgv;by_cases hlt:i<p.length
 .have hx:p[i]?=some p[i]:=gEl hlt;have hc:=dG (all_eq_true.1 hpv _ (gMe hlt));have hsn:=QI (w:=w) (ls:=ls) (V:=V0) (t:=0) hlt;rw[hgv,Ga]at hsn;generalize p[i]=c at *;have hk:((c.toNat:Int)-65).toNat=aI c:=by unfold aI;omega
  have hk3:aI c<3:=by unfold aI;omega
  have hgl:=hne (aI c) hk3;have hlo:=hlow (aI c);have hgv3:=pj hV.1 hk3;have hsm:=lG hV (aI c);have hkb:=hV.1;have k8:=ae M b8 (.cells true (strs V) 3);generalize aI c=k at *;generalize ls.getD k 0=l at *;obtain⟨own,hown⟩:∃ own,own=V.getD k []:=⟨_,rfl⟩;rw[<-hown]at hgv3 hsm hsn;by_cases hle:t+l<=w.length
  .have hle':¬(w.length:Int)<(t:Int)+l:=by omega
   have hseg:drop t (take ((t:Int)+l).toNat w)=(w.drop t).take l:=by
    rw[show ((t:Int)+l).toNat=t+l by omega,drop_take,show t+l-t=l by omega]
   have hul:((w.drop t).take l).length<=60:=by rw[lTa,lDr];omega
   have hV':fa (V.set k ((w.drop t).take l)):=oZ hV hul;generalize (w.drop t).take l=u at *;by_cases h00:own=[]
   .rw[if_pos ⟨hle,.inl h00⟩]at hsn;have he:own.isEmpty=true:=by rw[h00];rfl
    simp(disch:=omega)[se hx,hk,hgl _,hle',hseg,ak k8,hgv3,he];refine rndS (i+1,V.set k u,t+l) ⟨by simp only;omega,?_,hV',by simp only;omega,hsn⟩;simp only[iH]
   .have he:own.isEmpty=false:=by cases own with
     | nil=>exact absurd rfl h00
     | cons a l=>rfl
    by_cases hou:own=u
    .rw[if_pos ⟨hle,.inr hou⟩]at hsn;have hbe:(own==u)=true:=by rw[hou];exact beq_self_eq_true _
     simp(disch:=omega)[se hx,hk,hgl _,hle',hseg,ak k8,hgv3,he,hbe];refine rndS (i+1,V.set k u,t+l) ⟨by simp only;omega,?_,hV',by simp only;omega,hsn⟩;simp only[iH]
    .rw[if_neg (by rintro⟨_,hh|hh⟩;exact h00 hh;exact hou hh)]at hsn;have hbe:(own==u)=false:=bNe.2 hou;simp(disch:=omega)[se hx,hk,hgl _,hle',hseg,ak k8,hgv3,he,hbe];exact ag ((Sub.refl M).put hb8 _) (h0 (FO hsn) _ (Sub.refl _))
  .have hle':(w.length:Int)<(t:Int)+l:=by omega
   rw[if_neg (by rintro⟨hh,_⟩;exact hle hh)]at hsn;simp(disch:=omega)[se hx,hk,hgl _,hle'];exact ag ((Sub.refl M).put hb8 _) (h0 (FO hsn) _ (Sub.refl _))
 .have hi':i=p.length:=by omega
  subst hi';rw[take_length]at hgv;have k8:=ae M b8 (.cells true (strs V) 3);have hs8:=(Sub.refl M).put hb8 (.cells true (strs V) 3);refine sS ?_;generalize M.put b8 (.cells true (strs V) 3)=N at *;intro bo hbo;refine sS ?_;refine lupS (rlA [13,14] 68 16) (fun x:Nat×Value=>[(14,.int .i64 x.1),(13,x.2)]) (fun x M'=>x.1<=3/\Own N x.2 (strs (kE (V.take x.1))) M') (fun x=>3-x.1) (0,.slice (some ⟨bo,0,none⟩) 0 0) ⟨by omega,Own.new hbo rfl (lRf 0)⟩ ?_
  rintro⟨j,v2⟩ M2 g2 ⟨hj,ho⟩
  simp only at hj ho;by_cases hjl:j<3
  .have hjV:j<V.length:=by rw[hV.1];exact hjl
   have hgv3:=pj hV.1 hjl;have hsn:=MW hjV;rw[<-getD_at hjV]at hsn;generalize V.getD j []=u at *;have hk8:=ho.sub _ _ k8;have hlen:(kE (V.take j)).length<=3:=by
    unfold kE;exact Nat.le_trans (length_filter_le _ _) (by rw[lTa];omega)
   generalize kE (V.take j)=L at *;cases he:u.isEmpty
   .rw[he,if_neg (by decide)]at hsn;simp(disch:=omega)[ak hk8,hgv3,he];intro b' hb';refine sS ?_;refine apT ho ((Sub.refl _).put hb' _) ?_;intro v' M'' N'' ho' hs';refine sS ?_;refine rndM M'' (j+1,v') hs' ⟨by simp only;omega,?_⟩;simp only;rw[hsn,<-cA];exact ho'
   .rw[he,if_pos rfl,append_nil]at hsn;simp(disch:=omega)[ak hk8,hgv3,he];refine rndS (j+1,v2) ⟨by simp only;omega,?_⟩;simp only;rw[hsn];exact ho
  .have hj':j=3:=by omega
   subst hj';rw[take_of_length_le (by rw[hV.1];omega)]at ho;obtain⟨M3,o3,s3⟩:=ho.base hs8;refine sS ?_;have e:((t:Int)==(w.length:Int))=decide (t=w.length):=by
    rw[Bool.eq_iff_iff,beq_iff_eq,dTe];omega
   rw[e];exact ag s3 (h1 V t hgv _ _ o3)
theorem Od{p:B8}{ls:List Nat}{i:Nat}(hi:i<p.length):iJ (p.take (i+1)) ls=iJ (p.take i) ls+ls.getD (aI p[i]) 0:=by
 unfold iJ;rw[aw p hi,map_append,sum_append];simp
theorem OD{p:B8}{k i:Nat}(hi:i<p.length):gI (p.take (i+1)) k=gI (p.take i) k+if aI p[i]=k then 1 else 0:=by
 unfold gI;rw[aw p hi,countP_append,countP_singleton];simp
theorem Ld{ls:List Nat}(h:Low ls):∀ p:B8,iJ p ls<=60*p.length
 | []=>by simp[iJ]
 | c::p=>by
  have ih:=Ld h p;have h1:=h (aI c);have e:iJ (c::p) ls=ls.getD (aI c) 0+iJ p ls:=by simp[iJ]
  rw[e,lCo];omega
theorem Ti(p:B8)(k:Nat):gI p k<=p.length:=countP_le_length
theorem GA{ls:List Nat}(h:Low ls){n:Nat}(hn:n<=60):Low (ls++[n]):=by
 intro k;rw[gDe];by_cases hk:k<ls.length
 .rw[getElem?_append_left hk,<-gDe];exact h k
 .rw[getElem?_append_right (by omega)];cases hq:([n]:List Nat)[k-ls.length]? with
  | none=>simp
  | some x=>
   have:=mem_of_getElem? hq;rw[mem_singleton.1 this];exact hn
theorem Tg:Low []:=fun k=>by simp
theorem yi(ls:List Nat):∀ v∈aB ls,bE v=true:=by
 intro v hv;obtain⟨n,_,rfl⟩:=mem_map.1 hv;rfl
theorem MU{ls:List Nat}{k:Nat}(h:ls.length<=k):ls.getD k 0=0:=by
 rw[gDe,getElem?_eq_none h];rfl
def kX(w p:B8)(d:Nat)(ls:List Nat)(m:Nat):Option bD:=(range m).findSome? fun n=>mf w p d (ls++[n+1])
theorem wu{w p:B8}{d m:Nat}{ls:List Nat}(h:kX w p d ls m=none):kX w p d ls (m+1)=mf w p d (ls++[m+1]):=by
 unfold kX at *;rw[range_succ,findSome?_append,h,Option.none_or];cases hf:mf w p d (ls++[m+1])<;>simp[findSome?,hf]
theorem KB{w p:B8}{d m n:Nat}{ls:List Nat}{V:bD}(hm:m<n)(h0:kX w p d ls m=none)(h:mf w p d (ls++[m+1])=some V):kX w p d ls n=some V:=by
 have h1:kX w p d ls (m+1)=some V:=by rw[wu h0,h]
 obtain⟨e,rfl⟩:∃ e,n=m+1+e:=⟨n-m-1,by omega⟩;unfold kX at *;rw[range_add,findSome?_append,h1,Option.some_or]
theorem vv{M N:Mem}{v:Value}{l:List Value}(h:du M v=some l)(hs:Sub M N):du N v=some l:=by
 unfold du at *;split at h
 .exact h
 .rename_i b o n c;show N.sub? b o n=some l;unfold Mem.sub? at *;split at h
  .rename_i hb;rw[hs _ _ hb];exact h
  .cases h
 .exact h
 .cases h
theorem CS(ls:List Nat)(n:Nat):aB ls++[.int .i64 (n:Nat)]=aB (ls++[n]):=by simp[aB]
theorem iW(w p:B8)(hl:w.length<=60)(hpv:p.all isV=true)(hp8:p.length<=8):∀(d:Nat) (ls:List Nat) (v:Value) (M:Mem) (R:VP),Rd M v (aB ls)->du M v=some (aB ls)->ls.length+d=3->Low ls ->
  (∀ V,mf w p d ls=some V->∀ v' M',Own M v' (strs (kE V)) M'->R (.tuple #[v',.bool true]) M')->(mf w p d ls=none->∀ v' M',Sub M M'->R (.tuple #[v',.bool false]) M') ->
  ar prog 279 [str w,str p,v] M R
 | 0,ls,v,M,R,hv,hsv,h3,hlow,h1,h0=>by
  obtain⟨a,c,rfl,ha⟩:=hv.opened;have h3:ls.length=3:=by omega
  unfold mf at h1 h0;rw[aA,h3]at hv ⊢;refine fnT func279 rfl ntmps279 results279 ?_;refine BM w p _ ls _ _ hl hpv hp8 hv h3 hlow ?_ ?_
  .intro V t hg v' M' ho;rw[hg]at h1 h0;simp only at h1 h0;by_cases ht:t=w.length
   .rw[if_pos ht]at h1;rw[dTr ht];refine sS ?_;exact ad (h1 V rfl v' M' ho)
   .rw[if_neg ht]at h0;rw[dFa ht];refine sS ?_;exact ad (h0 rfl v' M' ho.sub)
  .intro hg M' hs;rw[hg]at h0;refine sS ?_;exact ad (h0 rfl _ M' hs)
 | d+1,ls,v,M,R,hv,hsv,h3,hlow,h1,h0=>by
  obtain⟨a,c,rfl,ha⟩:=hv.opened;have hll:ls.length<=2:=by omega
  unfold mf at h1 h0;obtain⟨m,hm⟩:∃ m,m=ls.length:=⟨_,rfl⟩;rw[aA,<-hm]at ha hv hsv ⊢;rw[<-hm]at h1 h0;have hm3:¬(m:Int)=3:=by omega
  have hwr:IntKind.u8.wrap (65+(m:Int))=65+m:=by unfold IntKind.wrap;simp[IntKind.bits,IntKind.signed];omega
  refine fnS func279 rfl ntmps279 results279 ?_;simp(disch:=omega)[hwr];refine aR aU (rlA [9,10,11] 28 30) (fun i:Nat=>[(11,.int .i64 i),(9,.int .i64 (iJ (p.take i) ls:Nat)),(10,.int .i64 (gI (p.take i) m:Nat))]) (fun i M'=>i<=p.length/\M'=M) (fun i=>p.length-i) 0 (by kernel_rfl) (by simp(disch:=omega);exact⟨rfl,rfl⟩) ⟨by omega,rfl⟩ ?_
  rintro i M' g ⟨hi,rfl⟩
  have hsl:=Ld hlow (p.take i);have hcl:=Ti (p.take i) m;rw[lTa]at hsl hcl;by_cases hlt:i<p.length
  .have hx:p[i]?=some p[i]:=gEl hlt;have hc:=dG (all_eq_true.1 hpv _ (gMe hlt));have e1:=Od (ls:=ls) hlt;have e2:=OD (k:=m) hlt;have hlo:=hlow (aI p[i]);generalize iJ (p.take i) ls=sm at *;generalize gI (p.take i) m=ct at *;generalize p[i]=u at *;have hk:((u.toNat:Int)-65).toNat=aI u:=by unfold aI;omega
   have hk':aI u=u.toNat-65:=rfl;by_cases h3':aI u<m
   .rcases ha with hz|⟨b,o,rfl,ha⟩
    .omega
    have hne:((u.toNat:Int)==65+(m:Int))=false:=bNe.2 (by omega);have hlt':(u.toNat:Int)-65<m:=by omega
    have hg:=ha _ h3';rw[G0 (by omega)]at hg;rw[if_neg (by omega)]at e2;generalize ls.getD (aI u) 0=l at *;simp(disch:=omega)[se hx,hk,hne,hlt',hg];exact rndA (i+1) (by simp(disch:=omega)[e1,e2]) ⟨by omega,rfl⟩
   .have hlt':¬(u.toNat:Int)-65<m:=by omega
    rw[MU (by omega),Nat.add_zero]at e1;by_cases h4:aI u=m
    .have hne:((u.toNat:Int)==65+(m:Int))=true:=by rw[beq_iff_eq];omega
     rw[if_pos h4]at e2;simp(disch:=omega)[se hx,hne,hlt'];exact rndA (i+1) (by simp(disch:=omega)[e1,e2]) ⟨by omega,rfl⟩
    .have hne:((u.toNat:Int)==65+(m:Int))=false:=bNe.2 (by omega);rw[if_neg h4,Nat.add_zero]at e2;simp(disch:=omega)[se hx,hne,hlt'];exact rndA (i+1) (by simp(disch:=omega)[e1,e2]) ⟨by omega,rfl⟩
  .have hi':i=p.length:=by omega
   subst hi';rw[take_length];rw[Nat.min_self]at hsl hcl;rw[take_length]at hsl hcl;by_cases hc0:gI p m=0
   .rw[if_pos hc0]at h1 h0;rw[hc0];refine sS ?_;intro bn hbn;have o0:Own M' (.slice (some ⟨bn,0,none⟩) 0 0) [] (M'.put bn (.cells true [] 0)):=Own.new hbn rfl (lRf 0);dsimp only;generalize M'.put bn (.cells true [] 0)=N0 at *;generalize Value.slice (some ⟨bn,0,none⟩) 0 0=v0 at *;refine sS ?_;refine ca o0 (Sub.refl _) (vv hsv o0.sub) rfl rfl (by omega) (yi ls) (by simp(disch:=omega)[aA];omega) ?_;intro v1 M1 N1 o1 s1;refine sS ?_;intro b2 hb2;refine sS ?_;refine apT o1 (s1.trans ((Sub.refl _).put hb2 _)) ?_ (hbd:=by simp(disch:=omega);rw[aA];omega);intro v3 M3 N3 o3 s3;have e3:[]++aB ls++[Value.int .i64 0]=aB (ls++[0]):=CS ls 0;rw[e3]at o3;have r3:=o3.rd.sub s3;refine sS ?_;refine iW w p hl hpv hp8 d (ls++[0]) v3 N3 _ r3 (Kw r3 (by rw[aA];simp)) (by simp;omega) (GA hlow (by omega)) ?_ ?_
    .intro V hV v' M4 o4;obtain⟨M5,o5,s5⟩:=o4.base (o3.sub.trans s3);refine sS ?_;exact ag s5 (h1 V hV v' _ o5)
    .intro hno v' M4 s4;refine sS ?_;exact ad (h0 hno v' _ ((o3.sub.trans s3).trans s4))
   .rw[if_neg hc0]at h1 h0;have hcp:0<gI p m:=Nat.pos_of_ne_zero hc0;have hc0':¬(gI p m:Int)=0:=by omega
    have hdiv:=fun n=>Nat.le_div_iff_mul_le hcp (x:=n) (y:=w.length-iJ p ls);have hq:(w.length-iJ p ls)/gI p m<=w.length-iJ p ls:=Nat.div_le_self _ _;have h1:∀ V,kX w p d ls ((w.length-iJ p ls)/gI p m)=some V->∀ v' M'',Own M' v' (strs (kE V)) M''->R (.tuple #[v',.bool true]) M'':=h1;have h0:kX w p d ls ((w.length-iJ p ls)/gI p m)=none->∀ v' M'',Sub M' M''->R (.tuple #[v',.bool false]) M'':=h0;generalize iJ p ls=sm at *;generalize hct:gI p m=ct at *;generalize (w.length-sm)/ct=q at *;refine sS ?_;refine lupS (rlA [6,7,12,13,14] 70 24) (fun n:Nat=>[(12,.int .i64 ((n:Int)+1))]) (fun n M''=>n<=q/\Sub M' M''/\kX w p d ls n=none) (fun n=>q-n) 0 ⟨lZe _,Sub.refl _,rfl⟩ ?_
    rintro n M'' g2 ⟨hn,hs,hno⟩
    obtain⟨z,hz⟩:∃ z,z=(n+1)*ct:=⟨_,rfl⟩;have hz':((n:Int)+1)*(ct:Int)=(z:Int):=by rw[hz];push_cast;rfl
    have hd1:=hdiv (n+1);rw[<-hz]at hd1;have hzb:z<=61*8:=by rw[hz];exact Nat.mul_le_mul (by omega) (by omega)
    by_cases hlt2:n<q
    .have hcond:(sm:Int)+z<=w.length:=by
      have:=hd1.1 (by omega);have:0<z:=by rw[hz];exact Nat.mul_pos (by omega) hcp
      omega
     simp(disch:=omega)[hz',hcond];intro bn hbn;have o0:Own M'' (.slice (some ⟨bn,0,none⟩) 0 0) [] (M''.put bn (.cells true [] 0)):=Own.new hbn rfl (lRf 0);dsimp only;generalize M''.put bn (.cells true [] 0)=N0 at *;generalize Value.slice (some ⟨bn,0,none⟩) 0 0=v0 at *;refine sS ?_;refine ca o0 (Sub.refl _) (vv (vv hsv hs) o0.sub) rfl rfl (by omega) (yi ls) (by simp(disch:=omega)[aA];omega) ?_;intro v1 M1 N1 o1 s1;refine sS ?_;intro b2 hb2;refine sS ?_;refine apT o1 (s1.trans ((Sub.refl _).put hb2 _)) ?_ (hbd:=by simp(disch:=omega);rw[aA];omega);intro v3 M3 N3 o3 s3;have e3:[]++aB ls++[Value.int .i64 ((n:Int)+1)]=aB (ls++[n+1]):=CS ls (n+1);rw[e3]at o3;have r3:=o3.rd.sub s3;have s13:=hs.trans (o3.sub.trans s3);have hn60:n+1<=60:=by omega
     refine sS ?_;refine iW w p hl hpv hp8 d (ls++[n+1]) v3 N3 _ r3 (Kw r3 (by rw[aA];simp)) (by simp;omega) (GA hlow hn60) ?_ ?_
     .intro V hV v' M4 o4;obtain⟨M5,o5,s5⟩:=o4.base s13;refine sS ?_;exact ag s5 (h1 V (KB hlt2 hno hV) v' _ o5)
     .intro hno2 v' M4 s4;refine sS ?_;exact rndS (n+1) ⟨by omega,s13.trans s4,by rw[wu hno,hno2]⟩
    .have hcond:¬(sm:Int)+z<=w.length:=by
      intro hh;have:=hd1.2 (by omega);omega
     have hnq:n=q:=by omega
     subst hnq;simp(disch:=omega)[hz',hcond];exact ad (h0 hno _ _ hs)
theorem xv(w p:B8)(M:Mem)(R:VP)(hw:w.length<=1099511627776)(hp:p.length<=1099511627776)(h:XE (plI w p) (plC w p) (strs (plL w p)) M R):ar prog 190 [str w,str p] M R:=by
 unfold plI plC plL at h;refine fnT func190 rfl ntmps190 results190 ?_;refine tx w p _ _ hw hp ?_;cases hb:isWord w&&a8 p
 .rw[hb]at h;refine sS ?_;exact ad (h _ _ (Own.nil M))
 .rw[hb,if_pos rfl,if_pos rfl,if_pos rfl]at h;rw[bAn]at hb;have h60:=au hb.1;obtain⟨hp1,hp8,hpv⟩:=bC hb.2;have hpi:∀ c∈p,aI c<3:=fun c hc=>by
   have:=dG (all_eq_true.1 hpv c hc);unfold aI;omega
  refine sS ?_;refine lupS (rlA [4,5,6,8,9,10,11] 18 35) (fun i:Nat=>[(8,.int .i64 i)]) (fun i M'=>i<=w.length/\M'=M/\eL w p i=none) (fun i=>w.length-i) 0 ⟨by omega,rfl,rfl⟩ ?_
  rintro i M' g ⟨hi,rfl,hno⟩
  by_cases hlt:i<w.length
  .have hbest:=Lw (u:=w.drop i) hpi (by intro e;rw[e]at hp1;simp at hp1);have hat:jc w p i=if 0<(gb (cT (w.drop i) p V0 0)).1 then some (i,(gb (cT (w.drop i) p V0 0)).2) else none:=rfl
   have hul:(w.drop i).length=w.length-i:=lDr;generalize gb (cT (w.drop i) p V0 0)=s at *;obtain⟨least,best⟩:=s;simp only at hbest hat;have hshort:0<least->p.length<=least:=by
    intro h0;rcases hbest with ⟨hz,_⟩|⟨_,hle,hf,_⟩
    .omega
    .have:=jG _ _ _ hf;rw[lTa]at this;omega
   refine sS ?_;refine lupS (rlA [4,5,6,9,10,11] 28 25) (fun k:Nat=>[(9,.int .i64 k)]) (fun k M2=>M2=M'/\i+p.length<=k/\k<=w.length+9/\(0<least->k<=i+least)) (fun k=>w.length+9-k) (i+p.length) ⟨rfl,by omega,by omega,fun h0=>by have:=hshort h0;omega⟩ ?_
   rintro k M2 g2 ⟨rfl,hk,hk9,hkl⟩
   by_cases hkw:k<=w.length
   .have hseg:(w.take k).drop i=(w.drop i).take (k-i):=by rw[drop_take]
    have hsl:((w.drop i).take (k-i)).length<=60:=by rw[lTa,hul];omega
    simp(disch:=omega)[hseg];refine sC _ p _ _ hsl hb.2 ?_;by_cases hend:0<least/\k=i+least
    .obtain⟨h0,hke⟩:=hend;rcases hbest with ⟨hz,_⟩|⟨_,hle,hf,_,hs⟩
     .omega
     rw[if_pos h0]at hat;have hpl:jQ w p=some (i,best):=wg hlt hno hat;rw[hpl]at h;rw[show k-i=least by omega]at hsl hseg ⊢;rw[hf];generalize (w.drop i).take least=u at *;simp(disch:=omega)[hseg];intro bn hbn;have rn:Rd (M2.put bn (.cells true [] 0)) (.slice (some ⟨bn,0,none⟩) 0 0) (aB []):=Rd.new rfl (lRf 0);have sn:du (M2.put bn (.cells true [] 0)) (.slice (some ⟨bn,0,none⟩) 0 0)=some (aB []):=by
      show Mem.sub? _ bn 0 0=some [];rw[aq (ae _ _ _)];simp[lN]
     have s0:=(Sub.refl M2).put hbn (.cells true [] 0);refine sS ?_;generalize M2.put bn (.cells true [] 0)=N at *;have key:=fun R'=>iW u p hsl hpv hp8 3 [] _ N R' rn sn (by simp) Tg;refine key _ ?_ ?_
     .intro V hV v' M3 o3;rw[hs]at hV;injection hV with hV
      subst hV;obtain⟨M4,o4,s4⟩:=o3.base s0;refine sS ?_;exact ag s4 (h _ _ o4)
     .intro hn;rw[hs]at hn;cases hn
    .have hf:ft ((w.drop i).take (k-i)) p=false:=by
      rcases hbest with ⟨hz,hall⟩|⟨_,hle,_,hall,_⟩
      .exact hall _ (by omega)
      .exact hall _ (by have:=hkl (by omega);omega)
     rw[hf];refine sS ?_;exact rndS (k+1) ⟨rfl,by omega,by omega,fun h0=>by have:=hkl h0;omega⟩
   .have h0:¬ 0<least:=by
     intro h0;rcases hbest with ⟨hz,_⟩|⟨_,hle,_⟩
     .omega
     .have:=hkl h0;omega
    rw[if_neg h0]at hat;refine sS ?_;exact rndS (i+1) ⟨by omega,rfl,by rw[jh hno,hat]⟩
  .have hi':i=w.length:=by omega
   subst hi';have e:jQ w p=none:=hno;rw[e]at h;refine sS ?_;exact ad (h _ _ (Own.nil _))
theorem Ce{p:B8}(h:a8 p=true):1<=p.length/\p.length<=8:=⟨(bC h).1,(bC h).2.1⟩
theorem rI{p:B8}(h:a8 p=true):∀ c∈p,aI c<3:=fun c hc=>by
 have:=dG (all_eq_true.1 (bC h).2.2 c hc);unfold aI;omega
theorem Gg(v v':Value)(xs ys:List B8)(M:Mem)(R:VP)(hx:Rd M v (strs xs))(hy:Rd M v' (strs ys))(hl:xs.length<=1099511627776)(hl':ys.length<=1099511627776)
  (h:R (.bool (xs==ys)) M):ar prog 28 [v,v'] M R:=by
 refine fnS func28 rfl ntmps28 results28 ?_;obtain⟨a,c,rfl,ha⟩:=hx.opened;obtain⟨a',c',rfl,ha'⟩:=hy.opened;rw[ah]at ha ha' ⊢;rw[ah];by_cases hne:xs.length=ys.length
 .simp(disch:=omega)[hne];refine lupS (rlA [4,5] 11 15) (fun i:Nat=>[(5,.int .i64 i)]) (fun i M'=>M'=M/\i<=xs.length/\xs.take i=ys.take i) (fun i=>xs.length-i) 0 ⟨rfl,by omega,rfl⟩ ?_
  rintro i M' g ⟨rfl,hi,he⟩
  by_cases hlt:i<xs.length
  .rcases ha with h0|⟨b,o,rfl,hs⟩
   .omega
   rcases ha' with h0|⟨b',o',rfl,hs'⟩
   .omega
   have hlt':i<ys.length:=by omega
   have hg:=hs i hlt;have hg':=hs' i hlt';have hx:xs[i]?=some xs[i]:=gEl hlt;have hy:ys[i]?=some ys[i]:=gEl hlt';simp(disch:=omega)[hne];refine drwS ?_;simp(disch:=omega)[hg,hg'];by_cases hq:xs[i]=ys[i]
   .have hq':(xs[i]==ys[i])=true:=by rw[hq];exact beq_self_eq_true _
    simp(disch:=omega)[hq'];refine rndS (i+1) ⟨rfl,by omega,?_⟩;rw[aw xs hlt,aw ys hlt',he,hq]
   .have hq':(xs[i]==ys[i])=false:=bNe.2 hq;simp(disch:=omega)[hq'];refine ad ?_;have:(xs==ys)=false:=by
     rw[bNe];rintro rfl;exact hq rfl
    rw[this]at h;exact h
  .have hi':i=xs.length:=by omega
   subst hi';simp(disch:=omega)[hne];refine ad ?_;have:xs=ys:=PM hne he;subst this;simpa using h
 .refine sS ?_;refine ad ?_;have:(xs==ys)=false:=by
   rw[bNe];rintro rfl;exact hne rfl
  rw[this]at h;exact h
theorem wq(w p:B8)(M:Mem)(R:VP)(hl:w.length<=60)(hp:a8 p=true)(h:R (.bool (H6 w p)) M):ar prog 368 [str w,str p] M R:=by
 have hpl:1<=p.length/\p.length<=8:=Ce hp;refine fnT func368 rfl ntmps368 results368 ?_;refine lupS (rlA [4,5] 8 11) (fun i:Nat=>[(5,.int .i64 i)]) (fun i M'=>M=M'/\p.length<=i/\i<=max (w.length+1) p.length/\tE w p (i-p.length)=false) (fun i=>w.length+1-i) p.length ⟨rfl,by omega,by omega,by rw[Nat.sub_self];rfl⟩ ?_
 rintro i M' g ⟨rfl,hi1,hi2,hno⟩
 by_cases hlt:i<=w.length
 .refine sS ?_;refine l8 (w.take i) p _ _ (by rw[lTa];omega) hp ?_;have e1:i+1-p.length=i-p.length+1:=by omega
  have e2:p.length+(i-p.length)=i:=by omega
  have hst:=JT w p (i-p.length);rw[e2]at hst;cases he:fD (w.take i) p
  .refine sS ?_;rw[he]at hst;refine rndS (i+1) ⟨rfl,by omega,by omega,?_⟩;rw[e1,hst,hno];rfl
  .refine sS ?_;have:H6 w p=true:=NH (n:=i-p.length) (by omega) (by rw[e2];exact he);rw[this]at h;exact ad h
 .refine sS ?_;have:H6 w p=false:=by
   unfold H6;by_cases hq:p.length<=w.length
   .rw[show w.length+1-p.length=i-p.length by omega];exact hno
   .rw[show w.length+1-p.length=0 by omega];rfl
  rw[this]at h;exact ad h
theorem xn(w p:B8)(M:Mem)(R:VP)(hw:w.length<=1099511627776)(hp:p.length<=1099511627776)(h:R (aF (.bool ((isWord w&&a8 p)&&hasB w p)) (IA w p)) M):ar prog 292 [str w,str p] M R:=by
 unfold IA aF at h;refine fnT func292 rfl ntmps292 results292 ?_;refine tx w p _ _ hw hp ?_;cases hb:isWord w&&a8 p
 .rw[hb]at h;refine sS ?_;exact ad h
 .rw[hb]at h;rw[bAn]at hb;have h60:=au hb.1;rw[if_pos rfl,Bool.true_and,<-y9 (rI hb.2) (by have:=Ce hb.2;intro e;rw[e]at this;simp at this)]at h;refine sS ?_;refine wq w p _ _ h60 hb.2 ?_;refine sS ?_;exact ad h
def jZ:Nat->B8
 | 0=>[]
 | n+1=>jZ n++(ltr n::jZ n)
theorem rP:∀ n,n<=5->(jZ n).length<=31:=by decide
theorem Ab(n:Nat)(M:Mem)(R:VP)(hn:n<=5)(h:R (str (jZ n)) M):ar prog 176 [.int .i64 n] M R:=by
 refine fnT func176 rfl ntmps176 results176 ?_;refine aR aU (rlA [3,4] 6 10) (fun i:Nat=>[(6,.int .i64 i),(3,str (jZ i))]) (fun i M'=>M=M'/\i<=n) (fun i=>n-i) 0 (by kernel_rfl) (by simp(disch:=omega)[jZ]) ⟨rfl,by omega⟩ ?_
 rintro i M' g ⟨rfl,hi⟩
 by_cases hlt:i<n
 .have hz:=rP i (by omega);have hs:jZ (i+1)=jZ i++(ltr i::jZ i):=rfl;refine sS ?_;refine db i _ _ (by omega) ?_;generalize hc:ltr i=c at *;generalize hzz:jZ i=z at *;refine sS ?_;refine rndA (i+1) (by simp(disch:=omega)[hs]) ⟨rfl,by omega⟩
 .have hi':i=n:=by omega
  subst hi';refine sS ?_;exact ad h
theorem k9:∀(n:Nat) (M:Mem) (R:VP),n<=4->R (str (jZ (n+1))) M->ar prog 121 [.int .i64 ((n:Int)+1)] M R
 | 0,M,R,hn,h=>by
  have e:jZ (0+1)=[97]:=by decide
  rw[e]at h;refine fnT func121 rfl ntmps121 results121 ?_;exact ad h
 | n+1,M,R,hn,h=>by
  have hs:jZ (n+1+1)=jZ (n+1)++(ltr (n+1)::jZ (n+1)):=rfl;have hz:=rP (n+1) (by omega);rw[hs]at h;have hne:¬(((n+1:Nat):Int)+1=1):=by omega
  have hne2:((((n+1:Nat):Int)+1)==1)=false:=bNe.2 hne;have ih:=fun (M:Mem) (R:VP) (h:R (str (jZ (n+1))) M)=>k9 n M R (by omega) h;obtain⟨q,hq⟩:∃ q:Nat,q=n+1:=⟨_,rfl⟩;rw[<-hq]at h hz hne hne2 ih ⊢;have hm1:(q:Int)+1-1=(n:Int)+1:=by omega
  have hm2:(n:Int)+1=(q:Nat):=by omega
  refine fnS func121 rfl ntmps121 results121 ?_;simp(disch:=omega)[hne2,hm1];refine ih _ _ ?_;simp(disch:=omega)[hm1,hm2];refine jM q _ _ (by omega) ?_;generalize hc:ltr q=c at *;simp(disch:=omega)[hm1,hm2];rw[<-hm2];refine ih _ _ ?_;generalize jZ q=z at *;refine sS ?_;exact ad (by simpa using h)
def oc(p:B8)(k:Nat):Bool:=p.any fun c=>aI c==k
def zO(p:B8):List Value:=[.bool (oc p 0),.bool (oc p 1),.bool (oc p 2)]
def j0(p:B8):Nat:=(if oc p 0 then 1 else 0)+(if oc p 1 then 1 else 0)+(if oc p 2 then 1 else 0)
theorem LQ(p:B8)(c:UInt8)(k:Nat):oc (p++[c]) k=(oc p k||(aI c==k)):=by simp[oc]
theorem Tb(p:B8){k:Nat}(h:k<3):(zO p)[k]?=some (.bool (oc p k)):=by
 have:k=0\/k=1\/k=2:=by omega
 rcases this with rfl|rfl|rfl<;>rfl
theorem Sj(p:B8)(c:UInt8)(h:aI c<3)(hn:oc p (aI c)=false):(zO p).set (aI c) (.bool true)=zO (p++[c])/\j0 (p++[c])=j0 p+1:=by
 unfold zO j0;simp only[LQ];have:aI c=0\/aI c=1\/aI c=2:=by omega
 rcases this with e|e|e<;>rw[e]at hn ⊢<;>simp[hn]<;>omega
theorem Pz(p:B8)(c:UInt8)(h:aI c<3)(hn:oc p (aI c)=true):zO (p++[c])=zO p/\j0 (p++[c])=j0 p:=by
 unfold zO j0;simp only[LQ];have:aI c=0\/aI c=1\/aI c=2:=by omega
 rcases this with e|e|e<;>rw[e]at hn ⊢<;>simp[hn]
theorem CW{p:B8}(h1:p≠[])(hp:∀ c∈p,aI c<3):1<=j0 p/\j0 p<=3:=by
 constructor
 .cases p with
  | nil=>exact absurd rfl h1
  | cons c p=>
   have hc:=hp c mem_cons_self;have ho:oc (c::p) (aI c)=true:=by unfold oc;rw[any_cons,beq_self_eq_true,Bool.true_or]
   unfold j0;have:aI c=0\/aI c=1\/aI c=2:=by omega
   rcases this with e|e|e<;>rw[e]at ho<;>rw[ho]<;>simp<;>omega
 .unfold j0;split<;>split<;>split<;>omega
def we(p:B8):Bool:=a8 p&&hasB (jZ (j0 p)) p
def wC(p:B8):Int:=if a8 p then 0 else 1
theorem qP(p:B8)(M:Mem)(R:VP)(hl:p.length<=1099511627776)(h:∀ M',Sub M M'->R (aF (.bool (we p)) (wC p)) M'):ar prog 293 [str p] M R:=by
 unfold aF we wC at h;refine fnT func293 rfl ntmps293 results293 ?_;refine gU p _ _ hl ?_;cases hp:a8 p
 .rw[hp]at h;refine sS ?_;exact ad (h _ (Sub.refl _))
 .rw[hp,if_pos rfl,Bool.true_and]at h;obtain⟨hp1,hp8,hpv⟩:=bC hp;have hlt3:=rI hp;have hne:p≠[]:=by rintro rfl;simp at hp1
  have hr:=CW hne hlt3;rw[<-y9 hlt3 hne]at h;refine sS ?_;intro b hb;have hs:∀ X,Sub M (M.put b X):=fun X=>(Sub.refl M).put hb X;refine sS ?_;refine aR aU (rlA [5,6] 11 22) (fun i:Nat=>[(6,.int .i64 i),(5,.int .i64 (j0 (p.take i):Nat))]) (fun i M'=>M.put b (.cells true (zO (p.take i)) 3)=M'/\i<=p.length/\j0 (p.take i)<=i) (fun i=>p.length-i) 0 (by kernel_rfl) (by simp(disch:=omega)[j0,oc]) ⟨rfl,by omega,by simp[j0,oc]⟩ ?_
  rintro i M' g ⟨rfl,hi,hd⟩
  by_cases hlt:i<p.length
  .have hpx:p[i]?=some p[i]:=gEl hlt;have hpr:=dG (all_eq_true.1 hpv _ (gMe hlt));have hv3:=hlt3 _ (gMe hlt);have hvk:(p[i].toNat:Int)-65=(aI p[i]:Nat):=by unfold aI;omega
   have htk:=aw p hlt;have hg:=Tb (p.take i) hv3;have k0:=ae M b (.cells true (zO (p.take i)) 3);have hgg:=ak k0 (aI p[i]);rw[hg]at hgg;have hml:(zO (p.take i)).length=3:=rfl;cases ho:oc (p.take i) (aI p[i])
   .obtain⟨m1,m2⟩:=Sj (p.take i) p[i] hv3 ho;rw[<-htk]at m1 m2;rw[ho]at hgg;generalize zO (p.take i)=L0 at *;generalize aI p[i]=K at *;generalize p[i]=u at *;simp(disch:=omega)[se hpx,hvk,hgg,m1,aj];refine rndA (i+1) (by simp(disch:=omega)[m2]) ⟨by first|rfl|rw[aN],by omega,by omega⟩
   .obtain⟨m1,m2⟩:=Pz (p.take i) p[i] hv3 ho;rw[<-htk]at m1 m2;rw[ho]at hgg;generalize aI p[i]=K at *;generalize p[i]=u at *;simp(disch:=omega)[se hpx,hvk,hgg];refine rndA (i+1) (by simp(disch:=omega)[m2]) ⟨by rw[m1],by omega,by omega⟩
  .have hi':i=p.length:=by omega
   subst hi';rw[take_length]at hd ⊢;obtain⟨q,hq⟩:∃ q,j0 p=q+1:=⟨j0 p-1,by omega⟩;rw[hq]at h ⊢;have hqi:((q+1:Nat):Int)=(q:Int)+1:=by omega
   have hzl:=rP (q+1) (by omega);simp(disch:=omega)[hqi];refine k9 q _ _ (by omega) ?_;refine sS ?_;refine wq (jZ (q+1)) p _ _ (by omega) hp ?_;refine sS ?_;exact ad (h _ (hs _))
end Go.Proofs.YtapimhjbilkfpaaGreatDoor
namespace Go.Proofs.YtapimhjbilkfpaaGreatDoor
open List
theorem Qd(p:B8)(k:Nat):∀(d:Nat) (w u:B8),(∀ n,n<=w.length->fD (w.take n) p=false)->u∈avL p k d w ->
  u.length=w.length+d/\(∀ n,n<=u.length->fD (u.take n) p=false)/\(∀ c∈u,c∈w\/∃ i,i<k/\c=ltr i)
 | 0,w,u,hw,h=>by
  unfold avL at h;rw[mem_singleton.1 h];exact⟨rfl,hw,fun c hc=>.inl hc⟩
 | d+1,w,u,hw,h=>by
  unfold avL at h;obtain⟨i,hi,h⟩:=mem_flatMap.1 h;have hi:=mem_range.1 hi;cases he:fD (w++[ltr i]) p
  .rw[he,if_neg (by decide)]at h;obtain⟨h1,h2,h3⟩:=Qd p k d _ u (fun n hn=>by
    rw[lAp,lSi]at hn;by_cases e:n=w.length+1
    .rw[take_of_length_le (by rw[lAp,lSi];omega)];exact he
    .rw[take_append_of_le_length (by omega)];exact hw n (by omega)) h
   refine⟨by rw[h1,lAp,lSi];omega,h2,fun c hc=>?_⟩;rcases h3 c hc with h4|h4
   .rcases mem_append.1 h4 with h5|h5
    .exact .inl h5
    .exact .inr ⟨i,hi,mem_singleton.1 h5⟩
   .exact .inr h4
  .rw[he,if_pos rfl]at h;cases h
theorem ON(p:B8):fD [] p=false:=rfl
theorem SX{w p:B8}(h:∀ n,n<=w.length->fD (w.take n) p=false):H6 w p=false:=by
 unfold H6 tE;rw[any_eq_false];intro m hm;have:=mem_range.1 hm;rw[h _ (by omega)];simp
theorem QR{p:B8}{k n:Nat}{u:B8}(hk:k<=5)(hn:n<=60)(hp:∀ c∈p,aI c<3)(hp1:p≠[])(h:u∈avL p k n []) :
  u.length=n/\isWord u=true/\hasB u p=false:=by
 obtain⟨h1,h2,h3⟩:=Qd p k n [] u (fun m hm=>by
  rw[take_nil];exact ON p) h
 rw[length_nil,Nat.zero_add]at h1;refine⟨h1,?_,by rw[<-y9 hp hp1];exact SX h2⟩;unfold isWord;rw[bAn,dTe,all_eq_true];refine⟨by omega,fun c hc=>?_⟩;rcases h3 c hc with h4|⟨i,hi,rfl⟩
 .cases h4
 .exact mH (by omega)
theorem Th{l:List B8}(h:emL l=false):hdL l∈l:=by
 cases l with
 | nil=>cases h
 | cons a l=>exact mem_cons_self
def avC(p:B8)(k n:Int)(t:Int):Int:=if a8 p then (if decide (1<=k/\k<=3)&&decide (0<=n/\n<=t) then 0 else 2) else 1
def qd(p:B8)(k n:Int):List B8:=avL p k.toNat n.toNat []
def jA(p:B8)(k n:Int):Int:=if avC p k n 12=0 then (if emL (qd p k n) then 4 else 0) else avC p k n 12
def firstT(p:B8)(k n:Int):B8:=if avC p k n 12=0 then hdL (qd p k n) else []
def Nx(p:B8)(k n:Int):Int:=avC p k n 9
def GF(p:B8)(k n:Int):Int:=if avC p k n 9=0 then ((qd p k n).length:Nat) else 0
theorem sx{p:B8}{k n t:Int}(h:avC p k n t=0):a8 p=true/\(1<=k/\k<=3)/\(0<=n/\n<=t):=by
 unfold avC at h;cases hp:a8 p
 .rw[hp]at h;simp at h
 .rw[hp,if_pos rfl]at h;cases hb:decide (1<=k/\k<=3)&&decide (0<=n/\n<=t)
  .rw[hb]at h;simp at h
  .rw[bAn,dTe,dTe]at hb;exact⟨rfl,hb.1,hb.2⟩
theorem Rp{p:B8}{k n:Int}(h:jA p k n=0):(firstT p k n).length=n.toNat/\0<=n/\isWord (firstT p k n)=true/\a8 p=true/\hasB (firstT p k n) p=false:=by
 unfold jA at h;by_cases h0:avC p k n 12=0
 .rw[if_pos h0]at h;obtain⟨hp,hk,hn⟩:=sx h0;cases he:emL (qd p k n)
  .have hm:=Th he;have hne:p≠[]:=by rintro rfl;have:=(bC hp).1;simp at this
   obtain⟨h1,h2,h3⟩:=QR (k:=k.toNat) (n:=n.toNat) (by omega) (by omega) (rI hp) hne hm;unfold firstT;rw[if_pos h0];exact⟨h1,hn.1,h2,hp,h3⟩
  .rw[he,if_pos rfl]at h;omega
 .rw[if_neg h0]at h;exact absurd h h0
theorem Q5{p:B8}{k n:Int}(h:jA p k n≠0):firstT p k n=[]:=by
 unfold jA at h;unfold firstT;by_cases h0:avC p k n 12=0
 .rw[if_pos h0]at h ⊢;cases he:emL (qd p k n)
  .rw[he,if_neg (by decide)]at h;exact absurd rfl h
  .have:=xV he;rw[this];rfl
 .rw[if_neg h0]
end Go.Proofs.YtapimhjbilkfpaaGreatDoor
namespace Go.Proofs.YtapimhjbilkfpaaGreatDoor
open Go Go.Proofs.Tryz List
def TO:B8->B8->B8×Bool:=fun _ w=>(w,true)
theorem No(l:List B8)(s:B8):bU TO s l=if emL l then (s,false) else (hdL l,true):=by
 cases l with
 | nil=>rfl
 | cons a l=>rfl
def R6:Nat->B8->Nat×Bool:=fun n _=>(n+1,false)
theorem AK:∀(l:List B8) (n:Nat),bU R6 n l=(n+l.length,false)
 | [],n=>rfl
 | a::l,n=>by
  have e:bU R6 n (a::l)=bU R6 (n+1) l:=rfl;rw[e,AK l (n+1),lCo,show n+1+l.length=n+(l.length+1) by omega]
theorem Pn(p:B8)(k:Nat):∀(d:Nat) (w:B8),(avL p k d w).length<=k ^ d
 | 0,w=>by simp[avL]
 | d+1,w=>by
  have h:∀ i,(avN p k d w i).length<=i*k ^ d:=by
   intro i
   induction i with
   | zero=>simp[tR]
   | succ i ih=>
    rw[th,lAp,Nat.add_mul,Nat.one_mul];have:(avS p k d w i).length<=k ^ d:=by
     unfold avS;split
     .simp
     .exact Pn p k d _
    omega
  rw[tn,Nat.pow_succ,Nat.mul_comm];exact h k
theorem pC{p:B8}{k n:Nat}(hk:k<=3)(hn:n<=9)(w:B8):(avL p k n w).length<=19683:=by
 refine Nat.le_trans (Pn p k n w) (Nat.le_trans (Nat.pow_le_pow_left hk n) ?_);exact Nat.pow_le_pow_right (by decide) hn
theorem NF(a:Int):IntKind.i64.wrap (IntKind.i64.wrap a+1)=IntKind.i64.wrap (a+1):=by
 unfold IntKind.wrap;simp[IntKind.bits,IntKind.signed];omega
theorem rf(p:B8)(k n:Int)(M:Mem)(R:VP)(hl:p.length<=1099511627776)(h:∀ M',Sub M M'->R (aF (str (firstT p k n)) (jA p k n)) M'):ar prog 171 [str p,.int .i64 k,.int .i64 n] M R:=by
 unfold jA firstT aF at h;refine fnT func171 rfl ntmps171 results171 ?_;refine bJ k 1 3 _ _ ?_;obtain⟨b1,hb1⟩:∃ b,b=decide (1<=k/\k<=3):=⟨_,rfl⟩;obtain⟨b2,hb2⟩:∃ b,b=decide (0<=n/\n<=12):=⟨_,rfl⟩;have hc:avC p k n 12=if a8 p then (if b1&&b2 then 0 else 2) else 1:=by unfold avC;rw[hb1,hb2]
 rw[<-hb1];cases b1
 .refine sS ?_;refine dp p false _ _ hl ?_;have h0:avC p k n 12≠0:=by rw[hc];cases a8 p<;>simp
  rw[if_neg h0,if_neg h0,hc]at h;cases hp:a8 p
  .rw[hp]at h;refine sS ?_;exact ad (h _ (Sub.refl _))
  .rw[hp]at h;refine sS ?_;exact ad (h _ (Sub.refl _))
 .refine sS ?_;refine bJ n 0 12 _ _ ?_;rw[<-hb2];cases b2
  .refine sS ?_;refine dp p false _ _ hl ?_;have h0:avC p k n 12≠0:=by rw[hc];cases a8 p<;>simp
   rw[if_neg h0,if_neg h0,hc]at h;cases hp:a8 p
   .rw[hp]at h;refine sS ?_;exact ad (h _ (Sub.refl _))
   .rw[hp]at h;refine sS ?_;exact ad (h _ (Sub.refl _))
  .refine sS ?_;refine dp p true _ _ hl ?_;cases hp:a8 p
   .have h0:avC p k n 12=1:=by rw[hc,hp];rfl
    rw[h0,if_neg (by decide),if_neg (by decide)]at h;refine sS ?_;exact ad (h _ (Sub.refl _))
   .have h0:avC p k n 12=0:=by rw[hc,hp];rfl
    rw[if_pos h0,if_pos h0]at h;have hk:=of_decide_eq_true hb1.symm;have hn:=of_decide_eq_true hb2.symm;obtain⟨k,rfl⟩:∃ i:Nat,k=i:=⟨k.toNat,by omega⟩;obtain⟨n,rfl⟩:∃ i:Nat,n=i:=⟨n.toNat,by omega⟩;unfold qd at h;rw[iNa,iNa]at h;refine sS ?_;intro b9 hb9;refine sS ?_;refine ld (S:=B8) p k n hp (by omega) (by omega) _ TO (fun s M2=>Sub M M2/\M2 b9=some (.cells true [str s] 1)) ?_ n [] [] _ _ (by simp) ⟨(Sub.refl _).put hb9 _,ae _ _ _⟩ ?_
    .rintro s w K R' hw ⟨hK1,hK2⟩ hR
     refine sS ?_;refine fnS func266 rfl ntmps266 results266 ?_;simp(disch:=omega)[hK2,aj];exact ad (hR _ ⟨hK1.put hb9 _,ae _ _ _⟩)
    .rintro M2 ⟨h1,h2⟩
     rw[No]at h2 ⊢;cases he:emL (avL p k n [])
     .rw[he,if_neg (by decide)]at h h2;simp(disch:=omega)[ak h2];exact ad (h _ h1)
     .rw[he,if_pos rfl]at h h2;rw[xV he]at h;refine sS ?_;exact ad (h _ h1)
theorem rl(p:B8)(k n:Int)(M:Mem)(R:VP)(hl:p.length<=1099511627776)(h:∀ M',Sub M M'->R (aF (.int .i64 (GF p k n)) (Nx p k n)) M'):ar prog 173 [str p,.int .i64 k,.int .i64 n] M R:=by
 unfold Nx GF aF at h;refine fnT func173 rfl ntmps173 results173 ?_;refine bJ k 1 3 _ _ ?_;obtain⟨b1,hb1⟩:∃ b,b=decide (1<=k/\k<=3):=⟨_,rfl⟩;obtain⟨b2,hb2⟩:∃ b,b=decide (0<=n/\n<=9):=⟨_,rfl⟩;have hc:avC p k n 9=if a8 p then (if b1&&b2 then 0 else 2) else 1:=by unfold avC;rw[hb1,hb2]
 rw[<-hb1];cases b1
 .refine sS ?_;refine dp p false _ _ hl ?_;have h0:avC p k n 9≠0:=by rw[hc];cases a8 p<;>simp
  rw[if_neg h0,hc]at h;cases hp:a8 p
  .rw[hp]at h;refine sS ?_;exact ad (h _ (Sub.refl _))
  .rw[hp]at h;refine sS ?_;exact ad (h _ (Sub.refl _))
 .refine sS ?_;refine bJ n 0 9 _ _ ?_;rw[<-hb2];cases b2
  .refine sS ?_;refine dp p false _ _ hl ?_;have h0:avC p k n 9≠0:=by rw[hc];cases a8 p<;>simp
   rw[if_neg h0,hc]at h;cases hp:a8 p
   .rw[hp]at h;refine sS ?_;exact ad (h _ (Sub.refl _))
   .rw[hp]at h;refine sS ?_;exact ad (h _ (Sub.refl _))
  .refine sS ?_;refine dp p true _ _ hl ?_;cases hp:a8 p
   .have h0:avC p k n 9=1:=by rw[hc,hp];rfl
    rw[h0,if_neg (by decide)]at h;refine sS ?_;exact ad (h _ (Sub.refl _))
   .have h0:avC p k n 9=0:=by rw[hc,hp];rfl
    rw[h0,if_pos rfl]at h;have hk:=of_decide_eq_true hb1.symm;have hn:=of_decide_eq_true hb2.symm;obtain⟨k,rfl⟩:∃ i:Nat,k=i:=⟨k.toNat,by omega⟩;obtain⟨n,rfl⟩:∃ i:Nat,n=i:=⟨n.toNat,by omega⟩;unfold qd at h;rw[iNa,iNa]at h;have hsm:=pC (p:=p) (k:=k) (n:=n) (by omega) (by omega) [];refine sS ?_;intro b9 hb9;refine sS ?_;refine ld (S:=Nat) p k n hp (by omega) (by omega) _ R6 (fun s M2=>Sub M M2/\M2 b9=some (.cells true [.int .i64 (IntKind.i64.wrap s)] 1)) ?_ n [] 0 _ _ (by simp) ⟨(Sub.refl _).put hb9 _,ae _ _ _⟩ ?_
    .rintro s w K R' hw ⟨hK1,hK2⟩ hR
     refine sS ?_;refine fnS func267 rfl ntmps267 results267 ?_;simp(disch:=omega)[hK2,ak hK2,aj,NF];exact ad (hR _ ⟨hK1.put hb9 _,ae _ _ _⟩)
    .rintro M2 ⟨h1,h2⟩
     rw[AK,Nat.zero_add]at h2;rw[AK];generalize (avL p k n []).length=c at *;simp(disch:=omega)[ak h2];exact ad (h _ h1)
theorem p7(p:B8)(k:Nat)(hp:a8 p=true)(hk:k<=3):∀(d:Nat) (w:B8) (M:Mem) (R:VP),w.length+d<=60->d<=9->R (.int .i64 ((avL p k d w).length:Nat)) M->ar prog 204 [str w,str p,.int .i64 k,.int .i64 d] M R
 | 0,w,M,R,hd,hd9,h=>by
  unfold avL at h;refine fnT func204 rfl ntmps204 results204 ?_;exact ad h
 | d+1,w,M,R,hd,hd9,h=>by
  refine fnS func204 rfl ntmps204 results204 ?_;have hb:(((d:Int)+1)==0)=false:=bNe.2 (by omega);simp(disch:=omega)[hb];refine aR aU (rlA [9,10,11] 14 21) (fun i:Nat=>[(10,.int .i64 i),(9,.int .i64 ((avN p k d w i).length:Nat))]) (fun i M'=>M=M'/\i<=k) (fun i=>k-i) 0 (by kernel_rfl) (by simp(disch:=omega)[tR]) ⟨rfl,by omega⟩ ?_
  rintro i M' g ⟨rfl,hi⟩
  have hs:=congrArg length (th p k d w i);rw[lAp]at hs;have hall:(avN p k d w i).length<=(avL p k (d+1) w).length:=by
   obtain⟨rest,hr⟩:=ph p k d w hi;rw[hr,lAp];omega
  have hsm:=pC (p:=p) hk hd9 w;by_cases hlt:i<k
  .have hall2:(avN p k d w (i+1)).length<=(avL p k (d+1) w).length:=by
    obtain⟨rest,hr⟩:=ph p k d w (show i+1<=k by omega);rw[hr,lAp];omega
   have hsm2:=pC (p:=p) (k:=k) (n:=d) hk (by omega) (w++[ltr i]);refine sS ?_;refine jM i _ _ (by omega) ?_;refine sS ?_;have hl':(w++[ltr i]).length=w.length+1:=by simp
   refine l8 _ p _ _ (by omega) hp ?_;unfold avS at hs;cases he:fD (w++[ltr i]) p
   .rw[he,if_neg (by decide)]at hs;refine sS ?_;refine p7 p k hp hk d _ _ _ (by omega) (by omega) ?_;generalize (avL p k d (w++[ltr i])).length=c at *;generalize (avN p k d w i).length=a at *;refine sS ?_;exact rndA (i+1) (by simp(disch:=omega);omega) ⟨rfl,by omega⟩
   .rw[he,if_pos rfl,length_nil,Nat.add_zero]at hs;refine sS ?_;exact rndA (i+1) (by simp(disch:=omega)[hs]) ⟨rfl,by omega⟩
  .have hi':i=k:=by omega
   subst hi';rw[tn]at h;refine sS ?_;exact ad h
theorem rB(p:B8)(k n:Int)(M:Mem)(R:VP)(hl:p.length<=1099511627776)(h:R (aF (str (firstT p k n)) (jA p k n)) M):ar prog 129 [str p,.int .i64 k,.int .i64 n] M R:=by
 unfold jA firstT aF at h;refine fnT func129 rfl ntmps129 results129 ?_;refine p8 p k 3 n 12 _ _ hl ?_;rw[show (if a8 p then (if decide (1<=k/\k<=3)&&decide (0<=n/\n<=12) then (0:Int) else 2) else 1)=avC p k n 12 from rfl];by_cases h0:avC p k n 12=0
 .obtain⟨hp,hk,hn⟩:=sx h0;rw[if_pos h0,if_pos h0]at h;obtain⟨k,rfl⟩:∃ i:Nat,k=i:=⟨k.toNat,by omega⟩;obtain⟨n,rfl⟩:∃ i:Nat,n=i:=⟨n.toNat,by omega⟩;unfold qd at h;rw[iNa,iNa]at h;simp(disch:=omega)[h0];refine qh p k hp (by omega) n [] _ _ (by simp;omega) ?_;unfold vC;cases he:emL (avL p k n [])
  .rw[he,if_neg (by decide)]at h;refine sS ?_;exact ad h
  .rw[he,if_pos rfl]at h;rw[xV he]at h;refine sS ?_;exact ad h
 .rw[if_neg h0,if_neg h0]at h;generalize avC p k n 12=c at *;refine sS ?_;exact ad h
theorem ry(p:B8)(k n:Int)(M:Mem)(R:VP)(hl:p.length<=1099511627776)(h:R (aF (.int .i64 (GF p k n)) (Nx p k n)) M):ar prog 130 [str p,.int .i64 k,.int .i64 n] M R:=by
 unfold Nx GF aF at h;refine fnT func130 rfl ntmps130 results130 ?_;refine p8 p k 3 n 9 _ _ hl ?_;rw[show (if a8 p then (if decide (1<=k/\k<=3)&&decide (0<=n/\n<=9) then (0:Int) else 2) else 1)=avC p k n 9 from rfl];by_cases h0:avC p k n 9=0
 .obtain⟨hp,hk,hn⟩:=sx h0;rw[if_pos h0,h0]at h;obtain⟨k,rfl⟩:∃ i:Nat,k=i:=⟨k.toNat,by omega⟩;obtain⟨n,rfl⟩:∃ i:Nat,n=i:=⟨n.toNat,by omega⟩;unfold qd at h;rw[iNa,iNa]at h;simp(disch:=omega)[h0];refine p7 p k hp (by omega) n [] _ _ (by simp;omega) (by omega) ?_;refine sS ?_;exact ad h
 .rw[if_neg h0]at h;generalize avC p k n 9=c at *;refine sS ?_;exact ad h
def Bw(n:Int):Int:=if decide (1<=n/\n<=5) then 0 else 2
def wV(n:Int):B8:=if decide (1<=n/\n<=5) then jZ n.toNat else []
theorem nG(n:Int)(M:Mem)(R:VP)(h:R (aF (str (wV n)) (Bw n)) M):ar prog 108 [.int .i64 n] M R:=by
 unfold Bw wV aF at h;refine fnT func108 rfl ntmps108 results108 ?_;refine np n _ _ ?_;cases hb:decide (1<=n/\n<=5)
 .rw[hb]at h;refine sS ?_;exact ad h
 .rw[hb,if_pos rfl,if_pos rfl]at h;have hn:=of_decide_eq_true hb;obtain⟨n,rfl⟩:∃ i:Nat,n=i:=⟨n.toNat,by omega⟩;rw[iNa]at h;refine sS ?_;refine Ab n _ _ (by omega) ?_;refine sS ?_;exact ad h
theorem nu(n:Int)(M:Mem)(R:VP)(h:R (aF (str (wV n)) (Bw n)) M):ar prog 67 [.int .i64 n] M R:=by
 unfold Bw wV aF at h;refine fnT func67 rfl ntmps67 results67 ?_;refine ck _ _ _ _ _ ?_;cases hb:decide (1<=n/\n<=5)
 .rw[hb]at h;refine sS ?_;exact ad h
 .rw[hb,if_pos rfl,if_pos rfl]at h;have hn:=of_decide_eq_true hb;obtain⟨n,rfl⟩:∃ i:Nat,n=i+1:=⟨n.toNat-1,by omega⟩;rw[show ((n:Int)+1).toNat=n+1 by omega]at h;refine sS ?_;refine k9 n _ _ (by omega) ?_;refine sS ?_;exact ad h
end Go.Proofs.YtapimhjbilkfpaaGreatDoor
namespace Go.Proofs.YtapimhjbilkfpaaGreatDoor
open Go Go.Proofs.Tryz Go.RowKit List
def BC(l:B8):Bool:=isWord l&&iA l 2
theorem yy{l:B8}(h:BC l=true):l.length<=60:=au (Bool.and_eq_true_iff.1 h).1
theorem lr(p:UInt8->Bool):∀ l:B8,(∀ x∈l.dropWhile p,p x=true)->∀ x∈l,p x=true
 | [],_=>by simp
 | b::l,h=>by
  cases hb:p b
  .rw[dropWhile_cons,if_neg (by rw[hb];decide)]at h;have:=h b (by simp);rw[hb]at this;cases this
  .rw[dropWhile_cons,if_pos hb]at h;intro x hx;rcases mem_cons.1 hx with rfl|hx
   .exact hb
   .exact lr p l h x hx
theorem Rn(l cs:B8):Lib.trimS l cs=[]↔∀ x∈l,cs.contains x=true:=by
 have dn:∀(p:UInt8->Bool) (m:B8),m.dropWhile p=[]↔∀ x∈m,p x=true:=fun p m=>by
  induction m with
  | nil=>simp
  | cons b m ih=>
   rw[dropWhile_cons];by_cases hb:p b=true
   .rw[if_pos hb,ih];simp[hb]
   .rw[if_neg hb];refine⟨fun h=>(by cases h),fun h=>absurd (h b (by simp)) hb⟩
 unfold Lib.trimS Lib.trimLeftS Lib.trimRightS;rw[dn];constructor
 .intro h x hx;refine lr _ l.reverse (fun y hy=>h y (mem_reverse.2 hy)) x (mem_reverse.2 hx)
 .intro h x hx;rw[mem_reverse]at hx;exact h x (mem_reverse.1 ((dropWhile_sublist _).subset hx))
theorem S8(l:B8)(hl:l.all isL=true):Lib.trimS l [97,98]=[]↔iA l 2=true:=by
 rw[Rn];unfold iA;rw[all_eq_true];refine forall_congr' fun x=>forall_congr' fun hx=>?_;have hr:=eE (all_eq_true.1 hl x hx);have e:([97,98]:B8).contains x=(x==97||x==98):=by rw[contains_cons,contains_cons,contains_nil,Bool.or_false]
 rw[e,Bool.or_eq_true,beq_iff_eq,beq_iff_eq,dTe];constructor
 .rintro(rfl|rfl)<;>decide
 .intro h;have:x.toNat=97\/x.toNat=98:=by omega
  rcases this with h|h
  .exact .inl (UInt8.toNat_inj.1 h)
  .exact .inr (UInt8.toNat_inj.1 h)
theorem F3(l:B8)(M:Mem)(R:VP)(hl:l.length<=1099511627776)(h:R (str (Lib.trimS l [97,98])) M):ar prog 392 [str l,str [97,98]] M R:=by
 refine dK (str (Lib.trimS l [97,98])) ⟨_,func392,by kernel_rfl,by kernel_rfl⟩ (fun w hw=>?_) h;exact Any.strings_Trim_laid Tryz.lays160 (by kernel_rfl) ⟨⟨l⟩⟩ ⟨⟨[97,98]⟩⟩ w (by show l.length<=_;omega) (by decide) (ascii_of_all (by decide))
theorem Jm(l:B8)(M:Mem)(R:VP)(hl:l.length<=1099511627776)(h:R (.bool (BC l)) M):ar prog 340 [str l] M R:=by
 unfold BC at h;refine fnT func340 rfl ntmps340 results340 ?_;refine fY l _ _ hl ?_;cases hw:isWord l
 .rw[hw,Bool.false_and]at h;refine sS ?_;exact ad h
 .rw[hw,Bool.true_and]at h;have ht:=S8 l (aZ hw);refine sS ?_;refine F3 l _ _ hl ?_;cases hf:iA l 2
  .rw[hf]at h ht;have ht':¬ Lib.trimS l [97,98]=[]:=fun e=>by have:=ht.1 e;cases this
   have ht2:(Lib.trimS l [97,98]).isEmpty=false:=by cases e:Lib.trimS l [97,98] with|nil=>exact absurd e ht'|cons a b=>rfl
   simp(disch:=omega)[ht2];exact ad h
  .rw[hf]at h ht;have ht':Lib.trimS l [97,98]=[]:=ht.2 rfl;simp(disch:=omega)[ht'];exact ad h
theorem IH(l:B8)(M:Mem)(R:VP)(hl:l.length<=1099511627776)(h:R (.bool (BC l)) M):ar prog 364 [str l] M R:=by
 unfold BC at h;refine fnT func364 rfl ntmps364 results364 ?_;refine bg l _ _ hl ?_;cases hw:isWord l
 .rw[hw,Bool.false_and]at h;refine sS ?_;exact ad h
 .rw[hw,Bool.true_and]at h;refine sS ?_;refine nv l 2 _ _ hl (aZ hw) (by omega) ?_;refine sS ?_;exact ad h
theorem mF(a b:Nat)(M:Mem)(R:VP)(ha:a<=1099511627776)(hb:b<=1099511627776)(h:R (.int .i64 (Nat.gcd a b:Nat)) M):ar prog 351 [.int .i64 a,.int .i64 b] M R:=by
 refine fnT func351 rfl ntmps351 results351 ?_;refine lupS (rlA [0,1] 5 6) (fun x:Nat×Nat=>[(0,.int .i64 (x.1:Nat)),(1,.int .i64 (x.2:Nat))]) (fun x M'=>M=M'/\Nat.gcd x.1 x.2=Nat.gcd a b/\x.1<=1099511627776/\x.2<=1099511627776) (fun x=>x.2) (a,b) ⟨rfl,rfl,ha,hb⟩ ?_
 rintro⟨x,y⟩ M' g ⟨rfl,hg,hx,hy⟩
 simp only at hg hx hy;by_cases hy0:y=0
 .subst hy0;rw[Nat.gcd_zero_right]at hg;rw[<-hg]at h;refine sS ?_;exact ad h
 .obtain⟨r,hr⟩:∃ r,r=x%y:=⟨_,rfl⟩;have hlt:=Nat.mod_lt x (Nat.pos_of_ne_zero hy0);have hq:(x:Int).tmod (y:Int)=(r:Int):=by rw[hr];rfl
  have hy1:¬(y:Int)=0:=by omega
  refine sS ?_;refine drwS ?_;simp(disch:=omega)[hq];refine rndS (y,r) ⟨rfl,?_,hy,by simp only;omega⟩;simp only;rw[hr,<-hg,Nat.gcd_comm y,<-Nat.gcd_rec,Nat.gcd_comm]
theorem nQ(a b:Nat)(M:Mem)(R:VP)(ha:a<=1099511627776)(hb:b<=1099511627776)(h:R (.int .i64 (Nat.gcd a b:Nat)) M):ar prog 196 [.int .i64 a,.int .i64 b] M R:=by
 refine fnT func196 rfl ntmps196 results196 ?_;refine lupS (rlA [0,1] 5 8) (fun x:Nat×Nat=>[(0,.int .i64 (x.1:Nat)),(1,.int .i64 (x.2:Nat))]) (fun x M'=>M=M'/\Nat.gcd x.1 x.2=Nat.gcd a b/\x.1<=1099511627776/\x.2<=1099511627776) (fun x=>x.2) (a,b) ⟨rfl,rfl,ha,hb⟩ ?_
 rintro⟨x,y⟩ M' g ⟨rfl,hg,hx,hy⟩
 simp only at hg hx hy;by_cases hy0:y=0
 .subst hy0;rw[Nat.gcd_zero_right]at hg;rw[<-hg]at h;refine sS ?_;exact ad h
 .obtain⟨r,hr⟩:∃ r,r=x%y:=⟨_,rfl⟩;have hlt:=Nat.mod_lt x (Nat.pos_of_ne_zero hy0);have hq:(x:Int).tmod (y:Int)=(r:Int):=by rw[hr];rfl
  have hy1:¬(y:Int)=0:=by omega
  have hy2:(0:Int)<y:=by omega
  simp(disch:=omega)[hq];refine rndS (y,r) ⟨rfl,?_,hy,by simp only;omega⟩;simp only;rw[hr,<-hg,Nat.gcd_comm y,<-Nat.gcd_rec,Nat.gcd_comm]
def eP(p q least:Int):Bool:=decide (least<=p/\p<=1000)&&(decide (least<=q/\q<=1000)&&decide (Nat.gcd p.toNat q.toNat=1))
theorem qw(p q least:Int)(M:Mem)(R:VP)(hle:0<=least)(h:R (.bool (eP p q least)) M):ar prog 263 [.int .i64 p,.int .i64 q,.int .i64 least] M R:=by
 unfold eP at h;refine fnT func263 rfl ntmps263 results263 ?_;refine bJ _ _ _ _ _ ?_;by_cases h1:least<=p/\p<=1000
 .rw[dTr h1]at h ⊢;refine sS ?_;refine bJ _ _ _ _ _ ?_;by_cases h2:least<=q/\q<=1000
  .rw[dTr h2]at h ⊢;obtain⟨a,rfl⟩:∃ a:Nat,p=a:=⟨p.toNat,by omega⟩;obtain⟨b,rfl⟩:∃ b:Nat,q=b:=⟨q.toNat,by omega⟩;rw[iNa,iNa]at h;refine sS ?_;refine mF a b _ _ (by omega) (by omega) ?_;by_cases h3:Nat.gcd a b=1
   .rw[dTr h3]at h;rw[h3];refine sS ?_;exact ad h
   .rw[dFa h3]at h;have h4:¬((Nat.gcd a b:Nat):Int)=1:=by omega
    have h5:(((Nat.gcd a b:Nat):Int)==1)=false:=bNe.2 h4;generalize Nat.gcd a b=G at *;simp(disch:=omega)[h5];exact ad h
  .rw[dFa h2]at h ⊢;refine sS ?_;exact ad h
 .rw[dFa h1]at h ⊢;refine sS ?_;refine ad h
def iR(a b c:Nat):Nat->B8
 | 0=>[]
 | n+1=>iR a b c n++[if ((n+1)*a+c)/b=(n*a+c)/b then 97 else 98]
theorem pD(a b c:Nat):∀ n,(iR a b c n).length=n
 | 0=>rfl
 | n+1=>by rw[iR,lAp,pD a b c n];rfl
def nS(p q:Nat):B8:=iR q (p+q) 0 (p+q)
theorem ER(a b c n:Nat)(M:Mem)(R:VP)(ha:a<=3000)(hb:1<=b)(hb':b<=3000)(hc:c<=3000)(hn:n<=3000)(h:R (str (iR a b c n)) M):ar prog 354 [.int .i64 a,.int .i64 b,.int .i64 c,.int .i64 n] M R:=by
 refine fnT func354 rfl ntmps354 results354 ?_;refine aR aU (rlA [9,10] 12 24) (fun i:Nat=>[(12,.int .i64 i),(9,str (iR a b c i))]) (fun i M'=>M=M'/\i<=n) (fun i=>n-i) 0 (by kernel_rfl) (by simp(disch:=omega)[iR]) ⟨rfl,by omega⟩ ?_
 rintro i M' g ⟨rfl,hi⟩
 have hln:=pD a b c i;by_cases hlt:i<n
 .obtain⟨s,hs⟩:∃ s,s=i*a:=⟨_,rfl⟩;obtain⟨t,ht⟩:∃ t,t=(i+1)*a:=⟨_,rfl⟩;have hsb:s<=9000000:=by rw[hs];exact Nat.le_trans (Nat.mul_le_mul (by omega:i<=3000) ha) (by decide)
  have htb:t<=9003000:=by rw[ht];exact Nat.le_trans (Nat.mul_le_mul (by omega:i+1<=3001) ha) (by decide)
  have e1:(i:Int)*(a:Int)=s:=by rw[hs];exact(Int.natCast_mul _ _).symm
  have e2:((i:Int)+1)*(a:Int)=t:=by rw[ht];push_cast;rfl
  obtain⟨x,hx⟩:∃ x,x=(t+c)/b:=⟨_,rfl⟩;obtain⟨y,hy⟩:∃ y,y=(s+c)/b:=⟨_,rfl⟩;have hxb:x<=t+c:=by rw[hx];exact Nat.div_le_self _ _
  have hyb:y<=s+c:=by rw[hy];exact Nat.div_le_self _ _
  have e3:((t:Int)+c).tdiv b=x:=by rw[hx];rfl
  have e4:((s:Int)+c).tdiv b=y:=by rw[hy];rfl
  have hb0:¬(b:Int)=0:=by omega
  have hrec:iR a b c (i+1)=iR a b c i++[if x=y then 97 else 98]:=by rw[iR,<-ht,<-hs,<-hx,<-hy]
  refine sS ?_;refine drwS ?_;by_cases hxy:x=y
  .rw[if_pos hxy]at hrec;have hxy':(x:Int)=y:=by omega
   simp(disch:=omega)[e1,e2,e3,e4,hxy'];refine rndA (i+1) (by simp(disch:=omega)[hrec]) ⟨rfl,by omega⟩
  .rw[if_neg hxy]at hrec;have hxy':¬(x:Int)=y:=by omega
   simp(disch:=omega)[e1,e2,e3,e4];refine rndA (i+1) (by simp(disch:=omega)[hrec]) ⟨rfl,by omega⟩
 .have hi':i=n:=by omega
  subst hi';refine sS ?_;exact ad h
theorem Es(p q:Nat)(M:Mem)(R:VP)(hp:p<=1000)(hq:q<=1000)(h:R (str (nS p q)) M):ar prog 200 [.int .i64 p,.int .i64 q] M R:=by
 unfold nS at h;refine fnT func200 rfl ntmps200 results200 ?_;obtain⟨n,hn⟩:∃ n,n=p+q:=⟨_,rfl⟩;have hnI:(p:Int)+q=n:=by omega
 rw[<-hn]at h;simp(disch:=omega)[hnI];refine aR aU (rlA [5,7] 11 21) (fun i:Nat=>[(7,.int .i64 i),(5,str (iR q n 0 i))]) (fun i M'=>M=M'/\i<=n) (fun i=>n-i) 0 (by kernel_rfl) (by simp(disch:=omega)[iR]) ⟨rfl,by omega⟩ ?_
 rintro i M' g ⟨rfl,hi⟩
 have hln:=pD q n 0 i;by_cases hlt:i<n
 .obtain⟨s,hs⟩:∃ s,s=i*q:=⟨_,rfl⟩;obtain⟨t,ht⟩:∃ t,t=(i+1)*q:=⟨_,rfl⟩;have hsb:s<=9000000:=by rw[hs];exact Nat.le_trans (Nat.mul_le_mul (by omega:i<=3000) (by omega:q<=3000)) (by decide)
  have htb:t<=9003000:=by rw[ht];exact Nat.le_trans (Nat.mul_le_mul (by omega:i+1<=3001) (by omega:q<=3000)) (by decide)
  have e1:(i:Int)*(q:Int)=s:=by rw[hs];exact(Int.natCast_mul _ _).symm
  have e2:((i:Int)+1)*(q:Int)=t:=by rw[ht];push_cast;rfl
  obtain⟨x,hx⟩:∃ x,x=t/n:=⟨_,rfl⟩;obtain⟨y,hy⟩:∃ y,y=s/n:=⟨_,rfl⟩;have hxb:x<=t:=by rw[hx];exact Nat.div_le_self _ _
  have hyb:y<=s:=by rw[hy];exact Nat.div_le_self _ _
  have e3:(t:Int).tdiv n=x:=by rw[hx];rfl
  have e4:(s:Int).tdiv n=y:=by rw[hy];rfl
  have hb0:¬(n:Int)=0:=by omega
  have hrec:iR q n 0 (i+1)=iR q n 0 i++[if x=y then 97 else 98]:=by rw[iR,<-ht,<-hs,Nat.add_zero,Nat.add_zero,<-hx,<-hy]
  refine sS ?_;refine drwS ?_;by_cases hxy:x=y
  .rw[if_pos hxy]at hrec;have hxy':(x:Int)=y:=by omega
   simp(disch:=omega)[e1,e2,e3,e4,hxy'];refine rndA (i+1) (by simp(disch:=omega)[hrec]) ⟨rfl,by omega⟩
  .rw[if_neg hxy]at hrec;have hxy':¬(x:Int)=y:=by omega
   simp(disch:=omega)[e1,e2,e3,e4];refine rndA (i+1) (by simp(disch:=omega)[hrec]) ⟨rfl,by omega⟩
 .have hi':i=n:=by omega
  subst hi';refine sS ?_;exact ad h
theorem yC(p q:Nat)(M:Mem)(R:VP)(hp:p<=1000)(hq:q<=1000)(h0:1<=p+q)(h:R (str (nS p q)) M):ar prog 259 [.int .i64 p,.int .i64 q] M R:=by
 unfold nS at h;refine fnS func259 rfl ntmps259 results259 ?_;obtain⟨n,hn⟩:∃ n,n=p+q:=⟨_,rfl⟩;have hnI:(p:Int)+q=n:=by omega
 rw[<-hn]at h;simp(disch:=omega)[hnI];refine ER q n 0 n _ _ (by omega) (by omega) (by omega) (by omega) (by omega) ?_;refine sS ?_;exact ad h
def nmA(l:B8):Nat:=l.countP fun u=>u.toNat==97
def nmB(l:B8):Nat:=l.countP fun u=>u.toNat==98
def R7(l:B8):Bool:=decide (Nat.gcd (nmA l) (nmB l)=1)&&(nS (nmA l) (nmB l)==l)
theorem J7{a b:Nat}(h:Nat.gcd a b=1):1<=a+b:=by
 rcases Nat.eq_zero_or_pos (a+b) with h0|h0
 .have ha:a=0:=by omega
  have hb:b=0:=by omega
  subst ha hb;cases h
 .exact h0
def sP(l:B8):Nat:=if BC l=true then (if R7 l=true then nmA l else 0) else 0
theorem jI{p q low:Int}(h0:0<=low)(h:eP p q low=true):∃ a b:Nat,p=a/\q=b/\low<=p/\low<=q/\a<=1000/\b<=1000/\Nat.gcd a b=1:=by
 unfold eP at h;simp only[bAn,dTe]at h;obtain⟨⟨h1,h2⟩,⟨h3,h4⟩,h5⟩:=h;exact⟨p.toNat,q.toNat,by omega,by omega,h1,h3,by omega,by omega,h5⟩
theorem rW(p q low:Int)(M:Mem)(R:VP)(hle:0<=low)(h:R (.int .i64 (if eP p q low=true then 0 else 2)) M):ar prog 199 [.int .i64 p,.int .i64 q,.int .i64 low] M R:=by
 unfold eP at h;refine fnT func199 rfl ntmps199 results199 ?_;refine ck _ _ _ _ _ ?_;by_cases h1:low<=p/\p<=1000
 .rw[dTr h1]at h ⊢;refine sS ?_;refine ck _ _ _ _ _ ?_;by_cases h2:low<=q/\q<=1000
  .rw[dTr h2]at h ⊢;obtain⟨a,rfl⟩:∃ a:Nat,p=a:=⟨p.toNat,by omega⟩;obtain⟨b,rfl⟩:∃ b:Nat,q=b:=⟨q.toNat,by omega⟩;rw[iNa,iNa]at h;refine sS ?_;refine nQ a b _ _ (by omega) (by omega) ?_;by_cases h3:Nat.gcd a b=1
   .rw[dTr h3]at h;simp only[Bool.and_self,if_true]at h;rw[h3];refine sS ?_;exact ad h
   .rw[dFa h3]at h;simp only[Bool.and_false,Bool.false_eq_true,if_false]at h;have h4:¬((Nat.gcd a b:Nat):Int)=1:=by omega
    have h5:(((Nat.gcd a b:Nat):Int)==1)=false:=bNe.2 h4;generalize Nat.gcd a b=G at *;simp(disch:=omega)[h5];exact ad h
  .rw[dFa h2]at h ⊢;simp only[Bool.and_false,Bool.false_and,Bool.false_eq_true,if_false]at h;refine sS ?_;exact ad h
 .rw[dFa h1]at h ⊢;simp only[Bool.false_and,Bool.false_eq_true,if_false]at h;refine sS ?_;exact ad h
def sk(p q:Int):Int:=if eP p q 0=true then (if 60<p+q then 3 else 0) else 2
def BD(p q:Int):B8:=if sk p q=0 then nS p.toNat q.toNat else []
theorem S9{p q:Int}(h:sk p q=0):eP p q 0=true/\p+q<=60:=by
 unfold sk at h;split at h
 .rename_i h1;split at h
  .cases h
  .exact⟨h1,by omega⟩
 .cases h
theorem As(p q:Int)(M:Mem)(R:VP)(h:R (.int .i64 (sk p q)) M):ar prog 258 [.int .i64 p,.int .i64 q] M R:=by
 unfold sk at h;refine fnT func258 rfl ntmps258 results258 ?_;refine qw p q 0 _ _ (by omega) ?_;cases h1:eP p q 0
 .rw[h1]at h;simp only[Bool.false_eq_true,if_false]at h;refine sS ?_;exact ad h
 .rw[h1]at h;simp only[if_true]at h;obtain⟨a,b,rfl,rfl,_,_,ha,hb,_⟩:=jI (by omega) h1;by_cases h2:(60:Int)<a+b
  .rw[if_pos h2]at h;simp(disch:=omega)[h2];exact ad h
  .rw[if_neg h2]at h;simp(disch:=omega)[h2];exact ad h
theorem va(p q:Int)(M:Mem)(R:VP)(h:R (aF (str (BD p q)) (sk p q)) M):ar prog 167 [.int .i64 p,.int .i64 q] M R:=by
 unfold BD aF at h;refine fnT func167 rfl ntmps167 results167 ?_;refine As p q _ _ ?_;by_cases h1:sk p q=0
 .rw[if_pos h1]at h;obtain⟨h2,h3⟩:=S9 h1;obtain⟨a,b,rfl,rfl,_,_,ha,hb,hg⟩:=jI (by omega) h2;rw[h1]at h ⊢;rw[iNa,iNa]at h;refine sS ?_;refine yC a b _ _ ha hb (J7 hg) ?_;refine sS ?_;exact ad h
 .rw[if_neg h1]at h;refine sS ?_;exact ad h
theorem ur(p q:Int)(M:Mem)(R:VP)(h:R (aF (str (BD p q)) (sk p q)) M):ar prog 125 [.int .i64 p,.int .i64 q] M R:=by
 unfold BD aF sk at h;refine fnT func125 rfl ntmps125 results125 ?_;refine rW p q 0 _ _ (by omega) ?_;cases h1:eP p q 0
 .rw[h1]at h;simp only[Bool.false_eq_true,if_false]at h ⊢;refine sS ?_;exact ad (by simpa using h)
 .rw[h1]at h;simp only[if_true]at h ⊢;obtain⟨a,b,rfl,rfl,_,_,ha,hb,hg⟩:=jI (by omega) h1;by_cases h2:(60:Int)<a+b
  .rw[if_pos h2,if_neg (by decide)]at h;simp(disch:=omega)[h2];exact ad h
  .rw[if_neg h2,if_pos rfl,iNa,iNa]at h;simp(disch:=omega)[h2];refine Es a b _ _ ha hb ?_;refine sS ?_;exact ad h
def El:Nat->Nat->Nat->B8
 | 0,_,_=>[]
 | f+1,p,q=>if p=q then [] else if q<p then 98::El f (p-q) q else 97::El f p (q-p)
def pth(p q:Nat):B8:=El (p+q) p q
def G7(p q:Int):Int:=if eP p q 1=true then (if (pth p.toNat q.toNat).length<=60 then 0 else 3) else 2
def DB(p q:Int):B8:=if G7 p q=0 then pth p.toNat q.toNat else []
theorem Ip(p q:Int)(M:Mem)(R:VP)(h:R (aF (str (DB p q)) (G7 p q)) M):ar prog 170 [.int .i64 p,.int .i64 q] M R:=by
 unfold DB aF G7 at h;refine fnT func170 rfl ntmps170 results170 ?_;refine qw p q 1 _ _ (by omega) ?_;cases h1:eP p q 1
 .rw[h1]at h;simp only[Bool.false_eq_true,if_false]at h ⊢;refine sS ?_;exact ad (by simpa using h)
 .rw[h1]at h;simp only[if_true]at h ⊢;obtain⟨a,b,rfl,rfl,h3,h4,ha,hb,hg⟩:=jI (by omega) h1;rw[iNa,iNa]at h;refine sS ?_;refine lupS (rlA [0,1,4,5,6] 11 19) (fun x:B8×Nat×Nat×Nat=>[(0,.int .i64 (x.2.1:Nat)),(1,.int .i64 (x.2.2.1:Nat)),(6,str x.1)]) (fun x M'=>M=M'/\x.1++El x.2.2.2 x.2.1 x.2.2.1=pth a b/\x.2.1+x.2.2.1<=x.2.2.2/\1<=x.2.1/\1<=x.2.2.1/\x.2.1<=1000/\x.2.2.1<=1000/\x.1.length<=60) (fun x=>x.2.2.2) ([],a,b,a+b) ⟨rfl,rfl,lRf _,by simp only;omega,by simp only;omega,ha,hb,lZe _⟩ ?_
  rintro⟨out,x,y,f⟩ M' g ⟨rfl,hP,hf,hx,hy,hx2,hy2,ho⟩
  simp only at hP hf hx hy hx2 hy2 ho;obtain⟨f,rfl⟩:∃ f',f=f'+1:=⟨f-1,by omega⟩;by_cases hxy:x=y
  .have hxI:(x:Int)=y:=by omega
   rw[El,if_pos hxy,append_nil]at hP;rw[<-hP,if_pos ho,if_pos rfl]at h;simp(disch:=omega)[hxI];exact ad h
  .have hxI:¬(x:Int)=y:=by omega
   rw[El,if_neg hxy]at hP;by_cases h60:out.length=60
   .have h60':(out.length:Int)=60:=by omega
    have hbig:¬(pth a b).length<=60:=by
     rw[<-hP,lAp];split
     .rw[lCo];omega
     .rw[lCo];omega
    rw[if_neg hbig,if_neg (by decide)]at h;simp(disch:=omega)[h60];exact ad h
   .have h60':¬(out.length:Int)=60:=by omega
    by_cases hlt:y<x
    .rw[if_pos hlt]at hP;have hl2:¬(x:Int)<y:=by omega
     have hl3:¬ x<y:=by omega
     obtain⟨d,hd⟩:∃ d,x-y=d:=⟨_,rfl⟩;have hdI:(x:Int)-y=d:=by omega
     rw[hd]at hP;simp(disch:=omega)[hl2,hdI];refine rndS (out++[98],d,y,f) ⟨rfl,by simpa using hP,by simp only;omega,by simp only;omega,hy,by simp only;omega,hy2,by simp only[lAp,lSi];omega⟩
    .rw[if_neg hlt]at hP;have hl2:(x:Int)<y:=by omega
     have hl3:x<y:=by omega
     obtain⟨d,hd⟩:∃ d,y-x=d:=⟨_,rfl⟩;have hdI:(y:Int)-x=d:=by omega
     rw[hd]at hP;simp(disch:=omega)[hl2,hdI];refine rndS (out++[97],x,d,f) ⟨rfl,by simpa using hP,by simp only;omega,hx,by simp only;omega,hx2,by simp only;omega,by simp only[lAp,lSi];omega⟩
theorem He(p q:Int)(M:Mem)(R:VP)(h:R (aF (str (DB p q)) (G7 p q)) M):ar prog 128 [.int .i64 p,.int .i64 q] M R:=by
 unfold DB aF G7 at h;refine fnT func128 rfl ntmps128 results128 ?_;refine rW p q 1 _ _ (by omega) ?_;cases h1:eP p q 1
 .rw[h1]at h;simp only[Bool.false_eq_true,if_false]at h ⊢;refine sS ?_;exact ad (by simpa using h)
 .rw[h1]at h;simp only[if_true]at h ⊢;obtain⟨a,b,rfl,rfl,h3,h4,ha,hb,hg⟩:=jI (by omega) h1;rw[iNa,iNa]at h;refine sS ?_;refine lupS (rlA [0,1,4,5,7] 14 19) (fun x:B8×Nat×Nat×Nat=>[(0,.int .i64 (x.2.1:Nat)),(1,.int .i64 (x.2.2.1:Nat)),(7,str x.1)]) (fun x M'=>M=M'/\x.1++El x.2.2.2 x.2.1 x.2.2.1=pth a b/\x.2.1+x.2.2.1<=x.2.2.2/\1<=x.2.1/\1<=x.2.2.1/\x.2.1<=1000/\x.2.2.1<=1000/\x.1.length<=60) (fun x=>x.2.2.2) ([],a,b,a+b) ⟨rfl,rfl,lRf _,by simp only;omega,by simp only;omega,ha,hb,lZe _⟩ ?_
  rintro⟨out,x,y,f⟩ M' g ⟨rfl,hP,hf,hx,hy,hx2,hy2,ho⟩
  simp only at hP hf hx hy hx2 hy2 ho;obtain⟨f,rfl⟩:∃ f',f=f'+1:=⟨f-1,by omega⟩;by_cases hxy:x=y
  .have hxI:(x:Int)=y:=by omega
   rw[El,if_pos hxy,append_nil]at hP;rw[<-hP,if_pos ho,if_pos rfl]at h;simp(disch:=omega)[hxI];exact ad h
  .have hxI:¬(x:Int)=y:=by omega
   rw[El,if_neg hxy]at hP;by_cases hlt:y<x
   .rw[if_pos hlt]at hP;have hl2:(y:Int)<x:=by omega
    obtain⟨d,hd⟩:∃ d,x-y=d:=⟨_,rfl⟩;have hdI:(x:Int)-y=d:=by omega
    rw[hd]at hP;by_cases h60:out.length=60
    .have hbig:¬(pth a b).length<=60:=by
      rw[<-hP,lAp,lCo];omega
     rw[if_neg hbig,if_neg (by decide)]at h;simp(disch:=omega)[h60,hl2,hdI];exact ad h
    .have h61:¬ 60<out.length+1:=by omega
     have h61':¬(60:Int)<(out.length:Int)+1:=by omega
     simp(disch:=omega)[h61',hl2,hdI];refine rndS (out++[98],d,y,f) ⟨rfl,by simpa using hP,by simp only;omega,by simp only;omega,hy,by simp only;omega,hy2,by simp only[lAp,lSi];omega⟩
   .rw[if_neg hlt]at hP;have hl2:¬(y:Int)<x:=by omega
    obtain⟨d,hd⟩:∃ d,y-x=d:=⟨_,rfl⟩;have hdI:(y:Int)-x=d:=by omega
    rw[hd]at hP;by_cases h60:out.length=60
    .have hbig:¬(pth a b).length<=60:=by
      rw[<-hP,lAp,lCo];omega
     rw[if_neg hbig,if_neg (by decide)]at h;simp(disch:=omega)[h60,hl2,hdI];exact ad h
    .have h61:¬ 60<out.length+1:=by omega
     have h61':¬(60:Int)<(out.length:Int)+1:=by omega
     simp(disch:=omega)[h61',hl2,hdI];refine rndS (out++[97],x,d,f) ⟨rfl,by simpa using hP,by simp only;omega,hx,by simp only;omega,hx2,by simp only;omega,by simp only[lAp,lSi];omega⟩
theorem fW(w:B8)(k:Nat):(eh w k).length=k*w.length:=by
 unfold eh;rw[length_flatten,map_replicate,sum_replicate_nat]
theorem J5(w:B8)(k:Nat):eh w (k+1)=eh w k++w:=by
 unfold eh;rw[replicate_succ',flatten_append];simp
def la:List Int->B8->B8->Option B8
 | [],_,own=>some own
 | d::ds,last,own=>if d.toNat*own.length+last.length<=60 then la ds own (eh own d.toNat++last) else none
def mQ(zs:List Int)(i:Nat):Bool:=decide ((if i=0 then 0 else 1)<=zs.getD i 0/\zs.getD i 0<=60)
def mN(zs:List Int):Bool:=decide (zs.length<=20)&&(range zs.length).all (mQ zs)
def rU(zs:List Int):Int:=if mN zs=true then (match la zs [98] [97] with|some _=>0|none=>3) else 2
def qW(zs:List Int):B8:=if mN zs=true then (match la zs [98] [97] with|some w=>w|none=>[]) else []
theorem Aj{zs:List Int}{i:Nat}(hi:i<zs.length)(h:mQ zs i=false):mN zs=false:=by
 unfold mN;have:(range zs.length).all (mQ zs)=false:=by
  rw[all_eq_false];exact⟨i,mem_range.2 hi,by rw[h];decide⟩
 rw[this,Bool.and_false]
theorem uy{zs:List Int}(hl:zs.length<=20)(h:∀ j,j<zs.length->mQ zs j=true):mN zs=true:=by
 unfold mN;rw[dTr hl,Bool.true_and,all_eq_true];exact fun j hj=>h j (mem_range.1 hj)
theorem zP{zs:List Int}{i:Nat}{z:Int}(hi:zs[i]?=some z):mQ zs i=decide ((if i=0 then 0 else 1)<=z/\z<=60):=by
 unfold mQ;rw[gDe,hi];rfl
theorem xI{N:Mem}{a:Option Addr}{c n:Nat}{zs:List Int}(h:Rd N (.slice a n c) (ints zs))(h1:1<=zs.length):∃ b o,a=some ⟨b,o,none⟩/\∀ i,i<zs.length->N.get? b (o+i)=some (.int .i64 (zs.getD i 0)):=by
 obtain⟨a',c',he,hat⟩:=h.opened;rw[az]at he hat;injection he with e1 e2 e3
 rcases hat with h0|⟨b,o,e4,hat⟩
 .omega
 .refine⟨b,o,by rw[e1,e4],fun i hi=>?_⟩;rw[hat i hi,cR,gEl hi,gDe,gEl hi];rfl
theorem drop_cons{zs:List Int}{i:Nat}(h:i<zs.length):zs.drop i=zs.getD i 0::zs.drop (i+1):=by
 rw[gDe,gEl h];exact drop_eq_getElem_cons h
theorem uV(v:Value)(zs:List Int)(M:Mem)(R:VP)(hv:Rd M v (ints zs))(hl:zs.length<=20)(hz:∀ j,j<zs.length->0<=zs.getD j 0/\zs.getD j 0<=60)
  (h:R (.tuple #[str (match la zs [98] [97] with|some w=>w|none=>[]),.bool (la zs [98] [97]).isSome]) M):ar prog 114 [v] M R:=by
 obtain⟨a,c,rfl,_⟩:=hv.opened;have hv':=hv;rw[az]at hv' ⊢;refine fnT func114 rfl ntmps114 results114 ?_;refine lupS (rlA [] 2 37) (fun x:Nat×B8×B8=>[(6,.int .i64 (x.1:Nat)),(4,str x.2.1),(5,str x.2.2)]) (fun x M'=>M=M'/\x.1<=zs.length/\la (zs.drop x.1) x.2.1 x.2.2=la zs [98] [97]/\x.2.1.length<=60/\x.2.2.length<=60) (fun x=>zs.length-x.1) (0,[98],[97]) ⟨rfl,by simp only;omega,rfl,by decide,by decide⟩ ?_
 rintro⟨i,be,now⟩ M' g ⟨rfl,hi,hS,hb,hn⟩
 simp only at hi hS hb hn;by_cases hlt:i<zs.length
 .obtain⟨b,o,rfl,hat⟩:=xI hv' (by omega);have hg:=hat i hlt;have hzi:=hz i hlt;rw[drop_cons hlt,la]at hS;obtain⟨d,hd⟩:∃ d:Nat,zs.getD i 0=d:=⟨(zs.getD i 0).toNat,by omega⟩;rw[hd]at hg hzi hS;rw[iNa]at hS;refine sS ?_;refine aR aU (rlA [7,8] 15 16) (fun k:Nat=>[(8,.int .i64 k),(7,str (eh now k))]) (fun k M'=>M=M'/\k<=d/\(eh now k).length<=120) (fun k=>d-k) 0 (by kernel_rfl) (by simp(disch:=omega)[eh]) ⟨rfl,by omega,by simp[eh]⟩ ?_
  rintro k M' g ⟨rfl,hk,hkl⟩
  have hrl:=fW now k;have hmul:k*now.length<=d*now.length:=Nat.mul_le_mul_right _ hk;generalize hX:eh now k=X at *;by_cases hkd:k<d
  .by_cases h60:X.length<=60
   .have e:eh now (k+1)=X++now:=by rw[J5,hX]
    have h60I:(X.length:Int)<=60:=by omega
    simp(disch:=omega)[hg,h60I,hkd];refine rndA (k+1) (by simp(disch:=omega)[e]) ⟨rfl,by omega,?_⟩;rw[e,lAp];omega
   .have hno:¬ d*now.length+be.length<=60:=by omega
    rw[if_neg hno]at hS;rw[<-hS]at h;have h61:¬((X.length:Int)<=60):=by omega
    have h62:60<X.length+be.length:=by omega
    have h63:(60:Int)<(X.length:Int)+be.length:=by omega
    simp(disch:=omega)[hg,h61,h63];exact ad h
  .have hkd':k=d:=by omega
   subst hkd';by_cases h60:k*now.length+be.length<=60
   .rw[if_pos h60,hX]at hS;have h62:¬ 60<X.length+be.length:=by omega
    have h63:¬(60:Int)<(X.length:Int)+be.length:=by omega
    simp(disch:=omega)[hg,h63];refine rndS (i+1,now,X++be) ⟨rfl,by simp only;omega,hS,hn,by simp only[lAp];omega⟩
   .rw[if_neg h60]at hS;rw[<-hS]at h;have h62:60<X.length+be.length:=by omega
    have h63:(60:Int)<(X.length:Int)+be.length:=by omega
    simp(disch:=omega)[hg,h63];exact ad h
 .have hi':i=zs.length:=by omega
  subst hi';rw[drop_length,la]at hS;rw[<-hS]at h;refine sS ?_;exact ad h
theorem eT(v:Value)(zs:List Int)(M:Mem)(R:VP)(hv:Rd M v (ints zs))(hn:zs.length<=1099511627776)(h:R (aF (str (qW zs)) (rU zs)) M):ar prog 64 [v] M R:=by
 unfold aF qW rU at h;obtain⟨a,c,rfl,_⟩:=hv.opened;have hv':=hv;rw[az]at hv' ⊢;refine fnS func64 rfl ntmps64 results64 ?_;by_cases hl:zs.length<=20
 .have hl':¬(20:Int)<zs.length:=by omega
  have hl2:¬ 20<zs.length:=by omega
  simp(disch:=omega)[hl'];refine lupS (rlA [2,3,4] 10 23) (fun i:Nat=>[(4,.int .i64 i)]) (fun i M'=>M=M'/\i<=zs.length/\∀ j,j<i->mQ zs j=true) (fun i=>zs.length-i) 0 ⟨rfl,by omega,fun j hj=>by omega⟩ ?_
  rintro i M' g ⟨rfl,hi,hS⟩
  by_cases hlt:i<zs.length
  .obtain⟨b,o,rfl,hat⟩:=xI hv' (by omega);have hg:=hat i hlt;have hzi:=zP (zs:=zs) (i:=i) (z:=zs.getD i 0) (by rw[gEl hlt,gDe,gEl hlt];rfl);generalize zs.getD i 0=z at *;simp(disch:=omega)[hg];refine ck _ _ _ _ _ ?_;by_cases h1:0<=z/\z<=60
   .rw[dTr h1];by_cases h0:i=0
    .subst h0;rw[if_pos rfl,dTr h1]at hzi;refine sS ?_;refine rndS (0+1) ⟨rfl,by omega,fun j hj=>?_⟩;rw[show j=0 by omega];exact hzi
    .have hpos:(0:Int)<i:=by omega
     have hpos':0<i:=by omega
     rw[if_neg h0]at hzi;by_cases hz0:z=0
     .rw[dFa (by omega)]at hzi;rw[Aj hlt hzi]at h;simp only[Bool.false_eq_true,if_false]at h;simp(disch:=omega)[hpos',hg,hz0];exact ad h
     .rw[dTr (by omega)]at hzi;have hz0':(z==0)=false:=bNe.2 hz0;simp(disch:=omega)[hpos',hg,hz0'];refine rndS (i+1) ⟨rfl,by omega,fun j hj=>?_⟩;rcases Nat.lt_or_ge j i with h|h
      .exact hS j h
      .rw[show j=i by omega];exact hzi
   .rw[dFa h1];have h2:mQ zs i=false:=by
     rw[hzi];refine dFa fun hh=>h1 ⟨?_,hh.2⟩;have:=hh.1;split at this<;>omega
    rw[Aj hlt h2]at h;simp only[Bool.false_eq_true,if_false]at h;simp(disch:=omega)[undef];exact ad h
  .have hi':i=zs.length:=by omega
   subst hi';have hok:=uy hl hS;rw[hok]at h;simp only[if_true]at h;refine sS ?_;refine uV _ zs _ _ hv' hl (fun j hj=>?_) ?_
   .have:=hS j hj;unfold mQ at this;rw[dTe]at this;have h3:=this.1;split at h3<;>omega
   .cases hF:la zs [98] [97] with
    | none=>
     rw[hF]at h;simp only[Option.isSome]at h ⊢;refine sS ?_;exact ad h
    | some w=>
     rw[hF]at h;simp only[Option.isSome]at h ⊢;refine sS ?_;exact ad h
 .have hl':(20:Int)<zs.length:=by omega
  have hl2:20<zs.length:=by omega
  have hno:mN zs=false:=by unfold mN;rw[dFa hl,Bool.false_and]
  rw[hno]at h;simp only[Bool.false_eq_true,if_false]at h;simp(disch:=omega)[hl'];exact ad h
theorem kz(v:Value)(zs:List Int)(M:Mem)(R:VP)(hv:Rd M v (ints zs))(hn:zs.length<=1099511627776)(h:R (aF (str (qW zs)) (rU zs)) M):ar prog 104 [v] M R:=by
 unfold aF qW rU at h;obtain⟨a,c,rfl,_⟩:=hv.opened;have hv':=hv;rw[az]at hv' ⊢;refine fnS func104 rfl ntmps104 results104 ?_;by_cases hl:zs.length<=20
 .have hl':¬(20:Int)<zs.length:=by omega
  have hl2:¬ 20<zs.length:=by omega
  simp(disch:=omega)[hl'];refine lupS (rlA [2,3,4,5] 15 11) (fun i:Nat=>[(15,.int .i64 i)]) (fun i M'=>M=M'/\i<=zs.length/\∀ j,j<i->mQ zs j=true) (fun i=>zs.length-i) 0 ⟨rfl,by omega,fun j hj=>by omega⟩ ?_
  rintro i M' g ⟨rfl,hi,hS⟩
  by_cases hlt:i<zs.length
  .obtain⟨b,o,rfl,hat⟩:=xI hv' (by omega);have hg:=hat i hlt;have hzi:=zP (zs:=zs) (i:=i) (z:=zs.getD i 0) (by rw[gEl hlt,gDe,gEl hlt];rfl);generalize zs.getD i 0=z at *;have hm:(if (i:Int)<1 then (i:Int) else 1)=if i=0 then 0 else 1:=by split<;>split<;>omega
   have hm2:(if (1:Int)<i then (1:Int) else i)=if i=0 then 0 else 1:=by split<;>split<;>omega
   obtain⟨y,hy⟩:∃ y:Int,y=if i=0 then 0 else 1:=⟨_,rfl⟩
   rw[<-hy]at hm hm2 hzi;simp(disch:=omega)[hg,hm2];refine bJ _ y _ _ _ ?_;by_cases h1:y<=z/\z<=60
   .rw[dTr h1]at hzi ⊢;refine sS ?_;refine rndS (i+1) ⟨rfl,by omega,fun j hj=>?_⟩;rcases Nat.lt_or_ge j i with h|h
    .exact hS j h
    .rw[show j=i by omega];exact hzi
   .rw[dFa h1]at hzi ⊢;rw[Aj hlt hzi]at h;simp only[Bool.false_eq_true,if_false]at h;refine sS ?_;exact ad h
  .have hi':i=zs.length:=by omega
   subst hi';have hok:=uy hl hS;have hz:∀ j,j<zs.length->0<=zs.getD j 0/\zs.getD j 0<=60:=fun j hj=>by
    have:=hS j hj;unfold mQ at this;rw[dTe]at this;have h3:=this.1;split at h3<;>omega
   rw[hok]at h;simp only[if_true]at h;refine sS ?_;refine lupS (rlA [2,3,6,7,9] 28 19) (fun x:Nat×B8×B8=>[(28,.int .i64 (x.1:Nat)),(6,str x.2.1),(7,str x.2.2)]) (fun x M'=>M=M'/\x.1<=zs.length/\la (zs.drop x.1) x.2.1 x.2.2=la zs [98] [97]/\x.2.1.length<=60/\x.2.2.length<=60) (fun x=>zs.length-x.1) (0,[98],[97]) ⟨rfl,by simp only;omega,rfl,by decide,by decide⟩ ?_
   rintro⟨i,be,now⟩ M' g ⟨rfl,hi,hS2,hb,hnw⟩
   simp only at hi hS2 hb hnw;by_cases hlt:i<zs.length
   .obtain⟨b,o,rfl,hat⟩:=xI hv' (by omega);have hg:=hat i hlt;have hzi:=hz i hlt;rw[drop_cons hlt,la]at hS2;obtain⟨d,hd⟩:∃ d:Nat,zs.getD i 0=d:=⟨(zs.getD i 0).toNat,by omega⟩;rw[hd]at hg hzi hS2;rw[iNa]at hS2;obtain⟨m,hm⟩:∃ m,d*now.length=m:=⟨_,rfl⟩;have hmb:m<=60*60:=by rw[<-hm];exact Nat.mul_le_mul (by omega) hnw
    have hmI:(now.length:Int)*(d:Int)=m:=by rw[<-hm,Nat.mul_comm];push_cast;rfl
    rw[hm]at hS2;simp(disch:=omega)[hg];refine bZ now _ _ (by omega) ?_;simp(disch:=omega)[hmI];refine bZ be _ _ (by omega) ?_;by_cases h60:m+be.length<=60
    .rw[if_pos h60]at hS2;have h61:¬ 60<m+be.length:=by omega
     have h62:¬(60:Int)<(m:Int)+be.length:=by omega
     simp(disch:=omega)[h62];refine iG now d _ _ hnw (by omega) ?_;have hrl:=fW now d;generalize eh now d=X at *;refine sS ?_;refine rndS (i+1,now,X++be) ⟨rfl,by simp only;omega,hS2,hnw,by simp only[lAp];omega⟩
    .rw[if_neg h60]at hS2;rw[<-hS2]at h;have h61:60<m+be.length:=by omega
     have h62:(60:Int)<(m:Int)+be.length:=by omega
     simp(disch:=omega)[h62];exact ad h
   .have hi':i=zs.length:=by omega
    subst hi';rw[drop_length,la]at hS2;rw[<-hS2]at h;refine sS ?_;exact ad h
 .have hl':(20:Int)<zs.length:=by omega
  have hl2:20<zs.length:=by omega
  have hno:mN zs=false:=by unfold mN;rw[dFa hl,Bool.false_and]
  rw[hno]at h;simp only[Bool.false_eq_true,if_false]at h;simp(disch:=omega)[hl'];exact ad h
end Go.Proofs.YtapimhjbilkfpaaGreatDoor
namespace Go.Proofs.YtapimhjbilkfpaaGreatDoor
open Go Go.Proofs.Tryz List
def nxt(own last:B8)(d:Nat):B8:=eh own d++last
theorem gr(own last:B8)(d:Nat):(nxt own last d).length=d*own.length+last.length:=by unfold nxt;rw[lAp,fW]
theorem Gw(own last:B8)(d:Nat):nxt own last (d+1)=own++nxt own last d:=by
 unfold nxt eh;rw[replicate_succ,flatten_cons,append_assoc]
def lpE(w last own:B8)(G:B8->List (List Nat)):Nat->Nat->List (List Nat)
 | 0,_=>[]
 | f+1,d=>if (nxt own last d).length<=w.length then (G (nxt own last d)).map (d :: ·)++lpE w last own G f (d+1) else []
def qG(w own:B8):List (List Nat):=if own=w then [[]] else []
def gR(w:B8):Nat->Nat->B8->B8->List (List Nat)
 | 0,_,_,own=>qG w own
 | n+1,least,last,own=>qG w own++lpE w last own (fun x=>gR w n 1 own x) 61 least
def Std(w:B8):Nat->B8->B8->List Nat->Prop
 | _,_,own,[]=>own=w
 | least,last,own,d::ds=>least<=d/\(nxt own last d).length<=w.length/\Std w 1 own (nxt own last d) ds
theorem Le{w last own:B8}{G:B8->List (List Nat)}(h1:1<=own.length)(hw:w.length<=60){x:List Nat}:∀(f d:Nat),61<=d+f->(x∈lpE w last own G f d↔∃ e ds,x=e::ds/\d<=e/\(nxt own last e).length<=w.length/\ds∈G (nxt own last e))
 | 0,d,hf=>by
  refine⟨fun h=>(by cases h),fun ⟨e,ds,_,he,hn,_⟩=>?_⟩;rw[gr]at hn;have:e*1<=e*own.length:=Nat.mul_le_mul_left e h1;omega
 | f+1,d,hf=>by
  unfold lpE;by_cases hd:(nxt own last d).length<=w.length
  .rw[if_pos hd,mem_append,Le h1 hw f (d+1) (by omega),mem_map];constructor
   .rintro(⟨ds,h2,rfl⟩|⟨e,ds,rfl,h2,h3,h4⟩)
    .exact⟨d,ds,rfl,lRf d,hd,h2⟩
    .exact⟨e,ds,rfl,by omega,h3,h4⟩
   .rintro⟨e,ds,rfl,h2,h3,h4⟩
    by_cases hed:e=d
    .subst hed;exact .inl ⟨ds,h4,rfl⟩
    .exact .inr ⟨e,ds,rfl,by omega,h3,h4⟩
  .rw[if_neg hd];refine⟨fun h=>(by cases h),fun ⟨e,ds,_,he,hn,_⟩=>?_⟩;rw[gr]at hn hd;have:d*own.length<=e*own.length:=Nat.mul_le_mul_right _ he;omega
theorem px{own last:B8}(h1:1<=own.length)(h2:1<=last.length)(d:Nat):1<=(nxt own last d).length:=by rw[gr];omega
theorem tG{w:B8}(hw:w.length<=60):∀(n least:Nat) (last own:B8) (x:List Nat),1<=own.length->1<=last.length->(x∈gR w n least last own↔x.length<=n/\Std w least last own x)
 | 0,least,last,own,x,h1,h2=>by
  unfold gR qG;constructor
  .intro h;split at h
   .rename_i he;rw[mem_singleton]at h;subst h;exact⟨lRf _,he⟩
   .cases h
  .rintro⟨hl,hs⟩
   cases x with
   | nil=>rw[if_pos (show own=w from hs)];exact mem_singleton.2 rfl
   | cons a l=>simp at hl
 | n+1,least,last,own,x,h1,h2=>by
  unfold gR;rw[mem_append,Le h1 hw 61 least (by omega)];constructor
  .rintro(h|⟨e,ds,rfl,h3,h4,h5⟩)
   .unfold qG at h;split at h
    .rename_i he;rw[mem_singleton]at h;subst h;exact⟨lZe _,he⟩
    .cases h
   .obtain⟨h6,h7⟩:=(tG hw n 1 own _ ds (px h1 h2 e) h1).1 h5;exact⟨by rw[lCo];omega,h3,h4,h7⟩
  .rintro⟨hl,hs⟩
   cases x with
   | nil=>refine .inl ?_;unfold qG;rw[if_pos (show own=w from hs)];exact mem_singleton.2 rfl
   | cons e ds=>
    obtain⟨h3,h4,h5⟩:=hs;rw[lCo]at hl;exact .inr ⟨e,ds,rfl,h3,h4,(tG hw n 1 own _ ds (px h1 h2 e) h1).2 ⟨by omega,h5⟩⟩
def en:List Nat->List Nat->Int
 | [],[]=>0
 | [],_::_=>-1
 | _::_,[]=>1
 | x::a,y::b=>if x<y then -1 else if y<x then 1 else en a b
theorem CH:∀ a,en a a=0
 | []=>rfl
 | x::a=>by unfold en;rw[if_neg (by omega),if_neg (by omega)];exact CH a
theorem uO:∀ a b,en a b = -en b a
 | [],[]=>rfl
 | [],_::_=>rfl
 | _::_,[]=>rfl
 | x::a,y::b=>by
  unfold en;by_cases h1:x<y
  .rw[if_pos h1,if_neg (by omega),if_pos h1]
  .rw[if_neg h1];by_cases h2:y<x
   .rw[if_pos h2,if_pos h2];rfl
   .rw[if_neg h2,if_neg h2,if_neg h1];exact uO a b
theorem LB:∀ {a b},en a b=0->a=b
 | [],[],_=>rfl
 | [],_::_,h=>by cases h
 | _::_,[],h=>by cases h
 | x::a,y::b,h=>by
  unfold en at h;split at h
  .cases h
  .split at h
   .cases h
   .rw[LB h,show x=y by omega]
theorem rq:∀ {a b c},en a b<0->en b c<=0->en a c<0
 | [],[],_,h,_=>by simp[en]at h
 | [],_::_,[],_,h=>by simp[en]at h
 | [],_::_,_::_,_,_=>by simp[en]
 | _::_,[],_,h,_=>by simp[en]at h
 | _::_,_::_,[],_,h=>by simp[en]at h
 | x::a,y::b,z::c,h,k=>by
  unfold en at h k ⊢;by_cases h1:x<y
  .by_cases k1:y<z
   .rw[if_pos (by omega)];omega
   .rw[if_neg k1]at k;by_cases k2:z<y
    .rw[if_pos k2]at k;omega
    .rw[if_pos (by omega)];omega
  .rw[if_neg h1]at h;by_cases h2:y<x
   .rw[if_pos h2]at h;omega
   .rw[if_neg h2]at h;have hxy:x=y:=by omega
    subst hxy;by_cases k1:x<z
    .rw[if_pos k1];omega
    .rw[if_neg k1]at k ⊢;by_cases k2:z<x
     .rw[if_pos k2]at k;omega
     .rw[if_neg k2]at k ⊢;exact rq h k
def ui(x y:Nat):Int:=if x<y then -1 else if y<x then 1 else 0
def kH(x y:List Nat):Bool:=decide ((if ui x.length y.length=0 then en x y else ui x.length y.length)<0)
theorem jn(x y:List Nat):kH x y=true↔x.length<y.length\/(x.length=y.length/\en x y<0):=by
 unfold kH ui;rw[dTe];rcases Nat.lt_trichotomy x.length y.length with h|h|h
 .simp[h]
 .rw[h];simp
 .have h1:¬ x.length<y.length:=by omega
  have h2:¬ x.length=y.length:=by omega
  simp[h,h1,h2]
def kS(s:Option (List Nat))(x:List Nat):Option (List Nat):=match s with
 | none=>some x
 | some b=>if kH x b=true then some x else some b
theorem lY:∀(L:List (List Nat)) (b:List Nat),∃ m,L.foldl kS (some b)=some m/\(m=b\/m∈L)/\kH b m=false/\∀ x∈L,kH x m=false
 | [],b=>⟨b,rfl,.inl rfl,by
   cases h:kH b b with
   | false=>rfl
   | true=>rw[jn,CH]at h;omega,by simp⟩
 | y::L,b=>by
  by_cases h:kH y b=true
  .obtain⟨m,h1,h2,h3,h4⟩:=lY L y;refine⟨m,by rw[foldl_cons,kS,if_pos h];exact h1,?_,?_,?_⟩
   .rcases h2 with rfl|h2
    .exact .inr (mem_cons_self ..)
    .exact .inr (mem_cons_of_mem _ h2)
   .cases hb:kH b m with
    | false=>rfl
    | true=>
     exfalso;rw[jn]at h hb;have:kH y m=true:=by
      rw[jn];rcases h with h|⟨h,h'⟩<;>rcases hb with hb|⟨hb,hb'⟩
      .exact .inl (by omega)
      .exact .inl (by omega)
      .exact .inl (by omega)
      .exact .inr ⟨by omega,rq h' (by omega)⟩
     rw[h3]at this;cases this
   .intro x hx;rcases mem_cons.1 hx with rfl|hx
    .exact h3
    .exact h4 x hx
  .obtain⟨m,h1,h2,h3,h4⟩:=lY L b;refine⟨m,by rw[foldl_cons,kS,if_neg h];exact h1,?_,h3,?_⟩
   .rcases h2 with rfl|h2
    .exact .inl rfl
    .exact .inr (mem_cons_of_mem _ h2)
   .intro x hx;rcases mem_cons.1 hx with rfl|hx
    .cases hb:kH x m with
     | false=>rfl
     | true=>
      exfalso;apply h;have h3':¬(b.length<m.length\/(b.length=m.length/\en b m<0)):=by rw[<-jn,h3];decide
      rw[jn]at hb ⊢;rcases hb with hb|⟨hb,hb'⟩
      .by_cases hl:m.length<=b.length
       .exact .inl (by omega)
       .exact absurd (.inl (by omega)) h3'
      .by_cases hl:m.length<b.length
       .exact .inl (by omega)
       .by_cases he:b.length=m.length
        .refine .inr ⟨by omega,rq hb' ?_⟩;have:¬ en b m<0:=fun hh=>h3' (.inr ⟨he,hh⟩);rw[uO];omega
        .exact absurd (.inl (by omega)) h3'
    .exact h4 x hx
def lpG(w last own:B8)(G:B8->Option (List Nat)):Nat->Nat->Option (List Nat)
 | 0,_=>none
 | f+1,d=>if (nxt own last d).length<=w.length then (match G (nxt own last d) with|some ds=>some (d::ds)|none=>lpG w last own G f (d+1)) else none
def dV(w:B8):Nat->Nat->B8->B8->Option (List Nat)
 | 0,_,_,own=>if own=w then some [] else none
 | r+1,least,last,own=>lpG w last own (fun x=>dV w r 1 own x) 61 least
theorem HT{w last own:B8}{G:B8->Option (List Nat)}(h1:1<=own.length)(hw:w.length<=60):∀(f d:Nat),61<=d+f->(∀ y,lpG w last own G f d=some y->∃ e ds,y=e::ds/\d<=e/\(nxt own last e).length<=w.length/\G (nxt own last e)=some ds/\∀ e',d<=e'->e'<e->G (nxt own last e')=none) /\
  (lpG w last own G f d=none->∀ e,d<=e->(nxt own last e).length<=w.length->G (nxt own last e)=none)
 | 0,d,hf=>by
  refine⟨fun y h=>(by cases h),fun _ e he hn=>?_⟩;rw[gr]at hn;have:e*1<=e*own.length:=Nat.mul_le_mul_left e h1;omega
 | f+1,d,hf=>by
  obtain⟨i1,i2⟩:=HT (last:=last) (G:=G) h1 hw f (d+1) (by omega);unfold lpG;by_cases hd:(nxt own last d).length<=w.length
  .rw[if_pos hd];cases hG:G (nxt own last d) with
   | some ds=>
    refine⟨fun y h=>?_,fun h=>by cases h⟩;injection h with h
    exact⟨d,ds,h.symm,lRf d,hd,hG,fun e' h2 h3=>by omega⟩
   | none=>
    simp only;refine⟨fun y h=>?_,fun h e he hn=>?_⟩
    .obtain⟨e,ds,h2,h3,h4,h5,h6⟩:=i1 y h;refine⟨e,ds,h2,by omega,h4,h5,fun e' h7 h8=>?_⟩;by_cases hed:e'=d
     .subst hed;exact hG
     .exact h6 e' (by omega) h8
    .by_cases hed:e=d
     .subst hed;exact hG
     .exact i2 h e (by omega) hn
  .rw[if_neg hd];refine⟨fun y h=>(by cases h),fun _ e he hn=>?_⟩;rw[gr]at hn hd;have:d*own.length<=e*own.length:=Nat.mul_le_mul_right _ he;omega
theorem kF{w:B8}(hw:w.length<=60):∀(r least:Nat) (last own:B8),1<=own.length->1<=last.length ->
  (∀ y,dV w r least last own=some y->Std w least last own y/\y.length=r/\∀ x,Std w least last own x->x.length=r->0<=en x y) /\
  (dV w r least last own=none->∀ x,Std w least last own x->x.length≠r)
 | 0,least,last,own,h1,h2=>by
  unfold dV;constructor
  .intro y h;split at h
   .rename_i he;injection h with h
    subst h;refine⟨he,rfl,fun x _ hx=>?_⟩;rw[eq_nil_of_length_eq_zero hx];exact Int.le_refl 0
   .cases h
  .intro h x hs hx;rw[eq_nil_of_length_eq_zero hx]at hs;rw[if_pos (show own=w from hs)]at h;cases h
 | r+1,least,last,own,h1,h2=>by
  obtain⟨i1,i2⟩:=HT (last:=last) (G:=fun x=>dV w r 1 own x) h1 hw 61 least (by omega);unfold dV;constructor
  .intro y h;obtain⟨e,ds,rfl,h3,h4,h5,h6⟩:=i1 y h;obtain⟨j1,j2,j3⟩:=(kF hw r 1 own (nxt own last e) (px h1 h2 e) h1).1 ds h5;refine⟨⟨h3,h4,j1⟩,by rw[lCo,j2],fun x hs hx=>?_⟩;cases x with
   | nil=>simp at hx
   | cons a l=>
    obtain⟨k1,k2,k3⟩:=hs;rw[lCo]at hx;unfold en;by_cases ha:a<e
    .have:=(kF hw r 1 own (nxt own last a) (px h1 h2 a) h1).2 (h6 a k1 ha) l k3;omega
    .rw[if_neg ha];by_cases hb:e<a
     .rw[if_pos hb];omega
     .rw[if_neg hb];have hae:a=e:=by omega
      subst hae;exact j3 l k3 (by omega)
  .intro h x hs hx;cases x with
   | nil=>simp at hx
   | cons a l=>
    obtain⟨k1,k2,k3⟩:=hs;rw[lCo]at hx;exact(kF hw r 1 own (nxt own last a) (px h1 h2 a) h1).2 (i2 h a k1 k2) l k3 (by omega)
def cntF(w:B8):Nat->Nat->Option (List Nat)
 | 0,_=>none
 | f+1,c=>match dV w c 0 [98] [97] with|some y=>some y|none=>cntF w f (c+1)
theorem vl{w:B8}(hw:w.length<=60):∀(f c:Nat),(∀ y,cntF w f c=some y->Std w 0 [98] [97] y/\c<=y.length/\y.length<c+f/\∀ x,Std w 0 [98] [97] x->c<=x.length->y.length<=x.length/\(x.length=y.length->0<=en x y)) /\
  (cntF w f c=none->∀ x,Std w 0 [98] [97] x->c<=x.length->c+f<=x.length)
 | 0,c=>⟨fun y h=>(by cases h),fun _ x _ h=>by omega⟩
 | f+1,c=>by
  obtain⟨i1,i2⟩:=vl hw f (c+1);obtain⟨k1,k2⟩:=kF hw c 0 [98] [97] (by decide) (by decide);unfold cntF;cases h:dV w c 0 [98] [97] with
  | some y=>
   obtain⟨a1,a2,a3⟩:=k1 y h;refine⟨fun z hz=>?_,fun hz=>by cases hz⟩;injection hz with hz
   subst hz;exact⟨a1,by omega,by omega,fun x hs hx=>⟨by omega,fun e=>a3 x hs (by omega)⟩⟩
  | none=>
   simp only;refine⟨fun y hy=>?_,fun hy x hs hx=>?_⟩
   .obtain⟨b1,b2,b3,b4⟩:=i1 y hy;refine⟨b1,by omega,by omega,fun x hs hx=>?_⟩;have:=k2 h x hs;exact b4 x hs (by omega)
   .have:=k2 h x hs;have:=i2 hy x hs (by omega);omega
theorem KW{w:B8}(hw:w.length<=60):(gR w 20 0 [98] [97]).foldl kS none=cntF w 21 0:=by
 have hm:=fun x=>tG hw 20 0 [98] [97] x (by decide) (by decide);obtain⟨k1,k2⟩:=vl hw 21 0;cases hL:gR w 20 0 [98] [97] with
 | nil=>
  cases hc:cntF w 21 0 with
  | none=>rfl
  | some y=>
   obtain⟨a1,a2,a3,_⟩:=k1 y hc;have:=(hm y).2 ⟨by omega,a1⟩;rw[hL]at this;cases this
 | cons b L=>
  rw[hL]at hm;obtain⟨m,h1,h2,h3,h4⟩:=lY L b;have hmm:m∈b::L:=by
   rcases h2 with rfl|h2
   .exact mem_cons_self ..
   .exact mem_cons_of_mem _ h2
  have hall:∀ x∈b::L,kH x m=false:=fun x hx=>by
   rcases mem_cons.1 hx with rfl|hx
   .exact h3
   .exact h4 x hx
  have e:(b::L).foldl kS none=some m:=h1;rw[e];obtain⟨q1,q2⟩:=(hm m).1 hmm;cases hc:cntF w 21 0 with
  | none=>
   have:=k2 hc m q2 (by omega);omega
  | some y=>
   obtain⟨a1,a2,a3,a4⟩:=k1 y hc;have hy:=hall y ((hm y).2 ⟨by omega,a1⟩);obtain⟨c1,c2⟩:=a4 m q2 (by omega);have hy':¬(y.length<m.length\/(y.length=m.length/\en y m<0)):=by rw[<-jn,hy];decide
   have hlen:m.length=y.length:=by
    by_cases h:y.length<m.length
    .exact absurd (.inl h) hy'
    .omega
   have h5:=c2 hlen;have h6:¬ en y m<0:=fun h=>hy' (.inr ⟨hlen.symm,h⟩);rw[uO y m]at h6;rw[LB (show en m y=0 by omega)]
theorem Lq{w:B8}:∀(x:List Nat) (last own:B8),Std w 1 last own x->∃ r,w=own++r
 | [],last,own,h=>⟨[],by rw[append_nil];exact(show own=w from h).symm⟩
 | d::ds,last,own,h=>by
  obtain⟨h1,_,h3⟩:=h;obtain⟨r,hr⟩:=Lq ds own _ h3;obtain⟨e,rfl⟩:∃ e,d=e+1:=⟨d-1,by omega⟩;rw[Gw,append_assoc]at hr;exact⟨_,hr⟩
theorem HS{w:B8}(hw:w.length<=60){n:Nat}{last own:B8}(h1:1<=own.length)(h2:1<=last.length)(hp:own.isPrefixOf w=false):gR w n 1 last own=[]:=by
 refine eq_nil_iff_forall_not_mem.2 fun x hx=>?_;obtain⟨_,hs⟩:=(tG hw n 1 last own x h1 h2).1 hx;obtain⟨r,rfl⟩:=Lq x last own hs;rw[isPrefixOf_iff_prefix.2 (prefix_append own r)]at hp;cases hp
def nI(l:List Nat):List Int:=l.map fun n:Nat=>(n:Int)
theorem ee(l:List Nat):(nI l).length=l.length:=length_map _
theorem xB(l:List Nat)(d:Nat):nI (l++[d])=nI l++[(d:Int)]:=by simp[nI]
theorem Gr{w:B8}(hw:w.length<=60):∀(x:List Nat) (least:Nat) (last own:B8),Std w least last own x->la (nI x) last own=some w
 | [],_,_,own,h=>by show some own=some w;rw[show own=w from h]
 | d::ds,least,last,own,h=>by
  obtain⟨h1,h2,h3⟩:=h;have hl:=gr own last d;show la ((d:Int)::nI ds) last own=some w;rw[la,iNa,if_pos (by omega)];exact Gr hw ds 1 own _ h3
theorem P0{w:B8}(hw:w.length<=60):∀(x:List Nat) (least:Nat) (last own:B8),1<=own.length->1<=last.length->Std w least last own x->∀ i,i<x.length->((if i=0 then least else 1):Nat)<=x.getD i 0/\x.getD i 0<=60
 | [],_,_,own,_,_,_,i,hi=>by simp at hi
 | d::ds,least,last,own,g1,g2,h,i,hi=>by
  obtain⟨h1,h2,h3⟩:=h;have hl:=gr own last d;have:d*1<=d*own.length:=Nat.mul_le_mul_left d g1;cases i with
  | zero=>rw[if_pos rfl];show least<=d/\d<=60;omega
  | succ i=>
   have ih:=P0 hw ds 1 own _ (px g1 g2 d) g1 h3 i (by rw[lCo]at hi;omega);rw[if_neg (by omega)];show 1<=ds.getD i 0/\ds.getD i 0<=60;refine⟨?_,ih.2⟩;have:=ih.1;split at this<;>omega
theorem Qo{w:B8}(hw:w.length<=60){x:List Nat}(hx:x.length<=20)(h:Std w 0 [98] [97] x):rU (nI x)=0/\qW (nI x)=w:=by
 have hok:mN (nI x)=true:=by
  refine uy (by rw[ee];exact hx) fun j hj=>?_;rw[ee]at hj;have:=P0 hw x 0 [98] [97] (by decide) (by decide) h j hj;rw[zP (z:=((x.getD j 0:Nat):Int)) (by unfold nI;rw[getElem?_map,gEl hj,gDe,gEl hj];rfl)];refine dTr ?_;split<;>rename_i h0
  .rw[if_pos h0]at this;omega
  .rw[if_neg h0]at this;omega
 have hF:=Gr hw x 0 [98] [97] h;unfold rU qW;rw[if_pos hok,if_pos hok,hF];exact⟨rfl,rfl⟩
def tc(w:B8):Int:=if BC w=true then (match cntF w 21 0 with|some _=>0|none=>5) else 1
def ka(w:B8):List Nat:=if BC w=true then (match cntF w 21 0 with|some y=>y|none=>[]) else []
theorem Ml{w:B8}(h:tc w=0):rU (nI (ka w))=0/\qW (nI (ka w))=w/\(ka w).length<=20:=by
 unfold tc at h;split at h
 .rename_i h1;have hw:=yy h1;split at h
  .rename_i y hy;obtain⟨a1,a2,a3,_⟩:=(vl hw 21 0).1 y hy;have e:ka w=y:=by unfold ka;rw[if_pos h1,hy]
   rw[e];obtain⟨b1,b2⟩:=Qo hw (by omega) a1;exact⟨b1,b2,by omega⟩
  .cases h
 .cases h
theorem RT(w:B8):(ka w).length<=20:=by
 by_cases h:tc w=0
 .exact(Ml h).2.2
 .unfold tc at h;unfold ka;split at h
  .rename_i h1;rw[if_pos h1];split at h
   .exact absurd rfl h
   .exact lZe _
  .rename_i h1;rw[if_neg h1];exact lZe _
theorem AN{D N:Mem}{bI oI L c:Nat}{ws:List B8}(h:D.sub? bI oI L=some (strs ws))(hs:Sub D N)(h1:1<=L)(hc:L<=c):du N (.slice (some ⟨bI,dQ oI 1 c 1,none⟩) (L-1) (c-1))=some (strs (ws.drop 1)):=by
 show N.sub? bI (dQ oI 1 c 1) (L-1)=some (strs (ws.drop 1));unfold Mem.sub? at *;split at h
 .rename_i own xs tot hb;rw[hs _ _ hb];split at h
  .rename_i hle;injection h with h
   have e:strs (ws.drop 1)=(strs ws).drop 1:=by simp[strs]
   simp only;unfold dQ;by_cases hc1:c=1
   .have hL:L=1:=by omega
    subst hL;rw[if_pos hc1,if_pos (by omega),e,<-h];simp
   .rw[if_neg hc1,if_pos (by omega),e,<-h,drop_take,drop_drop,Nat.mul_one]
  .cases h
 .cases h
theorem pr{N:Mem}{v:Value}{xs:List Value}(h:Rd N v xs)(h1:1<=xs.length):du N v=some xs:=by
 rcases h with ⟨a,c,rfl,rfl⟩|⟨b,o,c,rfl,h,_⟩
 .simp at h1
 .exact h
structure Rng where
 b:Nat
 v:Value
 xs:B8
def fo(M:Mem)(s:Rng):Prop:=∃(i:Nat) (h:Int),M s.b=some (.cells true [s.v,.int .i64 i,.int .u64 h] 3)/\Rd (M.del s.b) s.v (av s.xs)/\s.xs.length<=140737488355328/\i<=s.xs.length
structure DrR(s:Rng)(M M':Mem):Prop where
 keep:∀ D:Mem,D s.b=none->Sub D M->Sub D M'
 src:fo M' s
theorem DrR.refl{s:Rng}{M:Mem}(h:fo M s):DrR s M M:=⟨fun _ _ h=>h,h⟩
theorem DrR.trans{s:Rng}{A B C:Mem}(h:DrR s A B)(k:DrR s B C):DrR s A C:=⟨fun D hD hs=>k.keep D hD (h.keep D hD hs),k.src⟩
theorem fo.told{M:Mem}{s:Rng}(h:fo M s):M s.b≠none:=by
 obtain⟨i,hh,hM,_⟩:=h;rw[hM];intro q;cases q
theorem QG{M N:Mem}(b:Nat)(hs:Sub M N):Sub (M.del b) (N.del b):=by
 intro j B hj;by_cases e:j=b
 .simp[Mem.del,e]at hj
 .simp only[Mem.del,if_neg e]at hj ⊢;exact hs _ _ hj
theorem fo.sub{M N:Mem}{s:Rng}(h:fo M s)(hs:Sub M N):fo N s:=by
 obtain⟨i,hh,hM,hv,hl,hi⟩:=h;exact⟨i,hh,hs _ _ hM,hv.sub (QG _ hs),hl,hi⟩
theorem DrR.sub{s:Rng}{M N:Mem}(h:fo M s)(hs:Sub M N):DrR s M N:=⟨fun _ _ hD=>hD.trans hs,h.sub hs⟩
theorem Cv(M:Mem)(b:Nat)(B:Blk):(M.put b B).del b=M.del b:=by
 funext j
 by_cases q:j=b
 .simp[Mem.del,q]
 .simp[Mem.del,q]
theorem fo.store{M:Mem}{s:Rng}(hv:Rd (M.del s.b) s.v (av s.xs))(hl:s.xs.length<=140737488355328){i:Nat}(hi:i<=s.xs.length)(h:Int):DrR s M (M.put s.b (.cells true [s.v,.int .i64 i,.int .u64 h] 3)):=by
 refine⟨fun D hD hs=>?_,i,h,ae _ _ _,by rw[Cv];exact hv,hl,hi⟩;intro j B hj;have:j≠s.b:=by rintro rfl;rw[hD]at hj;cases hj
 rw[al _ _ this];exact hs _ _ hj
theorem DrR.at{s:Rng}{M M':Mem}(h:DrR s M M'){i:Nat}(hi:i≠s.b){B:Blk}(hB:M i=some B):M' i=some B:=by
 refine h.keep (fun j=>if j=i then some B else none) (if_neg (Ne.symm hi)) ?_ i B (if_pos rfl);intro j C hj;dsimp only at hj;by_cases e:j=i
 .subst e;rw[if_pos rfl]at hj;injection hj with hj;subst hj;exact hB
 .rw[if_neg e]at hj;cases hj
theorem AV{s:Rng}{Mb M' N N2:Mem}{v:Value}{xs:List Value}(o:Own Mb v xs M')(hs:fo Mb s)(hN:Sub M' N)(d:DrR s N N2):∃ Mb2 M2,Own Mb2 v xs M2/\Sub M2 N2/\DrR s Mb Mb2:=by
 obtain⟨i,w,h2,_⟩:=d.src;obtain⟨i0,w0,h0,hv0,hl0,_⟩:=hs;have hi:i<=s.xs.length:=by
  obtain⟨i',w',h2',_,_,hi'⟩:=d.src;rw[h2]at h2';simp only[Option.some.injEq,Blk.cells.injEq,List.cons.injEq,Value.int.injEq,true_and,and_true]at h2';omega
 refine⟨Mb.put s.b (.cells true [s.v,.int .i64 i,.int .u64 w] 3),M'.put s.b (.cells true [s.v,.int .i64 i,.int .u64 w] 3),o.other h0 _,?_,fo.store hv0 hl0 hi w⟩;intro j B hj;by_cases e:j=s.b
 .subst e;rw[ae]at hj;rw[h2];exact hj
 .rw[al _ _ e]at hj;exact d.at e (hN _ _ hj)
theorem fE{M:Mem}{s:Rng}(h:fo M s){b c n:Nat}{w:Bool}{xs:List Value}(hb:M b=none)(hn:xs.length=n)(hc:n<=c):Rd ((M.put b (.cells w xs c)).del s.b) (.slice (some ⟨b,0,none⟩) n c) xs:=by
 have hne:b≠s.b:=by rintro rfl;exact h.told hb
 refine(Rd.new (M:=M.del s.b) (b:=b) (c:=c) (w:=w) hn hc).sub ?_;intro j B hj;by_cases e:j=b
 .subst e;rw[ae]at hj;simp only[Mem.del,if_neg hne];rw[ae];exact hj
 .rw[al _ _ e]at hj;by_cases q:j=s.b
  .simp[Mem.del,q]at hj
  .simp only[Mem.del,if_neg q]at hj ⊢;rw[al _ _ e];exact hj
theorem aV(s:Rng)(n:Int)(M:Mem)(R:VP)(hs:fo M s)(h:∀ x M',(n<1->x=0)->(1<=n->0<=x/\x<n)->DrR s M M'->R (.int .i64 x) M'):ar prog 41 [.pointer (some ⟨s.b,0,none⟩),.int .i64 n] M R:=by
 have hs0:=hs;obtain⟨b,v,xs⟩:=s;obtain⟨i,w,hM,hv,hl,hi⟩:=hs;simp only at hM hv hl hi;obtain⟨a,c,rfl,ha⟩:=hv.opened;rw[aO]at ha hv hM;refine fnS func41 rfl ntmps41 results41 ?_;by_cases hn:n<1
 .simp(disch:=omega)[hn];exact ad (h 0 M (fun _=>rfl) (fun hq=>by omega) (DrR.refl hs0))
 .simp(disch:=omega)[hn,hM,ak hM,aj];obtain⟨r,hr,er⟩:=Uy ((IntKind.u64.wrap (IntKind.u64.wrap (w*6364136223846793005)+1442695040888963407)).fdiv (2 ^ min 33 IntKind.u64.bits)%2 ^ IntKind.u64.bits).toNat;rw[er];clear er;generalize IntKind.u64.wrap (IntKind.u64.wrap (w*6364136223846793005)+1442695040888963407)=w1;have hx:=aO xs;generalize hsl:Value.slice a (av xs).length c=sv at *;rw[hx]at hsl;have d1:DrR ⟨b,sv,xs⟩ M (M.put b (.cells true [sv,.int .i64 i,.int .u64 w1] 3)):=fo.store (s:=⟨b,sv,xs⟩) (by subst hsl;exact hv) hl hi w1;have hN:=ae M b (.cells true [sv,.int .i64 i,.int .u64 w1] 3);have hvN:Rd ((M.put b (.cells true [sv,.int .i64 i,.int .u64 w1] 3)).del b) sv (av xs):=by
   rw[Cv];subst hsl;exact hv
  subst hsl;generalize M.put b (.cells true [.slice a xs.length c,.int .i64 i,.int .u64 w1] 3)=N at *;refine plyS (ai [0,1,2,3,4,5,6,7,8,9] .fin) ?_;by_cases hil:i<xs.length
  .have hil':(i:Int)<xs.length:=by omega
   rcases ha with hz|⟨b2,o2,rfl,ha⟩
   .omega
   have hg:=ha i hil;unfold av at hg;rw[getElem?_map,gEl hil,Option.map_some]at hg;have hg2:=aT hg (d1.keep _ (tB _ _) (AX _ _));have hu:=xs[i].toNat_lt;generalize xs[i]=u at *;have d2:DrR ⟨b,.slice (some ⟨b2,o2,none⟩) xs.length c,xs⟩ N (N.put b (.cells true [.slice (some ⟨b2,o2,none⟩) xs.length c,.int .i64 (i+1:Nat),.int .u64 w1] 3)):=fo.store (s:=⟨b,.slice (some ⟨b2,o2,none⟩) xs.length c,xs⟩) hvN hl (show i+1<=xs.length by omega) w1;have d12:=d1.trans d2;have ex:=fun z hz=>@LF (r+z) n (by omega) (by omega);simp(disch:=omega)[ak hN,hil'];refine plyS (ai [0,1,2,3,4,5,6,7,8,9,10,11,12,13] .fin) ?_;have hn0:¬ n=0:=by omega
   simp(disch:=omega)[ak hN,hN,hil',hg2,aj,hn0];obtain⟨x1,x2⟩:=ex u.toNat (by omega);exact ad (h _ _ (fun hq=>absurd hq hn) (fun _=>⟨x1,x2⟩) d12)
  .have hil':¬(i:Int)<xs.length:=by omega
   have hn0:¬ n=0:=by omega
   obtain⟨x1,x2⟩:=@LF r n (by omega) (by omega);simp(disch:=omega)[ak hN,hil',hn0];exact ad (h _ _ (fun hq=>absurd hq hn) (fun _=>⟨x1,x2⟩) d1)
theorem uv(v:Value)(xs:B8)(M:Mem)(R:VP)(hv:Rd M v (av xs))(hl:xs.length<=4096)(h:∀ s M',M (Rng.b s)=none->Sub M M'->fo M' s->R (.pointer (some ⟨s.b,0,none⟩)) M'):ar prog 38 [v] M R:=by
 refine Du v xs M R hv hl ?_;intro b M' hb hs hsrc;obtain⟨v',xs',i,w,h1,h2,h3,h4⟩:=hsrc;exact h ⟨b,v',xs'⟩ M' hb hs ⟨i,w,h1,h2,h3,h4⟩
theorem cH(s:Rng)(v:Value)(zs:List Int)(M:Mem)(R:VP)(hs:fo M s)(hv:Rd (M.del s.b) v (ints zs))(h1:1<=zs.length)(hl:zs.length<=1000)(h:∀ z∈zs,∀ M',DrR s M M'->R (.int .i64 z) M'):ar prog 132 [.pointer (some ⟨s.b,0,none⟩),v] M R:=by
 obtain⟨a,c,rfl,ha⟩:=hv.opened;rw[az]at ha hv ⊢;rcases ha with hz|⟨b2,o2,rfl,ha⟩
 .omega
 refine fnT func132 rfl ntmps132 results132 ?_;refine aV s _ _ _ hs ?_;intro x M1 _ hx d;have hx:=hx (by omega);obtain⟨k,rfl⟩:∃ k:Nat,x=k:=⟨x.toNat,by omega⟩;have hk:k<zs.length:=by omega
 have hg:=ha k hk;rw[cR,gEl hk,Option.map_some]at hg;have hg:=aT hg (d.keep _ (tB _ _) (AX _ _));have hm:=gMe hk;generalize zs[k]=z at *;simp(disch:=omega)[hg];exact ad (h z hm _ d)
theorem Dx(n:Nat)(M:Mem)(R:VP)(h1:n<=100)(h:∀ M',Sub M M'->R (str [ltr n]) M'):ar prog 133 [.int .i64 n] M R:=by
 have e:(97+(n:Int)).toNat=97+n:=by omega
 have h:=fun M' hs=>h M' hs;unfold ltr at h;rw[<-e]at h;refine fnT func133 rfl ntmps133 results133 ?_;intro b hb;refine sS ?_;exact ad (h _ ((Sub.refl M).put hb _))
theorem ek(s:Rng)(n k:Int)(M:Mem)(R:VP)(hs:fo M s)(hn:n<=1000)(hk:k<=100)(h:∀ w M',(w:B8).length=n.toNat->(∀ u∈w,∃ i:Nat,u=ltr i/\(i:Int)<max k 1)->DrR s M M'->R (str w) M'):ar prog 75 [.pointer (some ⟨s.b,0,none⟩),.int .i64 n,.int .i64 k] M R:=by
 refine fnT func75 rfl ntmps75 results75 ?_;refine lupS (rlA [] 7 13) (fun x:B8=>[(8,.int .i64 (x.length:Nat)),(7,str x)]) (fun x M'=>x.length<=n.toNat/\(∀ u∈x,∃ i:Nat,u=ltr i/\(i:Int)<max k 1)/\DrR s M M') (fun x=>n.toNat-x.length) [] ⟨lZe _,(fun u hu=>by cases hu),DrR.refl hs⟩ ?_
 rintro w M1 g ⟨hw,hu,d⟩
 by_cases hlt:(w.length:Int)<n
 .simp(disch:=omega)[hlt];refine aV s k _ _ d.src ?_;intro x M2 hx0 hx1 d2;have hx:0<=x/\x<max k 1:=by
   by_cases hk1:k<1
   .rw[hx0 hk1];omega
   .have:=hx1 (by omega);omega
  obtain⟨i,rfl⟩:∃ i:Nat,x=i:=⟨x.toNat,by omega⟩;refine sS ?_;refine Dx i _ _ (by omega) ?_;intro M3 s3;have d3:=(d.trans d2).trans (DrR.sub d2.src s3);generalize hc:ltr i=c at *;refine sS ?_;refine Rnd.mk' (w++[c]) (by rw[lAp,lSi];omega) (by (repeat (first|exact km|refine kp rfl ?_|refine km' rfl ?_))) (by simp(disch:=omega)) ⟨by rw[lAp,lSi];omega,?_,d3⟩;intro u hu2;rcases mem_append.1 hu2 with h1|h1
  .exact hu u h1
  .rw[mem_singleton.1 h1];exact⟨i,hc.symm,hx.2⟩
 .simp(disch:=omega)[hlt];exact ad (h w _ (by omega) hu d)
theorem cX{Mb N:Mem}{v:Value}{xs:List Value}(o:Own Mb v xs N):∃ D:Mem,Rd D v xs/\Sub D N/\∀ i,Mb i≠none->D i=none:=by
 rcases o with ⟨rfl,rfl,rfl⟩|⟨b,c,rfl,hb,hc,rfl⟩
 .exact⟨ef,.inl ⟨none,0,rfl,rfl⟩,py _,fun _ _=>rfl⟩
 .refine⟨ef.put b (.cells true xs c),Rd.new rfl hc,?_,?_⟩
  .intro i B hi;by_cases e:i=b
   .subst e;rw[ae]at hi ⊢;exact hi
   .rw[al _ _ e]at hi;cases hi
  .intro i hi;have e:i≠b:=by rintro rfl;exact hi hb
   rw[al _ _ e];rfl
theorem DrR.keepT{s:Rng}{M N:Mem}(d:DrR s M N){i:Nat}(h:M i≠none):N i≠none:=by
 by_cases e:i=s.b
 .rw[e];exact d.src.told
 .cases hM:M i with
  | none=>exact absurd hM h
  | some B=>rw[d.at e hM];intro q;cases q
theorem DrR.put{s:Rng}{M N:Mem}{b2:Nat}(hs:fo M s)(d:DrR s M N)(hb:M b2=none)(B:Blk):DrR s M (N.put b2 B):=by
 have hne:b2≠s.b:=by rintro rfl;exact hs.told hb
 have hk:∀ D:Mem,D s.b=none->Sub D M->Sub D (N.put b2 B):=by
  intro D hD hDM i C hi;have e:i≠b2:=by
   rintro rfl
   have:=hDM _ _ hi;rw[hb]at this;cases this
  rw[al _ _ e];exact d.keep D hD hDM i C hi
 refine⟨hk,?_⟩;obtain⟨i,w,h1,h2,h3,h4⟩:=d.src;obtain⟨_,_,_,hv,_,_⟩:=hs;refine⟨i,w,by rw[al _ _ (Ne.symm hne)];exact h1,hv.sub ?_,h3,h4⟩;exact IC (hk _ (tB _ _) (AX _ _)) (tB _ _)
def nX:List B8:=[[97,98,44,97],[97,98,44,98,97],[97,98,44,97,97],[97,98,99,44,97,99,44,98],[97,98,44,97,99,44,97],[97,44,97,98],[97,98,99,97,98,44,97,99,97,98,99,98,44,97,99,98,99,97,99,98],[97,98,99,44,98,99,97,44,99,97,98],[97,98,44,99,44]]
theorem zq:nX.length=9:=nr rfl
theorem Nr:∀ l∈nX,l.length<=20:=by decide
theorem MH:[str [97,98,44,97],str [97,98,44,98,97],str [97,98,44,97,97],str [97,98,99,44,97,99,44,98],str [97,98,44,97,99,44,97],str [97,44,97,98],str [97,98,99,97,98,44,97,99,97,98,99,98,44,97,99,98,99,97,99,98],str [97,98,99,44,98,99,97,44,99,97,98],str [97,98,44,99,44]]=strs nX:=nr rfl
def HH(ws:List B8):Prop:=ws.length<=100/\∀ w∈ws,w.length<=100
theorem sh(s:Rng)(M:Mem)(R:VP)(hs:fo M s)(h:∀ v ws D M',(∀ i,M i≠none->D i=none)->Rd D v (strs ws)->Sub D M'->DrR s M M'->1<=ws.length->HH ws->R (.agg #[v]) M'):ar prog 78 [.pointer (some ⟨s.b,0,none⟩)] M R:=by
 refine fnT func78 rfl ntmps78 results78 ?_;intro b2 hb2;have hne:b2≠s.b:=by rintro rfl;exact hs.told hb2
 have d0:DrR s M (M.put b2 (.cells true [.slice none 0 0] 1)):=DrR.sub hs ((Sub.refl M).put hb2 _);have k2:=ae M b2 (.cells true [.slice none 0 0] 1);refine sS ?_;generalize M.put b2 (.cells true [.slice none 0 0] 1)=M0 at *;have fin:∀ v ws Mb N,DrR s M0 Mb->Own Mb v (strs ws) N->1<=ws.length->HH ws->R (.agg #[v]) (N.put b2 (.cells true [v] 1)):=by
  intro v ws Mb N d o h1 h2;obtain⟨D,r1,r2,r3⟩:=cX o;have hMb2:Mb b2≠none:=by rw[d.at hne k2];intro q;cases q
  refine h v ws D _ (fun i hi=>r3 i (d.keepT (d0.keepT hi))) r1 ?_ ?_ h1 h2
  .intro i B hi;have e:i≠b2:=by rintro rfl;rw[r3 _ hMb2]at hi;cases hi
   rw[al _ _ e];exact r2 _ _ hi
  .exact DrR.put hs ((d0.trans d).trans (DrR.sub d.src o.sub)) hb2 _
 refine aV s 5 _ _ d0.src ?_;intro x M1 _ hx d1;have hx:=hx (by omega);obtain⟨i,rfl⟩:∃ i:Nat,x=i:=⟨x.toNat,by omega⟩;by_cases h0:i=0
 .subst h0;simp(disch:=omega)[MH];intro bn hbn;simp(disch:=omega)[zq];have kn:=ae M1 bn (.cells true (strs nX) 9);have nb:bn≠s.b:=by rintro rfl;exact d1.src.told hbn
  have d2:DrR s M0 (M1.put bn (.cells true (strs nX) 9)):=d1.trans (DrR.sub d1.src ((Sub.refl _).put hbn _));generalize M1.put bn (.cells true (strs nX) 9)=M2 at *;refine aV s 9 _ _ d2.src ?_;intro y M3 _ hy d3;have hy:=hy (by omega);obtain⟨j,rfl⟩:∃ j:Nat,y=j:=⟨y.toNat,by omega⟩;have hj:j<nX.length:=by rw[zq];omega
  have gl:=ak (d3.at nb kn) j;rw[a7,gEl hj,Option.map_some]at gl;have hl20:=Nr _ (gMe hj);generalize nX[j]=l at *;simp(disch:=omega)[gl];refine ma l 44 _ _ (by omega) ?_;intro v M4 o4;have hsl:=Hz l 44;have k4:=o4.sub _ _ ((d2.trans d3).at hne k2);have hf:=fin v _ M3 M4 (d2.trans d3) o4 hsl.1 ⟨by omega,fun w hw=>by have:=hsl.2.2 w hw;omega⟩;obtain⟨a,c,rfl,_⟩:=o4.rd.opened;rw[ah]at hf ⊢;simp(disch:=omega)[k4,aj];exact ad hf
 .have h0':¬(i:Int)=0:=by omega
  by_cases h1:i=1
  .subst h1;refine sS ?_;intro bn hbn;refine sS ?_;have r5:=fE d1.src (w:=true) (xs:=ints [1,2,2,3,3]) (n:=5) (c:=5) hbn rfl (lRf 5);have d2:DrR s M0 (M1.put bn (.cells true (ints [1,2,2,3,3]) 5)):=d1.trans (DrR.sub d1.src ((Sub.refl _).put hbn _));refine cH s _ [1,2,2,3,3] _ _ d2.src r5 (by simp) (by simp) ?_;intro z hz M3 d3;have hz:1<=z/\z<=3:=by
    simp only[mem_cons,not_mem_nil,or_false]at hz;omega
   refine sS ?_;refine aV s 4 _ _ d3.src ?_;intro y M4 _ hy d4;have hy:=hy (by omega);have d04:=(d2.trans d3).trans d4;clear d2 d3 d4 r5;refine sS ?_;intro b6 hb6;refine sS ?_;refine lupS (rlA [6,7] 32 12) (fun x:List B8×Value=>[(7,.int .i64 (x.1.length:Nat)),(6,x.2)]) (fun x N=>x.1.length<=z.toNat/\HH x.1/\∃ Mb,DrR s M0 Mb/\Own Mb x.2 (strs x.1) N) (fun x=>z.toNat-x.1.length) ([],.slice (some ⟨b6,0,none⟩) 0 0) ⟨lZe _,⟨lZe _,fun w hw=>by cases hw⟩,M4,d04,Own.new hb6 rfl (lRf 0)⟩ ?_
   rintro⟨ws,v⟩ N g ⟨hw,hok,Mb,dM,ho⟩
   simp only at hw hok ho;have dN:=dM.trans (DrR.sub dM.src ho.sub);by_cases hlt:(ws.length:Int)<z
   .simp(disch:=omega)[hlt];refine ek s _ _ _ _ dN.src (by omega) (by omega) ?_;intro w N2 hwl _ dw;obtain⟨Mb2,M2',o2,s2,e2⟩:=AV ho dM.src (Sub.refl N) dw;refine sS ?_;intro b' hb';refine sS ?_;refine apT o2 (s2.trans ((Sub.refl _).put hb' _)) ?_;intro v' M'' N'' ho' hs';refine sS ?_;refine Rnd.mk'' M'' (ws++[w],v') hs' (by simp only[lAp,lSi];omega) (by (repeat (first|exact km|refine kp rfl ?_|refine km' rfl ?_))) (by simp(disch:=omega)) ⟨by simp only[lAp,lSi];omega,⟨by rw[lAp,lSi];omega,?_⟩,Mb2,dM.trans e2,?_⟩
    .intro u hu;rcases mem_append.1 hu with hu|hu
     .exact hok.2 u hu
     .rw[mem_singleton.1 hu];omega
    .simp only;rw[<-cA];exact ho'
   .have hL:1<=ws.length:=by omega
    have k6:=ho.sub _ _ (dM.at hne k2);have hf:=fin v ws Mb N dM ho hL hok;obtain⟨a,c,rfl,_⟩:=ho.rd.opened;rw[ah]at hf ⊢;simp(disch:=omega)[hlt,k6,aj];exact ad hf
  .have h1':¬(i:Int)=1:=by omega
   refine sS ?_;intro bn hbn;refine sS ?_;have r5:=fE d1.src (w:=true) (xs:=ints [1,2,2,3,3,4,5]) (n:=7) (c:=7) hbn rfl (lRf 7);have d2:DrR s M0 (M1.put bn (.cells true (ints [1,2,2,3,3,4,5]) 7)):=d1.trans (DrR.sub d1.src ((Sub.refl _).put hbn _));refine cH s _ [1,2,2,3,3,4,5] _ _ d2.src r5 (by simp) (by simp) ?_;intro z hz M3 d3;have hz:1<=z/\z<=5:=by
    simp only[mem_cons,not_mem_nil,or_false]at hz;omega
   have d04:=d2.trans d3;clear d2 d3 r5;refine sS ?_;intro b6 hb6;refine sS ?_;refine lupS (rlA [9,10] 50 16) (fun x:List B8×Value=>[(10,.int .i64 (x.1.length:Nat)),(9,x.2)]) (fun x N=>x.1.length<=z.toNat/\HH x.1/\(∀ w∈x.1,w.length<=20)/\∃ Mb,DrR s M0 Mb/\Own Mb x.2 (strs x.1) N) (fun x=>z.toNat-x.1.length) ([],.slice (some ⟨b6,0,none⟩) 0 0) ⟨lZe _,⟨lZe _,fun w hw=>by cases hw⟩,(fun w hw=>by cases hw),M3,d04,Own.new hb6 rfl (lRf 0)⟩ ?_
   rintro⟨ws,v⟩ N g ⟨hw,hok,h20,Mb,dM,ho⟩
   simp only at hw hok ho h20;have dN:=dM.trans (DrR.sub dM.src ho.sub);by_cases hlt:(ws.length:Int)<z
   .simp(disch:=omega)[hlt];intro b5 hb5;refine sS ?_;have r5:=fE dN.src (w:=true) (xs:=ints [4,6,13]) (n:=3) (c:=3) hb5 rfl (lRf 3);have dn2:DrR s N (N.put b5 (.cells true (ints [4,6,13]) 3)):=DrR.sub dN.src ((Sub.refl _).put hb5 _);refine cH s _ [4,6,13] _ _ dn2.src r5 (by simp) (by simp) ?_;intro q hq N3 dn3;have hq:4<=q/\q<=13:=by
     simp only[mem_cons,not_mem_nil,or_false]at hq;omega
    refine sS ?_;refine aV s q _ _ dn3.src ?_;intro y N4 _ hy dn4;have hy:=hy (by omega);refine sS ?_;refine ek s _ _ _ _ dn4.src (by omega) (by omega) ?_;intro w N5 hwl _ dw;have hwl:w.length<=13:=by omega
    obtain⟨Mb2,M2',o2,s2,e2⟩:=AV ho dM.src (Sub.refl N) (((dn2.trans dn3).trans dn4).trans dw);refine sS ?_;intro b' hb';refine sS ?_;refine apT o2 (s2.trans ((Sub.refl _).put hb' _)) ?_;intro v' M'' N'' ho' hs';refine sS ?_;refine Rnd.mk'' M'' (ws++[w],v') hs' (by simp only[lAp,lSi];omega) (by (repeat (first|exact km|refine kp rfl ?_|refine km' rfl ?_))) (by simp(disch:=omega)) ⟨by simp only[lAp,lSi];omega,⟨by rw[lAp,lSi];omega,?_⟩,?_,Mb2,dM.trans e2,?_⟩
    .intro u hu;rcases mem_append.1 hu with hu|hu
     .exact hok.2 u hu
     .rw[mem_singleton.1 hu];omega
    .intro u hu;rcases mem_append.1 hu with hu|hu
     .exact h20 u hu
     .rw[mem_singleton.1 hu];omega
    .simp only;rw[<-cA];exact ho'
   .have hL:1<=ws.length:=by omega
    simp(disch:=omega)[hlt];refine aV s 2 _ _ dN.src ?_;intro y N2 _ hy dy;have hy:=hy (by omega);obtain⟨Mb2,M2',o2,s2,e2⟩:=AV ho dM.src (Sub.refl N) dy;have dM2:=dM.trans e2;rcases o2 with ⟨_,he,_⟩|⟨bv,cv,rfl,hbv,hcv,rfl⟩
    .have:=congrArg length he;rw[ah,length_nil]at this;omega
    have hbv2:bv≠b2:=by rintro rfl;rw[dM2.at hne k2]at hbv;cases hbv
    have kv:N2 bv=some (.cells true (strs ws) cv):=s2 _ _ (ae _ _ _);have k6:N2 b2=some (.cells true [.slice none 0 0] 1):=s2 _ _ (by rw[al _ _ (Ne.symm hbv2)];exact dM2.at hne k2);rw[ah]at hcv ⊢;obtain⟨w0,rest,rfl⟩:∃ w0 rest,ws=w0::rest:=by
     cases ws with
     | nil=>simp at hL
     | cons a l=>exact⟨a,l,rfl⟩
    have h0:(strs (w0::rest))[0]?=some (str w0):=rfl;have hw20:=h20 w0 mem_cons_self;have h0':∀ hh,(strs (w0::rest))[0]'hh=str w0:=fun _=>rfl;have hfA:=fin _ (w0::rest) Mb2 _ dM2 (Own.new hbv (xs:=strs (w0::rest)) (n:=(w0::rest).length) (c:=cv) (by rw[ah]) hcv) hL hok;have hset:(strs (w0::rest)).set 0 (str (97::w0))=strs ((97::w0)::rest):=rfl;have s3:∀ X,Sub (Mb2.put bv X) (N2.put bv X):=by
     intro X i B hi;by_cases e:i=bv
     .subst e;rw[ae]at hi ⊢;exact hi
     .rw[al _ _ e]at hi ⊢;exact s2 _ _ (by rw[al _ _ e];exact hi)
    have k7:∀ X,(N2.put bv X) b2=some (.cells true [.slice none 0 0] 1):=fun X=>by rw[al _ _ (Ne.symm hbv2)];exact k6
    have hLl:0<(w0::rest).length:=by simp
    by_cases hy0:y=0
    .by_cases h12:(w0.length:Int)<12
     .have hfB:=fin _ ((97::w0)::rest) Mb2 _ dM2 (Own.new hbv (xs:=strs ((97::w0)::rest)) (n:=(w0::rest).length) (c:=cv) (by rw[ah];rfl) hcv) (by simp) ⟨by simpa using hok.1,fun u hu=>by
       rcases mem_cons.1 hu with rfl|hu
       .rw[lCo];omega
       .exact hok.2 u (mem_cons_of_mem _ hu)⟩
      generalize hLL:(w0::rest).length=L at *;simp(disch:=omega)[hy0,h12,ak kv,kv,h0,k6,aj,hset];exact ag ((s3 _).both _ _) hfB
     .generalize hLL:(w0::rest).length=L at *;simp(disch:=omega)[hy0,h12,ak kv,h0,k6,aj];exact ag (s2.both _ _) hfA
    .generalize hLL:(w0::rest).length=L at *;simp(disch:=omega)[hy0,k6,aj];exact ag (s2.both _ _) hfA
theorem FE(s:Rng)(v:Value)(ws:List B8)(D M:Mem)(F:Nat->Prop)(R:VP)(hs:fo M s)(hFM:∀ i,F i->M i≠none)(hFD:∀ i,F i->D i=none)(hD:D s.b=none)(hv:Rd D v (strs ws))(hDM:Sub D M)(h1:1<=ws.length)(hok:HH ws)
  (h:∀ v' ws' D' M',D' s.b=none->(∀ i,F i->D' i=none)->Rd D' v' (strs ws')->Sub D' M'->DrR s M M'->ws'.length<=200->(∀ w∈ws',w.length<=100)->R (.agg #[v']) M'):ar prog 136 [.pointer (some ⟨s.b,0,none⟩),.agg #[v]] M R:=by
 obtain⟨a,c,rfl,_⟩:=hv.opened;rw[ah]at hv ⊢;obtain⟨L,hL⟩:∃ L,L=ws.length:=⟨_,rfl⟩;rw[<-hL]at hv h1 ⊢;have hLe:L<=100:=by rw[hL];exact hok.1
 refine fnT func136 rfl ntmps136 results136 ?_;intro b3 hb3;refine sS ?_;intro b4 hb4;have hne3:b3≠s.b:=by rintro rfl;exact hs.told hb3
 have hs3:=(Sub.refl M).put hb3 (.cells true [.slice a L c] 1);have hs4:=hs3.putN hb4 (.cells true [.slice none 0 0] 1);have hne4:b4≠s.b:=by rintro rfl;exact(hs.sub hs3).told hb4
 have h43:b4≠b3:=by rintro rfl;rw[ae]at hb4;cases hb4
 have hb4M:M b4=none:=by rw[al _ _ h43]at hb4;exact hb4
 have d0:=DrR.sub hs hs4;have k3:((M.put b3 (.cells true [.slice a L c] 1)).put b4 (.cells true [.slice none 0 0] 1)) b3=some (.cells true [.slice a L c] 1):=by rw[al _ _ (Ne.symm h43)];exact ae _ _ _
 have k4:((M.put b3 (.cells true [.slice a L c] 1)).put b4 (.cells true [.slice none 0 0] 1)) b4=some (.cells true [.slice none 0 0] 1):=ae _ _ _;have hD0:=hDM.trans hs4;refine sS ?_;generalize (M.put b3 (.cells true [.slice a L c] 1)).put b4 (.cells true [.slice none 0 0] 1)=M0 at *;have fin:∀ v' ws' Mb N,DrR s M0 Mb->Own Mb v' (strs ws') N->ws'.length<=200->(∀ w∈ws',w.length<=100)->R (.agg #[v']) (N.put b4 (.cells true [v'] 1)):=by
  intro v' ws' Mb N d o h1 h2;obtain⟨D',r1,r2,r3⟩:=cX o;have hMb4:Mb b4≠none:=by rw[d.at hne4 k4];intro q;cases q
  refine h v' ws' D' _ (r3 _ d.src.told) (fun i hi=>r3 i (d.keepT (d0.keepT (hFM i hi)))) r1 ?_ ?_ h1 h2
  .intro i B hi;have e:i≠b4:=by rintro rfl;rw[r3 _ hMb4]at hi;cases hi
   rw[al _ _ e];exact r2 _ _ hi
  .exact DrR.put hs ((d0.trans d).trans (DrR.sub d.src o.sub)) hb4M _
 refine aV s 40 _ _ d0.src ?_;intro x M1 _ hx d1;have hx:=hx (by omega);obtain⟨i,rfl⟩:∃ i:Nat,x=i:=⟨x.toNat,by omega⟩;have q3:=d1.at hne3 k3;have q4:=d1.at hne4 k4;have hD1:=d1.keep D hD hD0;by_cases h0:i=0
 .subst h0;refine sS ?_;intro bn hbn;have o0:Own M1 (.slice (some ⟨bn,0,none⟩) 0 0) [] (M1.put bn (.cells true [] 0)):=Own.new hbn rfl (lRf 0);dsimp only;generalize M1.put bn (.cells true [] 0)=N0 at *;generalize Value.slice (some ⟨bn,0,none⟩) 0 0=v0 at *;have q3':=o0.sub _ _ q3;simp(disch:=omega)[ak q3'];refine ca o0 (Sub.refl _) (pr ((hv.sub hD1).sub o0.sub) (by rw[ah];omega)) rfl rfl (by omega) (cJ ws) (by simp(disch:=omega);omega) ?_;intro v1 A1 B1 o1 s1;refine sS ?_;intro bf hbf;refine sS ?_;refine apT o1 (s1.trans ((Sub.refl _).put hbf _)) ?_;intro v2 A2 B2 o2 s2;have e2:[]++strs ws++[str [102]]=strs (ws++[[102]]):=cA ws [102];rw[e2]at o2;have hf:=fin v2 _ M1 A2 d1 o2 (by rw[lAp,lSi];omega) (fun w hw=>by
   rcases mem_append.1 hw with hw|hw
   .exact hok.2 w hw
   .rw[mem_singleton.1 hw];decide)
  have z4:=s2 _ _ (o2.sub _ _ q4);obtain⟨a5,c5,rfl,_⟩:=o2.rd.opened;rw[ah]at hf ⊢;generalize (ws++[[102]]).length=L2 at *;simp(disch:=omega)[z4,aj];exact ag (s2.both _ _) hf
 .have h0':¬(i:Int)=0:=by omega
  by_cases h1i:i=1
  .subst h1i;refine sS ?_;intro bn hbn;have o0:Own M1 (.slice (some ⟨bn,0,none⟩) 0 0) (strs []) (M1.put bn (.cells true [] 0)):=Own.new hbn rfl (lRf 0);have hf:=fin _ [] M1 _ d1 o0 (by simp) (fun w hw=>by cases hw);have z4:=o0.sub _ _ q4;dsimp only;generalize M1.put bn (.cells true [] 0)=N0 at *;simp(disch:=omega)[z4,aj];exact ad hf
  .have h1':¬(i:Int)=1:=by omega
   by_cases h2i:i=2
   .subst h2i;obtain⟨bI,oI,rfl,hsb,hcL⟩:∃ bI oI,a=some ⟨bI,oI,none⟩/\D.sub? bI oI L=some (strs ws)/\L<=c:=by
     rcases hv with ⟨a',c',he,hz⟩|⟨b',o',c',he,hz,hle⟩
     .have:=congrArg length hz;rw[ah,length_nil]at this;omega
     .rw[ah,<-hL]at he hz hle;injection he with e1 e2 e3
      subst e1;subst e3;exact⟨b',o',rfl,hz,hle⟩
    refine sS ?_;refine plyS (ai [0,5] (.alt 6 1 (ai [7] (.one 1 2 (ai [2,3] (.one 4 1 (.one 8 2 (.one 9 1 (.one 10 2 .fin))))))) (.one 1 2 (ai [2,3] (.alt 6 1 (ai [7] (.one 4 1 (.one 8 2 (.one 9 1 (.one 10 2 .fin))))) (.one 4 1 (.one 6 1 (ai [7] (.one 8 2 (.one 9 1 (.one 10 2 .fin))))))))))) ?_;simp(disch:=omega)[cd,ak q3];refine⟨?_,?_⟩
    .skip
     refine aV s 3 _ _ d1.src ?_;intro y M2 _ hy d2;have hy:=hy (by omega);obtain⟨j,rfl⟩:∃ j:Nat,y=j:=⟨y.toNat,by omega⟩;have p3:=d2.at hne3 q3;have p4:=d2.at hne4 q4;have hD2:=d2.keep D hD hD1;have hj15:(12+(j:Int)).toNat<=15:=by omega
     refine sS ?_;intro bw hbw;have sw:=(Sub.refl M2).put hbw (.cells true [str (take (12+(j:Int)).toNat [97,98,97,98,97,98,97,98,97,98,97,98,97,98,97])] 1);refine⟨sw,?_⟩;dsimp only;have o0:Own M2 (.slice (some ⟨bw,0,none⟩) 1 1) (strs [take (12+(j:Int)).toNat [97,98,97,98,97,98,97,98,97,98,97,98,97,98,97]]) (M2.put bw (.cells true [str (take (12+(j:Int)).toNat [97,98,97,98,97,98,97,98,97,98,97,98,97,98,97])] 1)):=Own.new hbw rfl (lRf 1);have hwl:(take (12+(j:Int)).toNat ([97,98,97,98,97,98,97,98,97,98,97,98,97,98,97]:B8)).length<=100:=by rw[lTa];omega
     generalize take (12+(j:Int)).toNat ([97,98,97,98,97,98,97,98,97,98,97,98,97,98,97]:B8)=w at *;generalize M2.put bw (.cells true [str w] 1)=N0 at *;generalize Value.slice (some ⟨bw,0,none⟩) 1 1=v0 at *;have z3:=o0.sub _ _ p3;refine sS ?_;refine ca o0 (Sub.refl _) (AN hsb (hD2.trans o0.sub) h1 hcL) rfl rfl (by omega) (cJ (ws.drop 1)) (by simp(disch:=omega);omega) ?_;intro v2 A2 B2 o2 s2;have e2:strs [w]++strs (ws.drop 1)=strs (w::ws.drop 1):=kR [w] (ws.drop 1);rw[e2]at o2;have hf:=fin v2 _ M2 A2 (d1.trans d2) o2 (by rw[lCo,lDr];omega) (fun u hu=>by
      rcases mem_cons.1 hu with rfl|hu
      .exact hwl
      .exact hok.2 u (mem_of_mem_drop hu))
     have z4:=s2 _ _ (o2.sub _ _ p4);obtain⟨a5,c5,rfl,_⟩:=o2.rd.opened;rw[ah]at hf ⊢;generalize (w::ws.drop 1).length=L2 at *;simp(disch:=omega)[z4,aj];exact ag (s2.both _ _) hf
    .skip
     refine aV s 3 _ _ d1.src ?_;intro y M2 _ hy d2;have hy:=hy (by omega);obtain⟨j,rfl⟩:∃ j:Nat,y=j:=⟨y.toNat,by omega⟩;have p3:=d2.at hne3 q3;have p4:=d2.at hne4 q4;have hD2:=d2.keep D hD hD1;have hj15:(12+(j:Int)).toNat<=15:=by omega
     simp(disch:=omega)[cd,ak p3];refine⟨?_,?_⟩
     .skip
      intro bw hbw;have sw:=(Sub.refl M2).put hbw (.cells true [str (take (12+(j:Int)).toNat [97,98,97,98,97,98,97,98,97,98,97,98,97,98,97])] 1);refine⟨sw,?_⟩;dsimp only;have o0:Own M2 (.slice (some ⟨bw,0,none⟩) 1 1) (strs [take (12+(j:Int)).toNat [97,98,97,98,97,98,97,98,97,98,97,98,97,98,97]]) (M2.put bw (.cells true [str (take (12+(j:Int)).toNat [97,98,97,98,97,98,97,98,97,98,97,98,97,98,97])] 1)):=Own.new hbw rfl (lRf 1);have hwl:(take (12+(j:Int)).toNat ([97,98,97,98,97,98,97,98,97,98,97,98,97,98,97]:B8)).length<=100:=by rw[lTa];omega
      generalize take (12+(j:Int)).toNat ([97,98,97,98,97,98,97,98,97,98,97,98,97,98,97]:B8)=w at *;generalize M2.put bw (.cells true [str w] 1)=N0 at *;generalize Value.slice (some ⟨bw,0,none⟩) 1 1=v0 at *;have z3:=o0.sub _ _ p3;refine sS ?_;refine ca o0 (Sub.refl _) (AN hsb (hD2.trans o0.sub) h1 hcL) rfl rfl (by omega) (cJ (ws.drop 1)) (by simp(disch:=omega);omega) ?_;intro v2 A2 B2 o2 s2;have e2:strs [w]++strs (ws.drop 1)=strs (w::ws.drop 1):=kR [w] (ws.drop 1);rw[e2]at o2;have hf:=fin v2 _ M2 A2 (d1.trans d2) o2 (by rw[lCo,lDr];omega) (fun u hu=>by
       rcases mem_cons.1 hu with rfl|hu
       .exact hwl
       .exact hok.2 u (mem_of_mem_drop hu))
      have z4:=s2 _ _ (o2.sub _ _ p4);obtain⟨a5,c5,rfl,_⟩:=o2.rd.opened;rw[ah]at hf ⊢;generalize (w::ws.drop 1).length=L2 at *;simp(disch:=omega)[z4,aj];exact ag (s2.both _ _) hf
     .skip
      intro bw hbw;have sw:=(Sub.refl M2).put hbw (.cells true [str (take (12+(j:Int)).toNat [97,98,97,98,97,98,97,98,97,98,97,98,97,98,97])] 1);refine⟨sw,?_⟩;dsimp only;have o0:Own M2 (.slice (some ⟨bw,0,none⟩) 1 1) (strs [take (12+(j:Int)).toNat [97,98,97,98,97,98,97,98,97,98,97,98,97,98,97]]) (M2.put bw (.cells true [str (take (12+(j:Int)).toNat [97,98,97,98,97,98,97,98,97,98,97,98,97,98,97])] 1)):=Own.new hbw rfl (lRf 1);have hwl:(take (12+(j:Int)).toNat ([97,98,97,98,97,98,97,98,97,98,97,98,97,98,97]:B8)).length<=100:=by rw[lTa];omega
      generalize take (12+(j:Int)).toNat ([97,98,97,98,97,98,97,98,97,98,97,98,97,98,97]:B8)=w at *;generalize M2.put bw (.cells true [str w] 1)=N0 at *;generalize Value.slice (some ⟨bw,0,none⟩) 1 1=v0 at *;have z3:=o0.sub _ _ p3;simp(disch:=omega)[ak z3];refine ca o0 (Sub.refl _) (AN hsb (hD2.trans o0.sub) h1 hcL) rfl rfl (by omega) (cJ (ws.drop 1)) (by simp(disch:=omega);omega) ?_;intro v2 A2 B2 o2 s2;have e2:strs [w]++strs (ws.drop 1)=strs (w::ws.drop 1):=kR [w] (ws.drop 1);rw[e2]at o2;have hf:=fin v2 _ M2 A2 (d1.trans d2) o2 (by rw[lCo,lDr];omega) (fun u hu=>by
       rcases mem_cons.1 hu with rfl|hu
       .exact hwl
       .exact hok.2 u (mem_of_mem_drop hu))
      have z4:=s2 _ _ (o2.sub _ _ p4);obtain⟨a5,c5,rfl,_⟩:=o2.rd.opened;rw[ah]at hf ⊢;generalize (w::ws.drop 1).length=L2 at *;simp(disch:=omega)[z4,aj];exact ag (s2.both _ _) hf
   .have h2':¬(i:Int)=2:=by omega
    have hD4:Sub D (M1.put b4 (.cells true [.slice a L c] 1)):=by
     intro j B hj;have e:j≠b4:=by rintro rfl;rw[ba hDM hb4M]at hj;cases hj
     rw[al _ _ e];exact hD1 _ _ hj
    have hf:=h (.slice a L c) ws D _ hD hFD (by rw[hL];rw[hL]at hv;exact hv) hD4 (DrR.put hs (d0.trans d1) hb4M _) (by omega) hok.2;simp(disch:=omega)[q4,aj,aq q3];exact ad hf
theorem IT(s:Rng)(M:Mem)(R:VP)(hs:fo M s)(h:∀ v ws D M',(∀ i,M i≠none->D i=none)->Rd D v (strs ws)->Sub D M'->DrR s M M'->ws.length<=200->(∀ w∈ws,w.length<=100)->R (.agg #[v]) M'):ar prog 81 [.pointer (some ⟨s.b,0,none⟩)] M R:=by
 refine fnT func81 rfl ntmps81 results81 ?_;intro b2 hb2;have hne:b2≠s.b:=by rintro rfl;exact hs.told hb2
 have d0:DrR s M (M.put b2 (.cells true [.slice none 0 0] 1)):=DrR.sub hs ((Sub.refl M).put hb2 _);have k2:=ae M b2 (.cells true [.slice none 0 0] 1);refine sS ?_;generalize M.put b2 (.cells true [.slice none 0 0] 1)=M0 at *;refine sh s _ _ d0.src ?_;intro v ws D M1 hD hv hD1 d1 h1 hok;have hDs:D s.b=none:=hD _ d0.src.told;refine sS ?_;refine FE s v ws D _ (fun i=>M0 i≠none) _ d1.src (fun i hi=>d1.keepT hi) hD hDs hv hD1 h1 hok ?_;intro v' ws' D' M2 hD' hF hv' hD2 d2 h200 h100;have k2':=(d1.trans d2).at hne k2;have hb2D:Sub D' (M2.put b2 (.cells true [v'] 1)):=by
  intro j B hj;have e:j≠b2:=by
   rintro rfl
   rw[hF j (by rw[k2];intro q;cases q)]at hj;cases hj
  rw[al _ _ e];exact hD2 _ _ hj
 have hf:=h v' ws' D' _ (fun i hi=>hF i (d0.keepT hi)) hv' hb2D (DrR.put hs ((d0.trans d1).trans d2) hb2 _) h200 h100;obtain⟨a,c,rfl,_⟩:=hv'.opened;rw[ah]at hf ⊢;simp(disch:=omega)[k2',aj];exact ad hf
end Go.Proofs.YtapimhjbilkfpaaGreatDoor
