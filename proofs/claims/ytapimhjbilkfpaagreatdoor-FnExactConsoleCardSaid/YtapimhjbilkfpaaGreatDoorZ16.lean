/- Lemmas for FnExactDeskAfter, part 17 of 33. -/
import Derived.Test.YtapimhjbilkfpaaGreatDoorZ13
import Derived.Test.YtapimhjbilkfpaaGreatDoorZ09
set_option linter.unusedVariables false
set_option linter.unusedSimpArgs false
namespace Go.Proofs.YtapimhjbilkfpaaGreatDoor
open Go Go.Proofs.Tryz List
def wE(w:B8)(i m:Int):Bool:=decide (0<=i/\i<=w.length)&&decide (0<=m/\m<=(w.length:Int)-i)
def A2(w:B8)(i m:Int):Int:=if isWord w then (if wE w i m then 0 else 2) else 1
def Bp(w:B8)(i m:Int):B8:=if isWord w then (if wE w i m then seg w i.toNat m.toNat else []) else []
theorem zl(b:Nat)(v:Value):ng (fun M':Mem=>M'.get? b 0=some v):=by
 intro N b' B hG hb;have:b≠b':=by rintro rfl;unfold Mem.get? at hG;rw[hb]at hG;cases hG
 unfold Mem.get? at *;rw[ai _ _ this];exact hG
theorem FE{F G:Mem->Prop}(hF:ng F)(hG:ng G):ng (fun M'=>F M'/\G M'):=fun N b B h hb=>⟨hF N b B h.1 hb,hG N b B h.2 hb⟩
theorem A4(w:B8)(i m:Int)(M:Mem)(R:VP)(hl:w.length<=1099511627776)(hi : -9223372036854775808<=i/\i<=9223372036854775807)(hm : -9223372036854775808<=m/\m<=9223372036854775807)(h:∀ M',Sub M M'->R (aE (str (Bp w i m)) (A2 w i m)) M'):ar prog 164 [str w,.int .i64 i,.int .i64 m] M R:=by
 unfold aE Bp A2 at h;refine fnS func164 rfl ntmps164 results164 ?_;simp(disch:=omega);intro b3 hb3;simp(disch:=omega);intro b4 hb4;simp(disch:=omega);intro b5 hb5;simp(disch:=omega);have s3:=(Sub.refl M).put hb3 (.cells true [str w] 1);have s4:=(Sub.refl _).put hb4 (.cells true [.int .i64 i] 1);have s5:=(Sub.refl _).put hb5 (.cells true [.int .i64 m] 1);have k3:=s5 _ _ (s4 _ _ (ag M b3 (.cells true [str w] 1)));have k4:=s5 _ _ (ag (M.put b3 (.cells true [str w] 1)) b4 (.cells true [.int .i64 i] 1));have k5:=ag ((M.put b3 (.cells true [str w] 1)).put b4 (.cells true [.int .i64 i] 1)) b5 (.cells true [.int .i64 m] 1);have hs:=(s3.trans s4).trans s5;generalize ((M.put b3 (.cells true [str w] 1)).put b4 (.cells true [.int .i64 i] 1)).put b5 (.cells true [.int .i64 m] 1)=N at *
 try simp(disch:=omega)[al k3]
 intro b6 hb6;simp(disch:=omega);have s6:=(Sub.refl N).put hb6 (.cells true [str w] 1);have g3:=al (s6 _ _ k3) 0;have g4:=al (s6 _ _ k4) 0;have g5:=al (s6 _ _ k5) 0;refine bt _ _ [w] (wE w i m) (fun M':Mem=>(M'.get? b3 0=some (str w)/\M'.get? b4 0=some (.int .i64 i))/\M'.get? b5 0=some (.int .i64 m)) _ _ (Rd.new rfl (lRf 1)) (gg hl) (by simp) ⟨⟨g3,g4⟩,g5⟩ (FE (FE (zl _ _) (zl _ _)) (zl _ _)) ?_ ?_
 ·intro K R' hG hR';obtain⟨⟨h3,h4⟩,h5⟩:=hG;simp(disch:=omega);refine fnS func250 rfl ntmps250 results250 ?_;simp(disch:=omega);refine drwS ?_;simp(disch:=omega)[h3,h4];refine aU (a:=[]) (c:=[]) (bY w _ _ hl ⟨rfl,rfl⟩) ?_;simp(disch:=omega);refine aU (a:=[]) (c:=[]) (bF _ _ _ _ _ ⟨rfl,rfl⟩) ?_;by_cases h1:0<=i/\i<=(w.length:Int)
  ·rw[decide_eq_true h1];simp(disch:=omega)[h3,h5];refine aU (a:=[]) (c:=[]) (bY w _ _ hl ⟨rfl,rfl⟩) ?_;simp(disch:=omega)[h4];refine aU (a:=[]) (c:=[]) (bF _ _ _ _ _ ⟨rfl,rfl⟩) ?_;simp(disch:=omega);refine ad ?_;unfold wE at hR';rw[decide_eq_true h1,Bool.true_and]at hR';simpa using hR'
  ·rw[decide_eq_false h1];simp(disch:=omega);refine ad ?_;unfold wE at hR';rw[decide_eq_false h1,Bool.false_and]at hR';simpa using hR'
 ·rw[db];have hs6:=hs.trans s6;cases hw:isWord w
  ·rw[hw]at h;simp(disch:=omega);exact ad (h _ hs6)
  ·rw[hw]at h;cases hf:wE w i m
   ·rw[hf]at h;simp(disch:=omega);exact ad (h _ hs6)
   ·rw[hf]at h;have h60:=au hw;unfold wE at hf;rw[Bool.and_eq_true,decide_eq_true_eq,decide_eq_true_eq]at hf;obtain⟨i,rfl⟩:∃ j:Nat,i=j:=⟨i.toNat,by omega⟩;obtain⟨m,rfl⟩:∃ j:Nat,m=j:=⟨m.toNat,by omega⟩;have hsg:=ga (w:=w) (a:=i) (m:=m);rw[if_pos rfl,if_pos rfl,if_pos rfl,if_pos rfl,Int.toNat_natCast,Int.toNat_natCast]at h;have l3:=s6 _ _ k3;have l4:=s6 _ _ k4;have l5:=s6 _ _ k5;generalize N.put b6 (.cells true [str w] 1)=N6 at *;simp(disch:=omega)[al l3,al l4,al l5];rw[hsg];exact ad (h _ hs6)
end Go.Proofs.YtapimhjbilkfpaaGreatDoor
namespace Go.Proofs.YtapimhjbilkfpaaGreatDoor
open Go.Proofs.Tryz List
def yT(u p:B8):Bool:=(cH u p V0 0).any fun _=>true
theorem rE{u p:B8}(hp:∀ c∈p,aF c<3):yT u p=true↔∃ V,qS p V0 V/\fP p V <+: u:=by
 unfold yT;rw[any_eq_true];constructor
 ·rintro⟨⟨V,t⟩,hm,_⟩
  obtain⟨h1,_,h3⟩:=(nu hp).1 hm;exact⟨V,h1,h3⟩
 ·rintro⟨V,h1,h2⟩
  exact⟨(V,(fP p V).length),(nu hp).2 ⟨h1,rfl,h2⟩,rfl⟩
def mw(w p:B8)(n:Nat):Bool:=(range n).any fun i=>yT (w.drop i) p
def hasB(w p:B8):Bool:=mw w p w.length
theorem zb(w p:B8)(n:Nat):mw w p (n+1)=(mw w p n||yT (w.drop n) p):=by simp[mw,range_succ]
theorem uC{w p:B8}{n m:Nat}(h:n<m)(hh:yT (w.drop n) p=true):mw w p m=true:=by
 unfold mw;rw[any_eq_true];exact⟨n,List.mem_range.2 h,hh⟩
theorem yl{p:B8}{V:bC}(h:qS p V0 V)(hp:p≠[]):1<=(fP p V).length:=by
 cases p with
 | nil=>exact absurd rfl hp
 | cons c p=>
  have:=(h.new (aF c) (ue _)).2 ((cY _ _ _).2 (.inl rfl));rw[cL,lAp];cases hq:V.getD (aF c) [] with
  | nil=>exact absurd hq this
  | cons x l=>simp;omega
theorem QB{w p:B8}(hp:∀ c∈p,aF c<3)(hp1:p≠[]):hasB w p=true↔∃ i V,qS p V0 V/\fP p V <+: w.drop i:=by
 unfold hasB mw;rw[any_eq_true];constructor
 ·rintro⟨i,_,h⟩
  obtain⟨V,h1,h2⟩:=(rE hp).1 h;exact⟨i,V,h1,h2⟩
 ·rintro⟨i,V,h1,h2⟩
  have:=yl h1 hp1;have hl:=h2.length_le;rw[length_drop]at hl;exact⟨i,List.mem_range.2 (by omega),(rE hp).2 ⟨V,h1,h2⟩⟩
def tQ(w p:B8)(n:Nat):Bool:=(range n).any fun m=>fh (w.take (p.length+m)) p
def HB(w p:B8):Bool:=tQ w p (w.length+1-p.length)
theorem Ja(w p:B8)(n:Nat):tQ w p (n+1)=(tQ w p n||fh (w.take (p.length+n)) p):=by simp[tQ,range_succ]
theorem NK{w p:B8}{n m:Nat}(h:n<m)(hh:fh (w.take (p.length+n)) p=true):tQ w p m=true:=by
 unfold tQ;rw[any_eq_true];exact⟨n,List.mem_range.2 h,hh⟩
theorem Ax{w p:B8}(hp:∀ c∈p,aF c<3)(hp1:p≠[]):HB w p=hasB w p:=by
 rw[Bool.eq_iff_iff,QB hp hp1];unfold HB tQ fh;rw[any_eq_true];constructor
 ·rintro⟨m,hm,h⟩
  obtain⟨i,hi,h⟩:=List.any_eq_true.1 h;obtain⟨V,hf⟩:=(uS hp).1 h;refine⟨i,V,hf.goes,?_⟩;rw[hf.word,drop_take];exact List.take_prefix _ _
 ·rintro⟨i,V,h1,h2⟩
  have hpos:=yl h1 hp1;have hl:=h2.length_le;rw[length_drop]at hl;have hfit:Fit p ((w.take (i+(fP p V).length)).drop i) V:=by
   refine⟨h1,?_⟩;rw[drop_take,show i+(fP p V).length-i=(fP p V).length by omega];exact(take_prefix h2).symm
  have hfb:=(uS hp).2 ⟨V,hfit⟩;have hlen:=jL _ _ _ hfb;rw[length_drop,lTa]at hlen;refine⟨i+(fP p V).length-p.length,List.mem_range.2 (by omega),?_⟩;rw[show p.length+(i+(fP p V).length-p.length)=i+(fP p V).length by omega,any_eq_true];exact⟨i,List.mem_range.2 (by rw[lTa];omega),hfb⟩
end Go.Proofs.YtapimhjbilkfpaaGreatDoor
namespace Go.Proofs.YtapimhjbilkfpaaGreatDoor
open Go Go.Proofs.Tryz List
theorem GM(w p:B8)(M:Mem)(R:VP)(hl:w.length<=60)(hp:a7 p=true)(h:R (.bool (yT w p)) M):ar prog 426 [str w,str p] M R:=by
 obtain⟨hp1,hp8,hpv⟩:=bJ hp;refine fnS func426 rfl ntmps426 results426 ?_;simp(disch:=omega);refine mc w hl (fun _=>true) _ rfl (fun _=>True) bV ?_ p V0 0 _ _ hpv hp8 ux (by omega) trivial ?_
 ·intro V t K R' hV _ hR;have h3:=cZ hV.1;have h3':=hV.1;simp(disch:=omega);refine fnS func441 rfl ntmps441 results441 ?_;simp(disch:=omega);intro b3 hb3;simp(disch:=omega);exact ae ((Sub.refl K).put hb3 _) hR
 ·have e:(cH w p V0 0).any (fun _=>true)=yT w p:=rfl;rw[e];simp(disch:=omega);exact ad h
theorem B4(w p:B8)(M:Mem)(R:VP)(hl:w.length<=60)(hp:a7 p=true)(h:R (.bool (hasB w p)) M):ar prog 399 [str w,str p] M R:=by
 refine fnS func399 rfl ntmps399 results399 ?_;simp(disch:=omega);refine lupS (rlA [4,5] 8 9) (fun i:Nat=>[(8,.int .i64 i)]) (fun i M'=>M'=M/\i<=w.length/\mw w p i=false) (fun i=>w.length-i) 0 ⟨rfl,by omega,rfl⟩ ?_
 rintro i M' g ⟨rfl,hi,hno⟩
 by_cases hlt:i<w.length
 ·have hs:=zb w p i;simp(disch:=omega);refine GM _ _ _ _ (by rw[length_drop];omega) hp ?_;cases hf:yT (w.drop i) p
  ·rw[hno,hf]at hs;simp(disch:=omega);exact rndS (i+1) ⟨rfl,by omega,hs⟩
  ·have e:hasB w p=true:=uC hlt hf;rw[e]at h;simp(disch:=omega);exact ad h
 ·have hi':i=w.length:=by omega
  subst hi';have e:hasB w p=false:=hno;rw[e]at h;simp(disch:=omega);exact ad h
def Ge(w p:B8):Int:=if isWord w&&a7 p then 0 else 1
theorem wT(w p:B8)(M:Mem)(R:VP)(hw:w.length<=1099511627776)(hp:p.length<=1099511627776)(h:R (aE (.bool ((isWord w&&a7 p)&&hasB w p)) (Ge w p)) M):ar prog 349 [str w,str p] M R:=by
 unfold Ge aE at h;refine fnS func349 rfl ntmps349 results349 ?_;simp(disch:=omega);refine kY w p _ _ hw hp ?_;cases hb:isWord w&&a7 p
 ·rw[hb]at h;simp(disch:=omega);exact ad h
 ·rw[hb]at h;rw[Bool.and_eq_true]at hb;have h60:=au hb.1;rw[if_pos rfl,Bool.true_and]at h;simp(disch:=omega);refine B4 w p _ _ h60 hb.2 ?_;simp(disch:=omega);exact ad h
theorem Oo{w:B8}{ls:List Nat}{p:B8}{V:bC}{t i:Nat}(hi:i<p.length):gvF w ls (p.take (i+1)) V t=gvS w ls (gvF w ls (p.take i) V t) p[i]:=by
 unfold gvF;rw[aw p hi,foldl_append];rfl
theorem Fj{w:B8}{ls:List Nat}{p:B8}{V:bC}{t i:Nat}(h:gvF w ls (p.take i) V t=none):gvF w ls p V t=none:=by
 have e:gvF w ls p V t=(p.drop i).foldl (gvS w ls) (gvF w ls (p.take i) V t):=by
  unfold gvF;rw[<-foldl_append,take_append_drop]
 rw[e,h,xW]
theorem Ni{V:bC}{j:Nat}(hj:j<V.length):jS (V.take (j+1))=jS (V.take j)++if V[j].isEmpty then [] else [V[j]]:=by
 unfold jS;rw[aw V hj,filter_append];cases h:V[j].isEmpty<;>simp[h]
theorem getD_at{V:bC}{j:Nat}(hj:j<V.length):V.getD j []=V[j]:=by
 rw[gDe,gEl hj];rfl
theorem HK{ls:List Nat}{k:Nat}(hk:k<ls.length):(aD ls)[k]?=some (.int .i64 (ls.getD k 0:Nat)):=by
 rw[bU,gEl hk,gDe,gEl hk];rfl
def Low(ls:List Nat):Prop:=∀ k,ls.getD k 0<=60
theorem rF(w p:B8)(M:Mem)(R:VP)(hw:w.length<=1099511627776)(hp:p.length<=1099511627776)(h:R (.int .i64 (if isWord w&&a7 p then 0 else 1)) M):ar prog 277 [str w,str p] M R:=by
 refine fnS func277 rfl ntmps277 results277 ?_;simp(disch:=omega);refine bg w _ _ hw ?_;cases h1:isWord w
 ·rw[h1]at h;simp(disch:=omega);exact ad h
 ·rw[h1]at h;simp(disch:=omega);refine gp p _ _ hp ?_;cases h2:a7 p
  ·rw[h2]at h;simp(disch:=omega);exact ad h
  ·rw[h2]at h;simp(disch:=omega);exact ad h
theorem AP(w p:B8)(v:Value)(ls:List Nat)(M:Mem)(R:VP)(hl:w.length<=60)(hpv:p.all isV=true)(hp8:p.length<=8)(hv:Rd M v (aD ls))(h3:ls.length=3)(hlow:Low ls)
  (h1:∀ V t,gvF w ls p V0 0=some (V,t)->∀ v' M',Own M v' (strs (jS V)) M'->R (.tuple #[v',.bool (decide (t=w.length))]) M') (h0:gvF w ls p V0 0=none->∀ M',Sub M M'->R (.tuple #[.slice none 0 0,.bool false]) M') :
  ar prog 360 [str w,str p,v] M R:=by
 obtain⟨a,c,rfl,ha⟩:=hv.opened;rw[aB,h3]at ha ⊢;rcases ha with hz|⟨b,o,rfl,ha⟩
 ·omega
 refine fnS func360 rfl ntmps360 results360 ?_;simp(disch:=omega);intro b8 hb8;simp(disch:=omega);have hne:∀ k,k<3->∀ X,(M.put b8 X).get? b (o+k)=some (.int .i64 (ls.getD k 0:Nat)):=by
  intro k hk X;have hg:=ha k hk;rw[HK (by omega)]at hg;exact aX hg ((Sub.refl M).put hb8 X)
 refine lupS (rlA [6,7,9,10,11,12] 16 51) (fun x:Nat×bC×Nat=>[(10,.int .i64 x.1),(9,.int .i64 x.2.2)]) (fun x M'=>x.1<=p.length/\M'=M.put b8 (.cells true (strs x.2.1) 3)/\eE x.2.1/\x.2.2<=w.length/\gvF w ls (p.take x.1) V0 0=some x.2) (fun x=>p.length-x.1) (0,V0,0) ⟨by simp,rfl,ux,by simp,rfl⟩ ?_
 rintro⟨i,V,t⟩ M' g ⟨hi,rfl,hV,ht,hgv⟩
 simp only at hi hV ht hgv;by_cases hlt:i<p.length
 ·have hx:p[i]?=some p[i]:=gEl hlt;have hc:=di (List.all_eq_true.1 hpv _ (getElem_mem hlt));have hsn:=Oo (w:=w) (ls:=ls) (V:=V0) (t:=0) hlt;rw[hgv,H6]at hsn;generalize p[i]=c at *;have hk:((c.toNat:Int)-65).toNat=aF c:=by unfold aF;omega
  have hk3:aF c<3:=by unfold aF;omega
  have hgl:=hne (aF c) hk3;have hlo:=hlow (aF c);have hgv3:=px hV.1 hk3;have hsm:=la hV (aF c);have hkb:=hV.1;have k8:(M.put b8 (.cells true (strs V) 3)) b8=some (.cells true (strs V) 3):=ag _ _ _;generalize aF c=k at *;generalize ls.getD k 0=l at *;obtain⟨own,hown⟩:∃ own,own=V.getD k []:=⟨_,rfl⟩;rw[<-hown]at hgv3 hsm hsn;by_cases hle:t+l<=w.length
  ·have hle':¬(w.length:Int)<(t:Int)+l:=by omega
   have hseg:drop t (take ((t:Int)+l).toNat w)=(w.drop t).take l:=by
    rw[show ((t:Int)+l).toNat=t+l by omega,drop_take,show t+l-t=l by omega]
   have hul:((w.drop t).take l).length<=60:=by rw[lTa,length_drop];omega
   have hV':eE (V.set k ((w.drop t).take l)):=oY hV hul;generalize (w.drop t).take l=u at *;by_cases h00:own=[]
   ·rw[if_pos ⟨hle,.inl h00⟩]at hsn;have he:own.isEmpty=true:=by rw[h00];rfl
    simp(disch:=omega)[so hx,hk,hgl _,hle',hseg,al k8,hgv3,he];refine rndS (i+1,V.set k u,t+l) ⟨by simp only;omega,?_,hV',by simp only;omega,hsn⟩;simp only[ix]
   ·have he:own.isEmpty=false:=by cases own with
     | nil=>exact absurd rfl h00
     | cons a l=>rfl
    by_cases hou:own=u
    ·rw[if_pos ⟨hle,.inr hou⟩]at hsn;have hbe:(own==u)=true:=by rw[hou];exact beq_self_eq_true _
     simp(disch:=omega)[so hx,hk,hgl _,hle',hseg,al k8,hgv3,he,hbe];refine rndS (i+1,V.set k u,t+l) ⟨by simp only;omega,?_,hV',by simp only;omega,hsn⟩;simp only[ix]
    ·rw[if_neg (by rintro⟨_,hh|hh⟩;exact h00 hh;exact hou hh)]at hsn;have hbe:(own==u)=false:=bNe.2 hou;simp(disch:=omega)[so hx,hk,hgl _,hle',hseg,al k8,hgv3,he,hbe];exact ae ((Sub.refl M).put hb8 _) (h0 (Fj hsn) _ (Sub.refl _))
  ·have hle':(w.length:Int)<(t:Int)+l:=by omega
   rw[if_neg (by rintro⟨hh,_⟩;exact hle hh)]at hsn;simp(disch:=omega)[so hx,hk,hgl _,hle'];exact ae ((Sub.refl M).put hb8 _) (h0 (Fj hsn) _ (Sub.refl _))
 ·have hi':i=p.length:=by omega
  subst hi';rw[take_length]at hgv;have k8:(M.put b8 (.cells true (strs V) 3)) b8=some (.cells true (strs V) 3):=ag _ _ _;have hs8:Sub M (M.put b8 (.cells true (strs V) 3)):=(Sub.refl M).put hb8 _;simp(disch:=omega);generalize M.put b8 (.cells true (strs V) 3)=N at *;intro bo hbo;simp(disch:=omega);refine lupS (rlA [13,14] 68 16) (fun x:Nat×Value=>[(14,.int .i64 x.1),(13,x.2)]) (fun x M'=>x.1<=3/\Own N x.2 (strs (jS (V.take x.1))) M') (fun x=>3-x.1) (0,.slice (some ⟨bo,0,none⟩) 0 0) ⟨by omega,Own.new hbo rfl (lRf 0)⟩ ?_
  rintro⟨j,v2⟩ M2 g2 ⟨hj,ho⟩
  simp only at hj ho;by_cases hjl:j<3
  ·have hjV:j<V.length:=by rw[hV.1];exact hjl
   have hgv3:=px hV.1 hjl;have hsn:=Ni hjV;rw[<-getD_at hjV]at hsn;generalize V.getD j []=u at *;have hk8:=ho.sub _ _ k8;have hlen:(jS (V.take j)).length<=3:=by
    unfold jS;exact Nat.le_trans (length_filter_le _ _) (by rw[lTa];omega)
   generalize jS (V.take j)=L at *;cases he:u.isEmpty
   ·rw[he,if_neg (by decide)]at hsn;simp(disch:=omega)[al hk8,hgv3,he];intro b' hb';simp(disch:=omega);refine aN ho ((Sub.refl _).put hb' _) (by simp(disch:=omega);rfl) rfl rfl (by omega) (by simp(disch:=omega)) (by simp(disch:=omega);omega) ?_;intro v' M'' N'' ho' hs';simp(disch:=omega);refine rndM M'' (j+1,v') hs' ⟨by simp only;omega,?_⟩;simp only;rw[hsn,<-cK];exact ho'
   ·rw[he,if_pos rfl,append_nil]at hsn;simp(disch:=omega)[al hk8,hgv3,he];refine rndS (j+1,v2) ⟨by simp only;omega,?_⟩;simp only;rw[hsn];exact ho
  ·have hj':j=3:=by omega
   subst hj';rw[take_of_length_le (by rw[hV.1];omega)]at ho;obtain⟨M3,o3,s3⟩:=ho.base hs8;simp(disch:=omega);have e:((t:Int)==(w.length:Int))=decide (t=w.length):=by
    rw[Bool.eq_iff_iff,beq_iff_eq,decide_eq_true_eq];omega
   rw[e];exact ae s3 (h1 V t hgv _ _ o3)
theorem Oe{p:B8}{ls:List Nat}{i:Nat}(hi:i<p.length):ir (p.take (i+1)) ls=ir (p.take i) ls+ls.getD (aF p[i]) 0:=by
 unfold ir;rw[aw p hi,map_append,sum_append];simp
theorem NR{p:B8}{k i:Nat}(hi:i<p.length):gf (p.take (i+1)) k=gf (p.take i) k+if aF p[i]=k then 1 else 0:=by
 unfold gf;rw[aw p hi,countP_append,countP_singleton];simp
theorem KU{ls:List Nat}(h:Low ls):∀ p:B8,ir p ls<=60*p.length
 | []=>by simp[ir]
 | c::p=>by
  have ih:=KU h p;have h1:=h (aF c);have e:ir (c::p) ls=ls.getD (aF c) 0+ir p ls:=by simp[ir]
  rw[e,length_cons];omega
theorem Ro(p:B8)(k:Nat):gf p k<=p.length:=countP_le_length
theorem Ic{ls:List Nat}(h:Low ls){n:Nat}(hn:n<=60):Low (ls++[n]):=by
 intro k;rw[gDe];by_cases hk:k<ls.length
 ·rw[getElem?_append_left hk,<-gDe];exact h k
 ·rw[getElem?_append_right (by omega)];cases hq:([n]:List Nat)[k-ls.length]? with
  | none=>simp
  | some x=>
   have:=mem_of_getElem? hq;rw[List.mem_singleton.1 this];exact hn
theorem RG:Low []:=fun k=>by simp
theorem yt(ls:List Nat):∀ v∈aD ls,bH v=true:=by
 intro v hv;obtain⟨n,_,rfl⟩:=List.mem_map.1 hv;rfl
theorem Nj{ls:List Nat}{k:Nat}(h:ls.length<=k):ls.getD k 0=0:=by
 rw[gDe,getElem?_eq_none h];rfl
def kA(w p:B8)(d:Nat)(ls:List Nat)(m:Nat):Option bC:=(range m).findSome? fun n=>l8 w p d (ls++[n+1])
theorem vP{w p:B8}{d m:Nat}{ls:List Nat}(h:kA w p d ls m=none):kA w p d ls (m+1)=l8 w p d (ls++[m+1]):=by
 unfold kA at *;rw[range_succ,findSome?_append,h,Option.none_or];cases hf:l8 w p d (ls++[m+1])<;>simp[findSome?,hf]
theorem Jy{w p:B8}{d m n:Nat}{ls:List Nat}{V:bC}(hm:m<n)(h0:kA w p d ls m=none)(h:l8 w p d (ls++[m+1])=some V):kA w p d ls n=some V:=by
 have h1:kA w p d ls (m+1)=some V:=by rw[vP h0,h]
 obtain⟨e,rfl⟩:∃ e,n=m+1+e:=⟨n-m-1,by omega⟩;unfold kA at *;rw[range_add,findSome?_append,h1,Option.some_or]
theorem uV{M N:Mem}{v:Value}{l:List Value}(h:dw M v=some l)(hs:Sub M N):dw N v=some l:=by
 unfold dw at *;split at h
 ·exact h
 ·rename_i b o n c;show N.sub? b o n=some l;unfold Mem.sub? at *;split at h
  ·rename_i hb;rw[hs _ _ hb];exact h
  ·cases h
 ·exact h
 ·cases h
theorem Cj(ls:List Nat)(n:Nat):aD ls++[.int .i64 (n:Nat)]=aD (ls++[n]):=by simp[aD]
theorem iG(w p:B8)(hl:w.length<=60)(hpv:p.all isV=true)(hp8:p.length<=8):∀(d:Nat) (ls:List Nat) (v:Value) (M:Mem) (R:VP),Rd M v (aD ls)->dw M v=some (aD ls)->ls.length+d=3->Low ls ->
  (∀ V,l8 w p d ls=some V->∀ v' M',Own M v' (strs (jS V)) M'->R (.tuple #[v',.bool true]) M')->(l8 w p d ls=none->∀ v' M',Sub M M'->R (.tuple #[v',.bool false]) M') ->
  ar prog 279 [str w,str p,v] M R
 | 0,ls,v,M,R,hv,hsv,h3,hlow,h1,h0=>by
  obtain⟨a,c,rfl,ha⟩:=hv.opened;have h3:ls.length=3:=by omega
  unfold l8 at h1 h0;rw[aB,h3]at hv ⊢;refine fnS func279 rfl ntmps279 results279 ?_;simp(disch:=omega);refine AP w p _ ls _ _ hl hpv hp8 hv h3 hlow ?_ ?_
  ·intro V t hg v' M' ho;rw[hg]at h1 h0;simp only at h1 h0;by_cases ht:t=w.length
   ·rw[if_pos ht]at h1;rw[decide_eq_true ht];simp(disch:=omega);exact ad (h1 V rfl v' M' ho)
   ·rw[if_neg ht]at h0;rw[decide_eq_false ht];simp(disch:=omega);exact ad (h0 rfl v' M' ho.sub)
  ·intro hg M' hs;rw[hg]at h0;simp(disch:=omega);exact ad (h0 rfl _ M' hs)
 | d+1,ls,v,M,R,hv,hsv,h3,hlow,h1,h0=>by
  obtain⟨a,c,rfl,ha⟩:=hv.opened;have hll:ls.length<=2:=by omega
  unfold l8 at h1 h0;obtain⟨m,hm⟩:∃ m,m=ls.length:=⟨_,rfl⟩;rw[aB,<-hm]at ha hv hsv ⊢;rw[<-hm]at h1 h0;have hm3:¬(m:Int)=3:=by omega
  have hwr:IntKind.u8.wrap (65+(m:Int))=65+m:=by unfold IntKind.wrap;simp[IntKind.bits,IntKind.signed];omega
  refine fnS func279 rfl ntmps279 results279 ?_;simp(disch:=omega)[hwr];refine aP aR (rlA [9,10,11] 28 30) (fun i:Nat=>[(11,.int .i64 i),(9,.int .i64 (ir (p.take i) ls:Nat)),(10,.int .i64 (gf (p.take i) m:Nat))]) (fun i M'=>i<=p.length/\M'=M) (fun i=>p.length-i) 0 (by kernel_rfl) (by simp(disch:=omega);exact⟨rfl,rfl⟩) ⟨by omega,rfl⟩ ?_
  rintro i M' g ⟨hi,rfl⟩
  have hsl:=KU hlow (p.take i);have hcl:=Ro (p.take i) m;rw[lTa]at hsl hcl;by_cases hlt:i<p.length
  ·have hx:p[i]?=some p[i]:=gEl hlt;have hc:=di (List.all_eq_true.1 hpv _ (getElem_mem hlt));have e1:=Oe (ls:=ls) hlt;have e2:=NR (k:=m) hlt;have hlo:=hlow (aF p[i]);generalize ir (p.take i) ls=sm at *;generalize gf (p.take i) m=ct at *;generalize p[i]=u at *;have hk:((u.toNat:Int)-65).toNat=aF u:=by unfold aF;omega
   have hk':aF u=u.toNat-65:=rfl;by_cases h3':aF u<m
   ·rcases ha with hz|⟨b,o,rfl,ha⟩
    ·omega
    have hne:((u.toNat:Int)==65+(m:Int))=false:=bNe.2 (by omega);have hlt':(u.toNat:Int)-65<m:=by omega
    have hg:=ha _ h3';rw[HK (by omega)]at hg;rw[if_neg (by omega)]at e2;generalize ls.getD (aF u) 0=l at *;simp(disch:=omega)[so hx,hk,hne,hlt',hg];exact rndA (i+1) (by simp(disch:=omega)[e1,e2]) ⟨by omega,rfl⟩
   ·have hlt':¬(u.toNat:Int)-65<m:=by omega
    rw[Nj (by omega),Nat.add_zero]at e1;by_cases h4:aF u=m
    ·have hne:((u.toNat:Int)==65+(m:Int))=true:=by rw[beq_iff_eq];omega
     rw[if_pos h4]at e2;simp(disch:=omega)[so hx,hne,hlt'];exact rndA (i+1) (by simp(disch:=omega)[e1,e2]) ⟨by omega,rfl⟩
    ·have hne:((u.toNat:Int)==65+(m:Int))=false:=bNe.2 (by omega);rw[if_neg h4,Nat.add_zero]at e2;simp(disch:=omega)[so hx,hne,hlt'];exact rndA (i+1) (by simp(disch:=omega)[e1,e2]) ⟨by omega,rfl⟩
  ·have hi':i=p.length:=by omega
   subst hi';rw[take_length];rw[Nat.min_self]at hsl hcl;rw[take_length]at hsl hcl;by_cases hc0:gf p m=0
   ·rw[if_pos hc0]at h1 h0;rw[hc0];simp(disch:=omega);intro bn hbn;have o0:Own M' (.slice (some ⟨bn,0,none⟩) 0 0) [] (M'.put bn (.cells true [] 0)):=Own.new hbn rfl (lRf 0);dsimp only;generalize M'.put bn (.cells true [] 0)=N0 at *;generalize Value.slice (some ⟨bn,0,none⟩) 0 0=v0 at *;simp(disch:=omega);refine aN o0 (Sub.refl _) (uV hsv o0.sub) rfl rfl (by omega) (yt ls) (by simp(disch:=omega)[aB];omega) ?_;intro v1 M1 N1 o1 s1;simp(disch:=omega);intro b2 hb2;simp(disch:=omega);refine aN o1 (s1.trans ((Sub.refl _).put hb2 _)) (by simp(disch:=omega);rfl) rfl rfl (by omega) (by simp(disch:=omega)) (by simp(disch:=omega);rw[aB];omega) ?_;intro v3 M3 N3 o3 s3;have e3:[]++aD ls++[Value.int .i64 0]=aD (ls++[0]):=Cj ls 0;rw[e3]at o3;have r3:=o3.rd.sub s3;simp(disch:=omega);refine iG w p hl hpv hp8 d (ls++[0]) v3 N3 _ r3 (Jf r3 (by rw[aB];simp)) (by simp;omega) (Ic hlow (by omega)) ?_ ?_
    ·intro V hV v' M4 o4;obtain⟨M5,o5,s5⟩:=o4.base (o3.sub.trans s3);simp(disch:=omega);exact ae s5 (h1 V hV v' _ o5)
    ·intro hno v' M4 s4;simp(disch:=omega);exact ad (h0 hno v' _ ((o3.sub.trans s3).trans s4))
   ·rw[if_neg hc0]at h1 h0;have hcp:0<gf p m:=Nat.pos_of_ne_zero hc0;have hc0':¬(gf p m:Int)=0:=by omega
    have hdiv:=fun n=>Nat.le_div_iff_mul_le hcp (x:=n) (y:=w.length-ir p ls);have hq:(w.length-ir p ls)/gf p m<=w.length-ir p ls:=Nat.div_le_self _ _;have h1:∀ V,kA w p d ls ((w.length-ir p ls)/gf p m)=some V->∀ v' M'',Own M' v' (strs (jS V)) M''->R (.tuple #[v',.bool true]) M'':=h1;have h0:kA w p d ls ((w.length-ir p ls)/gf p m)=none->∀ v' M'',Sub M' M''->R (.tuple #[v',.bool false]) M'':=h0;generalize ir p ls=sm at *;generalize hct:gf p m=ct at *;generalize (w.length-sm)/ct=q at *;simp(disch:=omega);refine lupS (rlA [6,7,12,13,14] 70 24) (fun n:Nat=>[(12,.int .i64 ((n:Int)+1))]) (fun n M''=>n<=q/\Sub M' M''/\kA w p d ls n=none) (fun n=>q-n) 0 ⟨lZe _,Sub.refl _,rfl⟩ ?_
    rintro n M'' g2 ⟨hn,hs,hno⟩
    obtain⟨z,hz⟩:∃ z,z=(n+1)*ct:=⟨_,rfl⟩;have hz':((n:Int)+1)*(ct:Int)=(z:Int):=by rw[hz];push_cast;rfl
    have hd1:=hdiv (n+1);rw[<-hz]at hd1;have hzb:z<=61*8:=by rw[hz];exact Nat.mul_le_mul (by omega) (by omega)
    by_cases hlt2:n<q
    ·have hcond:(sm:Int)+z<=w.length:=by
      have:=hd1.1 (by omega);have:0<z:=by rw[hz];exact Nat.mul_pos (by omega) hcp
      omega
     simp(disch:=omega)[hz',hcond];intro bn hbn;have o0:Own M'' (.slice (some ⟨bn,0,none⟩) 0 0) [] (M''.put bn (.cells true [] 0)):=Own.new hbn rfl (lRf 0);dsimp only;generalize M''.put bn (.cells true [] 0)=N0 at *;generalize Value.slice (some ⟨bn,0,none⟩) 0 0=v0 at *;simp(disch:=omega);refine aN o0 (Sub.refl _) (uV (uV hsv hs) o0.sub) rfl rfl (by omega) (yt ls) (by simp(disch:=omega)[aB];omega) ?_;intro v1 M1 N1 o1 s1;simp(disch:=omega);intro b2 hb2;simp(disch:=omega);refine aN o1 (s1.trans ((Sub.refl _).put hb2 _)) (by simp(disch:=omega);rfl) rfl rfl (by omega) (by simp(disch:=omega)) (by simp(disch:=omega);rw[aB];omega) ?_;intro v3 M3 N3 o3 s3;have e3:[]++aD ls++[Value.int .i64 ((n:Int)+1)]=aD (ls++[n+1]):=Cj ls (n+1);rw[e3]at o3;have r3:=o3.rd.sub s3;have s13:=hs.trans (o3.sub.trans s3);have hn60:n+1<=60:=by omega
     simp(disch:=omega);refine iG w p hl hpv hp8 d (ls++[n+1]) v3 N3 _ r3 (Jf r3 (by rw[aB];simp)) (by simp;omega) (Ic hlow hn60) ?_ ?_
     ·intro V hV v' M4 o4;obtain⟨M5,o5,s5⟩:=o4.base s13;simp(disch:=omega);exact ae s5 (h1 V (Jy hlt2 hno hV) v' _ o5)
     ·intro hno2 v' M4 s4;simp(disch:=omega);exact rndS (n+1) ⟨by omega,s13.trans s4,by rw[vP hno,hno2]⟩
    ·have hcond:¬(sm:Int)+z<=w.length:=by
      intro hh;have:=hd1.2 (by omega);omega
     have hnq:n=q:=by omega
     subst hnq;simp(disch:=omega)[hz',hcond];exact ad (h0 hno _ _ hs)
theorem wZ(w p:B8)(M:Mem)(R:VP)(hw:w.length<=1099511627776)(hp:p.length<=1099511627776)(h:Ve (plI w p) (plC w p) (strs (plL w p)) M R):ar prog 190 [str w,str p] M R:=by
 unfold plI plC plL at h;refine fnS func190 rfl ntmps190 results190 ?_;simp(disch:=omega);refine rF w p _ _ hw hp ?_;cases hb:isWord w&&a7 p
 ·rw[hb]at h;simp(disch:=omega);exact ad (h _ _ (Own.nil M))
 ·rw[hb,if_pos rfl,if_pos rfl,if_pos rfl]at h;rw[Bool.and_eq_true]at hb;have h60:=au hb.1;obtain⟨hp1,hp8,hpv⟩:=bJ hb.2;have hpi:∀ c∈p,aF c<3:=fun c hc=>by
   have:=di (List.all_eq_true.1 hpv c hc);unfold aF;omega
  simp(disch:=omega);refine lupS (rlA [4,5,6,8,9,10,11] 18 35) (fun i:Nat=>[(8,.int .i64 i)]) (fun i M'=>i<=w.length/\M'=M/\eu w p i=none) (fun i=>w.length-i) 0 ⟨by omega,rfl,rfl⟩ ?_
  rintro i M' g ⟨hi,rfl,hno⟩
  by_cases hlt:i<w.length
  ·have hbest:=LL (u:=w.drop i) hpi (by intro e;rw[e]at hp1;simp at hp1);have hat:iR w p i=if 0<(fJ (cH (w.drop i) p V0 0)).1 then some (i,(fJ (cH (w.drop i) p V0 0)).2) else none:=rfl
   have hul:(w.drop i).length=w.length-i:=length_drop;generalize fJ (cH (w.drop i) p V0 0)=s at *;obtain⟨least,best⟩:=s;simp only at hbest hat;have hshort:0<least->p.length<=least:=by
    intro h0;rcases hbest with ⟨hz,_⟩|⟨_,hle,hf,_⟩
    ·omega
    ·have:=jL _ _ _ hf;rw[lTa]at this;omega
   simp(disch:=omega);refine lupS (rlA [4,5,6,9,10,11] 28 25) (fun k:Nat=>[(9,.int .i64 k)]) (fun k M2=>M2=M'/\i+p.length<=k/\k<=w.length+9/\(0<least->k<=i+least)) (fun k=>w.length+9-k) (i+p.length) ⟨rfl,by omega,by omega,fun h0=>by have:=hshort h0;omega⟩ ?_
   rintro k M2 g2 ⟨rfl,hk,hk9,hkl⟩
   by_cases hkw:k<=w.length
   ·have hseg:(w.take k).drop i=(w.drop i).take (k-i):=by rw[drop_take]
    have hsl:((w.drop i).take (k-i)).length<=60:=by rw[lTa,hul];omega
    simp(disch:=omega)[hseg];refine tc _ p _ _ hsl hb.2 ?_;by_cases hend:0<least/\k=i+least
    ·obtain⟨h0,hke⟩:=hend;rcases hbest with ⟨hz,_⟩|⟨_,hle,hf,_,hs⟩
     ·omega
     rw[if_pos h0]at hat;have hpl:jJ w p=some (i,best):=wG hlt hno hat;rw[hpl]at h;rw[show k-i=least by omega]at hsl hseg ⊢;rw[hf];generalize (w.drop i).take least=u at *;simp(disch:=omega)[hseg];intro bn hbn;have rn:Rd (M2.put bn (.cells true [] 0)) (.slice (some ⟨bn,0,none⟩) 0 0) (aD []):=Rd.new rfl (lRf 0);have sn:dw (M2.put bn (.cells true [] 0)) (.slice (some ⟨bn,0,none⟩) 0 0)=some (aD []):=by
      show Mem.sub? _ bn 0 0=some [];rw[aq (ag _ _ _)];simp[mq]
     have s0:Sub M2 (M2.put bn (.cells true [] 0)):=(Sub.refl _).put hbn _;simp(disch:=omega);generalize M2.put bn (.cells true [] 0)=N at *;have key:=fun R'=>iG u p hsl hpv hp8 3 [] _ N R' rn sn (by simp) RG;refine key _ ?_ ?_
     ·intro V hV v' M3 o3;rw[hs]at hV;injection hV with hV
      subst hV;obtain⟨M4,o4,s4⟩:=o3.base s0;simp(disch:=omega);exact ae s4 (h _ _ o4)
     ·intro hn;rw[hs]at hn;cases hn
    ·have hf:eW ((w.drop i).take (k-i)) p=false:=by
      rcases hbest with ⟨hz,hall⟩|⟨_,hle,_,hall,_⟩
      ·exact hall _ (by omega)
      ·exact hall _ (by have:=hkl (by omega);omega)
     rw[hf];simp(disch:=omega);exact rndS (k+1) ⟨rfl,by omega,by omega,fun h0=>by have:=hkl h0;omega⟩
   ·have h0:¬ 0<least:=by
     intro h0;rcases hbest with ⟨hz,_⟩|⟨_,hle,_⟩
     ·omega
     ·have:=hkl h0;omega
    rw[if_neg h0]at hat;simp(disch:=omega);exact rndS (i+1) ⟨by omega,rfl,by rw[iS hno,hat]⟩
  ·have hi':i=w.length:=by omega
   subst hi';have e:jJ w p=none:=hno;rw[e]at h;simp(disch:=omega);exact ad (h _ _ (Own.nil _))
theorem BY{p:B8}(h:a7 p=true):1<=p.length/\p.length<=8:=⟨(bJ h).1,(bJ h).2.1⟩
theorem qP{p:B8}(h:a7 p=true):∀ c∈p,aF c<3:=fun c hc=>by
 have:=di (List.all_eq_true.1 (bJ h).2.2 c hc);unfold aF;omega
theorem Hg(v v':Value)(xs ys:List B8)(M:Mem)(R:VP)(hx:Rd M v (strs xs))(hy:Rd M v' (strs ys))(hl:xs.length<=1099511627776)(hl':ys.length<=1099511627776)
  (h:R (.bool (xs==ys)) M):ar prog 28 [v,v'] M R:=by
 refine fnS func28 rfl ntmps28 results28 ?_;obtain⟨a,c,rfl,ha⟩:=hx.opened;obtain⟨a',c',rfl,ha'⟩:=hy.opened;rw[ah]at ha ha' ⊢;rw[ah];by_cases hne:xs.length=ys.length
 ·simp(disch:=omega)[hne];refine lupS (rlA [4,5] 11 15) (fun i:Nat=>[(5,.int .i64 i)]) (fun i M'=>M'=M/\i<=xs.length/\xs.take i=ys.take i) (fun i=>xs.length-i) 0 ⟨rfl,by omega,rfl⟩ ?_
  rintro i M' g ⟨rfl,hi,he⟩
  by_cases hlt:i<xs.length
  ·rcases ha with h0|⟨b,o,rfl,hs⟩
   ·omega
   rcases ha' with h0|⟨b',o',rfl,hs'⟩
   ·omega
   have hlt':i<ys.length:=by omega
   have hg:=hs i hlt;have hg':=hs' i hlt';have hx:xs[i]?=some xs[i]:=gEl hlt;have hy:ys[i]?=some ys[i]:=gEl hlt';simp(disch:=omega)[hne];refine drwS ?_;simp(disch:=omega)[hg,hg'];by_cases hq:xs[i]=ys[i]
   ·have hq':(xs[i]==ys[i])=true:=by rw[hq];exact beq_self_eq_true _
    simp(disch:=omega)[hq'];refine rndS (i+1) ⟨rfl,by omega,?_⟩;rw[aw xs hlt,aw ys hlt',he,hq]
   ·have hq':(xs[i]==ys[i])=false:=bNe.2 hq;simp(disch:=omega)[hq'];refine ad ?_;have:(xs==ys)=false:=by
     rw[bNe];rintro rfl;exact hq rfl
    rw[this]at h;exact h
  ·have hi':i=xs.length:=by omega
   subst hi';simp(disch:=omega)[hne];refine ad ?_;have:xs=ys:=GO hne he;subst this;simpa using h
 ·simp(disch:=omega);refine ad ?_;have:(xs==ys)=false:=by
   rw[bNe];rintro rfl;exact hne rfl
  rw[this]at h;exact h
theorem wt(w p:B8)(M:Mem)(R:VP)(hl:w.length<=60)(hp:a7 p=true)(h:R (.bool (HB w p)) M):ar prog 368 [str w,str p] M R:=by
 have hpl:1<=p.length/\p.length<=8:=BY hp;refine fnS func368 rfl ntmps368 results368 ?_;simp(disch:=omega);refine lupS (rlA [4,5] 8 11) (fun i:Nat=>[(5,.int .i64 i)]) (fun i M'=>M=M'/\p.length<=i/\i<=max (w.length+1) p.length/\tQ w p (i-p.length)=false) (fun i=>w.length+1-i) p.length ⟨rfl,by omega,by omega,by rw[Nat.sub_self];rfl⟩ ?_
 rintro i M' g ⟨rfl,hi1,hi2,hno⟩
 by_cases hlt:i<=w.length
 ·simp(disch:=omega);refine lP (w.take i) p _ _ (by rw[lTa];omega) hp ?_;have e1:i+1-p.length=i-p.length+1:=by omega
  have e2:p.length+(i-p.length)=i:=by omega
  have hst:=Ja w p (i-p.length);rw[e2]at hst;cases he:fh (w.take i) p
  ·simp(disch:=omega);rw[he]at hst;refine rndS (i+1) ⟨rfl,by omega,by omega,?_⟩;rw[e1,hst,hno];rfl
  ·simp(disch:=omega);have:HB w p=true:=NK (n:=i-p.length) (by omega) (by rw[e2];exact he);rw[this]at h;exact ad h
 ·simp(disch:=omega);have:HB w p=false:=by
   unfold HB;by_cases hq:p.length<=w.length
   ·rw[show w.length+1-p.length=i-p.length by omega];exact hno
   ·rw[show w.length+1-p.length=0 by omega];rfl
  rw[this]at h;exact ad h
theorem wI(w p:B8)(M:Mem)(R:VP)(hw:w.length<=1099511627776)(hp:p.length<=1099511627776)(h:R (aE (.bool ((isWord w&&a7 p)&&hasB w p)) (Ge w p)) M):ar prog 292 [str w,str p] M R:=by
 unfold Ge aE at h;refine fnS func292 rfl ntmps292 results292 ?_;simp(disch:=omega);refine rF w p _ _ hw hp ?_;cases hb:isWord w&&a7 p
 ·rw[hb]at h;simp(disch:=omega);exact ad h
 ·rw[hb]at h;rw[Bool.and_eq_true]at hb;have h60:=au hb.1;rw[if_pos rfl,Bool.true_and,<-Ax (qP hb.2) (by have:=BY hb.2;intro e;rw[e]at this;simp at this)]at h;simp(disch:=omega);refine wt w p _ _ h60 hb.2 ?_;simp(disch:=omega);exact ad h
def jM:Nat->B8
 | 0=>[]
 | n+1=>jM n++(ltr n::jM n)
theorem sT:∀ n,n<=5->(jM n).length<=31:=by decide
theorem zr(n:Nat)(M:Mem)(R:VP)(hn:n<=5)(h:R (str (jM n)) M):ar prog 176 [.int .i64 n] M R:=by
 refine fnS func176 rfl ntmps176 results176 ?_;simp(disch:=omega);refine aP aR (rlA [3,4] 6 10) (fun i:Nat=>[(6,.int .i64 i),(3,str (jM i))]) (fun i M'=>M=M'/\i<=n) (fun i=>n-i) 0 (by kernel_rfl) (by simp(disch:=omega)[jM]) ⟨rfl,by omega⟩ ?_
 rintro i M' g ⟨rfl,hi⟩
 by_cases hlt:i<n
 ·have hz:=sT i (by omega);have hs:jM (i+1)=jM i++(ltr i::jM i):=rfl;simp(disch:=omega);refine cS i _ _ (by omega) ?_;generalize hc:ltr i=c at *;generalize hzz:jM i=z at *;simp(disch:=omega);refine rndA (i+1) (by simp(disch:=omega)[hs]) ⟨rfl,by omega⟩
 ·have hi':i=n:=by omega
  subst hi';simp(disch:=omega);exact ad h
theorem kD:∀(n:Nat) (M:Mem) (R:VP),n<=4->R (str (jM (n+1))) M->ar prog 121 [.int .i64 ((n:Int)+1)] M R
 | 0,M,R,hn,h=>by
  have e:jM (0+1)=[97]:=by decide
  rw[e]at h;refine fnS func121 rfl ntmps121 results121 ?_;simp(disch:=omega);exact ad h
 | n+1,M,R,hn,h=>by
  have hs:jM (n+1+1)=jM (n+1)++(ltr (n+1)::jM (n+1)):=rfl;have hz:=sT (n+1) (by omega);rw[hs]at h;have hne:¬(((n+1:Nat):Int)+1=1):=by omega
  have hne2:((((n+1:Nat):Int)+1)==1)=false:=bNe.2 hne;have ih:=fun (M:Mem) (R:VP) (h:R (str (jM (n+1))) M)=>kD n M R (by omega) h;obtain⟨q,hq⟩:∃ q:Nat,q=n+1:=⟨_,rfl⟩;rw[<-hq]at h hz hne hne2 ih ⊢;have hm1:(q:Int)+1-1=(n:Int)+1:=by omega
  have hm2:(n:Int)+1=(q:Nat):=by omega
  refine fnS func121 rfl ntmps121 results121 ?_;simp(disch:=omega)[hne2,hm1];refine ih _ _ ?_;simp(disch:=omega)[hm1,hm2];refine jy q _ _ (by omega) ?_;generalize hc:ltr q=c at *;simp(disch:=omega)[hm1,hm2];rw[<-hm2];refine ih _ _ ?_;generalize jM q=z at *;simp(disch:=omega);exact ad (by simpa using h)
def oc(p:B8)(k:Nat):Bool:=p.any fun c=>aF c==k
def xg(p:B8):List Value:=[.bool (oc p 0),.bool (oc p 1),.bool (oc p 2)]
def jO(p:B8):Nat:=(if oc p 0 then 1 else 0)+(if oc p 1 then 1 else 0)+(if oc p 2 then 1 else 0)
theorem LS(p:B8)(c:UInt8)(k:Nat):oc (p++[c]) k=(oc p k||(aF c==k)):=by simp[oc]
theorem Sq(p:B8){k:Nat}(h:k<3):(xg p)[k]?=some (.bool (oc p k)):=by
 have:k=0\/k=1\/k=2:=by omega
 rcases this with rfl|rfl|rfl<;>rfl
theorem RY(p:B8)(c:UInt8)(h:aF c<3)(hn:oc p (aF c)=false):(xg p).set (aF c) (.bool true)=xg (p++[c])/\jO (p++[c])=jO p+1:=by
 unfold xg jO;simp only[LS];have:aF c=0\/aF c=1\/aF c=2:=by omega
 rcases this with e|e|e<;>rw[e]at hn ⊢<;>simp[hn]<;>omega
theorem Ra(p:B8)(c:UInt8)(h:aF c<3)(hn:oc p (aF c)=true):xg (p++[c])=xg p/\jO (p++[c])=jO p:=by
 unfold xg jO;simp only[LS];have:aF c=0\/aF c=1\/aF c=2:=by omega
 rcases this with e|e|e<;>rw[e]at hn ⊢<;>simp[hn]
theorem Ct{p:B8}(h1:p≠[])(hp:∀ c∈p,aF c<3):1<=jO p/\jO p<=3:=by
 constructor
 ·cases p with
  | nil=>exact absurd rfl h1
  | cons c p=>
   have hc:=hp c mem_cons_self;have ho:oc (c::p) (aF c)=true:=by unfold oc;rw[any_cons,beq_self_eq_true,Bool.true_or]
   unfold jO;have:aF c=0\/aF c=1\/aF c=2:=by omega
   rcases this with e|e|e<;>rw[e]at ho<;>rw[ho]<;>simp<;>omega
 ·unfold jO;split<;>split<;>split<;>omega
def we(p:B8):Bool:=a7 p&&hasB (jM (jO p)) p
def wm(p:B8):Int:=if a7 p then 0 else 1
theorem rk(p:B8)(M:Mem)(R:VP)(hl:p.length<=1099511627776)(h:∀ M',Sub M M'->R (aE (.bool (we p)) (wm p)) M'):ar prog 293 [str p] M R:=by
 unfold aE we wm at h;refine fnS func293 rfl ntmps293 results293 ?_;simp(disch:=omega);refine gp p _ _ hl ?_;cases hp:a7 p
 ·rw[hp]at h;simp(disch:=omega);exact ad (h _ (Sub.refl _))
 ·rw[hp,if_pos rfl,Bool.true_and]at h;obtain⟨hp1,hp8,hpv⟩:=bJ hp;have hlt3:=qP hp;have hne:p≠[]:=by rintro rfl;simp at hp1
  have hr:=Ct hne hlt3;rw[<-Ax hlt3 hne]at h;simp(disch:=omega);intro b hb;have hs:∀ X,Sub M (M.put b X):=fun X=>(Sub.refl M).put hb X;simp(disch:=omega);refine aP aR (rlA [5,6] 11 22) (fun i:Nat=>[(6,.int .i64 i),(5,.int .i64 (jO (p.take i):Nat))]) (fun i M'=>M.put b (.cells true (xg (p.take i)) 3)=M'/\i<=p.length/\jO (p.take i)<=i) (fun i=>p.length-i) 0 (by kernel_rfl) (by simp(disch:=omega)[jO,oc]) ⟨rfl,by omega,by simp[jO,oc]⟩ ?_
  rintro i M' g ⟨rfl,hi,hd⟩
  by_cases hlt:i<p.length
  ·have hpx:p[i]?=some p[i]:=gEl hlt;have hpr:=di (List.all_eq_true.1 hpv _ (getElem_mem hlt));have hv3:=hlt3 _ (getElem_mem hlt);have hvk:(p[i].toNat:Int)-65=(aF p[i]:Nat):=by unfold aF;omega
   have htk:=aw p hlt;have hg:=Sq (p.take i) hv3;have k0:(M.put b (.cells true (xg (p.take i)) 3)) b=some (.cells true (xg (p.take i)) 3):=ag _ _ _;have hgg:=al k0 (aF p[i]);rw[hg]at hgg;have hml:(xg (p.take i)).length=3:=rfl;cases ho:oc (p.take i) (aF p[i])
   ·obtain⟨m1,m2⟩:=RY (p.take i) p[i] hv3 ho;rw[<-htk]at m1 m2;rw[ho]at hgg;generalize xg (p.take i)=L0 at *;generalize aF p[i]=K at *;generalize p[i]=u at *;simp(disch:=omega)[so hpx,hvk,hgg,m1,aj];refine rndA (i+1) (by simp(disch:=omega)[m2]) ⟨by first|rfl|rw[aW],by omega,by omega⟩
   ·obtain⟨m1,m2⟩:=Ra (p.take i) p[i] hv3 ho;rw[<-htk]at m1 m2;rw[ho]at hgg;generalize aF p[i]=K at *;generalize p[i]=u at *;simp(disch:=omega)[so hpx,hvk,hgg];refine rndA (i+1) (by simp(disch:=omega)[m2]) ⟨by rw[m1],by omega,by omega⟩
  ·have hi':i=p.length:=by omega
   subst hi';rw[take_length]at hd ⊢;obtain⟨q,hq⟩:∃ q,jO p=q+1:=⟨jO p-1,by omega⟩;rw[hq]at h ⊢;have hqi:((q+1:Nat):Int)=(q:Int)+1:=by omega
   have hzl:=sT (q+1) (by omega);simp(disch:=omega)[hqi];refine kD q _ _ (by omega) ?_;simp(disch:=omega);refine wt (jM (q+1)) p _ _ (by omega) hp ?_;simp(disch:=omega);exact ad (h _ (hs _))
end Go.Proofs.YtapimhjbilkfpaaGreatDoor
namespace Go.Proofs.YtapimhjbilkfpaaGreatDoor
open List
theorem OQ(p:B8)(k:Nat):∀(d:Nat) (w u:B8),(∀ n,n<=w.length->fh (w.take n) p=false)->u∈avL p k d w ->
  u.length=w.length+d/\(∀ n,n<=u.length->fh (u.take n) p=false)/\(∀ c∈u,c∈w\/∃ i,i<k/\c=ltr i)
 | 0,w,u,hw,h=>by
  unfold avL at h;rw[List.mem_singleton.1 h];exact⟨rfl,hw,fun c hc=>.inl hc⟩
 | d+1,w,u,hw,h=>by
  unfold avL at h;obtain⟨i,hi,h⟩:=List.mem_flatMap.1 h;have hi:=List.mem_range.1 hi;cases he:fh (w++[ltr i]) p
  ·rw[he,if_neg (by decide)]at h;obtain⟨h1,h2,h3⟩:=OQ p k d _ u (fun n hn=>by
    rw[lAp,length_singleton]at hn;by_cases e:n=w.length+1
    ·rw[take_of_length_le (by rw[lAp,length_singleton];omega)];exact he
    ·rw[take_append_of_le_length (by omega)];exact hw n (by omega)) h
   refine⟨by rw[h1,lAp,length_singleton];omega,h2,fun c hc=>?_⟩;rcases h3 c hc with h4|h4
   ·rcases List.mem_append.1 h4 with h5|h5
    ·exact .inl h5
    ·exact .inr ⟨i,hi,List.mem_singleton.1 h5⟩
   ·exact .inr h4
  ·rw[he,if_pos rfl]at h;cases h
theorem MH(p:B8):fh [] p=false:=rfl
theorem RC{w p:B8}(h:∀ n,n<=w.length->fh (w.take n) p=false):HB w p=false:=by
 unfold HB tQ;rw[any_eq_false];intro m hm;have:=List.mem_range.1 hm;rw[h _ (by omega)];simp
theorem QG{p:B8}{k n:Nat}{u:B8}(hk:k<=5)(hn:n<=60)(hp:∀ c∈p,aF c<3)(hp1:p≠[])(h:u∈avL p k n []) :
  u.length=n/\isWord u=true/\hasB u p=false:=by
 obtain⟨h1,h2,h3⟩:=OQ p k n [] u (fun m hm=>by
  rw[take_nil];exact MH p) h
 rw[length_nil,Nat.zero_add]at h1;refine⟨h1,?_,by rw[<-Ax hp hp1];exact RC h2⟩;unfold isWord;rw[Bool.and_eq_true,decide_eq_true_eq,all_eq_true];refine⟨by omega,fun c hc=>?_⟩;rcases h3 c hc with h4|⟨i,hi,rfl⟩
 ·cases h4
 ·exact ma (by omega)
theorem Rs{l:List B8}(h:emL l=false):hdL l∈l:=by
 cases l with
 | nil=>cases h
 | cons a l=>exact mem_cons_self
def avC(p:B8)(k n:Int)(t:Int):Int:=if a7 p then (if decide (1<=k/\k<=3)&&decide (0<=n/\n<=t) then 0 else 2) else 1
def pW(p:B8)(k n:Int):List B8:=avL p k.toNat n.toNat []
def jl(p:B8)(k n:Int):Int:=if avC p k n 12=0 then (if emL (pW p k n) then 4 else 0) else avC p k n 12
def firstT(p:B8)(k n:Int):B8:=if avC p k n 12=0 then hdL (pW p k n) else []
def LY(p:B8)(k n:Int):Int:=avC p k n 9
def G7(p:B8)(k n:Int):Int:=if avC p k n 9=0 then ((pW p k n).length:Nat) else 0
theorem td{p:B8}{k n t:Int}(h:avC p k n t=0):a7 p=true/\(1<=k/\k<=3)/\(0<=n/\n<=t):=by
 unfold avC at h;cases hp:a7 p
 ·rw[hp]at h;simp at h
 ·rw[hp,if_pos rfl]at h;cases hb:decide (1<=k/\k<=3)&&decide (0<=n/\n<=t)
  ·rw[hb]at h;simp at h
  ·rw[Bool.and_eq_true,decide_eq_true_eq,decide_eq_true_eq]at hb;exact⟨rfl,hb.1,hb.2⟩
theorem Pm{p:B8}{k n:Int}(h:jl p k n=0):(firstT p k n).length=n.toNat/\0<=n/\isWord (firstT p k n)=true/\a7 p=true/\hasB (firstT p k n) p=false:=by
 unfold jl at h;by_cases h0:avC p k n 12=0
 ·rw[if_pos h0]at h;obtain⟨hp,hk,hn⟩:=td h0;cases he:emL (pW p k n)
  ·have hm:=Rs he;have hne:p≠[]:=by rintro rfl;have:=(bJ hp).1;simp at this
   obtain⟨h1,h2,h3⟩:=QG (k:=k.toNat) (n:=n.toNat) (by omega) (by omega) (qP hp) hne hm;unfold firstT;rw[if_pos h0];exact⟨h1,hn.1,h2,hp,h3⟩
  ·rw[he,if_pos rfl]at h;omega
 ·rw[if_neg h0]at h;exact absurd h h0
theorem OS{p:B8}{k n:Int}(h:jl p k n≠0):firstT p k n=[]:=by
 unfold jl at h;unfold firstT;by_cases h0:avC p k n 12=0
 ·rw[if_pos h0]at h ⊢;cases he:emL (pW p k n)
  ·rw[he,if_neg (by decide)]at h;exact absurd rfl h
  ·have:=xL he;rw[this];rfl
 ·rw[if_neg h0]
end Go.Proofs.YtapimhjbilkfpaaGreatDoor
