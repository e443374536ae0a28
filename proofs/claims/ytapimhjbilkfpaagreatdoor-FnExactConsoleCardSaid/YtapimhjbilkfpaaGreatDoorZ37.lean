/- Lemmas for FnExactConsole, part 38 of 46. -/
import Derived.Test.YtapimhjbilkfpaaGreatDoorZ18
import Derived.Test.YtapimhjbilkfpaaGreatDoorZ04
import Derived.Test.YtapimhjbilkfpaaGreatDoorZ35
import Derived.Test.YtapimhjbilkfpaaGreatDoorZ36
import Derived.Test.YtapimhjbilkfpaaGreatDoorZ13
import Derived.Test.YtapimhjbilkfpaaGreatDoorZ09
import Derived.Test.YtapimhjbilkfpaaGreatDoorZ11
set_option linter.unusedVariables false
set_option linter.unusedSimpArgs false
namespace Go.Proofs.YtapimhjbilkfpaaGreatDoor
open Go Go.Proofs.Tryz List
def bls(l:List Bool):List Value:=l.map Value.bool
theorem xA(l:List Bool):(bls l).length=l.length:=by simp[bls]
theorem DS(l:List Bool)(i:Nat):(bls l)[i]?=(l[i]?).map Value.bool:=by simp[bls]
theorem PO(l:List Bool)(i:Nat)(x:Bool):(bls l).set i (.bool x)=bls (l.set i x):=by simp[bls,map_set]
theorem Qm(n:Nat)(x:Bool):replicate n (Value.bool x)=bls (replicate n x):=by simp[bls]
def msr(k:Nat)(x:Bool×List Bool):Nat:=if x.1 then 1+(k-x.2.count true) else 0
def vr(ws:List (List UInt8)):List Bool:=(range ws.length).map fun i=>dead ws ws.length (ltr i)
theorem rV(ws:List (List UInt8)):(vr ws).length=ws.length:=by simp[vr]
theorem O8{ws:List (List UInt8)}{out:List Bool}(hl:out.length=ws.length)(h:∀ i,i<ws.length->out[i]?=some (dead ws ws.length (ltr i))):out=vr ws:=by
 apply ext_getElem?;intro i;by_cases hi:i<ws.length
 ·rw[h i hi];simp[vr,hi]
 ·rw[getElem?_eq_none (by omega),getElem?_eq_none (by rw[rV];omega)]
theorem Mm{ws:List (List UInt8)}{c:UInt8}(h:97<=c.toNat/\c.toNat-97<ws.length):(bls (vr ws))[c.toNat-97]?=some (.bool (dead ws ws.length c)):=by
 rw[DS];simp[vr,h.2,lj h]
theorem atI{L:List Value}{j:Nat}{v:Value}(h:L[j]?=some v)(hj:j<L.length):L[j]=v:=by
 rw[getElem?_eq_getElem hj]at h;exact Option.some.inj h
def K3(ou:List Bool)(row:List UInt8)(j:Nat):Bool:=(row.take j).all fun c=>ou.getD (c.toNat-97) false
theorem pz(l:List UInt8)(p:UInt8->Bool){j:Nat}(h:j<l.length):(l.take (j+1)).all p=((l.take j).all p&&p l[j]):=by
 rw[az l h,all_append];simp
def Ik(ws:List (List UInt8))(u:List UInt8)(j:Nat):Bool:=(u.take j).all (dead ws ws.length)
theorem Lx(ws:List (List UInt8))(u:List UInt8){j:Nat}(h:j<u.length):Ik ws u (j+1)=(Ik ws u j&&dead ws ws.length u[j]):=pz u (dead ws ws.length) h
theorem O6(ws:List (List UInt8))(u:List UInt8):Ik ws u u.length=u.all (dead ws ws.length):=by unfold Ik;rw[take_length]
theorem Kz(ws:List (List UInt8))(u:List UInt8):Ik ws u 0=true:=rfl
theorem xq(v:Value)(ws:List (List UInt8))(M:Mem)(R:VP)(hv:Rd M v (strs ws))(hm:aW ws=true)
  (h:∀ b M',Sub M M'->M' b=some (.cells true (bls (vr ws)) ws.length)->R (.slice (some ⟨b,0,none⟩) ws.length ws.length) M'):ar prog 294 [.agg #[v]] M R:=by
 have h15:=aX hm;refine fnS func294 rfl ntmps294 results294 ?_;obtain⟨aa,c,rfl,ha⟩:=hv.opened;rw[ah]at ha hv ⊢;simp(disch:=omega);intro b1 hb1;have hs1:Sub M (M.put b1 (.cells true [.slice aa ws.length c] 1)):=(Sub.refl M).put hb1 _;have k1:(M.put b1 (.cells true [.slice aa ws.length c] 1)) b1=some (.cells true [.slice aa ws.length c] 1):=ag _ _ _;simp(disch:=omega);generalize M.put b1 (.cells true [.slice aa ws.length c] 1)=N1 at *;rcases ha with hz|⟨b,o,rfl,ha⟩
 ·omega
 have hget:∀ i,(hi:i<ws.length)->N1.get? b (o+i)=some (str ws[i]):=by
  intro i hi;have:=ha i hi;rw[bg,getElem?_eq_getElem hi]at this;exact aT this hs1
 try simp(disch:=omega)[aj k1]
 intro b3 hb3;simp(disch:=omega);have e0:replicate ws.length (Value.bool false)=bls (replicate ws.length false):=Qm _ _;rw[e0];refine lupS [4,5,6,7,12,13,14,15,16,17,18,19,20,21,22,23,24,25,26,27,28,29,30,31,32,33,34,35,36,37,38,39,40,41,42,43,44,45,46,47,48,49,50,51,52,53] (fun x:Bool×List Bool=>[(4,.bool x.1)]) (fun x M'=>x.2.length=ws.length/\Snd ws x.2/\(x.1=false->∀ i,i<ws.length->Cls ws x.2 i)/\M'=N1.put b3 (.cells true (bls x.2) ws.length)) (msr ws.length) (true,replicate ws.length false) ⟨by simp,?_,(fun h=>by cases h),rfl⟩ ?_
 ·intro i hi hh;rw[getElem?_replicate_of_lt hi]at hh;cases hh
 rintro⟨more,out⟩ M' g ⟨hl,hsn,hcl,rfl⟩
 simp only at hl hsn hcl;cases more with
 | false=>
  have hf:=O8 hl (ON hm hl hsn (hcl rfl));subst hf;simp(disch:=omega);exact ad (h _ _ (hs1.putN hb3 _) (ag _ _ _))
 | true=>
  simp(disch:=omega);refine lupS [4,5,6,7,13,14,15,16,17,18,19,20,21,22,23,24,25,26,27,28,29,30,31,32,33,34,35,36,37,38,39,40,41,42,43,44,45,46,47,48,49,50,51,52,53] (fun x:Nat×Bool×List Bool=>[(5,.int .i64 x.1),(4,.bool x.2.1)]) (fun x M'=>x.1<=ws.length/\x.2.2.length=ws.length/\Snd ws x.2.2/\out.count true<=x.2.2.count true/\(x.2.1=true->out.count true<x.2.2.count true)/\(x.2.1=false->∀ j,j<x.1->Cls ws x.2.2 j)/\M'=N1.put b3 (.cells true (bls x.2.2) ws.length)) (fun x=>ws.length-x.1) (0,false,out) ⟨by simp only;omega,hl,hsn,Nat.le_refl _,fun h=>(by cases h),fun _ j hj=>absurd hj (Nat.not_lt_zero j),rfl⟩ ?_
  rintro⟨i,more,ou⟩ M' g1 ⟨hi,hol,hos,hle,hmt,hmf,rfl⟩
  simp only at hi hol hos hle hmt hmf;have hbl:=xA ou;have sN:Sub N1 (N1.put b3 (.cells true (bls ou) ws.length)):=(Sub.refl N1).put hb3 _;have l1:=sN _ _ k1;by_cases hlt:i<ws.length
  ·have hgi:=aT (hget i hlt) sN;have hgr:ws.getD i []=ws[i]:=by rw[getD_eq_getElem?_getD,getElem?_eq_getElem hlt];rfl
   have hrl:=uG hm hlt;have hmB:mtB ws ou i=(ws.getD i []).all fun c=>ou.getD (c.toNat-97) false:=rfl;have hr12:ws[i].length<=12:=(bL hm (getElem_mem hlt)).1;rw[hgr]at hrl hmB;generalize ws[i]=row at *;have hoi:ou[i]?=some ou[i]:=getElem?_eq_getElem (by omega);simp(disch:=omega);refine aQ aR [6,7,19,20,21,22,23,24,25,26,27,28,29,30,31,32,33,34,35,36,37,38,39,40,41,42] (fun j:Nat=>[(7,.int .i64 j),(6,.bool (K3 ou row j))]) (fun j M1=>j<=row.length/\M1=N1.put b3 (.cells true (bls ou) ws.length)) (fun j=>row.length-j) 0 (by kernel_rfl) (by simp(disch:=omega);rfl) ⟨Nat.zero_le _,rfl⟩ ?_
   rintro j M1 g2 ⟨hj,rfl⟩
   by_cases hjl:j<row.length
   ·have hx:row[j]?=some row[j]:=getElem?_eq_getElem hjl;have hat:K3 ou row (j+1)=(K3 ou row j&&ou.getD (row[j].toNat-97) false):=pz row (fun c=>ou.getD (c.toNat-97) false) hjl;have hcl:=hrl _ (getElem_mem hjl);have hk:((row[j].toNat:Int)-97).toNat=row[j].toNat-97:=by omega
    have hu:=row[j].toNat_lt;have hov:(bls ou)[row[j].toNat-97]?=some (.bool (ou.getD (row[j].toNat-97) false)):=by
     rw[DS,getD_eq_getElem?_getD,getElem?_eq_getElem (by omega)];rfl
    generalize ou.getD (row[j].toNat-97) false=fv at *;generalize K3 ou row j=acc at *;cases acc with
    | false=>
     simp(disch:=omega)[aj l1,hgi];exact rndA (j+1) (by simp(disch:=omega)[hat]) ⟨by omega,rfl⟩
    | true=>
     rw[Bool.true_and]at hat;simp(disch:=omega)[aj l1,hgi,hk,atI hov];exact rndA (j+1) (by simp(disch:=omega)[hat]) ⟨by omega,rfl⟩
   ·have hj':j=row.length:=by omega
    subst hj';have hac:K3 ou row row.length=mtB ws ou i:=by rw[hmB];unfold K3;rw[take_length]
    rw[hac];have hov:(bls ou)[i]?=some (.bool ou[i]):=by rw[DS,hoi];rfl
    generalize ou[i]=oi at *;have hnx:Cls ws ou i->more=false->∀ q,q<i+1->Cls ws ou q:=fun hc hm0 q hq=>by
     by_cases h1:q=i
     ·rw[h1];exact hc
     ·exact hmf hm0 q (by omega)
    cases hmt2:mtB ws ou i with
    | false=>
     simp(disch:=omega)[aj l1,hgi];exact rndS (i+1,more,ou) ⟨by simp only;omega,hol,hos,hle,hmt,hnx (fun hh=>by rw[hmt2]at hh;cases hh),rfl⟩
    | true=>
     cases oi with
     | true=>
      simp(disch:=omega)[aj l1,hgi,atI hov];exact rndS (i+1,more,ou) ⟨by simp only;omega,hol,hos,hle,hmt,hnx (fun _=>hoi),rfl⟩
     | false=>
      have hcs:=count_set hoi;have hsn2:=Qc hm hos hlt hoi hmt2;have hbs:=PO ou i true;simp(disch:=omega)[aj l1,hgi,atI hov,hbs];exact rndS (i+1,true,ou.set i true) ⟨by simp only;omega,by simpa using hol,hsn2,by simp only;omega,(fun _=>by simp only;omega),(fun hh=>by cases hh),rfl⟩
  ·have hi':i=ws.length:=by omega
   subst hi';simp(disch:=omega);refine Rnd.mk' (more,ou) ?_ (by (repeat (first|exact km|refine kp rfl ?_|refine km' rfl ?_))) (by simp(disch:=omega)) ⟨hol,hos,hmf,rfl⟩;have hcl2:ou.count true<=ws.length:=by rw[<-hol];exact count_le_length
   cases more with
   | false=>simp[msr];omega
   | true=>
    have:=hmt rfl;simp[msr];omega
theorem Ah(v:Value)(ws:List (List UInt8))(a n:Nat)(M:Mem)(R:VP)(hv:Rd M v (strs ws))(hm:aW ws=true)(hal:a<ws.length)(hn60:n<=60)
  (h:R (.tuple #[str (if HE ws a then grF ws n n [ltr a] else []),.bool (HE ws a)]) M):ar prog 198 [.agg #[v],.int .i64 a,.int .i64 n] M R:=by
 have h15:=aX hm;refine fnS func198 rfl ntmps198 results198 ?_;obtain⟨aa,c,rfl,ha⟩:=hv.opened;rw[ah]at ha hv ⊢;rcases ha with hz|⟨b,o,rfl,ha⟩
 ·omega
 have hg:=ha a hal;rw[bg,getElem?_eq_getElem hal]at hg;have hgr:ws.getD a []=ws[a]:=by rw[getD_eq_getElem?_getD,getElem?_eq_getElem hal];rfl
 rw[<-hgr]at hg;have hg:M.get? b (o+a)=some (str (ws.getD a [])):=hg;have hrl:=uG hm hal;have hrow12:(ws.getD a []).length<=12:=by rw[hgr];exact(bL hm (getElem_mem hal)).1
 have hgrow:=fun u hu hd=>Ex (u:=u) hm hal hu hd;have hok:HE ws a=match ws.getD a [] with
  | []=>false
  | x::u=>x==ltr a && !u.all (dead ws ws.length):=rfl
 obtain⟨row,hrow⟩:∃ row,row=ws.getD a []:=⟨_,rfl⟩;rw[<-hrow]at hg hrl hrow12 hok;have hrn:=zA (i:=a) (by omega);simp(disch:=omega);intro b1 hb1;have hs1:Sub M (M.put b1 (.cells true [.slice (some ⟨b,o,none⟩) ws.length c] 1)):=(Sub.refl M).put hb1 _;have hv1:=hv.put hb1 (.cells true [.slice (some ⟨b,o,none⟩) ws.length c] 1);have k1:(M.put b1 (.cells true [.slice (some ⟨b,o,none⟩) ws.length c] 1)) b1=some (.cells true [.slice (some ⟨b,o,none⟩) ws.length c] 1):=ag _ _ _
 try simp(disch:=omega)
 generalize M.put b1 (.cells true [.slice (some ⟨b,o,none⟩) ws.length c] 1)=N1 at *;simp(disch:=omega)[tR,hrn,aq k1];refine xq _ ws _ _ hv1 hm ?_;intro b2 N2 hs2 k2;have l1:=hs2 _ _ k1;have hg2:=aT hg (hs1.trans hs2);have hv2:=hv1.sub hs2;have hs:=hs1.trans hs2;cases row with
 | nil=>
  rw[hok]at h;simp(disch:=omega)[aj l1,hg2];exact ae hs h
 | cons x u=>
  by_cases hx:x=ltr a
  ·subst hx;simp only[beq_self_eq_true,Bool.true_and]at hok;have hul:u.length<=11:=by simp only[length_cons]at hrow12;omega
   simp(disch:=omega)[aj l1,hg2];refine aQ aR [9,11,34,35,36,37,38,39,40,41,42,43,44,45,46,47,48,49,50,51,52,53,54,55,56,57,58] (fun j:Nat=>[(11,.int .i64 ((j:Int)+1)),(9,.bool (!Ik ws u j))]) (fun j M'=>j<=u.length/\M'=N2) (fun j=>u.length-j) 0 (by kernel_rfl) (by simp(disch:=omega)[Kz]) ⟨Nat.zero_le _,rfl⟩ ?_
   rintro j M' g ⟨hj,rfl⟩
   by_cases hjl:j<u.length
   ·have hat:=Lx ws u hjl;have hcl:=hrl _ (mem_cons_of_mem _ (getElem_mem hjl));have hx1:(ltr a::u)[j+1]?=some u[j]:=by rw[getElem?_cons_succ,getElem?_eq_getElem hjl]
    have hdv:=Mm hcl;have hk:((u[j].toNat:Int)-97).toNat=u[j].toNat-97:=by omega
    have hu:=u[j].toNat_lt;have hdl:(bls (vr ws)).length=ws.length:=by rw[xA,rV]
    have ej:((j:Int)+1).toNat=j+1:=by omega
    generalize dead ws ws.length u[j]=dv at *;generalize Ik ws u j=acc at *;cases acc with
    | false=>
     simp(disch:=omega)[aj l1,hg2];exact rndA (j+1) (by simp(disch:=omega)[hat]) ⟨by omega,rfl⟩
    | true=>
     simp(disch:=omega)[aj l1,hg2,hx1,hk,ej,aj k2,atI hdv];exact rndA (j+1) (by simp(disch:=omega)[hat]) ⟨by omega,rfl⟩
   ·have hj':j=u.length:=by omega
    subst hj';rw[O6];cases hd:u.all (dead ws ws.length) with
    | true=>
     rw[hok,hd]at h;simp(disch:=omega)[aj l1,hg2];exact ae hs h
    | false=>
     rw[hok,hd]at h;simp only[Bool.not_false,if_true]at h;have hgl:=hgrow u hrow.symm hd;simp(disch:=omega)[aj l1,hg2];refine lupS [8,61,62,63,64,65,66,67] (fun x:List UInt8=>[(8,str x)]) (fun x M1=>M1=M'/\x.length<=720/\∃ j f,x=itr ws j [ltr a]/\n<=x.length+f/\grF ws n f x=grF ws n n [ltr a]) (fun x=>n-x.length) [ltr a] ⟨rfl,by simp,0,n,rfl,by omega,rfl⟩ ?_
     rintro x M1 g1 ⟨rfl,hxl,j,f,hx,hnf,he⟩
     have hxt:Lt ws x:=by
      rw[hx];exact IU hm (fun c hc=>by rw[List.mem_singleton.1 hc,gf (by omega)];omega) j
     have hlj:=hgl j;have hnx:aP ws x=itr ws (j+1) [ltr a]:=by rw[hx];rfl
     rw[<-hnx,<-hx]at hlj;by_cases hlt:x.length<n
     ·obtain⟨f,rfl⟩:∃ f',f=f'+1:=⟨f-1,by omega⟩;have he2:grF ws n (f+1) x=grF ws n f (aP ws x):=if_pos hlt;have hil:=iy hm hxt;simp(disch:=omega)[aq l1];refine jX _ ws x _ _ hv2 hm (by omega) hxt ?_;simp(disch:=omega);exact rndS (aP ws x) ⟨rfl,by omega,⟨j+1,hnx⟩,f,by omega,by rw[<-he2];exact he⟩
     ·rw[Jl hlt]at he;rw[<-he]at h;simp(disch:=omega);exact ae hs h
  ·have e4:(x==ltr a)=false:=beq_eq_false_iff_ne.2 hx;simp only[e4,Bool.false_and]at hok;rw[hok]at h;simp(disch:=omega)[aj l1,hg2,e4];exact ae hs h
theorem xj(v:Value)(ws:List (List UInt8))(a n:Int)(M:Mem)(R:VP)(hv:Rd M v (strs ws))(hf:df ws)(hn:ws.length<=1099511627776)(h:R (aD (str (grT ws a n)) (grC ws a n)) M):ar prog 124 [.agg #[v],.int .i64 a,.int .i64 n] M R:=by
 refine fnS func124 rfl ntmps124 results124 ?_;obtain⟨aa,c,rfl,ha⟩:=hv.opened;rw[ah]at ha hv ⊢;simp(disch:=omega);intro b3 hb3;have hs3:Sub M (M.put b3 (.cells true [.slice aa ws.length c] 1)):=(Sub.refl M).put hb3 _;have hv3:=hv.put hb3 (.cells true [.slice aa ws.length c] 1);have k3:(M.put b3 (.cells true [.slice aa ws.length c] 1)) b3=some (.cells true [.slice aa ws.length c] 1):=ag _ _ _;simp(disch:=omega);generalize M.put b3 (.cells true [.slice aa ws.length c] 1)=N1 at *;refine nA _ ws a _ _ hv3 hf hn ?_;have hin:=Fo ws a n 60;unfold grT grC at h;by_cases ht:nj ws a=0
 ·rw[if_pos ht]at hin;rw[ht];simp(disch:=omega);refine bZ _ _ _ _ _ ?_;by_cases hk:0<=n/\n<=60
  ·rw[if_pos hk]at hin;rw[decide_eq_true hk];obtain⟨hm,ha0,ha1,hk0,hk1⟩:=gb hin;rw[if_pos hin,if_pos hin]at h;obtain⟨a,rfl⟩:∃ m:Nat,a=m:=⟨a.toNat,by omega⟩;obtain⟨n,rfl⟩:∃ m:Nat,n=m:=⟨n.toNat,by omega⟩;rw[Int.toNat_natCast,Int.toNat_natCast]at h;simp(disch:=omega)[aq k3];refine Ah _ ws a n _ _ hv3 hm (by omega) (by omega) ?_;cases hok:HE ws a with
   | true=>
    rw[hok]at h;simp only[if_true]at h ⊢;simp(disch:=omega);exact ae hs3 h
   | false=>
    rw[hok]at h;simp(disch:=omega);exact ae hs3 h
  ·rw[if_neg hk]at hin;rw[decide_eq_false hk];rw[hin]at h;simp(disch:=omega);exact ae hs3 h
 ·rw[if_neg ht]at hin;rw[hin,if_neg ht,if_neg ht]at h;have hb:(nj ws a==0)=false:=beq_eq_false_iff_ne.2 ht;generalize nj ws a=code at *;simp(disch:=omega)[hb];exact ae hs3 h
theorem zK(w:List UInt8)(M:Mem)(R:VP)(hl:w.length<=1099511627776)(h:∀ M',Sub M M'->R (aD (str (if isWord w then w.reverse else [])) (aJ w)) M'):ar prog 115 [str w] M R:=by
 unfold aD aJ at h;refine fnS func115 rfl ntmps115 results115 ?_;simp(disch:=omega);refine ba w _ _ hl ?_;cases hw:isWord w
 ·rw[hw]at h;simp(disch:=omega);exact ad (h _ (Sub.refl _))
 ·rw[hw,if_pos rfl,if_pos rfl]at h;have h60:=au hw;simp(disch:=omega);refine kQ w _ _ (by omega) ?_;intro M' s;simp(disch:=omega);exact ad (h _ s)
set_option maxHeartbeats 2000000 in
theorem GL(d:Dk)(v:Value)(c:List UInt8)(M:Mem)(R:VP)(hd:d.ok)(hv:Rd M v (strs d.ms))(h:∀ d' v' t k M',Gv M v d v' d' M'->Got (aM d c) d' t k->R (.tuple #[dkV d' v',str t,.int .i64 k]) M'):ar prog 65 [dkV d v,str c] M R:=by
 have hok:=hd;obtain⟨hw,hp,hm⟩:=hd;have hw60:=au hw;have hp8:=(bK hp).2.1;have hfi:df d.ms:=fun w hw=>by have:=(bL hm hw).1;omega
 have hm5:=(aX hm).2;have hf:=aZ hv;unfold dkV;refine fnS func65 rfl ntmps65 results65 ?_;simp(disch:=omega);intro b1 hb1;have h1:Sub M (M.put b1 (.cells true [str d.w,str d.p,v] 3)):=(Sub.refl M).put hb1 _;simp(disch:=omega);intro b2 hb2;have h2:=hb2;rw[aF]at h2;have sN:=h1.putN hb2 (.cells true [str [],str [],.slice none 0 0] 3);have k1:((M.put b1 (.cells true [str d.w,str d.p,v] 3)).put b2 (.cells true [str [],str [],.slice none 0 0] 3)) b1=some (.cells true [str d.w,str d.p,v] 3):=by rw[ai _ _ (Ne.symm h2.1)];exact ag _ _ _
 have k2:((M.put b1 (.cells true [str d.w,str d.p,v] 3)).put b2 (.cells true [str [],str [],.slice none 0 0] 3)) b2=some (.cells true [str [],str [],.slice none 0 0] 3):=ag _ _ _;generalize (M.put b1 (.cells true [str d.w,str d.p,v] 3)).put b2 (.cells true [str [],str [],.slice none 0 0] 3)=N at *;have hvN:=hv.sub sN;by_cases c0:c=[114,101,118,101,114,115,101]
 ·subst c0;rw[pB]at h;simp(disch:=omega)[aj k1];refine bh (zK d.w _ _ (by omega) fun M3 s3=>⟨s3,?_⟩);unfold aD;simp(disch:=omega)[aq k1];refine bP d v _ _ _ _ hf (by have:=HJ d.w;omega) ?_;intro d2 t2 q2 hms hg;have h:=h d2 v t2 q2 M (.inl ⟨rfl,hms,rfl⟩) hg;unfold dkV at h ⊢;simp(disch:=omega)[k2,al,hf];exact ae (sN.ovr h2.2 _) h
 by_cases c1:c=[99,108,111,115,101]
 ·subst c1;rw[vB]at h;simp(disch:=omega)[aj k1];refine bh (zj d.w _ _ (by omega) fun M3 s3=>⟨s3,?_⟩);unfold aD;simp(disch:=omega)[aq k1];refine bP d v _ _ _ _ hf (by have:=CU d.w;omega) ?_;intro d2 t2 q2 hms hg;have h:=h d2 v t2 q2 M (.inl ⟨rfl,hms,rfl⟩) hg;unfold dkV at h ⊢;simp(disch:=omega)[k2,al,hf];exact ae (sN.ovr h2.2 _) h
 by_cases c2:c=[105,109,97,103,101]
 ·subst c2;rw[vq]at h;simp(disch:=omega)[aq k1,aj k1];refine DE v d.ms d.w _ _ hvN hfi (by omega) (by omega) ?_;unfold aD;simp(disch:=omega)[aq k1];refine bP d v _ _ _ _ hf (by have:=Cz d.ms d.w 1;omega) ?_;intro d2 t2 q2 hms hg;have h:=h d2 v t2 q2 M (.inl ⟨rfl,hms,rfl⟩) hg;unfold dkV at h ⊢;simp(disch:=omega)[k2,al,hf];exact ae (sN.ovr h2.2 _) h
 by_cases c3:c=[98,97,99,107]
 ·subst c3;rw[xv]at h;simp(disch:=omega)[aq k1,aj k1];refine pR v d.ms d.w _ _ hvN hfi (by omega) (by omega) ?_;unfold aD;simp(disch:=omega)[aq k1];refine bP d v _ _ _ _ hf (by have:=B9 d.ms d.w;omega) ?_;intro d2 t2 q2 hms hg;have h:=h d2 v t2 q2 M (.inl ⟨rfl,hms,rfl⟩) hg;unfold dkV at h ⊢;simp(disch:=omega)[k2,al,hf];exact ae (sN.ovr h2.2 _) h
 by_cases c4:c=[114,101,115,101,116]
 ·subst c4;rw[uY]at h;simp(disch:=omega)[aj k1];refine nR _ _ ?_;intro x M3 o3;rcases o3 with ⟨_,e,_⟩|⟨b3,c3,rfl,hb3,hc3,rfl⟩
  ·cases e
  ·have n3:b3≠b2:=by rintro rfl;rw[k2]at hb3;cases hb3
   have o4:Own M (.slice (some ⟨b3,0,none⟩) (strs [[97,98],[97]]).length c3) (strs eU.ms) (M.put b3 (.cells true (strs [[97,98],[97]]) c3)):=.inr ⟨b3,c3,rfl,bM sN hb3,hc3,rfl⟩;have s4:=(sN.both b3 (.cells true (strs [[97,98],[97]]) c3)).ovr (b:=b2) (by rw[ai _ _ (Ne.symm n3)];exact h2.2);have k3:(N.put b3 (.cells true (strs [[97,98],[97]]) c3)) b2=some (.cells true [str [],str [],.slice none 0 0] 3):=by rw[ai _ _ (Ne.symm n3)];exact k2
   have h:=h eU _ [111,107] 0 _ (.inr o4) rfl;generalize N.put b3 (.cells true (strs [[97,98],[97]]) c3)=N3 at *;generalize (strs [[97,98],[97]]).length=n at *;unfold dkV eU at h;unfold AV;simp(disch:=omega)[k3,al];exact ae (s4 _) h
 simp(disch:=omega)[aq k1,aj k1,beq_eq_false_iff_ne.2 c0,beq_eq_false_iff_ne.2 c1,beq_eq_false_iff_ne.2 c2,beq_eq_false_iff_ne.2 c3,beq_eq_false_iff_ne.2 c4];refine Ms d v c _ _ hok hvN c0 c1 c2 c3 c4 ?_;intro t k M3 s3 hg;have h:=h d v t k M (.inl ⟨rfl,rfl,rfl⟩) hg;have k1':=s3 _ _ k1;have k2':=s3 _ _ k2;unfold dkV at h;simp(disch:=omega)[k2',aq k1',al,hf];exact ae ((sN.trans s3).ovr h2.2 _) h
set_option maxHeartbeats 2000000 in
theorem oG(d:Dk)(v:Value)(c:List UInt8)(a b:Int)(M:Mem)(R:VP)(hd:d.ok)(hv:Rd M v (strs d.ms))(ha:0<=a/\a<=1000000000)(hb:0<=b/\b<=1000000000)(h:∀ d' v' t k M',Gv M v d v' d' M'->Got (gn d c a b) d' t k->R (.tuple #[dkV d' v',str t,.int .i64 k]) M'):ar prog 68 [dkV d v,str c,.int .i64 a,.int .i64 b] M R:=by
 obtain⟨hw,hp,hm⟩:=hd;have hw60:=au hw;have hp8:=(bK hp).2.1;have hfi:df d.ms:=fun w hw=>by have:=(bL hm hw).1;omega
 have hm5:=(aX hm).2;have hf:=aZ hv;unfold dkV;refine fnS func68 rfl ntmps68 results68 ?_;simp(disch:=omega);intro b1 hb1;have h1:Sub M (M.put b1 (.cells true [str d.w,str d.p,v] 3)):=(Sub.refl M).put hb1 _;simp(disch:=omega);intro b2 hb2;have h2:=hb2;rw[aF]at h2;have sN:=h1.putN hb2 (.cells true [str [],str [],.slice none 0 0] 3);have k1:((M.put b1 (.cells true [str d.w,str d.p,v] 3)).put b2 (.cells true [str [],str [],.slice none 0 0] 3)) b1=some (.cells true [str d.w,str d.p,v] 3):=by rw[ai _ _ (Ne.symm h2.1)];exact ag _ _ _
 have k2:((M.put b1 (.cells true [str d.w,str d.p,v] 3)).put b2 (.cells true [str [],str [],.slice none 0 0] 3)) b2=some (.cells true [str [],str [],.slice none 0 0] 3):=ag _ _ _;generalize (M.put b1 (.cells true [str d.w,str d.p,v] 3)).put b2 (.cells true [str [],str [],.slice none 0 0] 3)=N at *;have hvN:=hv.sub sN;by_cases c0:c=[99,117,116]
 ·subst c0;rw[Ko]at h;simp(disch:=omega)[aj k1];refine Al d.w a b _ _ (by omega) (by omega) (by omega) ?_;unfold aD;simp(disch:=omega)[aq k1];refine bP d v _ _ _ _ hf (by have:=Ip d.w a b;omega) ?_;intro d2 t2 q2 hms hg;have h:=h d2 v t2 q2 M (.inl ⟨rfl,hms,rfl⟩) hg;unfold dkV at h ⊢;simp(disch:=omega)[k2,al,hf];exact ae (sN.ovr h2.2 _) h
 by_cases c1:c=[100,111,117,98,108,101]
 ·subst c1;rw[za]at h;simp(disch:=omega);refine bh (wm a b _ _ fun M3 s3=>⟨s3,?_⟩);simp(disch:=omega)[aq k1];refine bP d v _ _ _ _ hf (by have:=I4 a b;omega) ?_;intro d2 t2 q2 hms hg;have h:=h d2 v t2 q2 M (.inl ⟨rfl,hms,rfl⟩) hg;unfold dkV at h ⊢;simp(disch:=omega)[k2,al,hf];exact ae (sN.ovr h2.2 _) h
 by_cases c2:c=[103,114,111,119]
 ·subst c2;rw[Ej]at h;simp(disch:=omega)[aq k1];refine xj v d.ms a b _ _ hvN hfi (by omega) ?_;unfold aD;simp(disch:=omega)[aq k1];refine bP d v _ _ _ _ hf (by have:=Oq d.ms a b;omega) ?_;intro d2 t2 q2 hms hg;have h:=h d2 v t2 q2 M (.inl ⟨rfl,hms,rfl⟩) hg;unfold dkV at h ⊢;simp(disch:=omega)[k2,al,hf];exact ae (sN.ovr h2.2 _) h
 by_cases c3:c=[115,108,111,112,101]
 ·subst c3;rw[AK]at h;simp(disch:=omega);refine uu a b _ _ ?_;unfold aD;simp(disch:=omega)[aq k1];refine bP d v _ _ _ _ hf (by have:=Ib a b;omega) ?_;intro d2 t2 q2 hms hg;have h:=h d2 v t2 q2 M (.inl ⟨rfl,hms,rfl⟩) hg;unfold dkV at h ⊢;simp(disch:=omega)[k2,al,hf];exact ae (sN.ovr h2.2 _) h
 by_cases c4:c=[108,101,110,103,116,104,115]
 ·subst c4;rw[uO]at h;simp(disch:=omega)[aq k1];refine sJ v d.ms a b _ _ hvN hfi (by omega) ?_;intro x M3 o3;have r3:=o3.rd;have s3:=o3.sub;have k1:=s3 _ _ k1;have k2:=s3 _ _ k2;have sN:=sN.trans s3;simp(disch:=omega);refine plyS (ak [0,1,3] (.one 2 1 (.one 4 2 (ak [5,6] .fin)))) ?_;simp(disch:=omega)[aq k1];refine fb x (nI (iQ d.ms a b)) _ _ (by rw[<-Jm];exact r3) (yv d.ms a b) ?_;have h:=h d v _ _ M (.inl ⟨rfl,rfl,rfl⟩) rfl;unfold dkV at h;simp(disch:=omega)[k2,al,hf];exact ae (sN.ovr h2.2 _) h
 by_cases c5:c=[112,97,116,104]
 ·subst c5;rw[GQ]at h;simp(disch:=omega);refine EX a b _ _ ?_;unfold aD;simp(disch:=omega);refine plyS (ak [0,1,3] (.one 2 1 (.one 4 2 (ak [5,6] .fin)))) ?_;simp(disch:=omega)[aq k1];refine bI (Ce a b) _ _ (by have:=Hc a b;omega) ?_;have h:=h d v _ _ M (.inl ⟨rfl,rfl,rfl⟩) rfl;unfold dkV at h;simp(disch:=omega)[k2,al,hf];exact ae (sN.ovr h2.2 _) h
 by_cases c6:c=[97,118,111,105,100]
 ·subst c6;rw[BJ]at h;simp(disch:=omega)[aj k1];refine qA d.p a b _ _ (by omega) ?_;unfold aD;simp(disch:=omega);refine plyS (ak [0,1,3] (.one 2 1 (.one 4 2 (ak [5,6] .fin)))) ?_;simp(disch:=omega)[aq k1];refine bI (firstT d.p a b) _ _ (by have:=y8 d.p a b;omega) ?_;have h:=h d v _ _ M (.inl ⟨rfl,rfl,rfl⟩) rfl;unfold dkV at h;simp(disch:=omega)[k2,al,hf];exact ae (sN.ovr h2.2 _) h
 by_cases c7:c=[99,111,117,110,116]
 ·subst c7;rw[Bg]at h;simp(disch:=omega)[aj k1];refine pY d.p a b _ _ (by omega) ?_;unfold aD;simp(disch:=omega);refine plyS (ak [0,1,3] (.one 2 1 (.one 4 2 (ak [5,6] .fin)))) ?_;simp(disch:=omega)[aq k1];refine fx _ _ _ (HV d.p a b) ?_;have h:=h d v _ _ M (.inl ⟨rfl,rfl,rfl⟩) rfl;unfold dkV at h;simp(disch:=omega)[k2,al,hf];exact ae (sN.ovr h2.2 _) h
 rw[MN d c a b c0 c1 c2 c3 c4 c5 c6 c7]at h;simp(disch:=omega)[aq k1,k2,al,hf,beq_eq_false_iff_ne.2 c0,beq_eq_false_iff_ne.2 c1,beq_eq_false_iff_ne.2 c2,beq_eq_false_iff_ne.2 c3,beq_eq_false_iff_ne.2 c4,beq_eq_false_iff_ne.2 c5,beq_eq_false_iff_ne.2 c6,beq_eq_false_iff_ne.2 c7];have h:=h d v [] 6 M (.inl ⟨rfl,rfl,rfl⟩) rfl;exact ae (sN.ovr h2.2 _) h
end Go.Proofs.YtapimhjbilkfpaaGreatDoor
