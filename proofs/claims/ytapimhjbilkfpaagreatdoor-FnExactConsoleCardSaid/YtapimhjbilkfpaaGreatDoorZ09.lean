/- Lemmas for FnExactDeskAfter, part 10 of 33. -/
import Derived.Test.YtapimhjbilkfpaaGreatDoorZ08
import Derived.Lib.Bytealg
set_option linter.unusedVariables false
set_option linter.unusedSimpArgs false
namespace Go.Proofs.YtapimhjbilkfpaaGreatDoor
open Go Go.Proofs.Tryz List
theorem fS(v:B8)(q:Nat)(qi:Int)(hqi:qi=q)(M:Mem)(R:VP)(hl:v.length<=60)(hq:q<=v.length)(h:R (.bool (hp v q)) M):ar prog 383 [str v,.int .i64 qi] M R:=by
 subst hqi;refine fnS func383 rfl ntmps383 results383 ?_;have e:(v.length:Int)-q=((v.length-q:Nat):Int):=by omega
 simp(disch:=omega);refine drwS ?_;simp(disch:=omega)[e];exact ad h
theorem Br(w:B8)(k:Nat)(M:Mem)(R:VP)(hl:w.length<=60)(hk:1<=k)(hk':k<=60)
  (h:∀ v rs N M',cu M rs (el (pwP w k) w.length k w.length) N->Own N v rs M'->R v M'):ar prog 391 [str w,.int .i64 k] M R:=by
 refine fnS func391 rfl ntmps391 results391 ?_;simp(disch:=omega);refine lupS (rlA [5,6,7] 10 30) (fun x:Nat×List Value×Value=>[(10,.int .i64 x.1),(5,x.2.2)]) (fun x M'=>x.1<=w.length/\∃ N,cu M x.2.1 (el (pwP w k) w.length k x.1) N/\Own N x.2.2 x.2.1 M') (fun x=>w.length-x.1) (0,[],.slice none 0 0) ⟨by simp,M,.nil,Own.nil _⟩ ?_
 rintro⟨i,rs,v⟩ M' g ⟨hi,N,hr,ho⟩
 simp only at hi hr ho;by_cases hlt:i<w.length
 ·simp(disch:=omega);refine lupS (rlA [5,7] 13 26) (fun x:Nat×List Value×Value=>[(7,.int .i64 (x.1+1)),(5,x.2.2)]) (fun x M1=>x.1<=(w.length-i)/k/\∃ N,cu M x.2.1 (el (pwP w k) w.length k i++nR (pwP w k) i x.1) N/\Own N x.2.2 x.2.1 M1) (fun x=>(w.length-i)/k-x.1) (0,rs,v) ⟨by simp,N,by simpa[nR] using hr,ho⟩ ?_
  rintro⟨q,rs1,v1⟩ M1 g1 ⟨hq,N1,hr1,ho1⟩
  simp only at hq hr1 ho1;have hdiv:(w.length-i)/k<=w.length:=Nat.le_trans (Nat.div_le_self _ _) (Nat.sub_le _ _);obtain⟨p,hpp⟩:∃ p,p=k*(q+1):=⟨_,rfl⟩;have hp':p<=60*61:=by rw[hpp];exact Nat.mul_le_mul hk' (by omega)
  have e2:(k:Int)*(q+1)=p:=by rw[hpp];push_cast;rfl
  have hqp:q+1<=p:=by rw[hpp];exact Nat.le_mul_of_pos_left _ hk
  have hiff:=OA (w:=w) (i:=i) (q:=q) hk hi;rw[<-hpp]at hiff;by_cases hqlt:q<(w.length-i)/k
  ·have hle:=hiff.2 hqlt;have hle':(i:Int)+p<=w.length:=by omega
   have hseg:=ga (w:=w) (a:=i) (m:=p);have hsl:=eB (w:=w) (a:=i) (m:=p) hle;have hq1:((q:Int)+1)=((q+1:Nat):Int):=by push_cast;rfl
   simp(disch:=omega)[e2,hle']
   try simp only[hseg]
   refine fS (seg w i p) (q+1) _ hq1 _ _ (by omega) (by omega) ?_;rw[show hp (seg w i p) (q+1)=pwP w k i (q+1) by unfold pwP;rw[hpp]];cases hab:pwP w k i (q+1)
   ·simp(disch:=omega);refine rndS (q+1,rs1,v1) ⟨by simp only;omega,N1,?_,ho1⟩;simp only;rw[zm,hab];simpa using hr1
   ·simp(disch:=omega);intro b1 hb1;simp(disch:=omega);intro b2 hb2;simp(disch:=omega);obtain⟨hr2,ho2⟩:=O4 hr1 ho1 hb1 [(i:Int),((q+1:Nat):Int)] 2 2 rfl (lRf 2);have hlr:=hr1.len;have hcount:=BT (pwP w k) i q;have hcount2:=JQ (pwP w k) w.length k i;have hcount3:i*w.length<=60*60:=Nat.mul_le_mul (by omega) hl;rw[lAp]at hlr;refine aN ho2 ((Sub.refl _).put hb2 _) (by simp(disch:=omega);rfl) rfl rfl (by omega) (by simp(disch:=omega)) (by simp(disch:=omega);omega) ?_;intro v' M'' N'' ho' hs';simp(disch:=omega);refine rndM M'' (q+1,_,v') hs' ⟨by simp only;omega,_,?_,ho'⟩;simp only;rw[zm,hab,if_pos rfl,<-append_assoc];exact hr2
  ·have hle':¬(i:Int)+p<=w.length:=by intro hc;exact hqlt (hiff.1 (by omega))
   have hq':q=(w.length-i)/k:=by omega
   simp(disch:=omega)[e2,hle'];refine rndS (i+1,rs1,v1) ⟨by simp only;omega,N1,?_,ho1⟩;simp only;rw[wk,<-hq'];exact hr1
 ·have hi':i=w.length:=by omega
  subst hi';simp(disch:=omega);exact ad (h _ _ _ _ hr ho)
theorem tx(w:B8)(M:Mem)(R:VP)(hl:w.length<=60)(h:R (.bool (!mG w)) M):ar prog 339 [str w] M R:=by
 refine fnS func339 rfl ntmps339 results339 ?_;simp(disch:=omega);refine Br w 2 _ _ hl (by omega) (by omega) ?_;intro v rs N M' hr ho;have hlen:=hr.len;obtain⟨a,c,rfl,_⟩:=ho.rd.opened;have e:((rs.length:Int)==0) = !mG w:=by
  rw[<-Na,hlen];cases el (pwP w 2) w.length 2 w.length with
  | nil=>rfl
  | cons a l=>exact bNe.2 (by simp;omega)
 simp(disch:=omega)[e];exact ae (hr.sub.trans ho.sub) h
theorem BA(w:B8)(M:Mem)(R:VP)(hl:w.length<=60)(h:R (.bool (!dz w)) M):ar prog 390 [str w] M R:=by
 refine fnS func390 rfl ntmps390 results390 ?_;simp(disch:=omega);refine lupS (rlA [] 2 18) (fun q:Nat=>[(3,.int .i64 (q+1))]) (fun q M'=>M'=M/\q<=w.length/2/\eJ w q=false) (fun q=>w.length/2-q) 0 ⟨rfl,by omega,rfl⟩ ?_
 rintro q M' g ⟨rfl,hq,hno⟩
 by_cases hlt:q<w.length/2
 ·have hle':(2:Int)*(q+1)<=w.length:=by omega
  have e1:(w.length:Int)-2*(q+1)=((w.length-2*(q+1):Nat):Int):=by omega
  have e2:((w.length:Int)-2*(q+1)).toNat=w.length-2*(q+1):=by omega
  have hs:=pJ w q;simp(disch:=omega)[hle',e2];refine fS _ (q+1) _ (by push_cast;rfl) _ _ (by rw[length_drop];omega) (by rw[length_drop];omega) ?_;cases hh:hp (w.drop (w.length-2*(q+1))) (q+1)
  ·rw[hno,hh]at hs;simp(disch:=omega);exact rndS (q+1) ⟨rfl,by omega,hs⟩
  ·rw[show dz w=true from tI hlt hh]at h;simp(disch:=omega);exact ad h
 ·have hle':¬(2:Int)*(q+1)<=w.length:=by omega
  have hq':q=w.length/2:=by omega
  rw[show dz w=eJ w (w.length/2) from rfl,<-hq',hno]at h;simp(disch:=omega)[hle'];exact ad h
theorem nq(w:B8)(M:Mem)(R:VP)(hl:w.length<=60)(h:R (.bool (dz w)) M):ar prog 358 [str w] M R:=by
 refine fnS func358 rfl ntmps358 results358 ?_;simp(disch:=omega);refine lupS (rlA [] 2 27) (fun q:Nat=>[(3,.int .i64 (q+1))]) (fun q M'=>M'=M/\q<=w.length/2/\eJ w q=false) (fun q=>w.length/2-q) 0 ⟨rfl,by omega,rfl⟩ ?_
 rintro q M' g ⟨rfl,hq,hno⟩
 by_cases hlt:q<w.length/2
 ·have hle':(2:Int)*(q+1)<=w.length:=by omega
  have e1:((w.length:Int)-(q+1)).toNat=w.length-(q+1):=by omega
  have e2:((w.length:Int)-2*(q+1)).toNat=w.length-2*(q+1):=by omega
  have hs:=pJ w q;have hsq:=V9 (u:=w) (q:=q+1) (by omega);simp(disch:=omega)[hle'];refine drwS ?_;simp(disch:=omega)[e1,e2,hsq];cases hh:hp (w.drop (w.length-2*(q+1))) (q+1)
  ·rw[hno,hh]at hs;simp(disch:=omega);exact rndS (q+1) ⟨rfl,by omega,hs⟩
  ·rw[show dz w=true from tI hlt hh]at h;simp(disch:=omega);exact ad h
 ·have hle':¬(2:Int)*(q+1)<=w.length:=by omega
  have hq':q=w.length/2:=by omega
  rw[show dz w=eJ w (w.length/2) from rfl,<-hq',hno]at h;simp(disch:=omega)[hle'];exact ad h
def Eb(w:B8)(n:Nat):Bool:=(range n).any fun m=>dz (w.take m)
theorem va(w:B8)(n:Nat):Eb w (n+1)=(Eb w n||dz (w.take n)):=by simp[Eb,range_succ]
theorem OR(w:B8):Eb w 2=false:=by
 have h:∀ n,n<2->dz (w.take n)=false:=fun n hn=>by
  unfold dz;rw[show (w.take n).length/2=0 by rw[lTa];omega];rfl
 rw[show (2:Nat)=0+1+1 from rfl,va,va,h 0 (by omega),h 1 (by omega)];rfl
theorem F9{w:B8}{n m:Nat}(h:n<m)(hh:dz (w.take n)=true):Eb w m=true:=by
 unfold Eb;rw[any_eq_true];exact⟨n,List.mem_range.2 h,hh⟩
theorem FU(w:B8)(M:Mem)(R:VP)(hl:w.length<=60)(h:R (.bool (mG w)) M):ar prog 357 [str w] M R:=by
 refine fnS func357 rfl ntmps357 results357 ?_;rw[Nv]at h;simp(disch:=omega);refine lupS (rlA [] 2 12) (fun n:Nat=>[(3,.int .i64 n)]) (fun n M'=>M'=M/\2<=n/\(n<=w.length+1\/n=2)/\Eb w n=false) (fun n=>w.length+2-n) 2 ⟨rfl,by omega,by omega,OR w⟩ ?_
 rintro n M' g ⟨rfl,hn2,hn,hno⟩
 by_cases hlt:n<=w.length
 ·have hs:=va w n;simp(disch:=omega);refine nq _ _ _ (by rw[lTa];omega) ?_;cases hh:dz (w.take n)
  ·rw[hno,hh]at hs;simp(disch:=omega);exact rndS (n+1) ⟨rfl,by omega,by omega,hs⟩
  ·rw[show (range (w.length+1)).any (fun n=>dz (w.take n))=true from F9 (by omega) hh]at h;simp(disch:=omega);exact ad h
 ·have hno':(range (w.length+1)).any (fun n=>dz (w.take n))=false:=by
   cases hh:Eb w (w.length+1) with
   | false=>exact hh
   | true=>
    unfold Eb at hh;obtain⟨m,hm,h2⟩:=List.any_eq_true.1 hh;have:=List.mem_range.1 hm;rw[F9 (m:=n) (by omega) h2]at hno;cases hno
  rw[hno']at h;simp(disch:=omega);exact ad h
theorem ya{S:Type}(k n:Nat)(hk:k<=5)(hn:n<=50)(fv:Value)(step:S->B8->S×Bool)(J:S->Mem->Prop)(ht:∀ s w M R,w.length=n->Lt0 k w->J s M->(∀ M',J (step s w).1 M'->R (.bool (step s w).2) M')->fq prog fv [str w] R M) :
  ∀(d:Nat) (w:B8) (s:S) (M:Mem) (R:VP),w.length+d=n->Lt0 k w->J s M->(∀ M',J (bT step s (grL k d w)).1 M'->R (.bool (bT step s (grL k d w)).2) M')->ar prog 337 [str w,.int .i64 n,.int .i64 k,fv] M R
 | 0,w,s,M,R,hd,hlt0,hJ,h=>by
  have hb:((w.length:Int)==n)=true:=by rw[beq_iff_eq];omega
  unfold grL at h;rw[zd]at h;refine fnS func337 rfl ntmps337 results337 ?_;simp(disch:=omega);refine bY w _ _ (by omega) ?_;simp(disch:=omega)[hb];refine ht s w _ _ (by omega) hlt0 hJ fun M' hM'=>?_;simp(disch:=omega);exact ad (h M' hM')
 | d+1,w,s,M,R,hd,hlt0,hJ,h=>by
  have hb:((w.length:Int)==n)=false:=bNe.2 (by omega);refine fnS func337 rfl ntmps337 results337 ?_;simp(disch:=omega);refine bY w _ _ (by omega) ?_;simp(disch:=omega)[hb];refine lupS (rlA [8,9,10] 19 17) (fun i:Nat=>[(19,.int .i64 i)]) (fun i M'=>i<=k/\J (bT step s (grN k d w i)).1 M'/\(bT step s (grN k d w i)).2=false) (fun i=>k-i) 0 ⟨by omega,by rw[Fh,mY];exact hJ,by rw[Fh,mY]⟩ ?_
  rintro i M' g ⟨hi,hM',hno⟩
  have hs:=FV k d w i;by_cases hlt:i<k
  ·simp(disch:=omega);refine cS i _ _ (by omega) ?_;simp(disch:=omega);have hl':(w++[ltr i]).length=w.length+1:=by simp
   refine BA _ _ _ (by omega) ?_;unfold grS at hs;cases he:dz (w++[ltr i])
   ·rw[he,if_neg (by decide)]at hs;simp(disch:=omega);refine ya k n hk hn fv step J ht d (w++[ltr i]) (bT step s (grN k d w i)).1 _ _ (by omega) (Fi hlt0 hlt (by omega)) hM' fun M2 hM2=>?_;rw[<-tk hno,<-hs]at hM2;have hrun:bT step (bT step s (grN k d w i)).1 (grL k d (w++[ltr i]))=bT step s (grN k d w (i+1)):=by rw[hs,tk hno]
    rw[hrun];cases hr:(bT step s (grN k d w (i+1))).2
    ·simp(disch:=omega);exact rndS (i+1) ⟨by omega,hM2,hr⟩
    ·obtain⟨rest,hrest⟩:=Cq k d w (i:=i+1) (by omega);rw[hrest,uJ hr,hr]at h;simp(disch:=omega);exact ad (h M2 hM2)
   ·rw[he,if_pos rfl,append_nil]at hs;simp(disch:=omega);exact rndS (i+1) ⟨by omega,by rw[hs];exact hM',by rw[hs];exact hno⟩
  ·have hi':i=k:=by omega
   rw[hi']at hM' hno;rw[E4 k d w,hno]at h;simp(disch:=omega);exact ad (h M' hM')
theorem vz{l r:List B8}{p:B8->Bool}{u:B8}(h:l.find? p=some u):(l++r).find? p=some u:=by rw[find?_append,h];rfl
theorem vx{l r:List B8}{p:B8->Bool}(h:l.find? p=none):(l++r).find? p=r.find? p:=by rw[find?_append,h];rfl
def sqI(ws:List B8)(u:B8):Bool:=mG (aQ ws u)
def fnd(ws:List B8)(l:List B8):Option B8:=l.find? (sqI ws)
theorem Sm(ws:List B8)(u:B8):fnd ws [u]=if sqI ws u then some u else none:=by
 unfold fnd;rw[find?_cons];cases sqI ws u<;>rfl
theorem qj(v:Value)(ws:List B8)(n:Nat)(hm:aY ws=true)(hn:n<=5):∀(d:Nat) (w:B8) (M:Mem) (R:VP),Rd M v (strs ws)->w.length+d=n->Lt0 ws.length w->(∀ u,fnd ws (grL ws.length d w)=some u->R (.tuple #[str u,.bool true]) M)->(fnd ws (grL ws.length d w)=none->∀ x,R (.tuple #[str x,.bool false]) M) ->
  ar prog 276 [.agg #[v],str w,.int .i64 n] M R
 | 0,w,M,R,hv,hd,hL,h1,h0=>by
  have hb:((w.length:Int)==n)=true:=by rw[beq_iff_eq];omega
  have hil:=iN hm (l:=w) hL;unfold grL at h1 h0;rw[Sm]at h1 h0;obtain⟨a,c,rfl,ha⟩:=hv.opened;rw[ah]at hv ⊢;refine fnS func276 rfl ntmps276 results276 ?_;simp(disch:=omega);intro b3 hb3;have hv3:=hv.put hb3 (.cells true [.slice a ws.length c] 1);have hs3:=(Sub.refl M).put hb3 (.cells true [.slice a ws.length c] 1);simp(disch:=omega)[hb];refine kL _ ws w _ _ hv3 hm (by omega) hL ?_;simp(disch:=omega);refine FU _ _ _ (by omega) ?_;unfold sqI at h1 h0;cases hq:mG (aQ ws w)
  ·rw[hq]at h0;simp(disch:=omega);exact ae hs3 (h0 rfl w)
  ·rw[hq]at h1;simp(disch:=omega);exact ae hs3 (h1 w rfl)
 | d+1,w,M,R,hv,hd,hL,h1,h0=>by
  have hb:((w.length:Int)==n)=false:=bNe.2 (by omega);have h15:=aV hm;obtain⟨a,c,rfl,ha⟩:=hv.opened;rw[ah]at hv ⊢;refine fnS func276 rfl ntmps276 results276 ?_;simp(disch:=omega);intro b3 hb3;have hv3:=hv.put hb3 (.cells true [.slice a ws.length c] 1);have hs3:=(Sub.refl M).put hb3 (.cells true [.slice a ws.length c] 1);have k3:(M.put b3 (.cells true [.slice a ws.length c] 1)) b3=some (.cells true [.slice a ws.length c] 1):=ag _ _ _;simp(disch:=omega)[hb];generalize M.put b3 (.cells true [.slice a ws.length c] 1)=N at *;refine lupS (rlA [6,7,8,9,10,11] 21 24) (fun i:Nat=>[(8,.int .i64 i)]) (fun i M'=>M'=N/\i<=ws.length/\fnd ws (grN ws.length d w i)=none) (fun i=>ws.length-i) 0 ⟨rfl,by omega,rfl⟩ ?_
  rintro i M' g ⟨rfl,hi,hno⟩
  have hs:=FV ws.length d w i;by_cases hlt:i<ws.length
  ·have hr:=zc (i:=i) (by omega);have hl':(w++[ltr i]).length=w.length+1:=by simp
   simp(disch:=omega)[al k3,uP,hr];refine nq _ _ _ (by omega) ?_;unfold grS at hs;cases he:dz (w++[ltr i])
   ·rw[he,if_neg (by decide)]at hs;have hfs:fnd ws (grN ws.length d w (i+1))=fnd ws (grL ws.length d (w++[ltr i])):=by
     rw[hs];exact vx hno
    simp(disch:=omega)[aq k3];refine qj _ ws n hm hn d (w++[ltr i]) _ _ hv3 (by omega) (Fi hL hlt (by omega)) ?_ ?_
    ·intro u hu;obtain⟨rest,hrest⟩:=Cq ws.length d w (i:=i+1) (by omega);have:=h1 u (by rw[hrest];exact vz (by rw[<-hu,<-hfs];rfl));simp(disch:=omega);exact ae hs3 this
    ·intro hnn x;simp(disch:=omega);exact rndS (i+1) ⟨rfl,by omega,by rw[hfs];exact hnn⟩
   ·rw[he,if_pos rfl,append_nil]at hs;simp(disch:=omega);exact rndS (i+1) ⟨rfl,by omega,by rw[hs];exact hno⟩
  ·have hi':i=ws.length:=by omega
   rw[hi']at hno;simp(disch:=omega)[al k3];exact ae hs3 (h0 (by rw[E4];exact hno) [])
def pV(ws:List B8):B8:=if kS ws=0 then (if jH ws<=5 then (match jn ws (jH ws+1) with|some u=>u|none=>[]) else []) else []
def Ah(ws:List B8):Int:=if kS ws=0 then (if jH ws<=5 then (match jn ws (jH ws+1) with|some _=>0|none=>4) else 3) else kS ws
theorem Ki{ws:List B8}(h:kS ws=0):aY ws=true/\jH ws≠0:=by
 unfold kS at h;split at h
 ·rename_i h1;split at h
  ·cases h
  ·rename_i h2;exact⟨h1,h2⟩
 ·cases h
theorem mK(v:Value)(ws:List B8)(M:Mem)(R:VP)(hv:Rd M v (strs ws))(hf:cP ws)(hn:ws.length<=1099511627776)(h:R (aE (str (pV ws)) (Ah ws)) M):ar prog 189 [.agg #[v]] M R:=by
 refine fnS func189 rfl ntmps189 results189 ?_;obtain⟨a,c,rfl,ha⟩:=hv.opened;rw[ah]at hv ⊢;simp(disch:=omega);intro b1 hb1;have hs1:Sub M (M.put b1 (.cells true [.slice a ws.length c] 1)):=(Sub.refl M).put hb1 _;have hv1:=hv.put hb1 (.cells true [.slice a ws.length c] 1);have k1:(M.put b1 (.cells true [.slice a ws.length c] 1)) b1=some (.cells true [.slice a ws.length c] 1):=ag _ _ _;simp(disch:=omega);generalize M.put b1 (.cells true [.slice a ws.length c] 1)=N at *;refine fA _ ws _ _ hv1 hf hn ?_;unfold pV Ah kS at h;cases hm:aY ws
 ·rw[hm]at h;simp(disch:=omega);exact ae hs1 h
 ·rw[hm,if_pos rfl]at h;simp(disch:=omega)[aq k1];refine EK _ ws _ _ hv1 hm ?_;generalize jH ws=r at *;by_cases h0:r=0
  ·subst h0;simp(disch:=omega);exact ae hs1 h
  ·have h0':((r:Int)==0)=false:=bNe.2 (by omega);rw[if_neg h0,if_pos rfl,if_pos rfl]at h;by_cases h5:r<=5
   ·have h5':¬(5:Int)<r:=by omega
    rw[if_pos h5,if_pos h5]at h;simp(disch:=omega)[h0',h5'];refine lupS (rlA [2,3,5,6,7] 19 13) (fun m:Nat=>[(5,.int .i64 m)]) (fun m M'=>M'=N/\m<=r+1/\jn ws m=none) (fun m=>r+1-m) 0 ⟨rfl,by omega,rfl⟩ ?_
    rintro m M' g ⟨rfl,hmr,hno⟩
    have hs:=wA ws m;rw[hno,Option.none_or]at hs;by_cases hlt:m<=r
    ·simp(disch:=omega)[aq k1];refine qj _ ws m hm (by omega) m [] _ _ hv1 (by simp) (Le _) ?_ ?_
     ·intro u hu;rw[z7 (m:=r+1) (by omega) hno (show uj ws m []=some u from hu)]at h;simp(disch:=omega);exact ae hs1 h
     ·intro hnn x;simp(disch:=omega);exact rndS (m+1) ⟨rfl,by omega,by rw[hs];exact hnn⟩
    ·have hm':m=r+1:=by omega
     rw[<-hm',hno]at h;simp(disch:=omega);exact ae hs1 h
   ·have h5':(5:Int)<r:=by omega
    rw[if_neg h5,if_neg h5]at h;simp(disch:=omega)[h0',h5'];exact ae hs1 h
theorem mL(v:Value)(ws:List B8)(M:Mem)(R:VP)(hv:Rd M v (strs ws))(hf:cP ws)(hn:ws.length<=1099511627776)(h:R (aE (str (pV ws)) (Ah ws)) M):ar prog 247 [.agg #[v]] M R:=by
 refine fnS func247 rfl ntmps247 results247 ?_;obtain⟨a,c,rfl,ha⟩:=hv.opened;rw[ah]at hv ⊢;simp(disch:=omega);intro b1 hb1;have hs1:Sub M (M.put b1 (.cells true [.slice a ws.length c] 1)):=(Sub.refl M).put hb1 _;have hv1:=hv.put hb1 (.cells true [.slice a ws.length c] 1);have k1:(M.put b1 (.cells true [.slice a ws.length c] 1)) b1=some (.cells true [.slice a ws.length c] 1):=ag _ _ _;simp(disch:=omega);generalize M.put b1 (.cells true [.slice a ws.length c] 1)=N at *;refine wK _ ws _ _ hv1 hf hn ?_;unfold pV Ah at h;have hT:LO ws=if kS ws=0 then jH ws else 0:=by
  unfold LO kS;cases aY ws
  ·rfl
  ·by_cases h0:jH ws=0
   ·simp[h0]
   ·simp[h0]
 by_cases hc:kS ws=0
 ·obtain⟨hm,h0⟩:=Ki hc;have h15:=aV hm;rw[if_pos hc,if_pos hc]at h;rw[if_pos hc]at hT;rw[hT,hc];generalize jH ws=r at *;by_cases h5:r<=5
  ·have h5':¬(5:Int)<r:=by omega
   rw[if_pos h5,if_pos h5]at h;unfold aE;simp(disch:=omega)[h5'];refine lupS (rlA [2,3,6,7] 22 10) (fun m:Nat=>[(22,.int .i64 m)]) (fun m M'=>M'=N/\m<=r+1/\jn ws m=none) (fun m=>r+1-m) 0 ⟨rfl,by omega,rfl⟩ ?_
   rintro m M' g ⟨rfl,hmr,hno⟩
   have hs:=wA ws m;rw[hno,Option.none_or]at hs;by_cases hlt:m<r+1
   ·simp(disch:=omega);intro b7 hb7;have hne:b1≠b7:=by rintro rfl;rw[k1]at hb7;cases hb7
    simp(disch:=omega)[aq k1];refine iV _ (strs ws) _ _ (hv1.put hb7 _) (by rw[ah];omega) ?_;rw[ah];simp(disch:=omega);refine ya (S:=B8) ws.length m (by omega) (by omega) _ (FO ws) (fun s K=>K b7=some (.cells true [str s] 1)/\∃ A,Sub M' A/\K=A.put b7 (.cells true [str s] 1)) ?_ m [] [] _ _ (by simp) (Le _) ⟨ag _ _ _,M',Sub.refl M',rfl⟩ ?_
    ·rintro s w K R' hw hL ⟨q7,A,sA,rfl⟩ hR
     have q1:(A.put b7 (.cells true [str s] 1)) b1=some (.cells true [.slice a ws.length c] 1):=by rw[ai _ _ hne];exact sA _ _ k1
     have hil:=iN hm (l:=w) hL;simp(disch:=omega);refine fnS func338 rfl ntmps338 results338 ?_;simp(disch:=omega)[aq (sA _ _ k1)];have hv2:Rd (A.put b7 (.cells true [str w] 1)) (.slice a ws.length c) (strs ws):=by
      refine hv1.sub ?_;intro i B hB;have:i≠b7:=by rintro rfl;rw[hB]at hb7;cases hb7
      rw[ai _ _ this];exact sA _ _ hB
     refine lY _ ws w _ _ hv2 hm (by omega) hL ?_;simp(disch:=omega);refine tx _ _ _ (by omega) ?_;simp(disch:=omega);exact ad (hR _ ⟨ag _ _ _,A,sA,rfl⟩)
    ·rintro K ⟨q7,A,sA,rfl⟩
     have hrf:=CG ws (grL ws.length m []) [];rw[hrf.1];have hmk:uj ws m []=(grL ws.length m []).find? (fun u=>mG (aQ ws u)):=rfl;cases hq:(grL ws.length m []).find? (fun u=>mG (aQ ws u)) with
     | none=>
      rw[hq]at hmk;simp(disch:=omega);refine rndM M' (m+1) ?_ ⟨rfl,by omega,by rw[hs];exact hmk⟩;intro i B hB;have:i≠b7:=by rintro rfl;rw[hB]at hb7;cases hb7
      rw[ai _ _ this];exact sA _ _ hB
     | some u=>
      rw[hq]at hmk;have hu:=hrf.2 u hq;rw[hu];rw[z7 hlt hno hmk]at h;simp(disch:=omega);refine ae ?_ h;intro i B hB;have:i≠b7:=by rintro rfl;rw[hs1 _ _ hB]at hb7;cases hb7
      rw[ai _ _ this];exact sA _ _ (hs1 _ _ hB)
   ·have hm':m=r+1:=by omega
    rw[<-hm',hno]at h;simp(disch:=omega);exact ae hs1 h
  ·have h5':(5:Int)<r:=by omega
   rw[if_neg h5,if_neg h5]at h;unfold aE;simp(disch:=omega)[h5'];exact ae hs1 h
 ·rw[if_neg hc,if_neg hc]at h;rw[if_neg hc]at hT;have hb:(kS ws==0)=false:=bNe.2 hc;rw[hT];generalize kS ws=code at *;unfold aE;simp(disch:=omega)[hb];exact ae hs1 h
def kd(w:B8)(n:Nat):List Int:=((range n).filter fun p=>hp w (p+1)).map fun (p:Nat)=>((p+1:Nat):Int)
def cC(w:B8):List Int:=kd w w.length
theorem Ae(w:B8)(n:Nat):kd w (n+1)=kd w n++if hp w (n+1) then [((n+1:Nat):Int)] else []:=by
 unfold kd;rw[range_succ,filter_append,map_append]
 congr 1
 cases h:hp w (n+1)<;>simp[h]
theorem uz(w:B8)(n:Nat):(kd w n).length<=n:=by
 unfold kd;rw[length_map];exact Nat.le_trans (length_filter_le _ _) (by rw[length_range];exact lRf _)
def cE(w:B8):Nat:=((range w.length).find? fun q=>hp w (q+1)).getD 0+1
theorem ID(w:B8):hp w w.length=true:=by
 unfold hp;rw[drop_length,Nat.sub_self];rfl
theorem LX{w:B8}{p:Nat}(h1:1<=p)(h2:p<=w.length)(h3:hp w p=true)(h4:∀ q,1<=q->q<p->hp w q=false):cE w=p:=by
 unfold cE;have:(range w.length).find? (fun q=>hp w (q+1))=some (p-1):=by
  rw[find?_range_eq_some];refine⟨by rw[show p-1+1=p by omega];exact h3,List.mem_range.2 (by omega),fun j hj=>?_⟩;rw[h4 (j+1) (by omega) (by omega)];rfl
 rw[this];simp only[Option.getD_some];omega
def eo(w:B8):B8:=if w.length%cE w=0 then w.take (cE w) else w
def ch(w:B8):Bool:=w==w.reverse
def D1(w:B8):Nat:=((range w.length).find? fun i=>ch (w.drop i)).getD w.length
theorem LM{w:B8}{i:Nat}(h1:i<=w.length)(h2:ch (w.drop i)=true)(h3:∀ j,j<i->ch (w.drop j)=false):D1 w=i:=by
 unfold D1;by_cases hi:i=w.length
 ·have:(range w.length).find? (fun i=>ch (w.drop i))=none:=by
   rw[find?_eq_none];intro j hj;have:=List.mem_range.1 hj;rw[h3 j (by omega)];simp
  rw[this,hi];rfl
 ·have:(range w.length).find? (fun i=>ch (w.drop i))=some i:=by
   rw[find?_range_eq_some];exact⟨h2,List.mem_range.2 (by omega),fun j hj=>by rw[h3 j hj];rfl⟩
  rw[this];rfl
theorem LA(w:B8):D1 w<=w.length:=by
 unfold D1;cases h:(range w.length).find? (fun i=>ch (w.drop i)) with
 | none=>exact lRf _
 | some i=>
  have:=List.mem_range.1 (mem_of_find?_eq_some h);simp only[Option.getD_some];omega
def mC(w:B8):B8:=w++(w.take (D1 w)).reverse
theorem Cl(w:B8):(mC w).length<=2*w.length:=by
 unfold mC;rw[lAp,length_reverse,lTa];omega
def dJ(w:B8)(k:Nat):B8:=(replicate k w).flatten
def ck(w:B8):Int:=if isWord w then (if w=[] then 5 else 0) else 1
def mh(w:B8):B8:=if ck w=0 then eo w else []
def pU(w:B8):Int:=if ck w=0 then ((w.length/(eo w).length:Nat):Int) else 0
def pO(w:B8):B8:=if isWord w then (if (mC w).length<=60 then mC w else []) else []
def pP(w:B8):Int:=if isWord w then (if (mC w).length<=60 then 0 else 3) else 1
end Go.Proofs.YtapimhjbilkfpaaGreatDoor
namespace Go.Proofs.YtapimhjbilkfpaaGreatDoor
open Go Go.Proofs.Tryz Go.RowKit List
def jD(l:B8)(i:Nat):B8:=(range l.length).map fun j=>if j<i\/l.length-i<=j then l.getD (l.length-1-j) 0 else l.getD j 0
theorem fC(l:B8)(i:Nat):(jD l i).length=l.length:=by simp[jD]
theorem i7(l:B8)(i:Nat){j:Nat}(hj:j<l.length):(jD l i)[j]?=some (if j<i\/l.length-i<=j then l.getD (l.length-1-j) 0 else l.getD j 0):=by
 unfold jD;rw[getElem?_map,getElem?_range hj];rfl
theorem J3(l:B8):jD l 0=l:=by
 apply ext_getElem?;intro j;by_cases hj:j<l.length
 ·rw[i7 l 0 hj,if_neg (by omega),gDe,gEl hj];rfl
 ·rw[getElem?_eq_none (by rw[fC];omega),getElem?_eq_none (by omega)]
theorem NZ{l:B8}{i:Nat}(h:l.length<=2*i+1):jD l i=l.reverse:=by
 apply ext_getElem?;intro j;by_cases hj:j<l.length
 ·rw[i7 l i hj,getElem?_reverse hj];have hk:l.length-1-j<l.length:=by omega
  rw[gEl hk];by_cases hc:j<i\/l.length-i<=j
  ·rw[if_pos hc,gDe,gEl hk];rfl
  ·rw[if_neg hc,gDe,gEl hj];have e:l.length-1-j=j:=by omega
   simp only[e,Option.getD_some]
 ·rw[getElem?_eq_none (by rw[fC];omega),getElem?_eq_none (by rw[length_reverse];omega)]
theorem Jz{l:B8}{i:Nat}(h:2*i+1<l.length):((jD l i).set i (l.getD (l.length-1-i) 0)).set (l.length-1-i) (l.getD i 0)=jD l (i+1):=by
 apply ext_getElem?;intro j;by_cases hj:j<l.length
 ·rw[getElem?_set,getElem?_set,i7 l i hj,i7 l (i+1) hj];have hlen:=fC l i;by_cases e1:l.length-1-i=j
  ·rw[if_pos e1,if_pos (by rw[length_set];omega),if_pos (by omega)]
   congr 2
   omega
  ·rw[if_neg e1];by_cases e2:i=j
   ·rw[if_pos e2,if_pos (by omega),if_pos (by omega),e2]
   ·rw[if_neg e2]
    congr 1
    by_cases hc:j<i\/l.length-i<=j
    ·rw[if_pos hc,if_pos (by omega)]
    ·rw[if_neg hc,if_neg (by omega)]
 ·rw[getElem?_eq_none (by rw[length_set,length_set,fC];omega),getElem?_eq_none (by rw[fC];omega)]
theorem CQ{l:B8}{j:Nat}(hj:j<l.length):(av l)[j]?=some (.int .u8 (l.getD j 0).toNat):=by
 unfold av;rw[getElem?_map,gEl hj,gDe,gEl hj];rfl
theorem JY(l:B8)(j:Nat)(u:UInt8):(av l).set j (.int .u8 u.toNat)=av (l.set j u):=by simp[av,map_set]
theorem Bf(b c:Nat)(l:B8)(M:Mem)(R:VP)(hM:M b=some (.cells true (av l) c))(hl:l.length<=1000000)(h:R (.tuple #[]) (M.put b (.cells true (av l.reverse) c))):ar prog 311 [.slice (some ⟨b,0,none⟩) l.length c] M R:=by
 refine fnS func311 rfl ntmps311 results311 ?_;simp(disch:=omega);refine lupS (rlA [2,3] 7 21) (fun i:Nat=>[(2,.int .i64 i),(3,.int .i64 ((l.length:Int)-1-i))]) (fun i M'=>2*i<=l.length+1/\M'=M.put b (.cells true (av (jD l i)) c)) (fun i=>l.length+1-i) 0 ⟨by omega,?_⟩ ?_
 ·rw[J3]
  funext i
  by_cases e:i=b
  ·subst e;rw[ag,hM]
  ·rw[ai _ _ e]
 rintro i M' g ⟨hi,rfl⟩
 have hk:(M.put b (.cells true (av (jD l i)) c)) b=some (.cells true (av (jD l i)) c):=ag _ _ _;by_cases hlt:2*i+1<l.length
 ·have hc:(i:Int)<(l.length:Int)-1-i:=by omega
  obtain⟨q,hq⟩:∃ q:Nat,q=l.length-1-i:=⟨_,rfl⟩;have hqi:(l.length:Int)-1-i=q:=by omega
  have hst:=Jz hlt;rw[<-hq]at hst;have h1:=CQ (l:=jD l i) (j:=i) (by rw[fC];omega);have h2:=CQ (l:=jD l i) (j:=q) (by rw[fC];omega);have e1:(jD l i).getD i 0=l.getD i 0:=by
   rw[gDe,i7 l i (by omega),if_neg (by omega)];rfl
  have e2:(jD l i).getD q 0=l.getD q 0:=by
   rw[gDe,i7 l i (by omega),if_neg (by omega)];rfl
  rw[e1]at h1;rw[e2]at h2;have hsl:=fC l i;rw[hqi];generalize l.getD i 0=u at *;generalize l.getD q 0=w at *;have hnx:(l.length:Int)-1-((i:Int)+1)=(q:Int)-1:=by omega
  rw[hqi]at hc;simp(disch:=omega)[hc];refine plyS (ak [0,1,2,3,4,5,6,7,8,9,10,11,12] (.one 13 2 (ak [14] (.one 15 2 .fin)))) ?_;simp(disch:=omega)[al hk,h1,h2,aj,JY,aS];exact rndA (i+1) (by simp(disch:=omega);omega) ⟨by omega,by simp only[aW,hst]⟩
 ·have hc:¬(i:Int)<(l.length:Int)-1-i:=by omega
  rw[NZ (by omega)];simp(disch:=omega)[hc];exact ad h
theorem kJ(l:B8)(M:Mem)(R:VP)(hl:l.length<=1000000)(h:R (str l.reverse) M):ar prog 225 [str l] M R:=by
 refine fnS func225 rfl ntmps225 results225 ?_;simp(disch:=omega);intro b c hb hc;rw[aS]at hc;simp(disch:=omega);refine Bf b c l _ _ (ag _ _ _) hl ?_;rw[aW];have hk:(M.put b (.cells true (av l.reverse) c)) b=some (.cells true (av l.reverse) c):=ag _ _ _;have ht:(av l.reverse).take l.length=av l.reverse:=take_of_length_le (by rw[aS,length_reverse];omega);simp(disch:=omega)[aq hk,ht];exact ae ((Sub.refl M).put hb _) h
theorem jh(l:B8)(M:Mem)(R:VP)(hl:l.length<=1000000)(h:R (.bool (ch l)) M):ar prog 335 [str l] M R:=by
 unfold ch at h;refine fnS func335 rfl ntmps335 results335 ?_;simp(disch:=omega);refine kJ l _ _ hl ?_;simp(disch:=omega);exact ad h
theorem Fx(w:B8)(M:Mem)(R:VP)(hl:w.length<=60)(h:R (.int .i64 ((w.length:Int)-(D1 w:Nat))) M):ar prog 312 [str w] M R:=by
 refine fnS func312 rfl ntmps312 results312 ?_;simp(disch:=omega);refine lupS (rlA [] 3 8) (fun i:Nat=>[(3,.int .i64 i)]) (fun i M'=>M'=M/\i<=w.length/\∀ j,j<i->ch (w.drop j)=false) (fun i=>w.length+1-i) 0 ⟨rfl,by omega,fun j hj=>by omega⟩ ?_
 rintro i M' g ⟨rfl,hi,hno⟩
 simp(disch:=omega);refine jh (w.drop i) _ _ (by rw[length_drop];omega) ?_;cases hp:ch (w.drop i)
 ·have hlt:i<w.length:=by
   rcases Nat.lt_or_ge i w.length with hh|hh
   ·exact hh
   ·rw[drop_of_length_le hh]at hp;cases hp
  simp(disch:=omega);refine rndS (i+1) ⟨rfl,by omega,fun j hj=>?_⟩;by_cases e:j=i
  ·rw[e,hp]
  ·exact hno j (by omega)
 ·rw[LM hi hp hno]at h;simp(disch:=omega);exact ad h
theorem EV(w:B8)(M:Mem)(R:VP)(hl:w.length<=60)(h:R (str (mC w)) M):ar prog 226 [str w] M R:=by
 have he:=LA w;unfold mC at h;refine fnS func226 rfl ntmps226 results226 ?_;simp(disch:=omega);refine Fx w _ _ hl ?_;obtain⟨i,hi⟩:∃ i,i=D1 w:=⟨_,rfl⟩;rw[<-hi]at h he ⊢;have e1:((w.length:Int)-((w.length:Int)-i))=i:=by omega
 simp(disch:=omega)[e1];refine kJ (w.take i) _ _ (by rw[lTa];omega) ?_;simp(disch:=omega);exact ad h
theorem EE(w:B8)(M:Mem)(R:VP)(hl:w.length<=60)(h:∀ v M',Own M v (ints (cC w)) M'->R v M'):ar prog 329 [str w] M R:=by
 refine fnS func329 rfl ntmps329 results329 ?_;simp(disch:=omega);refine lupS (rlA [] 3 15) (fun x:Nat×Value=>[(4,.int .i64 ((x.1:Int)+1)),(3,x.2)]) (fun x M'=>x.1<=w.length/\Own M x.2 (ints (kd w x.1)) M') (fun x=>w.length-x.1) (0,.slice none 0 0) ⟨by omega,Own.nil M⟩ ?_
 rintro⟨i,v⟩ M' g ⟨hi,ho⟩
 simp only at hi ho;have hpl:=uz w i;by_cases hlt:i<w.length
 ·have hs:=Ae w i;simp(disch:=omega);refine fS w (i+1) _ (by omega) _ _ hl (by omega) ?_;generalize kd w i=L at *;cases hp:hp w (i+1)
  ·rw[hp,if_neg (by decide),append_nil]at hs;simp(disch:=omega);refine rndS (i+1,v) ⟨by simp only;omega,?_⟩;simp only;rw[hs];exact ho
  ·rw[hp,if_pos rfl]at hs;simp(disch:=omega);intro b' hb';simp(disch:=omega);refine aN ho ((Sub.refl _).put hb' _) (by simp(disch:=omega);rfl) rfl rfl (by omega) (by simp(disch:=omega)) (by simp(disch:=omega);omega) ?_;intro v' M'' N'' ho' hs';simp(disch:=omega);refine rndM M'' (i+1,v') hs' ⟨by simp only;omega,?_⟩;simp only;rw[hs,<-cv];exact ho'
 ·have hi':i=w.length:=by omega
  subst hi';simp(disch:=omega);exact ad (h v M' ho)
theorem j0(w:B8)(M:Mem)(R:VP)(hl:w.length<=60)(h1:1<=w.length)(hle:1<=cE w->cE w<=w.length->R (.int .i64 (cE w:Nat)) M):ar prog 317 [str w] M R:=by
 refine fnS func317 rfl ntmps317 results317 ?_;simp(disch:=omega);refine lupS (rlA [] 3 7) (fun p:Nat=>[(3,.int .i64 ((p:Int)+1))]) (fun p M'=>M'=M/\p<w.length/\∀ q,1<=q->q<p+1->hp w q=false) (fun p=>w.length-p) 0 ⟨rfl,by omega,fun q h1 h2=>by omega⟩ ?_
 rintro p M' g ⟨rfl,hi,hno⟩
 simp(disch:=omega);refine fS w (p+1) _ (by omega) _ _ hl (by omega) ?_;cases hp':hp w (p+1)
 ·have hlt:p+1<w.length:=by
   rcases Nat.lt_or_ge (p+1) w.length with hh|hh
   ·exact hh
   ·have e:p+1=w.length:=by omega
    rw[e,ID]at hp';cases hp'
  simp(disch:=omega);refine rndS (p+1) ⟨rfl,by omega,fun q h1 h2=>?_⟩;by_cases e:q=p+1
  ·rw[e,hp']
  ·exact hno q h1 (by omega)
 ·have e:=LX (by omega) (by omega) hp' hno;rw[e]at hle;have:=hle (by omega) (by omega);simp(disch:=omega);exact ad this
theorem NU(w:B8)(M:Mem)(R:VP)(hl:w.length<=60)(h1:1<=w.length)(h:1<=(eo w).length->(eo w).length<=60->R (str (eo w)) M):ar prog 330 [str w] M R:=by
 unfold eo at h;refine fnS func330 rfl ntmps330 results330 ?_;simp(disch:=omega);refine j0 w _ _ hl h1 ?_;intro hp1 hp2;generalize cE w=p at *;have e:((w.length:Int).tmod (p:Int)=0)↔w.length%p=0:=by
  rw[Int.tmod_eq_emod_of_nonneg (by omega)];omega
 have hp0:¬(p:Int)=0:=by omega
 by_cases hd:w.length%p=0
 ·have hd':=e.2 hd;rw[if_pos hd,lTa]at h;simp(disch:=omega)[hd'];exact ad (h (by omega) (by omega))
 ·have hd':¬(w.length:Int).tmod (p:Int)=0:=fun q=>hd (e.1 q);rw[if_neg hd]at h;simp(disch:=omega);exact ad (h (by omega) hl)
theorem iy(w:B8)(k:Nat)(M:Mem)(R:VP)(hl:w.length<=60)(hk:k<=1000)(h:R (str (dJ w k)) M):ar prog 155 [str w,.int .i64 k] M R:=by
 have e:Lib.repeatL w k=dJ w k:=by
  unfold dJ;clear h hk
  induction k with
  | zero=>rfl
  | succ k ih=>rw[Lib.repeatL,ih,replicate_succ,flatten_cons]
 refine dt (str (dJ w k)) ⟨_,func155,by kernel_rfl,by kernel_rfl⟩ (fun W hW=>?_) h;rw[<-e];refine Tryz.strings_Repeat ⟨⟨w⟩⟩ k W (by omega) ?_;have hs:(⟨⟨w⟩⟩:ByteArray).size=w.length:=rfl;rw[hs];have:w.length*k<=60*1000:=Nat.mul_le_mul hl hk;omega
theorem fm(w:B8)(M:Mem)(R:VP)(hl:w.length<=1099511627776)(h:∀ M',Sub M M'->R (.int .i64 (ck w)) M'):ar prog 315 [str w] M R:=by
 refine fnS func315 rfl ntmps315 results315 ?_;simp(disch:=omega);intro b1 hb1;simp(disch:=omega);have hs1:Sub M (M.put b1 (.cells true [str w] 1)):=(Sub.refl _).put hb1 _;refine bt _ _ [w] true (fun _=>True) _ _ (Rd.new rfl (lRf 1)) (gg hl) (by simp) trivial bV (bI _) ?_;rw[db];unfold ck at h;cases hw:isWord w
 ·rw[hw]at h;simp(disch:=omega);exact ad (h _ hs1)
 ·rw[hw]at h;by_cases h0:w=[]
  ·rw[if_pos rfl,if_pos h0]at h;subst h0;simp(disch:=omega);exact ad (h _ hs1)
  ·rw[if_pos rfl,if_neg h0]at h;have he:(w==[])=false:=jv h0;have he2:w.isEmpty=false:=by cases w with
    | nil=>exact absurd rfl h0
    | cons a l=>rfl
   simp(disch:=omega)[he];exact ad (h _ hs1)
theorem GZ(w:B8)(M:Mem)(R:VP)(hl:w.length<=1099511627776)(h:∀ M',Sub M M'->R (.tuple #[str (mh w),.int .i64 (pU w),.int .i64 (ck w)]) M'):ar prog 237 [str w] M R:=by
 unfold mh pU at h;refine fnS func237 rfl ntmps237 results237 ?_;simp(disch:=omega);refine fm w _ _ hl ?_;intro M1 s1;by_cases hc:ck w=0
 ·rw[if_pos hc,if_pos hc,hc]at h;rw[hc];have hw:isWord w=true/\w≠[]:=by
   unfold ck at hc;split at hc
   ·rename_i hw;split at hc
    ·cases hc
    ·rename_i h0;exact⟨hw,h0⟩
   ·cases hc
  have h60:=au hw.1;have h1:1<=w.length:=by
   cases w with
   | nil=>exact absurd rfl hw.2
   | cons a l=>simp
  simp(disch:=omega);refine NU w _ _ h60 h1 ?_;intro r1 r2;have hr0:¬((eo w).length:Int)=0:=by omega
  have ed:((w.length:Int).tdiv ((eo w).length:Int))=((w.length/(eo w).length:Nat):Int):=by
   rw[Int.tdiv_eq_ediv_of_nonneg (by omega)];rfl
  have eb:(w.length/(eo w).length)<=60:=Nat.le_trans (Nat.div_le_self _ _) h60;generalize eo w=r at *;generalize w.length/r.length=q at *;simp(disch:=omega);refine plyS (ak [0,1,2,3,4,5,6,7,8] .fin) ?_;simp(disch:=omega);refine aU (a:=[]) (c:=[]) (bY w _ _ hl ⟨rfl,rfl⟩) ?_;simp(disch:=omega);refine aU (a:=[]) (c:=[]) (bY r _ _ (by omega) ⟨rfl,rfl⟩) ?_;have hrn:¬ r=[]:=by intro e;rw[e]at r1;simp at r1
  simp(disch:=omega)[hrn,ed];exact ad (h _ s1)
 ·rw[if_neg hc,if_neg hc]at h;generalize ck w=c at *;simp(disch:=omega);exact ad (h _ s1)
theorem AH(w:B8)(M:Mem)(R:VP)(hl:w.length<=1099511627776)(h:∀ M',Sub M M'->R (aE (str (if isWord w then w.reverse else [])) (aJ w)) M'):ar prog 156 [str w] M R:=by
 refine fnS func156 rfl ntmps156 results156 ?_;simp(disch:=omega);intro b1 hb1;simp(disch:=omega);have hs1:Sub M (M.put b1 (.cells true [str w] 1)):=(Sub.refl _).put hb1 _;refine bt _ _ [w] true (fun _=>True) _ _ (Rd.new rfl (lRf 1)) (gg hl) (by simp) trivial bV (bI _) ?_;rw[db];unfold aE aJ at h;cases hw:isWord w
 ·rw[hw]at h;simp(disch:=omega);exact ad (h _ hs1)
 ·rw[hw]at h;have h60:=au hw;simp(disch:=omega);refine kJ w _ _ (by omega) ?_;simp(disch:=omega);exact ad (h _ hs1)
theorem mX(w:B8)(M:Mem)(R:VP)(hl:w.length<=1099511627776)(h:Lst (aJ w) (ints (if isWord w then cC w else [])) M R):ar prog 235 [str w] M R:=by
 refine fnS func235 rfl ntmps235 results235 ?_;simp(disch:=omega);intro b1 hb1;simp(disch:=omega);have hs1:Sub M (M.put b1 (.cells true [str w] 1)):=(Sub.refl _).put hb1 _;refine bt _ _ [w] true (fun _=>True) _ _ (Rd.new rfl (lRf 1)) (gg hl) (by simp) trivial bV (bI _) ?_;rw[db];unfold aJ at h;cases hw:isWord w
 ·rw[hw]at h;simp(disch:=omega);exact ae hs1 (h _ _ (Own.nil M))
 ·rw[hw,if_pos rfl,if_pos rfl]at h;have h60:=au hw;simp(disch:=omega);refine EE w _ _ h60 ?_;intro v M1 o1;obtain⟨M2,o2,s2⟩:=o1.base hs1;simp(disch:=omega);exact ae s2 (h _ _ o2)
theorem y9(w:B8)(M:Mem)(R:VP)(hl:w.length<=1099511627776)(h:∀ M',Sub M M'->R (aE (str (pO w)) (pP w)) M'):ar prog 157 [str w] M R:=by
 refine fnS func157 rfl ntmps157 results157 ?_;simp(disch:=omega);intro b1 hb1;simp(disch:=omega);have hs1:Sub M (M.put b1 (.cells true [str w] 1)):=(Sub.refl _).put hb1 _;refine bt _ _ [w] true (fun _=>True) _ _ (Rd.new rfl (lRf 1)) (gg hl) (by simp) trivial bV (bI _) ?_;rw[db];unfold aE pO pP at h;cases hw:isWord w
 ·rw[hw]at h;simp(disch:=omega);exact ad (h _ hs1)
 ·rw[hw,if_pos rfl,if_pos rfl]at h;have h60:=au hw;have hcl:=Cl w;simp(disch:=omega);refine EV w _ _ h60 ?_;generalize mC w=u at *;by_cases hbig:u.length<=60
  ·have hb':¬(60:Int)<u.length:=by omega
   rw[if_pos hbig,if_pos hbig]at h;simp(disch:=omega)[hb'];exact ad (h _ hs1)
  ·have hb':(60:Int)<u.length:=by omega
   rw[if_neg hbig,if_neg hbig]at h;simp(disch:=omega)[hb'];exact ad (h _ hs1)
end Go.Proofs.YtapimhjbilkfpaaGreatDoor
namespace Go.Proofs.YtapimhjbilkfpaaGreatDoor
open Go Go.Proofs.Tryz List
def TY(w u:B8):Int:=if isWord w&&isWord u then 0 else 1
def nP(w u:B8):Int:=if isWord w&&isWord u then (if 60<(w++u).length then 3 else 0) else 1
def mv(w u:B8):B8:=if isWord w&&isWord u then (if 60<(w++u).length then [] else w++u) else []
theorem R3(w u:B8):gn [w,u] true=TY w u:=by
 unfold TY gn;simp
theorem TR{w u:B8}(hw:w.length<=1099511627776)(hu:u.length<=1099511627776):cP [w,u]:=by
 intro x hx;simp only[mem_cons,not_mem_nil,or_false]at hx;rcases hx with rfl|rfl
 ·exact hw
 ·exact hu
theorem lB{L:B8}{j:Nat}{v:UInt8}(h:L[j]?=some v)(hj:j<L.length):L[j]=v:=by
 rw[gEl hj]at h;injection h
theorem Ab(w u:B8)(M:Mem)(R:VP)(hw:w.length<=1099511627776)(hu:u.length<=1099511627776)(h:∀ M',Sub M M'->R (aE (str (mv w u)) (nP w u)) M'):ar prog 148 [str w,str u] M R:=by
 unfold aE mv nP at h;refine fnS func148 rfl ntmps148 results148 ?_;simp(disch:=omega);intro b1 hb1;simp(disch:=omega);have hs1:Sub M (M.put b1 (.cells true [str w,str u] 2)):=(Sub.refl _).put hb1 _;refine bt _ _ [w,u] true (fun _=>True) _ _ (Rd.new rfl (lRf 2)) (TR hw hu) (by simp) trivial bV (bI _) ?_;rw[R3];unfold TY;cases hb:isWord w&&isWord u
 ·rw[hb]at h;simp(disch:=omega);exact ad (h _ hs1)
 ·rw[hb,if_pos rfl,if_pos rfl]at h;by_cases hl:60<(w++u).length
  ·rw[if_pos hl,if_pos hl]at h;have hl':(60:Int)<(w.length:Int)+u.length:=by rw[lAp]at hl;omega
   simp(disch:=omega)[hl'];exact ad (h _ hs1)
  ·rw[if_neg hl,if_neg hl]at h;have hl':¬(60:Int)<(w.length:Int)+u.length:=by rw[lAp]at hl;omega
   simp(disch:=omega)[hl'];exact ad (h _ hs1)
theorem Eg(w:B8)(M:Mem)(R:VP)(hw:w.length<=9007199254740992)(h:R (aE (str (if 60<w.length then [] else w)) (if 60<w.length then 3 else 0)) M):ar prog 177 [str w] M R:=by
 unfold aE at h;refine fnS func177 rfl ntmps177 results177 ?_;by_cases hl:60<w.length
 ·rw[if_pos hl,if_pos hl]at h;have hl':(60:Int)<(w.length:Nat):=by omega
  simp(disch:=omega)[hl'];exact ad h
 ·rw[if_neg hl,if_neg hl]at h;have hl':¬(60:Int)<(w.length:Nat):=by omega
  simp(disch:=omega)[hl'];exact ad h
theorem zw(w u:B8)(M:Mem)(R:VP)(hw:w.length<=1099511627776)(hu:u.length<=1099511627776)(h:R (aE (str (mv w u)) (nP w u)) M):ar prog 109 [str w,str u] M R:=by
 unfold aE mv nP at h;refine fnS func109 rfl ntmps109 results109 ?_;simp(disch:=omega);refine bg w _ _ hw ?_;cases h1:isWord w
 ·rw[h1]at h;simp(disch:=omega);exact ad h
 ·rw[h1,Bool.true_and]at h;simp(disch:=omega);refine bg u _ _ hu ?_;cases h2:isWord u
  ·rw[h2]at h;simp(disch:=omega);exact ad h
  ·rw[h2,if_pos rfl,if_pos rfl]at h;simp(disch:=omega);refine Eg (w++u) _ _ (by rw[lAp];omega) ?_;rw[lAp]at h ⊢;simp(disch:=omega)[aE];exact ad h
theorem lv(l:B8)(M:Mem)(R:VP)(hl:l.length<=1000000)(h:∀ M',Sub M M'->R (str l.reverse) M'):ar prog 179 [str l] M R:=by
 refine fnS func179 rfl ntmps179 results179 ?_;simp(disch:=omega);intro b0 hb0;have o0:Own M (.slice (some ⟨b0,0,none⟩) 0 0) (av []) (M.put b0 (.cells true [] 0)):=Own.new hb0 rfl (lRf 0);simp(disch:=omega);generalize M.put b0 (.cells true [] 0)=N0 at *;generalize Value.slice (some ⟨b0,0,none⟩) 0 0=v0 at *;refine lupS (rlA [3,4] 9 10) (fun x:Nat×Value=>[(4,.int .i64 ((l.length:Int)-1-x.1)),(3,x.2)]) (fun x M'=>x.1<=l.length/\Own M x.2 (av (l.reverse.take x.1)) M') (fun x=>l.length-x.1) (0,v0) ⟨by omega,by rw[take_zero];exact o0⟩ ?_
 rintro⟨j,v⟩ M' g ⟨hj,ho⟩
 simp only at hj ho;by_cases hlt:j<l.length
 ·have hlr:j<l.reverse.length:=by rw[length_reverse];exact hlt
  have htk:=aw l.reverse hlr;have hge:(0:Int)<=(l.length:Int)-1-j:=by omega
  obtain⟨q,hq⟩:∃ q:Nat,(l.length:Int)-1-j=q:=⟨l.length-1-j,by omega⟩;have hx:l[q]?=some l.reverse[j]:=by
   rw[getElem_reverse,gEl (by omega)]
   congr 1
   congr 1
   omega
  have hlen:(l.reverse.take j).length=j:=by rw[lTa,length_reverse];omega
  have hq0:(0:Int)<=q:=by omega
  have hqn:(q:Int)-1=(l.length:Int)-1-((j+1:Nat):Int):=by omega
  generalize l.reverse[j]=y at *;simp(disch:=omega)[hq,lB hx];intro b' hb';simp(disch:=omega);refine aN ho ((Sub.refl _).put hb' _) (by simp(disch:=omega);rfl) rfl rfl (by omega) (by simp(disch:=omega)) (by simp(disch:=omega);omega) ?_;intro v' M'' N'' ho' hs';simp(disch:=omega);refine rndB M'' (j+1,v') hs' (by simp(disch:=omega);omega) ⟨by simp only;omega,?_⟩;simp only;rw[htk,<-lN];exact ho'
 ·have hj':j=l.length:=by omega
  subst hj';have hge:¬(0:Int)<=(l.length:Int)-1-l.length:=by omega
  rw[take_of_length_le (by rw[length_reverse];exact lRf _)]at ho;have hs:=ho.sub;rcases ho with ⟨rfl,he,rfl⟩|⟨b2,c2,rfl,hM,hc,rfl⟩
  ·have e0:l.reverse=[]:=by cases hr:l.reverse<;>simp[hr,av]at he ⊢
   rw[e0]at h;simp(disch:=omega);exact ad (h _ (Sub.refl _))
  ·have htk:take l.reverse.length (av l.reverse)=av l.reverse:=take_of_length_le (by rw[aS];exact lRf _);have htk2:take l.length (av l.reverse)=av l.reverse:=take_of_length_le (by rw[aS,length_reverse];exact lRf _);simp(disch:=omega)[htk2,ot];exact ad (h _ hs)
end Go.Proofs.YtapimhjbilkfpaaGreatDoor
namespace Go.Proofs.YtapimhjbilkfpaaGreatDoor
open Go Go.Proofs.Tryz Go.RowKit List
def Bq(w:B8)(k:Int):Int:=if isWord w then (if 0<=k/\k<=w.length then 0 else 2) else 1
def xe(w:B8)(k:Int):B8:=if isWord w then (if 0<=k/\k<=w.length then w.drop k.toNat++w.take k.toNat else []) else []
theorem C0(b:Nat)(v:Value):ng (fun M':Mem=>M'.get? b 0=some v):=by
 intro N b' B hG hb;have:b≠b':=by rintro rfl;unfold Mem.get? at hG;rw[hb]at hG;cases hG
 unfold Mem.get? at *;rw[ai _ _ this];exact hG
theorem Ob{F G:Mem->Prop}(hF:ng F)(hG:ng G):ng (fun M'=>F M'/\G M'):=fun N b B h hb=>⟨hF N b B h.1 hb,hG N b B h.2 hb⟩
theorem mS(w:B8)(k:Nat)(M:Mem)(R:VP)(hw:w.length<=1000)(hk:k<=w.length)(h:R (str (w.drop k++w.take k)) M):ar prog 120 [str w,.int .i64 k] M R:=by
 refine fnS func120 rfl ntmps120 results120 ?_;refine drwS ?_;have hll:(w.drop k).length+(w.take k).length<=1000:=by rw[length_drop,lTa];omega
 simp(disch:=omega);exact ad h
theorem pZ(w:B8)(k:Int)(M:Mem)(R:VP)(hw:w.length<=1099511627776)(h:R (aE (str (xe w k)) (Bq w k)) M):ar prog 66 [str w,.int .i64 k] M R:=by
 unfold aE xe Bq at h;refine fnS func66 rfl ntmps66 results66 ?_;simp(disch:=omega);refine bg w _ _ hw ?_;cases h1:isWord w
 ·rw[h1]at h;simp(disch:=omega);exact ad h
 ·rw[h1,if_pos rfl,if_pos rfl]at h;simp(disch:=omega);refine cg k 0 w.length _ _ ?_;by_cases h2:0<=k/\k<=(w.length:Int)
  ·rw[if_pos h2,if_pos h2]at h;rw[decide_eq_true h2];obtain⟨k,rfl⟩:∃ j:Nat,k=j:=⟨k.toNat,by omega⟩;rw[Int.toNat_natCast]at h;simp(disch:=omega);refine mS w k _ _ (by have:=au h1;omega) (by omega) ?_;simp(disch:=omega);exact ad h
  ·rw[if_neg h2,if_neg h2]at h;rw[decide_eq_false h2];simp(disch:=omega);exact ad h
theorem qb(w:B8)(k:Int)(M:Mem)(R:VP)(hw:w.length<=1099511627776)(h:∀ M',Sub M M'->R (aE (str (xe w k)) (Bq w k)) M'):ar prog 107 [str w,.int .i64 k] M R:=by
 unfold aE xe Bq at h;refine fnS func107 rfl ntmps107 results107 ?_;simp(disch:=omega);intro b2 hb2;simp(disch:=omega);intro b3 hb3;simp(disch:=omega);have s2:=(Sub.refl M).put hb2 (.cells true [str w] 1);have s3:=(Sub.refl _).put hb3 (.cells true [.int .i64 k] 1);have k2:=s3 _ _ (ag M b2 (.cells true [str w] 1));have k3:=ag (M.put b2 (.cells true [str w] 1)) b3 (.cells true [.int .i64 k] 1);have hs:=s2.trans s3;generalize (M.put b2 (.cells true [str w] 1)).put b3 (.cells true [.int .i64 k] 1)=N at *
 try simp(disch:=omega)[al k2]
 intro b6 hb6;simp(disch:=omega);have s6:=(Sub.refl N).put hb6 (.cells true [str w] 1);have g2:=al (s6 _ _ k2) 0;have g3:=al (s6 _ _ k3) 0;refine bt _ _ [w] (decide (0<=k/\k<=(w.length:Int))) (fun M':Mem=>M'.get? b2 0=some (str w)/\M'.get? b3 0=some (.int .i64 k)) _ _ (Rd.new rfl (lRf 1)) (gg hw) (by simp) ⟨g2,g3⟩ (Ob (C0 _ _) (C0 _ _)) ?_ ?_
 ·intro K R' hG hR';obtain⟨h2,h3⟩:=hG;simp(disch:=omega);refine fnS func175 rfl ntmps175 results175 ?_;simp(disch:=omega);refine drwS ?_;simp(disch:=omega)[h2,h3];refine aU (a:=[]) (c:=[]) (bY w _ _ hw ⟨rfl,rfl⟩) ?_;simp(disch:=omega);refine aU (a:=[]) (c:=[]) (bF _ _ _ _ _ ⟨rfl,rfl⟩) ?_;simp(disch:=omega);exact ad (by simpa using hR')
 ·rw[db];have hs6:=hs.trans s6;cases h1:isWord w
  ·rw[h1]at h;simp(disch:=omega);exact ad (h _ hs6)
  ·rw[h1,if_pos rfl,if_pos rfl]at h;by_cases hk:0<=k/\k<=(w.length:Int)
   ·rw[if_pos hk,if_pos hk]at h;rw[decide_eq_true hk];have h60:=au h1;obtain⟨k,rfl⟩:∃ j:Nat,k=j:=⟨k.toNat,by omega⟩;rw[Int.toNat_natCast]at h;have l2:=s6 _ _ k2;have l3:=s6 _ _ k3;have hll:(w.drop k).length+(w.take k).length<=1000:=by rw[length_drop,lTa];omega
    generalize N.put b6 (.cells true [str w] 1)=N6 at *;simp(disch:=omega);refine drwS ?_;simp(disch:=omega)[al l2,al l3];exact ad (h _ hs6)
   ·rw[if_neg hk,if_neg hk]at h;rw[decide_eq_false hk];simp(disch:=omega);exact ad (h _ hs6)
end Go.Proofs.YtapimhjbilkfpaaGreatDoor
namespace Go.Proofs.YtapimhjbilkfpaaGreatDoor
open Go Go.Proofs.Tryz List
theorem dh{l:B8}(h1:l.length<=60)(h2:l.all isL=true):isWord l=true:=by
 unfold isWord;rw[h2,Bool.and_true];exact decide_eq_true h1
theorem Oz{w u:B8}(hw:isWord w=true)(hu:isWord u=true)(hl:(w++u).length<=60):isWord (w++u)=true:=
 dh hl (by rw[all_append,aZ hw,aZ hu];rfl)
end Go.Proofs.YtapimhjbilkfpaaGreatDoor
