/- Lemmas for FnExactConsole, part 43 of 46. -/
import Derived.Test.YtapimhjbilkfpaaGreatDoorZ40
import Derived.Test.YtapimhjbilkfpaaGreatDoorZ41
import Derived.Test.YtapimhjbilkfpaaGreatDoorZ23
import Derived.Test.YtapimhjbilkfpaaGreatDoorZ04
set_option linter.unusedVariables false
set_option linter.unusedSimpArgs false
namespace Go.Proofs.YtapimhjbilkfpaaGreatDoor
open Go Go.Proofs.Tryz List
theorem bJ{d d':Dk}{t t':List UInt8}{c:Int}{n:Nat}(hl:t.length<=n)(h:bt d t c=some (d',t')):t'.length<=n:=by
 obtain⟨_,_,rfl⟩:=yQ h;exact hl
theorem eg{d d':Dk}{t t':List UInt8}{c:Int}(hl:t.length<=1000000)(h:bec d t c=some (d',t')):t'.length<=1100000:=by
 unfold bec at h;exact bJ (by rw[dC];omega) h
theorem od(q:Bool):(gX q).length<=3:=by unfold gX;split<;>decide
theorem mr{n:Int}(h:IOk n):(Lib.itoa n).length<=21:=dh n h.1 h.2
theorem LG{d d':Dk}{c t:List UInt8}(hd:d.ok)(h:aM d c=some (d',t)):t.length<=1100000:=by
 unfold aM at h;refine aI h (fun _ h=>eg (by have:=HJ d.w;omega) h) (fun _ h=>?_);refine aI h (fun _ h=>eg (by have:=CU d.w;omega) h) (fun _ h=>?_);refine aI h (fun _ h=>eg (by have:=Cz d.ms d.w 1;omega) h) (fun _ h=>?_);refine aI h (fun _ h=>eg (by have:=B9 d.ms d.w;omega) h) (fun _ h=>?_);refine aI h (fun _ h=>bJ (by rw[dC];have:=au hd.1;omega) h) (fun _ h=>?_);refine aI h (fun _ h=>bJ (by rw[dC];have:=(bK hd.2.1).2.1;omega) h) (fun _ h=>?_);refine aI h (fun _ h=>bJ (by rw[dC];have:=Dq d.ms;omega) h) (fun _ h=>?_);refine aI h (fun _ h=>bJ (by have h1:=mr (xy d.w).1;have h2:=mr (xy d.w).2;rw[length_append,length_cons];omega) h) (fun _ h=>?_);refine aI h (fun _ h=>bJ (by have h1:=mr (EU d.w d.p);have h2:=(Fg d.w d.p).text;rw[length_append,length_cons];omega) h) (fun _ h=>?_);refine aI h (fun _ h=>bJ (by decide) h) (fun _ h=>?_);unfold bH at h;refine aI h (fun _ h=>bJ (by have:=(th d.w).text;omega) h) (fun _ h=>?_);refine aI h (fun _ h=>bJ (by have:=(C7 d.w).text;omega) h) (fun _ h=>?_);refine aI h (fun _ h=>bJ (by have:=(Hw d.w).text;omega) h) (fun _ h=>?_);refine aI h (fun _ h=>bJ (by have h1:=mr (rE d.w);have h2:=CK d.w;rw[length_append,length_cons,dC];omega) h) (fun _ h=>?_);refine aI h (fun _ h=>bJ (by have h1:=mr (EI d.w);have h2:=Po d.w;rw[length_append,length_cons,dC];omega) h) (fun _ h=>?_);refine aI h (fun _ h=>bJ (by have:=(Hi d.w).text;omega) h) (fun _ h=>?_);refine aI h (fun _ h=>bJ (by have:=(ID d.w).text;omega) h) (fun _ h=>?_);refine aI h (fun _ h=>bJ (by rw[dC];have:=Nv d.w;omega) h) (fun _ h=>?_);refine aI h (fun _ h=>bJ (by have:=(IB d.w).text;omega) h) (fun _ h=>?_);refine aI h (fun _ h=>bJ (by have h1:=mr (Ic d.w);omega) h) (fun _ h=>?_);refine aI h (fun _ h=>bJ (by have h1:=mr (Gz d.w);have h2:=OO d.w;rw[length_append,length_cons,dC];omega) h) (fun _ h=>?_);refine aI h (fun _ h=>bJ (by have:=(HM d.w).text;omega) h) (fun _ h=>?_);refine aI h (fun _ h=>bJ (by rw[dC];have:=DF d.ms;omega) h) (fun _ h=>?_);refine aI h (fun _ h=>bJ (by have:=(IF d.w).text;omega) h) (fun _ h=>?_);unfold dB at h;refine aI h (fun _ h=>bJ (Nat.le_trans (od _) (by decide)) h) (fun _ h=>?_);refine aI h (fun _ h=>bJ (Nat.le_trans (od _) (by decide)) h) (fun _ h=>?_);refine aI h (fun _ h=>bJ (Nat.le_trans (od _) (by decide)) h) (fun _ h=>?_);refine aI h (fun _ h=>bJ (Nat.le_trans (od _) (by decide)) h) (fun _ h=>?_);refine aI h (fun _ h=>bJ (Nat.le_trans (od _) (by decide)) h) (fun _ h=>?_);refine aI h (fun _ h=>bJ (Nat.le_trans (od _) (by decide)) h) (fun _ h=>?_);cases h
theorem Qy{d d':Dk}{c t:List UInt8}{a b:Int}(h:gn d c a b=some (d',t)):t.length<=1100000:=by
 unfold gn at h;refine aI h (fun _ h=>eg (by have:=Ip d.w a b;omega) h) (fun _ h=>?_);refine aI h (fun _ h=>eg (by have:=I4 a b;omega) h) (fun _ h=>?_);refine aI h (fun _ h=>eg (by have:=Oq d.ms a b;omega) h) (fun _ h=>?_);refine aI h (fun _ h=>eg (by have:=Ib a b;omega) h) (fun _ h=>?_);refine aI h (fun _ h=>bJ (by have:=(yv d.ms a b).text;omega) h) (fun _ h=>?_);refine aI h (fun _ h=>bJ (by rw[dC];have:=Hc a b;omega) h) (fun _ h=>?_);refine aI h (fun _ h=>bJ (by rw[dC];have:=y8 d.p a b;omega) h) (fun _ h=>?_);refine aI h (fun _ h=>bJ (by have h1:=mr (HV d.p a b);omega) h) (fun _ h=>?_);cases h
theorem NG{d d':Dk}{c t u:List UInt8}(h:dQ d c t=some (d',u))(hl:t.length<=1000000):u.length<=1100000:=by
 unfold dQ at h;refine aI h (fun _ h=>?_) (fun _ h=>?_)
 ·split at h
  ·exact eg hl h
  ·cases h
 refine aI h (fun _ h=>eg (by have:=Cq d.w t;omega) h) (fun _ h=>?_);refine aI h (fun _ h=>?_) (fun _ h=>?_)
 ·split at h
  ·exact bJ (by rw[dC];omega) h
  ·cases h
 exact bJ (by rw[dC];omega) h
theorem PT{d d':Dk}{c u:List UInt8}{n:List Int}(hd:d.ok)(h:gM d c n=some (d',u)):u.length<=1100000:=by
 unfold gM at h;refine aI h (fun _ h=>eg (by have:=qb n;omega) h) (fun _ h=>?_);split at h
 ·exact LG hd h
 ·refine aI h (fun _ h=>eg (Nat.le_trans (zo d.w _) (by decide)) h) (fun _ h=>?_);refine aI h (fun _ h=>eg (Nat.le_trans (x7 _) (by decide)) h) (fun _ h=>?_);cases h
 ·exact Qy h
 ·cases h
theorem wy{d:Dk}(hd:d.ok){l:List UInt8}(hl:l.length<=1000000):(iO d l).2.length<=1100000:=by
 unfold iO;cases hx:rW d l with
 | none=>exact of_decide_eq_true rfl
 | some r=>
  obtain⟨d',u⟩:=r;show u.length<=1100000;obtain⟨c,r,hs,hcl,hrl,hrn⟩:=qe l;rw[DP d hs]at hx;unfold gJ at hx;refine aI hx (fun _ hx=>?_) (fun _ hx=>?_)
  ·clear hs hrn
   match r,hrl,hx with
   | [t],hrl,hx=>exact NG hx (by have:=hrl t (by simp);omega)
   | [],_,hx=>cases hx
   | _::_::_,_,hx=>cases hx
  refine aI hx (fun _ hx=>?_) (fun _ hx=>?_)
  ·split at hx
   ·exact eg (by have:=x9 (r.getD 0 []) (cd (r.getD 1 []):Nat);omega) hx
   ·cases hx
  ·split at hx
   ·exact PT hd hx
   ·cases hx
def dX(l:List UInt8):List (List UInt8):=if (spR 10 l).getLast (ke 10 l)=[] then (spR 10 l).dropLast else spR 10 l
def jR(s:Dk×List UInt8)(l:List UInt8):Dk×List UInt8:=if l=[] then s else ((iO s.1 l).1,s.2++(iO s.1 l).2++[10])
def ju(ls:List (List UInt8))(i:Nat):Dk×List UInt8:=(ls.take i).foldl jR (eU,[])
def kx(l:List UInt8):Option (Dk×List UInt8):=if l.length<=4000/\(dX l).length<=40 then some (ju (dX l) (dX l).length) else none
theorem tv(ls:List (List UInt8)):ju ls 0=(eU,[]):=rfl
theorem oM(ls:List (List UInt8)){i:Nat}(h:i<ls.length):ju ls (i+1)=jR (ju ls i) ls[i]:=by
 unfold ju;rw[az ls h,foldl_append];rfl
theorem q9(ls:List (List UInt8)):∀ i,i<=ls.length->(ju ls i).1.ok
 | 0,_=>xk
 | i+1,h=>by
  rw[oM ls (by omega)];unfold jR;split
  ·exact q9 ls i (by omega)
  ·exact HQ (q9 ls i (by omega)) _
theorem yF(ls:List (List UInt8))(hl:∀ w∈ls,w.length<=1000000):∀ i,i<=ls.length->(ju ls i).2.length<=i*1100001
 | 0,_=>by rw[tv];exact Nat.zero_le _
 | i+1,h=>by
  have ih:=yF ls hl i (by omega);have hr:=wy (q9 ls i (by omega)) (hl ls[i] (getElem_mem (by omega)));rw[oM ls (by omega)];unfold jR;split
  ·rw[Nat.succ_mul];exact Nat.le_trans ih (Nat.le_add_right _ _)
  ·rw[Nat.succ_mul,length_append,length_append];have e:([10]:List UInt8).length=1:=rfl;omega
theorem Pg(l:List UInt8):∀ w∈dX l,w.length<=l.length:=fun w hw=>by
 unfold dX at hw;split at hw
 ·exact mM 10 l w ((dropLast_sublist _).subset hw)
 ·exact mM 10 l w hw
theorem ee{M N M4:Mem}{v:Value}{xs:List Value}(hs:Sub M N)(o:Own N v xs M4):∃ M',Own M v xs M'/\Sub M' M4/\∀ b B,M b=none->N b=some B->M' b=none:=by
 rcases o with ⟨h1,h2,rfl⟩|⟨b',c,h1,h2,h3,rfl⟩
 ·refine⟨M,?_,hs,fun b B hb _=>hb⟩;rw[h1,h2];exact Own.nil M
 ·refine⟨M.put b' (.cells true xs c),.inr ⟨b',c,h1,bM hs h2,h3,rfl⟩,hs.both b' _,fun b B hb k=>?_⟩;have hne:b≠b':=by rintro rfl;rw[k]at h2;cases h2
  rw[ai _ _ hne];exact hb
theorem Rr{M M':Mem}{v v':Value}{d d':Dk}(hv:Rd M v (strs d.ms))(g:Gv M v d v' d' M'):Rd M' v' (strs d'.ms):=by
 rcases g with ⟨rfl,h2,rfl⟩|o
 ·rw[h2];exact hv
 ·exact o.rd
theorem ub(d:Dk)(v:Value)(M:Mem)(R:VP)(hm:aW d.ms=true)(hv:Rd M v (strs d.ms))(h:∀ v' M',Own M v' (strs d.ms) M'->R (dkV d v') M'):ar prog 33 [dkV d v] M R:=by
 have hf:=aZ hv;have hm5:=aX hm;unfold dkV at h ⊢;refine fnS func33 rfl ntmps33 results33 ?_;simp(disch:=omega);intro b1 hb1;have h1:Sub M (M.put b1 (.cells true [str d.w,str d.p,v] 3)):=(Sub.refl M).put hb1 _;simp(disch:=omega);intro b2 hb2;have h2:=hb2;rw[aF]at h2;have sN:=h1.putN hb2 (.cells true [str [],str [],.slice none 0 0] 3);have k1:((M.put b1 (.cells true [str d.w,str d.p,v] 3)).put b2 (.cells true [str [],str [],.slice none 0 0] 3)) b1=some (.cells true [str d.w,str d.p,v] 3):=by rw[ai _ _ (Ne.symm h2.1)];exact ag _ _ _
 have k2:((M.put b1 (.cells true [str d.w,str d.p,v] 3)).put b2 (.cells true [str [],str [],.slice none 0 0] 3)) b2=some (.cells true [str [],str [],.slice none 0 0] 3):=ag _ _ _;generalize (M.put b1 (.cells true [str d.w,str d.p,v] 3)).put b2 (.cells true [str [],str [],.slice none 0 0] 3)=N at *;have hvN:=hv.sub sN;simp(disch:=omega);intro b3 hb3;have o3:Own N (.slice (some ⟨b3,0,none⟩) 0 0) [] (N.put b3 (.cells true [] 0)):=Own.new hb3 rfl (Nat.le_refl 0);have hs1:=qN (hvN.sub o3.sub) (by rw[ah];omega);have k1':=o3.sub _ _ k1;dsimp only;generalize N.put b3 (.cells true [] 0)=N3 at *;generalize Value.slice (some ⟨b3,0,none⟩) 0 0=e3 at *;simp(disch:=omega)[aj k1'];refine aN o3 (Sub.refl _) hs1 rfl rfl (by omega) (dz d.ms) (by rw[ah];simp only[length_nil];omega) ?_;intro v' M'' N'' o' hs';rw[nil_append]at o';have q1:=hs' _ _ (o'.sub _ _ k1);have q2:=hs' _ _ (o'.sub _ _ k2);have hf':=aZ o'.rd;obtain⟨M',o4,s4,n4⟩:=ee sN o';have m1:=n4 _ _ hb1 k1;have m2:=n4 _ _ h2.2 k2;have q2':(N''.put b1 (.cells true [str d.w,str d.p,v'] 3)) b2=some (.cells true [str [],str [],.slice none 0 0] 3):=by rw[ai _ _ h2.1];exact q2
 have h:=h v' M' o4;simp(disch:=omega)[q1,q2,al,hf'];exact ae (((s4.trans hs').ovr m1 _).ovr m2 _) h
theorem C9(d:Dk)(v:Value)(M:Mem)(R:VP)(hd:d.ok)(hv:Rd M v (strs d.ms))(h:R (.bool true) M):ar prog 24 [dkV d v] M R:=by
 obtain⟨hw,hp,hm⟩:=hd;have hw60:=au hw;have hp8:=(bK hp).2.1;have hfi:df d.ms:=fun w hw=>by have:=(bL hm hw).1;omega
 have hm5:=(aX hm).2;have hf:=aZ hv;unfold dkV;refine fnS func24 rfl ntmps24 results24 ?_;simp(disch:=omega);intro b1 hb1;have s1:=(Sub.refl M).put hb1 (.cells true [str d.w,str d.p,v] 3);have k1:=ag M b1 (.cells true [str d.w,str d.p,v] 3);have hv1:=hv.sub s1;generalize M.put b1 (.cells true [str d.w,str d.p,v] 3)=N at *;simp(disch:=omega)[aj k1];refine ba d.w _ _ (by omega) ?_;rw[hw];simp(disch:=omega)[aj k1];refine iU d.p _ _ (by omega) ?_;rw[hp];simp(disch:=omega)[aq k1];refine fP v d.ms _ _ hv1 hfi (by omega) ?_;rw[hm];simp(disch:=omega);exact ae s1 h
set_option maxHeartbeats 1000000 in
theorem gp(d:Dk)(v:Value)(l:List UInt8)(M:Mem)(R:VP)(hd:d.ok)(hv:Rd M v (strs d.ms))(hl:l.length<=1500000)
  (h:∀ v' M',Own M v' (strs (iO d l).1.ms) M'->R (.tuple #[dkV (iO d l).1 v',str (iO d l).2]) M'):ar prog 16 [dkV d v,str l] M R:=by
 have hf:=aZ hv;have hro:=HQ hd l;unfold dkV at h ⊢;refine fnS func16 rfl ntmps16 results16 ?_;simp(disch:=omega);intro b1 hb1;have h1:Sub M (M.put b1 (.cells true [str d.w,str d.p,v] 3)):=(Sub.refl M).put hb1 _;simp(disch:=omega);intro b2 hb2;have h2:=hb2;rw[aF]at h2;have sN:=h1.putN hb2 (.cells true [str [],str [],.slice none 0 0] 3);have k1:((M.put b1 (.cells true [str d.w,str d.p,v] 3)).put b2 (.cells true [str [],str [],.slice none 0 0] 3)) b1=some (.cells true [str d.w,str d.p,v] 3):=by rw[ai _ _ (Ne.symm h2.1)];exact ag _ _ _
 have k2:((M.put b1 (.cells true [str d.w,str d.p,v] 3)).put b2 (.cells true [str [],str [],.slice none 0 0] 3)) b2=some (.cells true [str [],str [],.slice none 0 0] 3):=ag _ _ _;generalize (M.put b1 (.cells true [str d.w,str d.p,v] 3)).put b2 (.cells true [str [],str [],.slice none 0 0] 3)=N at *;have hvN:=hv.sub sN;simp(disch:=omega)[aq k1];refine C9 d v _ _ hd hvN ?_;simp(disch:=omega)[aq k1];refine ub d v _ _ hd.2.2 hvN ?_;intro v2 M2 o2;have s2:=sN.trans o2.sub;have k1:=o2.sub _ _ k1;have k2:=o2.sub _ _ k2;have hv2:=o2.rd;have hf2:=aZ hv2;unfold dkV;simp(disch:=omega);refine IP d v2 l _ _ hd hv2 hl ?_;intro d' v' t k M4 hgv hg;have hf':=eF hf2 hgv;have k1':=cY hgv _ _ k1;have k2':=cY hgv _ _ k2;have s4:=s2.trans (cY hgv);have hv4:=Rr hv2 hgv;unfold dkV;simp(disch:=omega);intro b6 hb6;have n16:b1≠b6:=by rintro rfl;rw[k1']at hb6;cases hb6
 have n26:b2≠b6:=by rintro rfl;rw[k2']at hb6;cases hb6
 have k1q:(M4.put b6 (.cells true [str d'.w,str d'.p,v'] 3)) b1=some (.cells true [str d.w,str d.p,v] 3):=by rw[ai _ _ n16];exact k1'
 have k2q:(M4.put b6 (.cells true [str d'.w,str d'.p,v'] 3)) b2=some (.cells true [str [],str [],.slice none 0 0] 3):=by rw[ai _ _ n26];exact k2'
 have k6q:=ag M4 b6 (.cells true [str d'.w,str d'.p,v'] 3);have s5:=s4.putN hb6 (.cells true [str d'.w,str d'.p,v'] 3);have hv5:=hv4.sub ((Sub.refl M4).put hb6 (.cells true [str d'.w,str d'.p,v'] 3));simp(disch:=omega)[hf',al,a7];generalize M4.put b6 (.cells true [str d'.w,str d'.p,v'] 3)=M5 at *;by_cases hk:k=0
 ·have hr:=Kl hg hk;rw[hr]at h hro;have hkb:(k != 0)=false:=by rw[hk];rfl
  simp(disch:=omega)[hkb,aq k6q];refine ub d' v' _ _ hro.2.2 hv5 ?_;intro v7 M7 o7;have q2:=o7.sub _ _ k2q;have hf7:=aZ o7.rd;obtain⟨M',o8,s8,n8⟩:=ee s5 o7;have m2:=n8 _ _ h2.2 k2q;have h:=h v7 M' o8;unfold dkV;simp(disch:=omega)[q2,al,hf7];exact ae (s8.ovr m2 _) h
 ·have hr:=JW hg hk;rw[hr]at h hro;have hvB:=hv.sub s5;simp(disch:=omega)[aq k1q];refine ub d v _ _ hd.2.2 hvB ?_;intro v7 M7 o7;have q2:=o7.sub _ _ k2q;have hf7:=aZ o7.rd;obtain⟨M',o8,s8,n8⟩:=ee s5 o7;have m2:=n8 _ _ h2.2 k2q;have h:=h v7 M' o8;unfold dkV;simp(disch:=omega)[q2,al,hf7];exact ae (s8.ovr m2 _) h
def U2(M N:Mem)(b2 b5 b6:Nat)(u:Value)(d:Dk)(L:List (List UInt8))(c5:Nat):Prop:=
 ∃ M1,Own M u (strs d.ms) M1/\Sub M1 N/\M1 b6=none/\M1 b2=none/\N b6=some (.cells true [str d.w,str d.p,u] 3)/\N b2=some (.cells true [str [],str [],.slice none 0 0] 3)/\N b5=some (.cells true (strs L) c5)
set_option maxHeartbeats 4000000 in
set_option maxRecDepth 4000 in
theorem Ma(l:List UInt8)(M:Mem)(R:VP)(hl:l.length<=1500000)(h1:∀ d t v M',kx l=some (d,t)->Own M v (strs d.ms) M'->R (.tuple #[dkV d v,str t,.bool true]) M')
  (h0:kx l=none->R (.tuple #[.agg #[str [],str [],.slice none 0 0],str [],.bool false]) M):ar prog 26 [str l] M R:=by
 refine fnS func26 rfl ntmps26 results26 ?_;simp(disch:=omega);intro b2 hb2;have sN:=(Sub.refl M).put hb2 (.cells true [str [],str [],.slice none 0 0] 3);have k2:=ag M b2 (.cells true [str [],str [],.slice none 0 0] 3);generalize M.put b2 (.cells true [str [],str [],.slice none 0 0] 3)=N at *;simp(disch:=omega);refine p5 l 10 _ _ (by omega) ?_;intro v5 M3 o5;rw[si]at o5;have hne:=ke 10 l;have hlw:∀ w∈dX l,w.length<=l.length:=Pg l;have hLn:=oC 10 l;have hcl:l.count 10<=l.length:=count_le_length;obtain⟨q,hq⟩:∃ q,q=l.count 10:=⟨_,rfl⟩;rw[<-hq]at hLn hcl;have hlast:(spR 10 l)[q]?=some ((spR 10 l).getLast hne):=by
  rw[getLast_eq_getElem,getElem?_eq_getElem (by omega)]
  congr 2
  omega
 have hlsdef:dX l=if (spR 10 l).getLast hne=[] then (spR 10 l).dropLast else spR 10 l:=rfl
 generalize (spR 10 l).getLast hne=last at *;obtain⟨ls,hls⟩:∃ ls,dX l=ls:=⟨_,rfl⟩;rw[hls]at hlsdef hlw;generalize spR 10 l=L at *;obtain⟨n0,hn0⟩:∃ n0,n0=q+1:=⟨_,rfl⟩;rw[<-hn0]at hLn;rcases o5 with ⟨_,e,_⟩|⟨b5,c5,rfl,hb5,hc5,hM3⟩
 ·have:=congrArg length e;rw[ah,length_nil]at this;omega
 have n25:b2≠b5:=by rintro rfl;rw[k2]at hb5;cases hb5
 have k5:M3 b5=some (.cells true (strs L) c5):=by rw[hM3];exact ag _ _ _
 have s3:Sub M M3:=by rw[hM3];exact sN.putN hb5 _
 have k2:M3 b2=some (.cells true [str [],str [],.slice none 0 0] 3):=by rw[hM3,ai _ _ n25];exact k2
 clear hM3;rw[ah,hLn]at hc5 ⊢;have gl:M3.get? b5 q=some (str last):=by
  rw[aj k5];show (strs L)[q]?=_;rw[bg,hlast];rfl
 have hqI:(n0:Int)-1=(q:Nat):=by omega
 have hgL:∀ i,i<n0->(hi:i<L.length)->M3.get? b5 i=some (str L[i]):=fun i _ hi=>by
  rw[aj k5];show (strs L)[i]?=_;rw[bg,getElem?_eq_getElem hi];rfl
 by_cases hle:last=[]
 ·rw[if_pos hle]at hlsdef;have hn:ls.length=q:=by rw[hlsdef,length_dropLast];omega
  have hget:∀ i,i<q->M3.get? b5 i=some (str (ls.getD i [])):=fun i hi=>by
   have hi2:i<L.length:=by omega
   have hx:ls[i]?=some L[i]:=by rw[hlsdef,getElem?_dropLast,if_pos (by omega),getElem?_eq_getElem hi2]
   rw[hgL i (by omega) hi2,getD_eq_getElem?_getD,hx];rfl
  subst hle;simp(disch:=omega)[hqI,gl];by_cases hbig:4000<l.length
  ·have hbI:(4000:Int)<(l.length:Nat):=by omega
   have h:=h0 (by unfold kx;rw[if_neg (by omega)]);simp(disch:=omega)[hbI,undef,k2,al];exact ae (s3.ovr hb2 _) h
  by_cases hmany:40<q
  ·have hbI:¬(4000:Int)<(l.length:Nat):=by omega
   have hmI:(40:Int)<(q:Nat):=by omega
   have h:=h0 (by unfold kx;rw[hls,if_neg (by omega)]);simp(disch:=omega)[hbI,hmI,undef,k2,al];exact ae (s3.ovr hb2 _) h
  have hbI:¬(4000:Int)<(l.length:Nat):=by omega
  have hlw:∀ w∈ls,w.length<=1000000:=fun w hw=>by have:=hlw w hw;omega
  have hmI:¬(40:Int)<(q:Nat):=by omega
  have hcx:kx l=some (ju ls q):=by unfold kx;rw[hls,if_pos (by omega)];rw[hn]
  simp(disch:=omega)[hbI,hmI];refine nR _ _ ?_;intro x6 M6 o6;unfold AV;obtain⟨M1,o1,s1,n1⟩:=ee s3 o6;have hfx:=aZ o6.rd;have k2':=o6.sub _ _ k2;have k5':=o6.sub _ _ k5;simp(disch:=omega);intro b6 hb6;have n26:b2≠b6:=by rintro rfl;rw[k2']at hb6;cases hb6
  have n56:b5≠b6:=by rintro rfl;rw[k5']at hb6;cases hb6
  have m6:M b6=none:=bM (s3.trans o6.sub) hb6;have q2:(M6.put b6 (.cells true [str [97,98,97,97,98],str [65,65],x6] 3)) b2=some (.cells true [str [],str [],.slice none 0 0] 3):=by rw[ai _ _ n26];exact k2'
  have q5:(M6.put b6 (.cells true [str [97,98,97,97,98],str [65,65],x6] 3)) b5=some (.cells true (strs L) c5):=by rw[ai _ _ n56];exact k5'
  have q6:=ag M6 b6 (.cells true [str [97,98,97,97,98],str [65,65],x6] 3);have sq:=s1.putN hb6 (.cells true [str [97,98,97,97,98],str [65,65],x6] 3);have z2:=n1 _ _ hb2 k2;have z6:M1 b6=none:=bM s1 hb6;simp(disch:=omega)[hfx,al,a7];generalize M6.put b6 (.cells true [str [97,98,97,97,98],str [65,65],x6] 3)=N6 at *;refine aQ aR [7,8,9,10,35,36,37,38,39,40,41,42,43,44,45,46,47,48,49,50,51,52,53,54,55,56,57,58,59] (fun x:Nat×Value=>[(8,.int .i64 (x.1:Nat)),(7,str (ju ls x.1).2)]) (fun x N=>x.1<=q/\U2 M N b2 b5 b6 x.2 (ju ls x.1).1 L c5) (fun x=>q-x.1) (0,x6) (by kernel_rfl) (by simp(disch:=omega)[tv]) ⟨Nat.zero_le _,⟨M1,o1,sq,z6,z2,q6,q2,q5⟩⟩ ?_
  rintro⟨i,u⟩ N g ⟨hi,hJ⟩
  simp only at hi hJ;obtain⟨M1,o1,s1,z6,z2,q6,q2,q5⟩:=hJ;have hok:=q9 ls i (by omega);have hlen:=yF ls hlw i (by omega);have hfu:=aZ o1.rd;have hlen2:(ju ls i).2.length<=50000000:=Nat.le_trans hlen (Nat.le_trans (Nat.mul_le_mul_right 1100001 (show i<=40 by omega)) (by decide));clear hlen;by_cases hlt:i<q
  ·have hltI:(i:Int)<(q:Nat):=by omega
   have gi:=hget i hlt;rw[show ls.getD i []=ls[i]'(by omega) from by rw[getD_eq_getElem?_getD,getElem?_eq_getElem (by omega)];rfl]at gi;have hst:=oM ls (i:=i) (by omega);have hwl:=hlw ls[i] (getElem_mem (by omega));generalize ls[i]=w at *;have gi2:N.get? b5 i=some (str w):=by rw[aj q5];rw[aj k5]at gi;exact gi
   generalize ju ls i=S at *;by_cases hw:w=[]
   ·unfold jR at hst;rw[if_pos hw]at hst;subst hw;simp(disch:=omega)[hltI,gi2];exact rndA (i+1,u) (by simp(disch:=omega)[hst]) ⟨by simp only;omega,by simp only;rw[hst];exact⟨M1,o1,s1,z6,z2,q6,q2,q5⟩⟩
   ·unfold jR at hst;rw[if_neg hw]at hst;have hrl:=wy hok (l:=w) (by omega);have hwl2:w.length<=1500000:=by omega
    simp(disch:=omega)[hltI,gi2,beq_eq_false_iff_ne.2 hw];refine plyS (ak [0,1,2,3,4] (.alt 5 1 (ak [6,7,8] (.one 9 1 (.one 10 2 (ak [11] .fin)))) (.one 9 1 (.one 5 1 (ak [6,7,8] (.one 10 2 (ak [11] .fin))))))) ?_;simp(disch:=omega)[jW,gi2,aq q6];refine⟨?_,?_⟩
    ·refine gp S.1 u w _ _ hok (o1.rd.sub s1) hwl2 ?_;intro v7 M7 o7;obtain⟨M8,o8,s8,n8⟩:=ee (((o1.sub).trans s1)) o7;have e6:=n8 _ _ m6 q6;have e2:=n8 _ _ hb2 q2;have hf7:=aZ o7.rd;have r6:=o7.sub _ _ q6;have r2:=o7.sub _ _ q2;have r5:=o7.sub _ _ q5;have sN7:=o7.sub;generalize iO S.1 w=RR at *;unfold dkV;simp(disch:=omega);refine⟨sN7,?_⟩;intro b9 hb9;have n69:b6≠b9:=by rintro rfl;rw[r6]at hb9;cases hb9
     have n29:b2≠b9:=by rintro rfl;rw[r2]at hb9;cases hb9
     have n59:b5≠b9:=by rintro rfl;rw[r5]at hb9;cases hb9
     simp(disch:=omega)[hf7,al,a7,r6];refine⟨(Sub.refl M7).put hb9 _,?_⟩;refine rndA (i+1,v7) (by simp(disch:=omega)[hst]) ⟨by simp only;omega,?_⟩;simp only;rw[hst];exact⟨M8,o8,(s8.putN hb9 _).ovr e6 _,e6,e2,ag _ _ _,by rw[ai _ _ n26,ai _ _ n29];exact r2,by rw[ai _ _ n56,ai _ _ n59];exact r5⟩
    ·intro b9 hb9;have n69:b6≠b9:=by rintro rfl;rw[q6]at hb9;cases hb9
     have n29:b2≠b9:=by rintro rfl;rw[q2]at hb9;cases hb9
     have n59:b5≠b9:=by rintro rfl;rw[q5]at hb9;cases hb9
     have m9:M b9=none:=bM ((o1.sub).trans s1) hb9;have sP:=((o1.sub).trans s1).putN hb9 (.cells true [str [],str [],.slice none 0 0] 3);have w6:(N.put b9 (.cells true [str [],str [],.slice none 0 0] 3)) b6=some (.cells true [str S.1.w,str S.1.p,u] 3):=by rw[ai _ _ n69];exact q6
     have w2:(N.put b9 (.cells true [str [],str [],.slice none 0 0] 3)) b2=some (.cells true [str [],str [],.slice none 0 0] 3):=by rw[ai _ _ n29];exact q2
     have w5:(N.put b9 (.cells true [str [],str [],.slice none 0 0] 3)) b5=some (.cells true (strs L) c5):=by rw[ai _ _ n59];exact q5
     have w9:(N.put b9 (.cells true [str [],str [],.slice none 0 0] 3)) b9=some (.cells true [str [],str [],.slice none 0 0] 3):=ag _ _ _;have ru:=(o1.rd.sub s1).sub ((Sub.refl N).put hb9 (.cells true [str [],str [],.slice none 0 0] 3));simp(disch:=omega);refine⟨(Sub.refl N).put hb9 _,?_⟩;generalize N.put b9 (.cells true [str [],str [],.slice none 0 0] 3)=P at *;refine gp S.1 u w _ _ hok ru hwl2 ?_;intro v7 M7 o7;obtain⟨M8,o8,s8,n8⟩:=ee sP o7;have e6:=n8 _ _ m6 w6;have e2:=n8 _ _ hb2 w2;have e9:=n8 _ _ m9 w9;have hf7:=aZ o7.rd;have r6:=o7.sub _ _ w6;have r2:=o7.sub _ _ w2;have r5:=o7.sub _ _ w5;have r9:=o7.sub _ _ w9;have sN7:=o7.sub;have r6q:∀ X,(M7.put b9 X) b6=some (.cells true [str S.1.w,str S.1.p,u] 3):=fun X=>by rw[ai _ _ n69];exact r6
     generalize iO S.1 w=RR at *;unfold dkV;simp(disch:=omega)[hf7,al,r6,r9];refine⟨sN7,?_⟩;refine rndA (i+1,v7) (by simp(disch:=omega)[hst]) ⟨by simp only;omega,?_⟩;simp only;rw[hst];exact⟨M8,o8,(s8.ovr e9 _).ovr e6 _,e6,e2,ag _ _ _,by rw[ai _ _ n26,ai _ _ n29];exact r2,by rw[ai _ _ n56,ai _ _ n59];exact r5⟩
  ·have hie:i=q:=by omega
   have hltI:¬(i:Int)<(q:Nat):=by omega
   rw[<-hie]at hcx;have h:=h1 (ju ls i).1 (ju ls i).2 u M1 hcx o1;unfold dkV at h;simp(disch:=omega)[hltI,aq q6,q2,al,hfu];exact ae (s1.ovr z2 _) h
 ·rw[if_neg hle]at hlsdef;have hn:ls.length=n0:=by rw[hlsdef];exact hLn
  have hget:∀ i,i<n0->M3.get? b5 i=some (str (ls.getD i [])):=fun i hi=>by
   have hi2:i<L.length:=by omega
   have hx:ls[i]?=some L[i]:=by rw[hlsdef,getElem?_eq_getElem hi2]
   rw[hgL i (by omega) hi2,getD_eq_getElem?_getD,hx];rfl
  simp(disch:=omega)[hqI,gl,beq_eq_false_iff_ne.2 hle];by_cases hbig:4000<l.length
  ·have hbI:(4000:Int)<(l.length:Nat):=by omega
   have h:=h0 (by unfold kx;rw[if_neg (by omega)]);simp(disch:=omega)[hbI,undef,k2,al];exact ae (s3.ovr hb2 _) h
  by_cases hmany:40<n0
  ·have hbI:¬(4000:Int)<(l.length:Nat):=by omega
   have hmI:(40:Int)<(n0:Nat):=by omega
   have h:=h0 (by unfold kx;rw[hls,if_neg (by omega)]);simp(disch:=omega)[hbI,hmI,undef,k2,al];exact ae (s3.ovr hb2 _) h
  have hbI:¬(4000:Int)<(l.length:Nat):=by omega
  have hlw:∀ w∈ls,w.length<=1000000:=fun w hw=>by have:=hlw w hw;omega
  have hmI:¬(40:Int)<(n0:Nat):=by omega
  have hcx:kx l=some (ju ls n0):=by unfold kx;rw[hls,if_pos (by omega)];rw[hn]
  simp(disch:=omega)[hbI,hmI];refine nR _ _ ?_;intro x6 M6 o6;unfold AV;obtain⟨M1,o1,s1,n1⟩:=ee s3 o6;have hfx:=aZ o6.rd;have k2':=o6.sub _ _ k2;have k5':=o6.sub _ _ k5;simp(disch:=omega);intro b6 hb6;have n26:b2≠b6:=by rintro rfl;rw[k2']at hb6;cases hb6
  have n56:b5≠b6:=by rintro rfl;rw[k5']at hb6;cases hb6
  have m6:M b6=none:=bM (s3.trans o6.sub) hb6;have q2:(M6.put b6 (.cells true [str [97,98,97,97,98],str [65,65],x6] 3)) b2=some (.cells true [str [],str [],.slice none 0 0] 3):=by rw[ai _ _ n26];exact k2'
  have q5:(M6.put b6 (.cells true [str [97,98,97,97,98],str [65,65],x6] 3)) b5=some (.cells true (strs L) c5):=by rw[ai _ _ n56];exact k5'
  have q6:=ag M6 b6 (.cells true [str [97,98,97,97,98],str [65,65],x6] 3);have sq:=s1.putN hb6 (.cells true [str [97,98,97,97,98],str [65,65],x6] 3);have z2:=n1 _ _ hb2 k2;have z6:M1 b6=none:=bM s1 hb6;simp(disch:=omega)[hfx,al,a7];generalize M6.put b6 (.cells true [str [97,98,97,97,98],str [65,65],x6] 3)=N6 at *;refine aQ aR [7,8,9,10,35,36,37,38,39,40,41,42,43,44,45,46,47,48,49,50,51,52,53,54,55,56,57,58,59] (fun x:Nat×Value=>[(8,.int .i64 (x.1:Nat)),(7,str (ju ls x.1).2)]) (fun x N=>x.1<=n0/\U2 M N b2 b5 b6 x.2 (ju ls x.1).1 L c5) (fun x=>n0-x.1) (0,x6) (by kernel_rfl) (by simp(disch:=omega)[tv]) ⟨Nat.zero_le _,⟨M1,o1,sq,z6,z2,q6,q2,q5⟩⟩ ?_
  rintro⟨i,u⟩ N g ⟨hi,hJ⟩
  simp only at hi hJ;obtain⟨M1,o1,s1,z6,z2,q6,q2,q5⟩:=hJ;have hok:=q9 ls i (by omega);have hlen:=yF ls hlw i (by omega);have hfu:=aZ o1.rd;have hlen2:(ju ls i).2.length<=50000000:=Nat.le_trans hlen (Nat.le_trans (Nat.mul_le_mul_right 1100001 (show i<=40 by omega)) (by decide));clear hlen;by_cases hlt:i<n0
  ·have hltI:(i:Int)<(n0:Nat):=by omega
   have gi:=hget i hlt;rw[show ls.getD i []=ls[i]'(by omega) from by rw[getD_eq_getElem?_getD,getElem?_eq_getElem (by omega)];rfl]at gi;have hst:=oM ls (i:=i) (by omega);have hwl:=hlw ls[i] (getElem_mem (by omega));generalize ls[i]=w at *;have gi2:N.get? b5 i=some (str w):=by rw[aj q5];rw[aj k5]at gi;exact gi
   generalize ju ls i=S at *;by_cases hw:w=[]
   ·unfold jR at hst;rw[if_pos hw]at hst;subst hw;simp(disch:=omega)[hltI,gi2];exact rndA (i+1,u) (by simp(disch:=omega)[hst]) ⟨by simp only;omega,by simp only;rw[hst];exact⟨M1,o1,s1,z6,z2,q6,q2,q5⟩⟩
   ·unfold jR at hst;rw[if_neg hw]at hst;have hrl:=wy hok (l:=w) (by omega);have hwl2:w.length<=1500000:=by omega
    simp(disch:=omega)[hltI,gi2,beq_eq_false_iff_ne.2 hw];refine plyS (ak [0,1,2,3,4] (.alt 5 1 (ak [6,7,8] (.one 9 1 (.one 10 2 (ak [11] .fin)))) (.one 9 1 (.one 5 1 (ak [6,7,8] (.one 10 2 (ak [11] .fin))))))) ?_;simp(disch:=omega)[jW,gi2,aq q6];refine⟨?_,?_⟩
    ·refine gp S.1 u w _ _ hok (o1.rd.sub s1) hwl2 ?_;intro v7 M7 o7;obtain⟨M8,o8,s8,n8⟩:=ee (((o1.sub).trans s1)) o7;have e6:=n8 _ _ m6 q6;have e2:=n8 _ _ hb2 q2;have hf7:=aZ o7.rd;have r6:=o7.sub _ _ q6;have r2:=o7.sub _ _ q2;have r5:=o7.sub _ _ q5;have sN7:=o7.sub;generalize iO S.1 w=RR at *;unfold dkV;simp(disch:=omega);refine⟨sN7,?_⟩;intro b9 hb9;have n69:b6≠b9:=by rintro rfl;rw[r6]at hb9;cases hb9
     have n29:b2≠b9:=by rintro rfl;rw[r2]at hb9;cases hb9
     have n59:b5≠b9:=by rintro rfl;rw[r5]at hb9;cases hb9
     simp(disch:=omega)[hf7,al,a7,r6];refine⟨(Sub.refl M7).put hb9 _,?_⟩;refine rndA (i+1,v7) (by simp(disch:=omega)[hst]) ⟨by simp only;omega,?_⟩;simp only;rw[hst];exact⟨M8,o8,(s8.putN hb9 _).ovr e6 _,e6,e2,ag _ _ _,by rw[ai _ _ n26,ai _ _ n29];exact r2,by rw[ai _ _ n56,ai _ _ n59];exact r5⟩
    ·intro b9 hb9;have n69:b6≠b9:=by rintro rfl;rw[q6]at hb9;cases hb9
     have n29:b2≠b9:=by rintro rfl;rw[q2]at hb9;cases hb9
     have n59:b5≠b9:=by rintro rfl;rw[q5]at hb9;cases hb9
     have m9:M b9=none:=bM ((o1.sub).trans s1) hb9;have sP:=((o1.sub).trans s1).putN hb9 (.cells true [str [],str [],.slice none 0 0] 3);have w6:(N.put b9 (.cells true [str [],str [],.slice none 0 0] 3)) b6=some (.cells true [str S.1.w,str S.1.p,u] 3):=by rw[ai _ _ n69];exact q6
     have w2:(N.put b9 (.cells true [str [],str [],.slice none 0 0] 3)) b2=some (.cells true [str [],str [],.slice none 0 0] 3):=by rw[ai _ _ n29];exact q2
     have w5:(N.put b9 (.cells true [str [],str [],.slice none 0 0] 3)) b5=some (.cells true (strs L) c5):=by rw[ai _ _ n59];exact q5
     have w9:(N.put b9 (.cells true [str [],str [],.slice none 0 0] 3)) b9=some (.cells true [str [],str [],.slice none 0 0] 3):=ag _ _ _;have ru:=(o1.rd.sub s1).sub ((Sub.refl N).put hb9 (.cells true [str [],str [],.slice none 0 0] 3));simp(disch:=omega);refine⟨(Sub.refl N).put hb9 _,?_⟩;generalize N.put b9 (.cells true [str [],str [],.slice none 0 0] 3)=P at *;refine gp S.1 u w _ _ hok ru hwl2 ?_;intro v7 M7 o7;obtain⟨M8,o8,s8,n8⟩:=ee sP o7;have e6:=n8 _ _ m6 w6;have e2:=n8 _ _ hb2 w2;have e9:=n8 _ _ m9 w9;have hf7:=aZ o7.rd;have r6:=o7.sub _ _ w6;have r2:=o7.sub _ _ w2;have r5:=o7.sub _ _ w5;have r9:=o7.sub _ _ w9;have sN7:=o7.sub;have r6q:∀ X,(M7.put b9 X) b6=some (.cells true [str S.1.w,str S.1.p,u] 3):=fun X=>by rw[ai _ _ n69];exact r6
     generalize iO S.1 w=RR at *;unfold dkV;simp(disch:=omega)[hf7,al,r6,r9];refine⟨sN7,?_⟩;refine rndA (i+1,v7) (by simp(disch:=omega)[hst]) ⟨by simp only;omega,?_⟩;simp only;rw[hst];exact⟨M8,o8,(s8.ovr e9 _).ovr e6 _,e6,e2,ag _ _ _,by rw[ai _ _ n26,ai _ _ n29];exact r2,by rw[ai _ _ n56,ai _ _ n59];exact r5⟩
  ·have hie:i=n0:=by omega
   have hltI:¬(i:Int)<(n0:Nat):=by omega
   rw[<-hie]at hcx;have h:=h1 (ju ls i).1 (ju ls i).2 u M1 hcx o1;unfold dkV at h;simp(disch:=omega)[hltI,aq q6,q2,al,hfu];exact ae (s1.ovr z2 _) h
end Go.Proofs.YtapimhjbilkfpaaGreatDoor
