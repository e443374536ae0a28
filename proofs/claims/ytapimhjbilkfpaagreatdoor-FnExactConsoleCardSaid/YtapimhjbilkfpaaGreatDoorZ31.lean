/- Lemmas for FnExactConsole, part 32 of 46. -/
import Derived.Test.YtapimhjbilkfpaaGreatDoorZ27
import Derived.Test.YtapimhjbilkfpaaGreatDoorZ26
import Derived.Test.YtapimhjbilkfpaaGreatDoorZ04
set_option linter.unusedVariables false
set_option linter.unusedSimpArgs false
namespace Go.Proofs.YtapimhjbilkfpaaGreatDoor
open Go Go.Proofs.Tryz List
theorem Dn(n:Nat):replicate n (Value.int .i64 0)=ints (bw n fun _=>0):=by
 rw[<-Mi];unfold ints;rw[map_replicate]
theorem dY{n:Nat}{g:Nat->Int}{i:Nat}(h:i<n):(ints (bw n g))[i]?=some (.int .i64 (g i)):=by
 rw[cJ,sW h];rfl
theorem PS{n:Nat}{g:Nat->Int}{i:Nat}(x:Int):(ints (bw n g)).set i (.int .i64 x)=ints (bw n fun k=>if k=i then x else g k):=by
 rw[ints_set,OK]
theorem cL(n:Nat)(g:Nat->Int):(ints (bw n g)).length=n:=by rw[ay,jc]
def fpG(w:List UInt8)(d k:Nat):Int:=if k<w.length-d then 0 else (fpN w k:Nat)
def fpH(w:List UInt8)(d k:Nat):Int:=if k<w.length-d then 0 else (fpE w k:Nat)
theorem xI(w:List UInt8):∀ k,k<w.length+1->fpG w 0 k=0:=fun k hk=>by
 unfold fpG;split
 ·rfl
 ·rw[(zt (show w.length<=k by omega)).1];rfl
theorem Gw(w:List UInt8):∀ k,k<w.length+1->fpH w 0 k=0:=fun k hk=>by
 unfold fpH;split
 ·rfl
 ·rw[(zt (show w.length<=k by omega)).2];rfl
theorem dI{n:Nat}{g h:Nat->Int}(e:∀ k,k<n->g k=h k):bw n g=bw n h:=by
 unfold bw;exact map_congr_left fun k hk=>e k (List.mem_range.1 hk)
def upd(g:Nat->Int)(i:Nat)(x:Int):Nat->Int:=fun k=>if k=i then x else g k
theorem wR(g:Nat->Int)(i:Nat)(x y:Int):upd (upd g i x) i y=upd g i y:=by
 funext k
 unfold upd;split<;>rfl
theorem F2(g:Nat->Int)(i:Nat):upd g i (g i)=g:=by
 funext k
 unfold upd;split
 ·rename_i e;rw[e]
 ·rfl
theorem gE{n:Nat}{g:Nat->Int}{i:Nat}(x:Int):(ints (bw n g)).set i (.int .i64 x)=ints (bw n (upd g i x)):=PS x
theorem yL{w:List UInt8}{d i:Nat}(h:i+d+1=w.length):upd (fpG w d) i (fpN w i:Nat)=fpG w (d+1):=by
 funext k
 unfold upd fpG;by_cases e:k=i
 ·rw[if_pos e,if_neg (by omega),e]
 ·rw[if_neg e];by_cases h1:k<w.length-(d+1)
  ·rw[if_pos (by omega),if_pos h1]
  ·rw[if_neg (by omega),if_neg h1]
theorem ED{w:List UInt8}{d i:Nat}(h:i+d+1=w.length):upd (fpH w d) i (fpE w i:Nat)=fpH w (d+1):=by
 funext k
 unfold upd fpH;by_cases e:k=i
 ·rw[if_pos e,if_neg (by omega),e]
 ·rw[if_neg e];by_cases h1:k<w.length-(d+1)
  ·rw[if_pos (by omega),if_pos h1]
  ·rw[if_neg (by omega),if_neg h1]
theorem iW(n i:Nat)(pal:Nat->Bool)(L:Nat->Nat):bO n i pal L 0=(n+1,0):=rfl
set_option maxHeartbeats 2000000 in
theorem tJ(w:List UInt8)(M:Mem)(R:VP)(hl:w.length<=1099511627776)(h:∀ v M',Sub M M'->Rd M' v (strs (if isWord w then ie w 0 else []))->R (aD v (aJ w)) M'):ar prog 246 [str w] M R:=by
 unfold aD aJ at h;refine fnS func246 rfl ntmps246 results246 ?_;simp(disch:=omega);intro b0 hb0;simp(disch:=omega);have hs1:Sub M (M.put b0 (.cells true [str w] 1)):=(Sub.refl _).put hb0 _;refine bq _ _ [w] true (fun _=>True) _ _ (Rd.new rfl (Nat.le_refl 1)) (fM hl) (by simp) trivial bT (bG _) ?_;rw[cV];cases hw:isWord w
 ·rw[hw]at h;simp(disch:=omega);exact ad (h _ _ hs1 (.inl ⟨none,0,rfl,rfl⟩))
 ·rw[hw,if_pos rfl,if_pos rfl]at h;have h60:=au hw;generalize M.put b0 (.cells true [str w] 1)=M0 at *;have er:((w.length:Int)+1).toNat=w.length+1:=by omega
  have hrep:=Dn (w.length+1);simp(disch:=omega);refine plyS (ak [0,1,3,4] (.alt 2 1 (ak [6] (.one 5 1 (ak [7] .fin))) (.one 5 1 (.one 2 1 (ak [6,7] .fin))))) ?_;simp(disch:=omega);have tl:=jc (w.length+1) (fun _=>0);refine⟨?_,?_⟩
  ·simp(disch:=omega)[er,hrep];intro b1 hb1;simp(disch:=omega)[er,hrep,tl];refine⟨(Sub.refl M0).put hb1 _,?_⟩;intro b2 hb2;have hb2':=hb2;rw[aF]at hb2';simp(disch:=omega)[tl];refine⟨(Sub.refl _).put hb2 _,?_⟩;have hne:b1≠b2:=Ne.symm hb2'.1;have sN:=((Sub.refl M0).put hb1 (.cells true (ints (bw (w.length+1) fun _=>0)) (w.length+1))).trans ((Sub.refl _).put hb2 (.cells true (ints (bw (w.length+1) fun _=>0)) (w.length+1)));have k2:=ag (M0.put b1 (.cells true (ints (bw (w.length+1) fun _=>0)) (w.length+1))) b2 (.cells true (ints (bw (w.length+1) fun _=>0)) (w.length+1));have k1:((M0.put b1 (.cells true (ints (bw (w.length+1) fun _=>0)) (w.length+1))).put b2 (.cells true (ints (bw (w.length+1) fun _=>0)) (w.length+1))) b1=some (.cells true (ints (bw (w.length+1) fun _=>0)) (w.length+1)):=by rw[ai _ _ hne,ag]
   have hb2:=hb2'.2;clear hb2' tl hrep;generalize (M0.put b1 (.cells true (ints (bw (w.length+1) fun _=>0)) (w.length+1))).put b2 (.cells true (ints (bw (w.length+1) fun _=>0)) (w.length+1))=N at *;have hm0:∀ k,k<w.length+1->(fun _=>(0:Int)) k=fpG w 0 k:=fun k hk=>(xI w k hk).symm;have hm1:∀ k,k<w.length+1->(fun _=>(0:Int)) k=fpH w 0 k:=fun k hk=>(Gw w k hk).symm;rw[dI hm0]at k1;rw[dI hm1]at k2;clear hm0 hm1;refine lupS [8,9,28,29,30,31,32,33,34,35,36,37,38,39,40,41,42,43,44,45,46,47,48,49,50,51,52,53,54,55,56,57,58,59,60,61,62,63,64,65,66,67,68,69,70,71,72] (fun d:Nat=>[(8,.int .i64 ((w.length:Int)-1-d))]) (fun d N'=>d<=w.length/\Sub M0 N'/\N' b1=some (.cells true (ints (bw (w.length+1) (fpG w d))) (w.length+1))/\N' b2=some (.cells true (ints (bw (w.length+1) (fpH w d))) (w.length+1))) (fun d=>w.length-d) 0 ⟨Nat.zero_le _,sN,k1,k2⟩ ?_
   rintro d N1 g ⟨hd,sN1,q1,q2⟩
   by_cases hlt:d<w.length
   ·obtain⟨i,hi⟩:∃ i,i=w.length-1-d:=⟨_,rfl⟩;have hid:i+d+1=w.length:=by omega
    have hiI:(w.length:Int)-1-d=(i:Nat):=by omega
    have hi0:(0:Int)<=(i:Nat):=by omega
    have hnx:(w.length:Int)-1-((d:Int)+1)=(i:Int)-1:=by omega
    have hl1:=cL (w.length+1) (fpG w d);have hH0:fpH w d i=0:=by unfold fpH;rw[if_pos (by omega)]
    have hst:=oN (w:=w) (i:=i) (by omega);have hGn:=yL (w:=w) hid;have hHn:=ED (w:=w) hid;have hNE:(bO w.length i (cf w i) (fun t=>fpN w (i+1+t)) (w.length-i))=(fpN w i,fpE w i):=by rw[<-hst];rfl
    rw[hiI];simp(disch:=omega)[hi0,q1,hl1,al,gE];have p1:=ag N1 b1 (.cells true (ints (bw (w.length+1) (upd (fpG w d) i ((w.length:Int)+1)))) (w.length+1));have p2:(N1.put b1 (.cells true (ints (bw (w.length+1) (upd (fpG w d) i ((w.length:Int)+1)))) (w.length+1))) b2=some (.cells true (ints (bw (w.length+1) (upd (fpH w d) i 0))) (w.length+1)):=by
     rw[ai _ _ (Ne.symm hne),q2,<-hH0,F2]
    have sP:Sub M0 (N1.put b1 (.cells true (ints (bw (w.length+1) (upd (fpG w d) i ((w.length:Int)+1)))) (w.length+1))):=sN1.ovr hb1 _;generalize N1.put b1 (.cells true (ints (bw (w.length+1) (upd (fpG w d) i ((w.length:Int)+1)))) (w.length+1))=N2 at *;clear q1 q2;refine lupS [9,39,40,41,42,43,44,45,46,47,48,49,50,51,52,53,54,55,56,57,58,59,60,61,62,63,64,65,66,67,68,69,70,71,72] (fun t:Nat=>[(9,.int .i64 ((i:Int)+1+t))]) (fun t N'=>t<=w.length-i/\Sub M0 N'/\N' b1=some (.cells true (ints (bw (w.length+1) (upd (fpG w d) i ((bO w.length i (cf w i) (fun t=>fpN w (i+1+t)) t).1:Nat)))) (w.length+1))/\N' b2=some (.cells true (ints (bw (w.length+1) (upd (fpH w d) i ((bO w.length i (cf w i) (fun t=>fpN w (i+1+t)) t).2:Nat)))) (w.length+1))) (fun t=>w.length-i-t) 0 ⟨Nat.zero_le _,sP,by rw[iW];simpa using p1,by rw[iW];simpa using p2⟩ ?_
    rintro t N3 g3 ⟨ht,sN3,r1,r2⟩
    have hsle:=mH (n:=w.length) (i:=i) (pal:=cf w i) (L:=fun t=>fpN w (i+1+t)) t;by_cases htl:t<w.length-i
    ·obtain⟨e,he⟩:∃ e,e=i+1+t:=⟨_,rfl⟩;have heI:(i:Int)+1+t=(e:Nat):=by omega
     have heI2:(i:Int)+1+((t:Int)+1)=(e:Int)+1:=by omega
     have hel:(e:Int)<=(w.length:Nat):=by omega
     have hs:bO w.length i (cf w i) (fun t=>fpN w (i+1+t)) (t+1)=if cf w i t&&decide (1+fpN w (i+1+t)<=(bO w.length i (cf w i) (fun t=>fpN w (i+1+t)) t).1) then (1+fpN w (i+1+t),i+1+t) else bO w.length i (cf w i) (fun t=>fpN w (i+1+t)) t:=rfl
     have hsg:(w.take e).drop i=seg w i (t+1):=by unfold seg;rw[show i+(t+1)=e by omega]
     have hsl:=ef (w:=w) (a:=i) (m:=t+1) (by omega);have hpa:cf w i t=ca (seg w i (t+1)):=rfl;rw[hpa]at hs;rw[<-he]at hs;have hfn:=xR w e;have hil:(i:Int)<=(e:Nat):=by omega
     generalize (bO w.length i (cf w i) (fun t=>fpN w (i+1+t)) t)=s at *;generalize seg w i (t+1)=u at *;have l1:=cL (w.length+1) (upd (fpG w d) i (s.1:Nat));have l2:=cL (w.length+1) (upd (fpH w d) i (s.2:Nat));have ge:N3.get? b1 e=some (.int .i64 (fpN w e:Nat)):=by
      rw[aj r1,dY (by omega)];unfold upd fpG;rw[if_neg (by omega),if_neg (by omega)]
     have gi:N3.get? b1 i=some (.int .i64 (s.1:Nat)):=by
      rw[aj r1,dY (by omega)];unfold upd;rw[if_pos rfl]
     rw[heI];simp(disch:=omega)[hel];refine drwS ?_;simp(disch:=omega)[hil,hsg];refine aU (a:=[]) (c:=[]) (iX u _ _ (by omega) ⟨rfl,rfl⟩) ?_;cases hp:ca u
     ·rw[hp,Bool.false_and,if_neg (by decide)]at hs;simp(disch:=omega)[undef];exact rndA (t+1) (by simp(disch:=omega)[heI2]) ⟨by omega,sN3,by rw[hs];exact r1,by rw[hs];exact r2⟩
     ·rw[hp,Bool.true_and]at hs;by_cases hc:1+fpN w e<=s.1
      ·rw[decide_eq_true hc,if_pos rfl]at hs;have hcI:(1:Int)+(fpN w e:Nat)<=(s.1:Nat):=by omega
       generalize fpN w e=f at *;have hff:f<=1000:=by omega
       have u1:N3.put b1 (.cells true (ints (bw (w.length+1) (upd (fpG w d) i ((1:Int)+(f:Nat))))) (w.length+1)) b2=some (.cells true (ints (bw (w.length+1) (upd (fpH w d) i (s.2:Nat)))) (w.length+1)):=by
        rw[ai _ _ (Ne.symm hne)];exact r2
       have hil2:(i:Int)<(w.length:Int)+1:=by omega
       have hiN:i<w.length+1:=by omega
       have heN:e<w.length+1:=by omega
       simp(disch:=omega)[ge,gi,hcI,r1,r2,l1,l2,al,gE,wR,hiN];refine rndA (t+1) (by simp(disch:=omega)[heI2]) ⟨by omega,(sN3.ovr hb1 _).ovr hb2 _,?_,?_⟩
       ·rw[hs,ai _ _ hne,ag]
        push_cast
        rfl
       ·rw[hs,ag]
      ·rw[decide_eq_false hc,if_neg (by decide)]at hs;have hcI:¬(1:Int)+(fpN w e:Nat)<=(s.1:Nat):=by omega
       generalize fpN w e=f at *;simp(disch:=omega)[ge,gi,hcI];exact rndA (t+1) (by simp(disch:=omega)[heI2]) ⟨by omega,sN3,by rw[hs];exact r1,by rw[hs];exact r2⟩
    ·have htE:t=w.length-i:=by omega
     subst htE;have hel:¬(i:Int)+1+((w.length-i:Nat):Int)<=(w.length:Nat):=by omega
     rw[hNE]at r1 r2;simp only at r1 r2;rw[hGn]at r1;rw[hHn]at r2;simp(disch:=omega)[hel];exact rndA (d+1) (by simp(disch:=omega)[hnx]) ⟨by omega,sN3,r1,r2⟩
   ·have hdE:d=w.length:=by omega
    subst hdE;have hneg:¬(0:Int)<=(w.length:Int)-1-(w.length:Nat):=by omega
    have hE:∀ i,i<w.length->N1.get? b2 i=some (.int .i64 (fpE w i:Nat)):=fun i hi=>by
     rw[aj q2,dY (by omega)];unfold fpH;rw[if_neg (by omega)]
    clear q1 q2 k1 k2;simp(disch:=omega);refine lupS [10,11,73,74,75,76,77,78,79,80,81,82,83,84,85,86,87,88,89] (fun x:Nat×Value=>[(11,.int .i64 (x.1:Nat)),(10,x.2)]) (fun x N'=>x.1<=w.length/\∃ L,L.length<=x.1/\ie w 0=L++ie w x.1/\Own N1 x.2 (strs L) N') (fun x=>w.length-x.1) (0,.slice none 0 0) ⟨Nat.zero_le _,[],Nat.zero_le _,rfl,Own.nil _⟩ ?_
    rintro⟨i,v⟩ N2 g2 ⟨hi,L,hLl,hL,ho⟩
    simp only at hi hLl hL ho;by_cases hlt2:i<w.length
    ·have hltI:(i:Int)<(w.length:Nat):=by omega
     have hgE:=hE i hlt2;have hg:=aT hgE ho.sub;obtain⟨e1,e2⟩:=yA hlt2;rw[tV hlt2]at hL;have hsg:(w.take (fpE w i)).drop i=seg w i (fpE w i-i):=by unfold seg;rw[show i+(fpE w i-i)=fpE w i by omega]
     have hsl:=ef (w:=w) (a:=i) (m:=fpE w i-i) (by omega);have hL2:ie w 0=(L++[seg w i (fpE w i-i)])++ie w (fpE w i):=by rw[hL];simp
     have hil:(i:Int)<=(fpE w i:Nat):=by omega
     have hiN:i<w.length+1:=by omega
     generalize seg w i (fpE w i-i)=u at *;generalize fpE w i=e at *;simp(disch:=omega)[hltI,hg,hil,hsg];intro b' hb';simp(disch:=omega);refine aN ho ((Sub.refl _).put hb' _) (by simp(disch:=omega);rfl) rfl rfl (by omega) (by simp(disch:=omega)) (by simp(disch:=omega);omega) ?_;intro v' M'' N'' ho' hs';rw[cO]at ho';have hg2:=aT (aT hgE ho'.sub) hs';simp(disch:=omega)[hg2];exact rndM M'' (e,v') hs' ⟨by simp only;omega,_,by simp only[length_append,length_singleton];omega,hL2,ho'⟩
    ·have hiE:i=w.length:=by omega
     have hltI:¬(i:Int)<(w.length:Nat):=by omega
     rw[wZ (w:=w) (i:=i) (by omega),append_nil]at hL;rw[<-hL]at ho;simp(disch:=omega)[hltI];exact ad (h _ _ (hs1.trans (sN1.trans ho.sub)) ho.rd)
  ·simp(disch:=omega)[er,hrep];intro b2 hb2;simp(disch:=omega)[er,hrep,tl];refine⟨(Sub.refl M0).put hb2 _,?_⟩;intro b1 hb1;have hb1':=hb1;rw[aF]at hb1';simp(disch:=omega)[tl];refine⟨(Sub.refl _).put hb1 _,?_⟩;have hne:b1≠b2:=hb1'.1;have sN:=((Sub.refl M0).put hb2 (.cells true (ints (bw (w.length+1) fun _=>0)) (w.length+1))).trans ((Sub.refl _).put hb1 (.cells true (ints (bw (w.length+1) fun _=>0)) (w.length+1)));have k1:=ag (M0.put b2 (.cells true (ints (bw (w.length+1) fun _=>0)) (w.length+1))) b1 (.cells true (ints (bw (w.length+1) fun _=>0)) (w.length+1));have k2:((M0.put b2 (.cells true (ints (bw (w.length+1) fun _=>0)) (w.length+1))).put b1 (.cells true (ints (bw (w.length+1) fun _=>0)) (w.length+1))) b2=some (.cells true (ints (bw (w.length+1) fun _=>0)) (w.length+1)):=by rw[ai _ _ (Ne.symm hne),ag]
   have hb1:=hb1'.2;clear hb1' tl hrep;generalize (M0.put b2 (.cells true (ints (bw (w.length+1) fun _=>0)) (w.length+1))).put b1 (.cells true (ints (bw (w.length+1) fun _=>0)) (w.length+1))=N at *;have hm0:∀ k,k<w.length+1->(fun _=>(0:Int)) k=fpG w 0 k:=fun k hk=>(xI w k hk).symm;have hm1:∀ k,k<w.length+1->(fun _=>(0:Int)) k=fpH w 0 k:=fun k hk=>(Gw w k hk).symm;rw[dI hm0]at k1;rw[dI hm1]at k2;clear hm0 hm1;refine lupS [8,9,28,29,30,31,32,33,34,35,36,37,38,39,40,41,42,43,44,45,46,47,48,49,50,51,52,53,54,55,56,57,58,59,60,61,62,63,64,65,66,67,68,69,70,71,72] (fun d:Nat=>[(8,.int .i64 ((w.length:Int)-1-d))]) (fun d N'=>d<=w.length/\Sub M0 N'/\N' b1=some (.cells true (ints (bw (w.length+1) (fpG w d))) (w.length+1))/\N' b2=some (.cells true (ints (bw (w.length+1) (fpH w d))) (w.length+1))) (fun d=>w.length-d) 0 ⟨Nat.zero_le _,sN,k1,k2⟩ ?_
   rintro d N1 g ⟨hd,sN1,q1,q2⟩
   by_cases hlt:d<w.length
   ·obtain⟨i,hi⟩:∃ i,i=w.length-1-d:=⟨_,rfl⟩;have hid:i+d+1=w.length:=by omega
    have hiI:(w.length:Int)-1-d=(i:Nat):=by omega
    have hi0:(0:Int)<=(i:Nat):=by omega
    have hnx:(w.length:Int)-1-((d:Int)+1)=(i:Int)-1:=by omega
    have hl1:=cL (w.length+1) (fpG w d);have hH0:fpH w d i=0:=by unfold fpH;rw[if_pos (by omega)]
    have hst:=oN (w:=w) (i:=i) (by omega);have hGn:=yL (w:=w) hid;have hHn:=ED (w:=w) hid;have hNE:(bO w.length i (cf w i) (fun t=>fpN w (i+1+t)) (w.length-i))=(fpN w i,fpE w i):=by rw[<-hst];rfl
    rw[hiI];simp(disch:=omega)[hi0,q1,hl1,al,gE];have p1:=ag N1 b1 (.cells true (ints (bw (w.length+1) (upd (fpG w d) i ((w.length:Int)+1)))) (w.length+1));have p2:(N1.put b1 (.cells true (ints (bw (w.length+1) (upd (fpG w d) i ((w.length:Int)+1)))) (w.length+1))) b2=some (.cells true (ints (bw (w.length+1) (upd (fpH w d) i 0))) (w.length+1)):=by
     rw[ai _ _ (Ne.symm hne),q2,<-hH0,F2]
    have sP:Sub M0 (N1.put b1 (.cells true (ints (bw (w.length+1) (upd (fpG w d) i ((w.length:Int)+1)))) (w.length+1))):=sN1.ovr hb1 _;generalize N1.put b1 (.cells true (ints (bw (w.length+1) (upd (fpG w d) i ((w.length:Int)+1)))) (w.length+1))=N2 at *;clear q1 q2;refine lupS [9,39,40,41,42,43,44,45,46,47,48,49,50,51,52,53,54,55,56,57,58,59,60,61,62,63,64,65,66,67,68,69,70,71,72] (fun t:Nat=>[(9,.int .i64 ((i:Int)+1+t))]) (fun t N'=>t<=w.length-i/\Sub M0 N'/\N' b1=some (.cells true (ints (bw (w.length+1) (upd (fpG w d) i ((bO w.length i (cf w i) (fun t=>fpN w (i+1+t)) t).1:Nat)))) (w.length+1))/\N' b2=some (.cells true (ints (bw (w.length+1) (upd (fpH w d) i ((bO w.length i (cf w i) (fun t=>fpN w (i+1+t)) t).2:Nat)))) (w.length+1))) (fun t=>w.length-i-t) 0 ⟨Nat.zero_le _,sP,by rw[iW];simpa using p1,by rw[iW];simpa using p2⟩ ?_
    rintro t N3 g3 ⟨ht,sN3,r1,r2⟩
    have hsle:=mH (n:=w.length) (i:=i) (pal:=cf w i) (L:=fun t=>fpN w (i+1+t)) t;by_cases htl:t<w.length-i
    ·obtain⟨e,he⟩:∃ e,e=i+1+t:=⟨_,rfl⟩;have heI:(i:Int)+1+t=(e:Nat):=by omega
     have heI2:(i:Int)+1+((t:Int)+1)=(e:Int)+1:=by omega
     have hel:(e:Int)<=(w.length:Nat):=by omega
     have hs:bO w.length i (cf w i) (fun t=>fpN w (i+1+t)) (t+1)=if cf w i t&&decide (1+fpN w (i+1+t)<=(bO w.length i (cf w i) (fun t=>fpN w (i+1+t)) t).1) then (1+fpN w (i+1+t),i+1+t) else bO w.length i (cf w i) (fun t=>fpN w (i+1+t)) t:=rfl
     have hsg:(w.take e).drop i=seg w i (t+1):=by unfold seg;rw[show i+(t+1)=e by omega]
     have hsl:=ef (w:=w) (a:=i) (m:=t+1) (by omega);have hpa:cf w i t=ca (seg w i (t+1)):=rfl;rw[hpa]at hs;rw[<-he]at hs;have hfn:=xR w e;have hil:(i:Int)<=(e:Nat):=by omega
     generalize (bO w.length i (cf w i) (fun t=>fpN w (i+1+t)) t)=s at *;generalize seg w i (t+1)=u at *;have l1:=cL (w.length+1) (upd (fpG w d) i (s.1:Nat));have l2:=cL (w.length+1) (upd (fpH w d) i (s.2:Nat));have ge:N3.get? b1 e=some (.int .i64 (fpN w e:Nat)):=by
      rw[aj r1,dY (by omega)];unfold upd fpG;rw[if_neg (by omega),if_neg (by omega)]
     have gi:N3.get? b1 i=some (.int .i64 (s.1:Nat)):=by
      rw[aj r1,dY (by omega)];unfold upd;rw[if_pos rfl]
     rw[heI];simp(disch:=omega)[hel];refine drwS ?_;simp(disch:=omega)[hil,hsg];refine aU (a:=[]) (c:=[]) (iX u _ _ (by omega) ⟨rfl,rfl⟩) ?_;cases hp:ca u
     ·rw[hp,Bool.false_and,if_neg (by decide)]at hs;simp(disch:=omega)[undef];exact rndA (t+1) (by simp(disch:=omega)[heI2]) ⟨by omega,sN3,by rw[hs];exact r1,by rw[hs];exact r2⟩
     ·rw[hp,Bool.true_and]at hs;by_cases hc:1+fpN w e<=s.1
      ·rw[decide_eq_true hc,if_pos rfl]at hs;have hcI:(1:Int)+(fpN w e:Nat)<=(s.1:Nat):=by omega
       generalize fpN w e=f at *;have hff:f<=1000:=by omega
       have u1:N3.put b1 (.cells true (ints (bw (w.length+1) (upd (fpG w d) i ((1:Int)+(f:Nat))))) (w.length+1)) b2=some (.cells true (ints (bw (w.length+1) (upd (fpH w d) i (s.2:Nat)))) (w.length+1)):=by
        rw[ai _ _ (Ne.symm hne)];exact r2
       have hil2:(i:Int)<(w.length:Int)+1:=by omega
       have hiN:i<w.length+1:=by omega
       have heN:e<w.length+1:=by omega
       simp(disch:=omega)[ge,gi,hcI,r1,r2,l1,l2,al,gE,wR,hiN];refine rndA (t+1) (by simp(disch:=omega)[heI2]) ⟨by omega,(sN3.ovr hb1 _).ovr hb2 _,?_,?_⟩
       ·rw[hs,ai _ _ hne,ag]
        push_cast
        rfl
       ·rw[hs,ag]
      ·rw[decide_eq_false hc,if_neg (by decide)]at hs;have hcI:¬(1:Int)+(fpN w e:Nat)<=(s.1:Nat):=by omega
       generalize fpN w e=f at *;simp(disch:=omega)[ge,gi,hcI];exact rndA (t+1) (by simp(disch:=omega)[heI2]) ⟨by omega,sN3,by rw[hs];exact r1,by rw[hs];exact r2⟩
    ·have htE:t=w.length-i:=by omega
     subst htE;have hel:¬(i:Int)+1+((w.length-i:Nat):Int)<=(w.length:Nat):=by omega
     rw[hNE]at r1 r2;simp only at r1 r2;rw[hGn]at r1;rw[hHn]at r2;simp(disch:=omega)[hel];exact rndA (d+1) (by simp(disch:=omega)[hnx]) ⟨by omega,sN3,r1,r2⟩
   ·have hdE:d=w.length:=by omega
    subst hdE;have hneg:¬(0:Int)<=(w.length:Int)-1-(w.length:Nat):=by omega
    have hE:∀ i,i<w.length->N1.get? b2 i=some (.int .i64 (fpE w i:Nat)):=fun i hi=>by
     rw[aj q2,dY (by omega)];unfold fpH;rw[if_neg (by omega)]
    clear q1 q2 k1 k2;simp(disch:=omega);refine lupS [10,11,73,74,75,76,77,78,79,80,81,82,83,84,85,86,87,88,89] (fun x:Nat×Value=>[(11,.int .i64 (x.1:Nat)),(10,x.2)]) (fun x N'=>x.1<=w.length/\∃ L,L.length<=x.1/\ie w 0=L++ie w x.1/\Own N1 x.2 (strs L) N') (fun x=>w.length-x.1) (0,.slice none 0 0) ⟨Nat.zero_le _,[],Nat.zero_le _,rfl,Own.nil _⟩ ?_
    rintro⟨i,v⟩ N2 g2 ⟨hi,L,hLl,hL,ho⟩
    simp only at hi hLl hL ho;by_cases hlt2:i<w.length
    ·have hltI:(i:Int)<(w.length:Nat):=by omega
     have hgE:=hE i hlt2;have hg:=aT hgE ho.sub;obtain⟨e1,e2⟩:=yA hlt2;rw[tV hlt2]at hL;have hsg:(w.take (fpE w i)).drop i=seg w i (fpE w i-i):=by unfold seg;rw[show i+(fpE w i-i)=fpE w i by omega]
     have hsl:=ef (w:=w) (a:=i) (m:=fpE w i-i) (by omega);have hL2:ie w 0=(L++[seg w i (fpE w i-i)])++ie w (fpE w i):=by rw[hL];simp
     have hil:(i:Int)<=(fpE w i:Nat):=by omega
     have hiN:i<w.length+1:=by omega
     generalize seg w i (fpE w i-i)=u at *;generalize fpE w i=e at *;simp(disch:=omega)[hltI,hg,hil,hsg];intro b' hb';simp(disch:=omega);refine aN ho ((Sub.refl _).put hb' _) (by simp(disch:=omega);rfl) rfl rfl (by omega) (by simp(disch:=omega)) (by simp(disch:=omega);omega) ?_;intro v' M'' N'' ho' hs';rw[cO]at ho';have hg2:=aT (aT hgE ho'.sub) hs';simp(disch:=omega)[hg2];exact rndM M'' (e,v') hs' ⟨by simp only;omega,_,by simp only[length_append,length_singleton];omega,hL2,ho'⟩
    ·have hiE:i=w.length:=by omega
     have hltI:¬(i:Int)<(w.length:Nat):=by omega
     rw[wZ (w:=w) (i:=i) (by omega),append_nil]at hL;rw[<-hL]at ho;simp(disch:=omega)[hltI];exact ad (h _ _ (hs1.trans (sN1.trans ho.sub)) ho.rd)
theorem Ll{n i:Nat}{pal:Nat->Bool}{L:Nat->Nat}{t:Nat}(h:pal t=true):(bO n i pal L (t+1)).1=if 1+L t<(bO n i pal L t).1 then 1+L t else (bO n i pal L t).1:=by
 have hs:bO n i pal L (t+1)=if pal t&&decide (1+L t<=(bO n i pal L t).1) then (1+L t,i+1+t) else bO n i pal L t:=rfl
 rw[hs,h,Bool.true_and];by_cases hc:1+L t<=(bO n i pal L t).1
 ·rw[decide_eq_true hc,if_pos rfl];split
  ·rfl
  ·simp only;omega
 ·rw[decide_eq_false hc,if_neg (by decide),if_neg (by omega)]
theorem Hp{n i:Nat}{pal:Nat->Bool}{L:Nat->Nat}{t:Nat}(h:pal t=false):(bO n i pal L (t+1)).1=(bO n i pal L t).1:=by
 have hs:bO n i pal L (t+1)=if pal t&&decide (1+L t<=(bO n i pal L t).1) then (1+L t,i+1+t) else bO n i pal L t:=rfl
 rw[hs,h,Bool.false_and,if_neg (by decide)]
set_option maxHeartbeats 2000000 in
theorem td(w:List UInt8)(M:Mem)(R:VP)(hl:w.length<=1099511627776)(h:∀ v M',Sub M M'->Rd M' v (strs (if isWord w then ie w 0 else []))->R (aD v (aJ w)) M'):ar prog 282 [str w] M R:=by
 unfold aD aJ at h;refine fnS func282 rfl ntmps282 results282 ?_;simp(disch:=omega);refine ba w _ _ hl ?_;cases hw:isWord w
 ·rw[hw]at h;simp(disch:=omega);exact ad (h _ _ (Sub.refl M) (.inl ⟨none,0,rfl,rfl⟩))
 ·rw[hw,if_pos rfl,if_pos rfl]at h;have h60:=au hw;have er:((w.length:Int)+1).toNat=w.length+1:=by omega
  have hrep:=Dn (w.length+1);have tl:=jc (w.length+1) (fun _=>0);simp(disch:=omega)[er,hrep];intro b1 hb1;simp(disch:=omega)[tl];have sN:=(Sub.refl M).put hb1 (.cells true (ints (bw (w.length+1) fun _=>0)) (w.length+1));have k1:=ag M b1 (.cells true (ints (bw (w.length+1) fun _=>0)) (w.length+1));clear hrep tl;generalize M.put b1 (.cells true (ints (bw (w.length+1) fun _=>0)) (w.length+1))=N at *;have hm0:∀ k,k<w.length+1->(fun _=>(0:Int)) k=fpG w 0 k:=fun k hk=>(xI w k hk).symm;rw[dI hm0]at k1;clear hm0;refine lupS [6,7,21,22,23,24,25,26,27,28,29,30,31,32,33,34,35,36,37,38,39,40,41,42,43,44,45,46,47,48,49,50,51,52,53,54] (fun d:Nat=>[(6,.int .i64 ((w.length:Int)-1-d))]) (fun d N'=>d<=w.length/\Sub M N'/\N' b1=some (.cells true (ints (bw (w.length+1) (fpG w d))) (w.length+1))) (fun d=>w.length-d) 0 ⟨Nat.zero_le _,sN,k1⟩ ?_
  rintro d N1 g ⟨hd,sN1,q1⟩
  by_cases hlt:d<w.length
  ·obtain⟨i,hi⟩:∃ i,i=w.length-1-d:=⟨_,rfl⟩;have hid:i+d+1=w.length:=by omega
   have hiI:(w.length:Int)-1-d=(i:Nat):=by omega
   have hi0:(0:Int)<=(i:Nat):=by omega
   have hnx:(w.length:Int)-1-((d:Int)+1)=(i:Int)-1:=by omega
   have hl1:=cL (w.length+1) (fpG w d);have hst:=oN (w:=w) (i:=i) (by omega);have hGn:=yL (w:=w) hid;have hNE:(bO w.length i (cf w i) (fun t=>fpN w (i+1+t)) (w.length-i)).1=fpN w i:=by rw[<-hst];rfl
   rw[hiI];simp(disch:=omega)[hi0,q1,hl1,al,gE];have p1:=ag N1 b1 (.cells true (ints (bw (w.length+1) (upd (fpG w d) i ((w.length:Int)+1)))) (w.length+1));have sP:Sub M (N1.put b1 (.cells true (ints (bw (w.length+1) (upd (fpG w d) i ((w.length:Int)+1)))) (w.length+1))):=sN1.ovr hb1 _;generalize N1.put b1 (.cells true (ints (bw (w.length+1) (upd (fpG w d) i ((w.length:Int)+1)))) (w.length+1))=N2 at *;clear q1;refine lupS [7,32,33,34,35,36,37,38,39,40,41,42,43,44,45,46,47,48,49,50,51,52,53,54] (fun t:Nat=>[(7,.int .i64 ((i:Int)+1+t))]) (fun t N'=>t<=w.length-i/\Sub M N'/\N' b1=some (.cells true (ints (bw (w.length+1) (upd (fpG w d) i ((bO w.length i (cf w i) (fun t=>fpN w (i+1+t)) t).1:Nat)))) (w.length+1))) (fun t=>w.length-i-t) 0 ⟨Nat.zero_le _,sP,by rw[iW];simpa using p1⟩ ?_
   rintro t N3 g3 ⟨ht,sN3,r1⟩
   have hsle:=mH (n:=w.length) (i:=i) (pal:=cf w i) (L:=fun t=>fpN w (i+1+t)) t;by_cases htl:t<w.length-i
   ·obtain⟨e,he⟩:∃ e,e=i+1+t:=⟨_,rfl⟩;have heI:(i:Int)+1+t=(e:Nat):=by omega
    have heI2:(i:Int)+1+((t:Int)+1)=(e:Int)+1:=by omega
    have hel:(e:Int)<=(w.length:Nat):=by omega
    have hs1:=fun hp=>Ll (n:=w.length) (i:=i) (pal:=cf w i) (L:=fun t=>fpN w (i+1+t)) (t:=t) hp;have hs0:=fun hp=>Hp (n:=w.length) (i:=i) (pal:=cf w i) (L:=fun t=>fpN w (i+1+t)) (t:=t) hp;have hsg:(w.take e).drop i=seg w i (t+1):=by unfold seg;rw[show i+(t+1)=e by omega]
    have hsl:=ef (w:=w) (a:=i) (m:=t+1) (by omega);have hpa:cf w i t=ca (seg w i (t+1)):=rfl;rw[hpa]at hs1 hs0;rw[<-he]at hs1;have hfn:=xR w e;have hil:(i:Int)<=(e:Nat):=by omega
    generalize (bO w.length i (cf w i) (fun t=>fpN w (i+1+t)) t).1=s at *;generalize seg w i (t+1)=u at *;have l1:=cL (w.length+1) (upd (fpG w d) i (s:Nat));have ge:N3.get? b1 e=some (.int .i64 (fpN w e:Nat)):=by
     rw[aj r1,dY (by omega)];unfold upd fpG;rw[if_neg (by omega),if_neg (by omega)]
    have gi:N3.get? b1 i=some (.int .i64 (s:Nat)):=by
     rw[aj r1,dY (by omega)];unfold upd;rw[if_pos rfl]
    rw[heI];simp(disch:=omega)[hel,hil,hsg];refine fO u _ _ (by omega) ?_;cases hp:ca u
    ·have hs:=hs0 hp;simp(disch:=omega);exact rndA (t+1) (by simp(disch:=omega)[heI2]) ⟨by omega,sN3,by rw[hs];exact r1⟩
    ·have hs:=hs1 hp;have hiN:i<w.length+1:=by omega
     have heN:e<w.length+1:=by omega
     simp(disch:=omega);refine plyS (ak [0,1,2,3,4,5,6,7,8,9,10,11,12] (.one 13 2 .fin)) ?_;by_cases hc:1+fpN w e<s
     ·rw[if_pos hc]at hs;have hcI:(1:Int)+(fpN w e:Nat)<(s:Nat):=by omega
      generalize fpN w e=f at *;have hff:f<=1000:=by omega
      simp(disch:=omega)[ge,gi,hcI,r1,l1,al,gE,wR,hiN];refine rndA (t+1) (by simp(disch:=omega)[heI2]) ⟨by omega,sN3.ovr hb1 _,?_⟩;rw[hs,ag]
      push_cast
      rfl
     ·rw[if_neg hc]at hs;have hcI:¬(1:Int)+(fpN w e:Nat)<(s:Nat):=by omega
      generalize fpN w e=f at *;have hff:f<=1000:=by omega
      simp(disch:=omega)[ge,gi,hcI,r1,l1,al,gE,wR,hiN];refine rndA (t+1) (by simp(disch:=omega)[heI2]) ⟨by omega,sN3.ovr hb1 _,?_⟩;rw[hs,ag]
   ·have htE:t=w.length-i:=by omega
    subst htE;have hel:¬(i:Int)+1+((w.length-i:Nat):Int)<=(w.length:Nat):=by omega
    rw[hNE]at r1;rw[hGn]at r1;simp(disch:=omega)[hel];exact rndA (d+1) (by simp(disch:=omega)[hnx]) ⟨by omega,sN3,r1⟩
  ·have hdE:d=w.length:=by omega
   subst hdE;have hneg:¬(0:Int)<=(w.length:Int)-1-(w.length:Nat):=by omega
   have hG:∀ i,i<w.length+1->N1.get? b1 i=some (.int .i64 (fpN w i:Nat)):=fun i hi=>by
    rw[aj q1,dY (by omega)];unfold fpG;rw[if_neg (by omega)]
   clear q1 k1;simp(disch:=omega);intro b0 hb0;simp(disch:=omega);refine lupS [8,9,10,56,57,58,59,60,61,62,63,64,65,66,67,68,69,70,71,72,73,74,75,76,77,78,79,80,81,82,83,84,85,86,87,88,89] (fun x:Nat×Value=>[(9,.int .i64 (x.1:Nat)),(8,x.2)]) (fun x N'=>x.1<=w.length/\∃ L,L.length<=x.1/\ie w 0=L++ie w x.1/\Own N1 x.2 (strs L) N') (fun x=>w.length-x.1) (0,.slice (some ⟨b0,0,none⟩) 0 0) ⟨Nat.zero_le _,[],Nat.zero_le _,rfl,Own.new hb0 rfl (Nat.le_refl 0)⟩ ?_
   rintro⟨i,v⟩ N2 g2 ⟨hi,L,hLl,hL,ho⟩
   simp only at hi hLl hL ho;by_cases hlt2:i<w.length
   ·have hltI:(i:Int)<(w.length:Nat):=by omega
    obtain⟨e1,e2⟩:=yA hlt2;obtain⟨t,f1,f2,f3,f4,f5⟩:=Rk hlt2;rw[tV hlt2]at hL;have hgi:=aT (hG i (by omega)) ho.sub;simp(disch:=omega)[hltI];refine lupS [8,9,10,60,61,62,63,64,65,66,67,68,69,70,71,72,73,74,75,76,77,78,79,80,81,82,83,84,85,86,87,88,89] (fun k:Nat=>[(10,.int .i64 k),(9,.int .i64 i),(8,v)]) (fun k N'=>N2=N'/\fpE w i<=k/\k<=w.length) (fun k=>k) w.length ⟨rfl,e2,Nat.le_refl _⟩ ?_
    rintro k N3 g3 ⟨rfl,hk1,hk2⟩
    have hkI:(i:Int)<(k:Nat):=by omega
    have hgk:=aT (hG k (by omega)) ho.sub;have hil:(i:Int)<=(k:Nat):=by omega
    obtain⟨s,hsE⟩:∃ s,k=i+1+s:=⟨k-i-1,by omega⟩;have hsg:(w.take k).drop i=seg w i (s+1):=by unfold seg;rw[show i+(s+1)=k by omega]
    have hsl:=ef (w:=w) (a:=i) (m:=s+1) (by omega);have hpa:cf w i s=ca (seg w i (s+1)):=rfl;have hnn:=xR w k;have hni:=xR w i;have hkN:k<w.length+1:=by omega
    have hiN:i<w.length+1:=by omega
    by_cases hkE:k=fpE w i
    ·have hst:s=t:=by omega
     have hpt:ca (seg w i (s+1))=true:=by rw[<-hpa,hst];exact f2
     have hfe:fpN w i=1+fpN w k:=by rw[f3,hsE,hst]
     have hfeI:((fpN w i:Nat):Int)=1+(fpN w k:Nat):=by omega
     have hL2:ie w 0=(L++[seg w i (s+1)])++ie w k:=by
      rw[hL,<-hkE,show k-i=s+1 by omega];simp
     generalize seg w i (s+1)=u at *;generalize fpN w i=fi at *;generalize fpN w k=fk at *;simp(disch:=omega)[hkI];refine drwS ?_;simp(disch:=omega)[hil,hsg];refine aU (a:=[]) (c:=[]) (fO u _ _ (by omega) ⟨rfl,rfl⟩) ?_;rw[hpt];simp(disch:=omega)[hgi,hgk,hfe,hil,hsg];intro b' hb';simp(disch:=omega);refine aN ho ((Sub.refl _).put hb' _) (by simp(disch:=omega);rfl) rfl rfl (by omega) (by simp(disch:=omega)) (by simp(disch:=omega);omega) ?_;intro v' M'' N'' ho' hs';rw[cO]at ho';simp(disch:=omega);exact rndM M'' (k,v') hs' ⟨by simp only;omega,_,by simp only[length_append,length_singleton];omega,hL2,ho'⟩
    ·have hnot:=f5 s (by omega) (by omega);rw[hpa,<-hsE]at hnot;have hkm:(k:Int)-1=((k-1:Nat):Int):=by omega
     generalize seg w i (s+1)=u at *;generalize fpN w i=fi at *;generalize fpN w k=fk at *;simp(disch:=omega)[hkI];refine drwS ?_;simp(disch:=omega)[hil,hsg];refine aU (a:=[]) (c:=[]) (fO u _ _ (by omega) ⟨rfl,rfl⟩) ?_;cases hpt:ca u
     ·simp(disch:=omega)[undef];exact rndA (k-1) (by simp(disch:=omega)[hkm]) ⟨rfl,by omega,by omega⟩
     ·have hne:¬ fi=1+fk:=fun q=>hnot ⟨hpt,q⟩;have hneI:((fi:Int)==1+(fk:Int))=false:=beq_eq_false_iff_ne.2 (by omega);have hneI2:¬(fi:Int)=1+(fk:Int):=by omega
      simp(disch:=omega)[hgi,hgk,hneI];exact rndA (k-1) (by simp(disch:=omega)[hkm]) ⟨rfl,by omega,by omega⟩
   ·have hiE:i=w.length:=by omega
    have hltI:¬(i:Int)<(w.length:Nat):=by omega
    rw[wZ (w:=w) (i:=i) (by omega),append_nil]at hL;rw[<-hL]at ho;simp(disch:=omega)[hltI];exact ad (h _ _ (sN1.trans ho.sub) ho.rd)
end Go.Proofs.YtapimhjbilkfpaaGreatDoor
