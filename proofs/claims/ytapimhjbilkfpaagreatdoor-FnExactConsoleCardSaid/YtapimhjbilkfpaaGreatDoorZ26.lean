/- Lemmas for FnExactConsole, part 27 of 46. -/
import Derived.Test.YtapimhjbilkfpaaGreatDoorZ25
import Derived.Test.YtapimhjbilkfpaaGreatDoorZ11
import Derived.Test.YtapimhjbilkfpaaGreatDoorZ09
import Derived.Test.YtapimhjbilkfpaaGreatDoorZ10
import Derived.Test.YtapimhjbilkfpaaGreatDoorZ04
import Derived.Test.YtapimhjbilkfpaaGreatDoorZ24
import Derived.Test.YtapimhjbilkfpaaGreatDoorZ15
set_option linter.unusedVariables false
set_option linter.unusedSimpArgs false
namespace Go.Proofs.YtapimhjbilkfpaaGreatDoor
open Go Go.Proofs.Tryz Go.RowKit List
def A0(l:List Nat):List Int:=l.map fun n:Nat=>(n:Int)
theorem BM(l:List Nat):(A0 l).length=l.length:=length_map _
theorem Ix(l:List Nat)(n:Nat):A0 (l++[n])=A0 l++[(n:Int)]:=by simp[A0]
theorem FJ(w u:List UInt8)(M:Mem)(R:VP)(hw:w.length<=60)(hu:u.length<=60)(h:∀ v M',Own M v (ints (A0 (Ey w u))) M'->R v M'):ar prog 438 [str w,str u] M R:=by
 refine fnS func438 rfl ntmps438 results438 ?_;simp(disch:=omega);refine lupS [5,6,10,11,12,13,14,15,16,17,18,19,20,21,22] (fun x:Nat×Value=>[(10,.int .i64 x.1),(5,x.2)]) (fun x M'=>x.1<=w.length+1/\Own M x.2 (ints (A0 (pP w u x.1))) M') (fun x=>w.length+1-x.1) (0,.slice none 0 0) ⟨by omega,Own.nil _⟩ ?_
 rintro⟨i,v⟩ M' g ⟨hi,ho⟩
 simp only at hi ho;have hln:=Ga w u i;have hsu:=kU w u i;by_cases hlt:i<w.length+1
 ·have hlt':(i:Int)<(w.length:Int)+1:=by omega
  simp(disch:=omega)[hlt'];refine du _ _ _ _ (by rw[length_drop];omega) (by omega) ?_;cases hp:u.isPrefixOf (w.drop i)
  ·rw[hp,if_neg (by decide),append_nil]at hsu;simp(disch:=omega);exact rndS (i+1,v) ⟨by simp only;omega,by simp only;rw[hsu];exact ho⟩
  ·rw[hp,if_pos rfl]at hsu;generalize pP w u i=L at *;simp(disch:=omega);intro b' hb';simp(disch:=omega);refine aN ho ((Sub.refl _).put hb' _) (by simp(disch:=omega);rfl) rfl rfl (by omega) (by simp(disch:=omega)) (by simp(disch:=omega)[BM];omega) ?_;intro v' M'' N'' ho' hs';simp(disch:=omega);refine rndM M'' (i+1,v') hs' ⟨by simp only;omega,?_⟩;simp only;rw[hsu,Ix,<-cw];exact ho'
 ·have hi':i=w.length+1:=by omega
  have hlt':¬(i:Int)<(w.length:Int)+1:=by omega
  subst hi';simp(disch:=omega);exact ad (h v M' ho)
theorem Al(w:List UInt8)(i m:Int)(M:Mem)(R:VP)(hl:w.length<=1099511627776)(hi : -9223372036854775808<=i/\i<=9223372036854775807)(hm : -9223372036854775808<=m/\m<=9223372036854775807)(h:R (aD (str (Ak w i m)) (zZ w i m)) M):ar prog 122 [str w,.int .i64 i,.int .i64 m] M R:=by
 unfold aD Ak zZ at h;refine fnS func122 rfl ntmps122 results122 ?_;simp(disch:=omega);refine ba w _ _ hl ?_;cases hw:isWord w
 ·rw[hw]at h;simp(disch:=omega);exact ad h
 ·have h60:=au hw;rw[hw,if_pos rfl,if_pos rfl]at h;unfold uP at h;simp(disch:=omega);refine bZ _ _ _ _ _ ?_;by_cases h1:0<=i/\i<=(w.length:Int)
  ·rw[decide_eq_true h1,Bool.true_and]at h;rw[decide_eq_true h1];simp(disch:=omega);refine bZ _ _ _ _ _ ?_;by_cases h2:0<=m/\m<=(w.length:Int)-i
   ·rw[decide_eq_true h2,if_pos rfl,if_pos rfl]at h;rw[decide_eq_true h2];obtain⟨i,rfl⟩:∃ j:Nat,i=j:=⟨i.toNat,by omega⟩;obtain⟨m,rfl⟩:∃ j:Nat,m=j:=⟨m.toNat,by omega⟩;have hsg:=fK (w:=w) (a:=i) (m:=m);rw[Int.toNat_natCast,Int.toNat_natCast]at h;simp(disch:=omega);rw[hsg];exact ad h
   ·rw[decide_eq_false h2]at h;rw[decide_eq_false h2];simp(disch:=omega);exact ad h
  ·rw[decide_eq_false h1,Bool.false_and]at h;rw[decide_eq_false h1];simp(disch:=omega);exact ad h
theorem rB{M N:Mem}{b o n:Nat}{xs:List Value}(h:M.sub? b o n=some xs)(hs:Sub M N):N.sub? b o n=some xs:=by
 unfold Mem.sub? at *;split at h
 ·rename_i own ys tot hb;rw[hs _ _ hb];exact h
 ·cases h
theorem y7(L:List (List UInt8))(n:Nat):strs (L.take n)=(strs L).take n:=by simp[strs,map_take]
theorem I6(L:List (List UInt8))(n:Nat):strs (L.drop n)=(strs L).drop n:=by simp[strs,map_drop]
def RdN(M:Mem)(v:Value)(xs:List Value):Prop:=∃ b o c,v=.slice (some ⟨b,o,none⟩) xs.length c/\M.sub? b o xs.length=some xs/\xs.length<=c
theorem RdN.of{M:Mem}{v:Value}{xs:List Value}(h:Rd M v xs)(hne:xs≠[]):RdN M v xs:=by
 rcases h with ⟨_,_,_,h2⟩|⟨b,o,c,h1,h2,h3⟩
 ·exact absurd h2 hne
 ·exact⟨b,o,c,h1,h2,h3⟩
theorem AL{M:Mem}{b o k n:Nat}{xs:List Value}(h:M.sub? b o k=some xs)(hn:n<=k):M.sub? b o n=some (xs.take n):=by
 unfold Mem.sub? at *;split at h
 ·rename_i own ys tot hb;split at h
  ·rename_i hle;injection h with h
   rw[if_pos (by omega),<-h,take_take,Nat.min_eq_left hn]
  ·cases h
 ·cases h
theorem D6{M:Mem}{b o k n c:Nat}{xs:List Value}(h:M.sub? b o k=some xs)(hn:n<=k)(hc:k<=c):M.sub? b (dN o n c 1) (k-n)=some (xs.drop n):=by
 unfold Mem.sub? at *;split at h
 ·rename_i own ys tot hb;split at h
  ·rename_i hle;injection h with h
   unfold dN;by_cases hcn:c=n
   ·rw[if_pos hcn,if_pos (by omega),show k-n=0 by omega,<-h,take_zero,drop_of_length_le (by rw[length_take,length_drop];omega)]
   ·rw[if_neg hcn,Nat.mul_one,if_pos (by omega),<-h,drop_take,drop_drop]
  ·cases h
 ·cases h
theorem Fa(v:Value)(L:List (List UInt8))(w:List UInt8)(M:Mem)(R:VP)(hv:RdN M v (strs L))(hl:L.length<=1000000)(h:∀ v' M',Sub M M'->RdN M' v' (strs (mc L w))->R v' M'):ar prog 356 [v,str w] M R:=by
 have hv0:=hv;obtain⟨b,o,c,rfl,hsb,hcL⟩:=hv;rw[ah]at hsb hcL hv0 ⊢;have ha:∀ i,i<L.length->M.get? b (o+i)=(strs L)[i]?:=by
  intro i hi;have:=yf (M:=M) (b:=b) (o:=o) (xs:=strs L) (by rw[ah];exact hsb) (i:=i) (by rw[ah];exact hi);exact this
 refine fnS func356 rfl ntmps356 results356 ?_;simp(disch:=omega);refine lupS [5,9,10,11,12,13,14,15,16,17,18,19,20,21] (fun n:Nat=>[(5,.int .i64 n)]) (fun n M'=>M=M'/\n<=L.length/\iM L w n=iM L w L.length) (fun n=>n) L.length ⟨rfl,Nat.le_refl _,rfl⟩ ?_
 rintro n M' g ⟨rfl,hn,hpos⟩
 have stop:(n=0\/(0<n/\Op.bytesLess w (L.getD (n-1) [])=false))->iM L w L.length=n:=by
  intro hs;rw[<-hpos];rcases hs with rfl|⟨h0,hb⟩
  ·rfl
  ·obtain⟨q,rfl⟩:∃ q,n=q+1:=⟨n-1,by omega⟩;rw[Nat.add_sub_cancel]at hb;unfold iM;rw[hb,if_neg (by decide)]
 have put:∀(L1:List (List UInt8)),L1=L.take n->∀ L2:List (List UInt8),L2=L.drop n->iM L w L.length=n->¬(n≠0/\L.getD (n-1) []=w)->mc L w=L1++w::L2:=by
  rintro _ rfl _ rfl hp hne
  unfold mc;rw[hp,if_neg hne]
 by_cases h0:0<n
 ·obtain⟨q,rfl⟩:∃ q,n=q+1:=⟨n-1,by omega⟩;have hg:=ha q (by omega);have hgd:L.getD q []=L[q]'(by omega):=oH (by omega);rw[bg,getElem?_eq_getElem (by omega),Option.map_some]at hg;rw[Nat.add_sub_cancel]at stop put;rw[hgd]at stop put;have hgt:(Op.bytesLess (L[q]'(by omega)) w||(L[q]'(by omega))==w) = !Op.bytesLess w (L[q]'(by omega)):=by
   rw[Bool.eq_iff_iff,Bool.or_eq_true,kg,beq_iff_eq,Bool.not_eq_true',Rn];constructor
   ·rintro(hh|hh)
    ·exact List.le_of_lt hh
    ·rw[hh];exact List.le_refl _
   ·intro hh;by_cases e:(L[q]'(by omega))=w
    ·exact .inr e
    ·exact .inl (lt_of_le_ne hh e)
  have e1:((q+1:Nat):Int)-1=q:=by omega
  generalize hx:L[q]'(by omega)=x at *;simp(disch:=omega)[hg,hgt];cases hb:Op.bytesLess w x
  ·simp(disch:=omega);have hp:=stop (.inr ⟨by omega,hb⟩);by_cases hxw:x=w
   ·have hxb:(x==w)=true:=by rw[hxw];exact beq_self_eq_true _
    simp(disch:=omega)[hg,hxb];refine ad (h _ _ (Sub.refl _) ?_);have:mc L w=L:=by
     unfold mc;rw[hp,if_pos ⟨by omega,by rw[Nat.add_sub_cancel,hgd];exact hxw⟩]
    rw[this];exact hv0
   ·have hxb:(x==w)=false:=beq_eq_false_iff_ne.2 hxw;have hpt:=put _ rfl _ rfl hp (fun hh=>hxw hh.2);simp(disch:=omega)[hg,hxb];intro b1 hb1;have o0:Own M (.slice (some ⟨b1,0,none⟩) 0 0) (strs []) (M.put b1 (.cells true [] 0)):=Own.new hb1 rfl (Nat.le_refl 0);have s0:=o0.sub;dsimp only;generalize M.put b1 (.cells true [] 0)=N0 at *;generalize Value.slice (some ⟨b1,0,none⟩) 0 0=v0 at *;simp(disch:=omega);refine aN (news:=strs (L.take (q+1))) o0 (Sub.refl _) (by
     show Mem.sub? _ b o (q+1)=_;rw[y7];exact rB (AL hsb hn) s0) rfl rfl (by omega) (dz _) (by simp(disch:=omega);omega) ?_
    intro v2 M2 N2 o2 s2;simp(disch:=omega);intro b2 hb2;simp(disch:=omega);refine aN o2 (s2.putN hb2 _) (by simp(disch:=omega);rfl) rfl rfl (by omega) (by simp(disch:=omega)) (by simp(disch:=omega);omega) ?_;intro v3 M3 N3 o3 s3;simp(disch:=omega);refine aN (news:=strs (L.drop (q+1))) o3 s3 (by
     show Mem.sub? _ b (dN o (q+1) c 1) (L.length-(q+1))=_;rw[I6];exact rB (D6 hsb hn hcL) (o3.sub.trans s3)) rfl rfl (by omega) (dz _) (by simp(disch:=omega);omega) ?_
    intro v4 M4 N4 o4 s4;simp(disch:=omega);have e4:strs []++strs (L.take (q+1))++[str w]++strs (L.drop (q+1))=strs (L.take (q+1)++w::L.drop (q+1)):=by simp[strs]
    rw[e4,<-hpt]at o4;refine ae s4 (h _ _ o4.sub (RdN.of o4.rd ?_));rw[hpt];simp[strs]
  ·have hpos2:iM L w q=iM L w L.length:=by
    rw[<-hpos];have e:iM L w (q+1)=if Op.bytesLess w (L.getD q []) then iM L w q else q+1:=rfl
    rw[e,hgd,hb,if_pos rfl]
   simp(disch:=omega);exact rndS q ⟨rfl,by omega,hpos2⟩
 ·have hn0:n=0:=by omega
  subst hn0;have hp:=stop (.inl rfl);have hpt:=put _ rfl _ rfl hp (fun hh=>hh.1 rfl);simp(disch:=omega);intro b1 hb1;have o0:Own M (.slice (some ⟨b1,0,none⟩) 0 0) (strs []) (M.put b1 (.cells true [] 0)):=Own.new hb1 rfl (Nat.le_refl 0);have s0:=o0.sub;dsimp only;generalize M.put b1 (.cells true [] 0)=N0 at *;generalize Value.slice (some ⟨b1,0,none⟩) 0 0=v0 at *;simp(disch:=omega);refine aN (news:=strs (L.take 0)) o0 (Sub.refl _) (by
   show Mem.sub? _ b o 0=_;rw[y7];exact rB (AL hsb hn) s0) rfl rfl (by omega) (dz _) (by first|(simp(disch:=omega);omega)|simp(disch:=omega)) ?_
  intro v2 M2 N2 o2 s2;simp(disch:=omega);intro b2 hb2;simp(disch:=omega);refine aN o2 (s2.putN hb2 _) (by simp(disch:=omega);rfl) rfl rfl (by omega) (by simp(disch:=omega)) (by first|(simp(disch:=omega);omega)|simp(disch:=omega)) ?_;intro v3 M3 N3 o3 s3;simp(disch:=omega);refine aN (news:=strs (L.drop 0)) o3 s3 (by
   show Mem.sub? _ b o L.length=_;exact rB hsb (o3.sub.trans s3)) rfl rfl (by omega) (dz _) (by first|(simp(disch:=omega);omega)|simp(disch:=omega)) ?_
  intro v4 M4 N4 o4 s4;simp(disch:=omega);have e4:strs []++strs (L.take 0)++[str w]++strs (L.drop 0)=strs (L.take 0++w::L.drop 0):=by simp[strs]
  rw[e4,<-hpt]at o4;refine ae s4 (h _ _ o4.sub (RdN.of o4.rd ?_));rw[hpt];simp[strs]
end Go.Proofs.YtapimhjbilkfpaaGreatDoor
namespace Go.Proofs.YtapimhjbilkfpaaGreatDoor
open Go Go.Proofs.Tryz List
def Rg(w:List UInt8)(i:Nat):Prop:=∀ j,j<i->w.getD j 0=w.getD (w.length-1-j) 0
theorem fO(w:List UInt8)(M:Mem)(R:VP)(hl:w.length<=1000000)(h:R (.bool (ca w)) M):ar prog 273 [str w] M R:=by
 refine fnS func273 rfl ntmps273 results273 ?_;simp(disch:=omega);refine lupS [2,3,4,8,9,10,11,12,13,14,15,16,17,18,19,20,21] (fun i:Nat=>[(3,.int .i64 i),(4,.int .i64 ((w.length:Int)-1-i))]) (fun i M'=>M=M'/\2*i<=w.length+1/\Rg w i) (fun i=>w.length+1-i) 0 ⟨rfl,by omega,fun j hj=>by omega⟩ ?_
 rintro i M' g ⟨rfl,hi,hall⟩
 by_cases hlt:2*i+1<w.length
 ·have hc:(i:Int)<(w.length:Int)-1-i:=by omega
  obtain⟨q,hq⟩:∃ q:Nat,q=w.length-1-i:=⟨_,rfl⟩;have hqi:(w.length:Int)-1-i=q:=by omega
  have hnx:(w.length:Int)-1-((i:Int)+1)=(q:Int)-1:=by omega
  have hil:i<w.length:=by omega
  have hql:q<w.length:=by omega
  have g1:w[i]?=some (w.getD i 0):=by rw[getD_eq_getElem?_getD,getElem?_eq_getElem hil];rfl
  have g2:w[q]?=some (w.getD q 0):=by rw[getD_eq_getElem?_getD,getElem?_eq_getElem hql];rfl
  have at1:w[i]=w.getD i 0:=by rw[getElem?_eq_getElem hil]at g1;exact Option.some.inj g1
  have at2:w[q]=w.getD q 0:=by rw[getElem?_eq_getElem hql]at g2;exact Option.some.inj g2
  have hall2:=hall;have hno:=PK (w:=w) (j:=i) hil;rw[<-hq]at hno;have hyes:w.getD i 0=w.getD q 0->Rg w (i+1):=fun e j hj=>by
   by_cases ej:j=i
   ·rw[ej,<-hq];exact e
   ·exact hall j (by omega)
  rw[hqi]at hc ⊢;generalize w.getD i 0=x at *;generalize w.getD q 0=y at *;simp(disch:=omega)[hc];refine drwS ?_;by_cases hxy:x=y
  ·have hy2:=hyes hxy;subst hxy;simp(disch:=omega)[hil,hql,at1,at2];exact rndA (i+1) (by simp(disch:=omega)[hnx]) ⟨rfl,by omega,hy2⟩
  ·rw[hno hxy]at h;have hxn:¬ x.toNat=y.toNat:=fun e=>hxy (UInt8.toNat_inj.1 e);have hxb:((x.toNat:Int)==(y.toNat:Int))=false:=beq_eq_false_iff_ne.2 (by omega);simp(disch:=omega)[hil,hql,at1,at2,hxb];exact ad h
 ·have hc:¬(i:Int)<(w.length:Int)-1-i:=by omega
  have hp:ca w=true:=KG (n:=i) (by omega) hall;rw[hp]at h;simp(disch:=omega)[hc];exact ad h
theorem Lq{M:Mem}{b c:Nat}{xs ys:List Value}:EY (M.put b (.cells true xs c)) (M.put b (.cells true (xs++ys) c)):=by
 intro i X hX;unfold Mem.put at hX ⊢;split at hX
 ·rename_i e;injection hX with hX
  subst hX;rw[if_pos e];exact⟨_,rfl,.inr ⟨true,xs,ys,c,rfl,rfl⟩⟩
 ·rename_i e;rw[if_neg e];exact⟨X,hX,.inl rfl⟩
theorem Dz(v:Value)(ss:List (List UInt8))(M0 M:Mem)(R:VP)(ho:Own M0 v (strs ss) M)(h1:1<=ss.length)(hn:ss.length<=1000000)
  (h:∀ v' M',Own M0 v' (strs (srt ss)) M'->R v' M'):ar prog 413 [v] M R:=by
 rcases ho with ⟨_,e,_⟩|⟨b,c,rfl,hb,hc,rfl⟩
 ·have:=congrArg length e;rw[ah,length_nil]at this;omega
 rw[ah]at hc ⊢;have hm:(ss.mergeSort fun x y=>decide (x<=y)).length=ss.length:=length_mergeSort _;have hsr:srt ss=Lib.compact (ss.mergeSort fun x y=>decide (x<=y)):=rfl;have hle:=lx (ss.mergeSort fun x y=>decide (x<=y));refine ar.less (R':=fun v' M'=>v'=.slice (some ⟨b,0,none⟩) (srt ss).length c/\∃ ys,M'=M0.put b (.cells true (strs (srt ss)++ys) c)) ?_ ?_
 ·refine fnS func413 rfl ntmps413 results413 ?_;simp(disch:=omega);refine lY b c ss _ _ (ag _ _ _) hn ?_;simp(disch:=omega);rw[hsr];generalize (ss.mergeSort fun x y=>decide (x<=y))=zs at *;rw[<-hm];refine iP b c zs _ _ (ag _ _ _) (by omega) (by omega) ?_;simp(disch:=omega);refine ad ⟨rfl,strs (replicate (zs.length-(Lib.compact zs).length) []),?_⟩;rw[a7,a7];simp[strs]
 ·rintro v' M' ⟨rfl,ys,rfl⟩
  refine⟨M0.put b (.cells true (strs (srt ss)) c),Lq,h _ _ (.inr ⟨b,c,by rw[ah],hb,by rw[ah,hsr];omega,rfl⟩)⟩
theorem z8(w:List UInt8)(m:Nat)(M:Mem)(R:VP)(hl:w.length<=60)(hm:m<=w.length)
  (h:∀ v' M',Own M v' (strs (qX w m)) M'->R v' M'):ar prog 385 [str w,.int .i64 m] M R:=by
 unfold qX at h;rw[if_pos hm]at h;refine fnS func385 rfl ntmps385 results385 ?_;simp(disch:=omega);refine lupS [5,6,7,8,9,10,11,12,13,14,15,16,17,18,19,20,21,22,23] (fun x:Nat×Value=>[(6,.int .i64 x.1),(5,x.2)]) (fun x M'=>x.1<=w.length-m+1/\Own M x.2 (strs (dq w m x.1)) M') (fun x=>w.length-m+1-x.1) (0,.slice none 0 0) ⟨by omega,Own.nil _⟩ ?_
 rintro⟨i,v⟩ M' g ⟨hi,ho⟩
 simp only at hi ho;have hln:=fD w m i;by_cases hlt:i<w.length-m+1
 ·have hsg:=fK (w:=w) (a:=i) (m:=m);have hsu:=qx w m i;generalize seg w i m=u at *;generalize dq w m i=L at *;simp(disch:=omega)[hsg];intro b' hb';simp(disch:=omega);refine aN ho ((Sub.refl _).put hb' _) (by simp(disch:=omega);rfl) rfl rfl (by omega) (by simp(disch:=omega)) (by simp(disch:=omega);omega) ?_;intro v' M'' N'' ho' hs';simp(disch:=omega);refine rndM M'' (i+1,v') hs' ⟨by simp only;omega,?_⟩;simp only;rw[hsu,<-cO];exact ho'
 ·have hi':i=w.length-m+1:=by omega
  subst hi';generalize dq w m (w.length-m+1)=L at *;simp(disch:=omega);refine Dz v L M _ _ ho (by omega) (by omega) ?_;intro v' M1 o1;simp(disch:=omega);exact ad (h v' M1 o1)
theorem Qz{M M':Mem}{v:Value}{xs:List Value}(o:Own M v xs M'):dp M' v=some xs:=by
 rcases o with ⟨rfl,rfl,rfl⟩|⟨b,c,rfl,hb,hc,rfl⟩
 ·rfl
 ·show Mem.sub? _ b 0 xs.length=some xs;rw[aq (ag _ _ _)];simp[lO]
theorem yl(ws:List (List UInt8)):∀ v∈strs ws,bF v=true:=fun v hv=>by
 obtain⟨z,_,rfl⟩:=List.mem_map.1 hv;rfl
def Dt(w:List UInt8)(m:Nat):List (List UInt8):=(qX w m).filter ca
def eT(w:List UInt8)(n:Nat):List (List UInt8):=(range n).flatMap fun m=>Dt w (m+1)
theorem qd(w:List UInt8)(n:Nat):eT w (n+1)=eT w n++Dt w (n+1):=by simp[eT,range_succ]
theorem zn{w:List UInt8}(h:w.length<=60)(m:Nat):(Dt w m).length<=61:=Nat.le_trans (length_filter_le _ _) (GK h m)
theorem fY{w:List UInt8}(h:w.length<=60):∀ n,(eT w n).length<=n*61
 | 0=>Nat.zero_le _
 | n+1=>by
  rw[qd,length_append];have:=fY h n;have:=zn h (n+1);omega
theorem zO{l:List (List UInt8)}(h:fh l)(p:List UInt8->Bool):fh (l.filter p):=List.Pairwise.filter p h
theorem QB{w:List UInt8}{m:Nat}(hm:m<=w.length):eQ [] ((dq w m (w.length-m+1)).filter ca)=Dt w m:=by
 rw[Iy];refine lH (qc _) (zO (Ev w m) _) fun x=>?_;unfold Dt qX;rw[if_pos hm,oD,mem_filter,mem_filter,oD]
theorem IN(ss:List (List UInt8))(h:∀ u∈ss,u.length<=60):CZ prog (.func (.func 386) #[] #[]) ss fun u=>!ca u:=by
 intro u hu M R hR;have:=h u hu;simp(disch:=omega);refine fnS func386 rfl ntmps386 results386 ?_;simp(disch:=omega);refine iX u _ _ (by omega) ?_;simp(disch:=omega);exact ad (hR _ (Sub.refl M))
theorem kT(w:List UInt8)(M:Mem)(R:VP)(h60:w.length<=60)(h:∀ v M',Sub M M'->Rd M' v (strs (eT w w.length))->R v M'):ar prog 334 [str w] M R:=by
 refine fnS func334 rfl ntmps334 results334 ?_;simp(disch:=omega);refine lupS [3,4,5,6,7,8,9,10,11,12,13,14,15,16] (fun x:Nat×Value=>[(4,.int .i64 ((x.1:Int)+1)),(3,x.2)]) (fun x N=>x.1<=w.length/\∃ Mb,Sub M Mb/\Own Mb x.2 (strs (eT w x.1)) N) (fun x=>w.length-x.1) (0,.slice none 0 0) ⟨Nat.zero_le _,M,Sub.refl _,Own.nil _⟩ ?_
 rintro⟨i,v⟩ N g ⟨hi,Mb,sB,ho⟩
 simp only at hi ho;have hal:=fY h60 i;by_cases hlt:i<w.length
 ·have hltI:(i:Int)+1<=(w.length:Nat):=by omega
  have hs:=qd w i;obtain⟨m,hm⟩:∃ m,m=i+1:=⟨_,rfl⟩;have hmI:(i:Int)+1=(m:Nat):=by omega
  rw[<-hm]at hs;rw[hmI]at hltI ⊢;have hpl:=zn h60 m;simp(disch:=omega)[hltI];refine z8 w m _ _ h60 (by omega) ?_;intro v1 N1 o1;have hfx:∀ u∈qX w m,u.length<=60:=fun u hu=>by
   unfold qX at hu;rw[if_pos (by omega)]at hu;rw[oD]at hu;obtain⟨t,_,rfl⟩:=List.mem_map.1 hu;unfold seg;rw[length_drop,length_take];omega
  have hfl:=GK h60 m;simp(disch:=omega);refine l8 v1 _ (qX w m) (fun u=>!ca u) N _ _ o1 (IN _ hfx) (by omega) ?_;have hfe:((qX w m).filter fun u=>!(!ca u))=Dt w m:=by unfold Dt;congr 1;funext u;simp
  rw[hfe];intro v2 N2 o2;have r2:=o2.rd;have s2:=o2.sub;generalize Dt w m=P at *;generalize eT w i=Q at *;simp(disch:=omega);have src:=Qz o2;refine aN ho s2 src rfl rfl (by omega) (yl _) (by rw[ah,ah];omega) ?_;intro v' M'' N'' ho' hs';have e:strs Q++strs P=strs (Q++P):=by simp[strs]
  rw[e,<-hs]at ho';simp(disch:=omega);exact rndM M'' (m,v') hs' ⟨by simp only;omega,Mb,sB,ho'⟩
 ·have hltI:¬(i:Int)+1<=(w.length:Nat):=by omega
  have hiE:i=w.length:=by omega
  subst hiE;simp(disch:=omega)[hltI];exact ad (h _ _ (sB.trans ho.sub) ho.rd)
def DU(w:List UInt8):Int:=if isWord w then (w.length:Int)-((eT w w.length).length:Nat) else 0
theorem uV(w:List UInt8)(M:Mem)(R:VP)(h60:w.length<=60)(h:∀ v M',Sub M M'->Rd M' v (strs (eT w w.length))->R v M'):ar prog 274 [str w] M R:=by
 refine fnS func274 rfl ntmps274 results274 ?_;simp(disch:=omega);intro b0 hb0;simp(disch:=omega);refine lupS [3,4,5,6,8,9,10,11,12,13,14,15,16,17,18,19,20,21,22,23,24,25,26,27,28,29,30,31,32,33,34,35,36,37,38,39,40] (fun x:Nat×Value=>[(4,.int .i64 ((x.1:Int)+1)),(3,x.2)]) (fun x N=>x.1<=w.length/\∃ Mb,Sub M Mb/\Own Mb x.2 (strs (eT w x.1)) N) (fun x=>w.length-x.1) (0,.slice (some ⟨b0,0,none⟩) 0 0) ⟨Nat.zero_le _,M,Sub.refl _,Own.new hb0 rfl (Nat.le_refl 0)⟩ ?_
 rintro⟨i,v⟩ N g ⟨hi,Mb,sB,ho⟩
 simp only at hi ho;have hal:=fY h60 i;by_cases hlt:i<w.length
 ·have hltI:(i:Int)+1<=(w.length:Nat):=by omega
  have hs:=qd w i;obtain⟨m,hm⟩:∃ m,m=i+1:=⟨_,rfl⟩;have hmI:(i:Int)+1=(m:Nat):=by omega
  rw[<-hm]at hs;rw[hmI]at hltI ⊢;have hpl:=zn h60 m;have hpp:=QB (w:=w) (m:=m) (by omega);simp(disch:=omega)[hltI];intro b1 hb1;have s1:=(Sub.refl N).put hb1 (.cells true [] 0);have r1:RdN (N.put b1 (.cells true [] 0)) (.slice (some ⟨b1,0,none⟩) 0 0) (strs (eQ [] ((dq w m 0).filter ca))):=⟨b1,0,0,rfl,by
   show Mem.sub? _ b1 0 0=some [];unfold Mem.sub?;rw[ag];rfl,Nat.le_refl 0⟩
  simp(disch:=omega);refine lupS [5,6,15,16,17,18,19,20,21,22,23,24,25,26,27,28,29,30,31,32,33,34,35,36,37] (fun x:Nat×Value=>[(6,.int .i64 (x.1:Nat)),(5,x.2)]) (fun x N'=>x.1<=w.length-m+1/\Sub N N'/\RdN N' x.2 (strs (eQ [] ((dq w m x.1).filter ca)))) (fun x=>w.length-m+1-x.1) (0,.slice (some ⟨b1,0,none⟩) 0 0) ⟨Nat.zero_le _,s1,r1⟩ ?_
  rintro⟨j,vi⟩ N' g2 ⟨hj,sN,ri⟩
  simp only at hj ri;have hpl2:=xD ((dq w m j).filter ca) [];have hfl2:=length_filter_le ca (dq w m j);rw[fD]at hfl2;simp only[length_nil]at hpl2;by_cases hjm:j+m<=w.length
  ·have hjmI:(j:Int)+m<=(w.length:Nat):=by omega
   have hsg:=fK (w:=w) (a:=j) (m:=m);have hsl:=ef (w:=w) (a:=j) (m:=m) hjm;have hst:(dq w m (j+1)).filter ca=(dq w m j).filter ca++if ca (seg w j m) then [seg w j m] else []:=by
    rw[qx,filter_append];cases hp:ca (seg w j m)<;>simp[hp]
   generalize (dq w m j).filter ca=L at *;generalize seg w j m=u at *;simp(disch:=omega)[hjmI,hsg];refine fO u _ _ (by omega) ?_;cases hp:ca u
   ·rw[hp,if_neg (by decide),append_nil]at hst;rw[<-hst]at ri;simp(disch:=omega);exact rndS (j+1,vi) ⟨by simp only;omega,sN,ri⟩
   ·rw[hp,if_pos rfl]at hst;have hst2:eQ [] (L++[u])=mc (eQ [] L) u:=by first|exact(vg _ _ _).symm|exact vg _ _ _
    simp(disch:=omega)[hsg];refine Fa vi (eQ [] L) u _ _ ri (by omega) ?_;intro v4 N4 s4 r4;rw[<-hst2,<-hst]at r4;simp(disch:=omega);exact rndS (j+1,v4) ⟨by simp only;omega,sN.trans s4,r4⟩
  ·have hjmI:¬(j:Int)+m<=(w.length:Nat):=by omega
   have hjE:j=w.length-m+1:=by omega
   rw[hjE,hpp]at ri;obtain⟨bz,oz,cz,hve,hsub,hcz⟩:=ri;rw[ah]at hve hsub;subst hve;generalize Dt w m=P at *;generalize eT w i=Q at *;have src:dp N' (.slice (some ⟨bz,oz,none⟩) P.length cz)=some (strs P):=hsub;simp(disch:=omega)[hjmI];refine aN ho sN src rfl rfl (by omega) (yl _) (by rw[ah,ah];omega) ?_;intro v' M'' N'' ho' hs';have e:strs Q++strs P=strs (Q++P):=by simp[strs]
   rw[e,<-hs]at ho';simp(disch:=omega);exact rndM M'' (m,v') hs' ⟨by simp only;omega,Mb,sB,ho'⟩
 ·have hltI:¬(i:Int)+1<=(w.length:Nat):=by omega
  have hiE:i=w.length:=by omega
  subst hiE;simp(disch:=omega)[hltI];exact ad (h _ _ (sB.trans ho.sub) ho.rd)
theorem pO(w:List UInt8)(M:Mem)(R:VP)(hl:w.length<=1099511627776)(h:∀ v M',Sub M M'->Rd M' v (strs (if isWord w then eT w w.length else []))->R (aD v (aJ w)) M'):ar prog 281 [str w] M R:=by
 unfold aD aJ at h;refine fnS func281 rfl ntmps281 results281 ?_;simp(disch:=omega);refine ba w _ _ hl ?_;cases hw:isWord w
 ·rw[hw]at h;simp(disch:=omega);exact ad (h _ _ (Sub.refl M) (.inl ⟨none,0,rfl,rfl⟩))
 ·rw[hw,if_pos rfl,if_pos rfl]at h;simp(disch:=omega);refine uV w _ _ (au hw) ?_;intro v N s r;simp(disch:=omega);exact ad (h _ _ s r)
theorem p8(w:List UInt8)(M:Mem)(R:VP)(hl:w.length<=1099511627776)(h:∀ v M',Sub M M'->Rd M' v (strs (if isWord w then eT w w.length else []))->R (aD v (aJ w)) M'):ar prog 243 [str w] M R:=by
 unfold aD aJ at h;refine fnS func243 rfl ntmps243 results243 ?_;simp(disch:=omega);intro b1 hb1;simp(disch:=omega);have hs1:Sub M (M.put b1 (.cells true [str w] 1)):=(Sub.refl _).put hb1 _;refine bq _ _ [w] true (fun _=>True) _ _ (Rd.new rfl (Nat.le_refl 1)) (fM hl) (by simp) trivial bT (bG _) ?_;rw[cV];cases hw:isWord w
 ·rw[hw]at h;simp(disch:=omega);exact ad (h _ _ hs1 (.inl ⟨none,0,rfl,rfl⟩))
 ·rw[hw,if_pos rfl,if_pos rfl]at h;simp(disch:=omega);refine kT w _ _ (au hw) ?_;intro v N s r;simp(disch:=omega);exact ad (h _ _ (hs1.trans s) r)
theorem Ar(w:List UInt8)(M:Mem)(R:VP)(hl:w.length<=1099511627776)(h:∀ M',Sub M M'->R (aD (.int .i64 (DU w)) (aJ w)) M'):ar prog 187 [str w] M R:=by
 unfold aD aJ DU at h;refine fnS func187 rfl ntmps187 results187 ?_;simp(disch:=omega);refine ba w _ _ hl ?_;cases hw:isWord w
 ·rw[hw]at h;simp(disch:=omega);exact ad (h _ (Sub.refl M))
 ·rw[hw,if_pos rfl,if_pos rfl]at h;have h60:=au hw;have hpl:=fY h60 w.length;simp(disch:=omega);refine uV w _ _ h60 ?_;intro v N s r;obtain⟨a,c,rfl,_⟩:=r.opened;rw[ah];generalize (eT w w.length).length=n at *;simp(disch:=omega);exact ad (h _ s)
theorem Ao(w:List UInt8)(M:Mem)(R:VP)(hl:w.length<=1099511627776)(h:∀ M',Sub M M'->R (aD (.int .i64 (DU w)) (aJ w)) M'):ar prog 244 [str w] M R:=by
 unfold aD aJ DU at h;refine fnS func244 rfl ntmps244 results244 ?_;simp(disch:=omega);intro b1 hb1;simp(disch:=omega);have hs1:Sub M (M.put b1 (.cells true [str w] 1)):=(Sub.refl _).put hb1 _;refine bq _ _ [w] true (fun _=>True) _ _ (Rd.new rfl (Nat.le_refl 1)) (fM hl) (by simp) trivial bT (bG _) ?_;rw[cV];cases hw:isWord w
 ·rw[hw]at h;simp(disch:=omega);exact ad (h _ hs1)
 ·rw[hw,if_pos rfl,if_pos rfl]at h;have h60:=au hw;have hpl:=fY h60 w.length;simp(disch:=omega);refine bV w _ _ hl ?_;simp(disch:=omega);refine kT w _ _ h60 ?_;intro v N s r;obtain⟨a,c,rfl,_⟩:=r.opened;rw[ah];generalize (eT w w.length).length=n at *;simp(disch:=omega);exact ad (h _ (hs1.trans s))
theorem ll(w:List UInt8)(M:Mem)(R:VP)(hl:w.length<=1099511627776)(h:∀ M',Sub M M'->R (aD (str (ubT w)) (cg w)) M'):ar prog 188 [str w] M R:=by
 unfold aD ubT at h;refine fnS func188 rfl ntmps188 results188 ?_;simp(disch:=omega);refine gr w _ _ hl ?_;by_cases hc:cg w=0
 ·rw[if_pos hc,hc]at h;obtain⟨hw,h0,h1,h60⟩:=gj hc;rw[hc];simp(disch:=omega);refine lupS [2,3,5,6,14,15,16,17,18,19,20,21,22,23,24,25,26,27,28,29,30,31,32,33,34,35,36,37,38,39,40,41,42] (fun n:Nat=>[(5,.int .i64 n)]) (fun n N=>Sub M N/\1<=n/\n<=w.length/\jZ kW w w.length=jZ kW w n) (fun n=>n) w.length ⟨Sub.refl M,h1,Nat.le_refl _,rfl⟩ ?_
  rintro n N g ⟨sN,hn1,hn,hbn⟩
  by_cases hn2:1<n
  ·have hn2I:(1:Int)<n:=by omega
   obtain⟨m,hm⟩:∃ m,n=m+1:=⟨n-1,by omega⟩;have hmI:(n:Int)-1=(m:Nat):=by omega
   simp(disch:=omega)[hn2I];refine lupS [2,3,6,18,19,20,21,22,23,24,25,26,27,28,29,30,31,32,33,34,35,36,37,38,39,40,41,42] (fun i:Nat=>[(6,.int .i64 i)]) (fun i N=>Sub M N/\i<=w.length-m/\∀ j,j<i->kW (seg w j n)=false) (fun i=>w.length-m-i) 0 ⟨sN,Nat.zero_le _,fun j hj=>by omega⟩ ?_
   rintro i N2 g2 ⟨sN2,hi,hno⟩
   by_cases hlt:i<w.length-m
   ·have hltI:(i:Int)+n<=(w.length:Nat):=by omega
    have hsg:=fK (w:=w) (a:=i) (m:=n);have hsl:=ef (w:=w) (a:=i) (m:=n) (by omega);have hub:kW (seg w i n)=(cB (seg w i n)==n):=by unfold kW;rw[hsl]
    have hyes:=mK (P:=kW) (w:=w) (n:=m) (i:=i) hlt;rw[<-hm]at hyes;generalize hSu:seg w i n=u at *;simp(disch:=omega)[hltI,hsg];refine db u _ _ (by omega) ?_;intro vp N3 op;obtain⟨p1,p2,p3⟩:=ky (w:=u) (by omega);obtain⟨ap,cp,rfl,hap⟩:=op.rd.opened;rw[ay]at hap ⊢;rcases hap with hz|⟨bp,o',rfl,hap⟩
    ·omega
    have hg:=hap 0 (by omega);rw[cJ,p1,Option.map_some,Nat.add_zero]at hg;have sN3:=sN2.trans op.sub;clear hap op;by_cases he:cB u=n
    ·have hy:=hyes (by rw[hub,he];exact beq_self_eq_true _) hno;rw[hbn,hy]at h;have heI:((cB u:Nat):Int)=(n:Nat):=by omega
     simp(disch:=omega)[hg,he,hsg];exact ad (h _ sN3)
    ·have heb:(((cB u:Nat):Int)==(n:Nat))=false:=beq_eq_false_iff_ne.2 (by omega);have hub2:kW u=false:=by rw[hub];exact beq_eq_false_iff_ne.2 he
     simp(disch:=omega)[hg,heb];exact rndS (i+1) ⟨sN3,by omega,fun j hj=>by
      by_cases e:j=i
      ·rw[e,hSu];exact hub2
      ·exact hno j (by omega)⟩
   ·have hltI:¬(i:Int)+n<=(w.length:Nat):=by omega
    have hnoA:=wC (P:=kW) (w:=w) (n:=m) (fun j hj=>by rw[<-hm];exact hno j (by omega));rw[<-hm]at hnoA;simp(disch:=omega)[hltI];exact rndA m (by simp(disch:=omega)[hmI]) ⟨sN2,by omega,by omega,by rw[hbn,hnoA]⟩
  ·have hn2I:¬(1:Int)<n:=by omega
   have hnE:n=1:=by omega
   subst hnE;rw[hbn,Gu GR h1]at h;have h1I:¬(w.length:Int)<1:=by omega
   simp(disch:=omega);exact ad (h _ sN)
 ·rw[if_neg hc]at h;generalize cg w=c at *;simp(disch:=omega);exact ad (h _ (Sub.refl M))
def lpT(w:List UInt8):List UInt8:=if cg w=0 then (jZ ca w w.length).1 else []
def lpK(w:List UInt8):Int:=if cg w=0 then (((jZ ca w w.length).2:Nat):Int) else 0
theorem ly(w:List UInt8)(M:Mem)(R:VP)(hl:w.length<=1099511627776)(h:∀ M',Sub M M'->R (.tuple #[str (lpT w),.int .i64 (lpK w),.int .i64 (cg w)]) M'):ar prog 245 [str w] M R:=by
 unfold lpT lpK at h;refine fnS func245 rfl ntmps245 results245 ?_;simp(disch:=omega);refine fa w _ _ hl ?_;intro M1 s1;by_cases hc:cg w=0
 ·rw[if_pos hc,if_pos hc,hc]at h;obtain⟨hw,h0,h1,h60⟩:=gj hc;rw[hc];have h:=h _ s1;simp(disch:=omega);refine lupS [2,3,4,6,7,15,16,17,18,19,20,21,22,23,24,25,26,27,28,29,30,31,32,33,34,35,36,37,38] (fun n:Nat=>[(6,.int .i64 n)]) (fun n N=>M1=N/\1<=n/\n<=w.length/\jZ ca w w.length=jZ ca w n) (fun n=>n) w.length ⟨rfl,h1,Nat.le_refl _,rfl⟩ ?_
  rintro n N g ⟨rfl,hn1,hn,hbn⟩
  obtain⟨m,hm⟩:∃ m,n=m+1:=⟨n-1,by omega⟩;have hmI:(n:Int)-1=(m:Nat):=by omega
  simp(disch:=omega);refine lupS [2,3,4,7,17,18,19,20,21,22,23,24,25,26,27,28,29,30,31,32,33,34,35,36,37,38] (fun i:Nat=>[(7,.int .i64 i)]) (fun i N=>M1=N/\i<=w.length-m/\∀ j,j<i->ca (seg w j n)=false) (fun i=>w.length-m-i) 0 ⟨rfl,Nat.zero_le _,fun j hj=>by omega⟩ ?_
  rintro i N g2 ⟨rfl,hi,hno⟩
  by_cases hlt:i<w.length-m
  ·have hltI:(i:Int)+n<=(w.length:Nat):=by omega
   have hsg:=fK (w:=w) (a:=i) (m:=n);have hsl:=ef (w:=w) (a:=i) (m:=n) (by omega);have hyes:=mK (P:=ca) (w:=w) (n:=m) (i:=i) hlt;rw[<-hm]at hyes;generalize hSu:seg w i n=u at *;simp(disch:=omega)[hltI,hsg];refine iX u _ _ (by omega) ?_;cases hp:ca u
   ·simp(disch:=omega);exact rndS (i+1) ⟨rfl,by omega,fun j hj=>by
     by_cases e:j=i
     ·rw[e,hSu];exact hp
     ·exact hno j (by omega)⟩
   ·have hy:=hyes hp hno;rw[hbn,hy]at h;simp(disch:=omega)[hsg];exact ad h
  ·have hltI:¬(i:Int)+n<=(w.length:Nat):=by omega
   have hnoA:=wC (P:=ca) (w:=w) (n:=m) (fun j hj=>by rw[<-hm];exact hno j (by omega));rw[<-hm]at hnoA;have hm1:1<=m:=by
    rcases Nat.eq_zero_or_pos m with e|e
    ·exfalso;have:=hno 0 (by omega);rw[hm,e]at this;obtain⟨u,hu⟩:=Hk h1;rw[show 0+1=1 from rfl,rK,hu,sL]at this;cases this
    ·exact e
   simp(disch:=omega)[hltI];exact rndA m (by simp(disch:=omega)[hmI]) ⟨rfl,hm1,by omega,by rw[hbn,hnoA]⟩
 ·rw[if_neg hc,if_neg hc]at h;generalize cg w=c at *;simp(disch:=omega);exact ad (h _ s1)
theorem lA(w:List UInt8)(M:Mem)(R:VP)(hl:w.length<=1099511627776)(h:∀ M',Sub M M'->R (.tuple #[str (lpT w),.int .i64 (lpK w),.int .i64 (cg w)]) M'):ar prog 186 [str w] M R:=by
 unfold lpT lpK at h;refine fnS func186 rfl ntmps186 results186 ?_;simp(disch:=omega);refine gr w _ _ hl ?_;by_cases hc:cg w=0
 ·rw[if_pos hc,if_pos hc,hc]at h;obtain⟨hw,h0,h1,h60⟩:=gj hc;rw[hc];have h:=h _ (Sub.refl M);simp(disch:=omega);refine lupS [2,3,4,6,7,15,16,17,18,19,20,21,22,23,24,25,26,27,28,29,30,31,32,33,34,35,36,37,38,39,40] (fun n:Nat=>[(6,.int .i64 n)]) (fun n N=>M=N/\1<=n/\n<=w.length/\jZ ca w w.length=jZ ca w n) (fun n=>n) w.length ⟨rfl,h1,Nat.le_refl _,rfl⟩ ?_
  rintro n N g ⟨rfl,hn1,hn,hbn⟩
  by_cases hn2:1<n
  ·have hn2I:(1:Int)<n:=by omega
   obtain⟨m,hm⟩:∃ m,n=m+1:=⟨n-1,by omega⟩;have hmI:(n:Int)-1=(m:Nat):=by omega
   simp(disch:=omega)[hn2I];refine lupS [2,3,4,7,19,20,21,22,23,24,25,26,27,28,29,30,31,32,33,34,35,36,37,38,39,40] (fun i:Nat=>[(7,.int .i64 i)]) (fun i N=>M=N/\i<=w.length-m/\∀ j,j<i->ca (seg w j n)=false) (fun i=>w.length-m-i) 0 ⟨rfl,Nat.zero_le _,fun j hj=>by omega⟩ ?_
   rintro i N g2 ⟨rfl,hi,hno⟩
   by_cases hlt:i<w.length-m
   ·have hltI:(i:Int)+n<=(w.length:Nat):=by omega
    have hsg:=fK (w:=w) (a:=i) (m:=n);have hsl:=ef (w:=w) (a:=i) (m:=n) (by omega);have hyes:=mK (P:=ca) (w:=w) (n:=m) (i:=i) hlt;rw[<-hm]at hyes;generalize hSu:seg w i n=u at *;simp(disch:=omega)[hltI,hsg];refine fO u _ _ (by omega) ?_;cases hp:ca u
    ·simp(disch:=omega);exact rndS (i+1) ⟨rfl,by omega,fun j hj=>by
      by_cases e:j=i
      ·rw[e,hSu];exact hp
      ·exact hno j (by omega)⟩
    ·have hy:=hyes hp hno;rw[hbn,hy]at h;simp(disch:=omega)[hsg];exact ad h
   ·have hltI:¬(i:Int)+n<=(w.length:Nat):=by omega
    have hnoA:=wC (P:=ca) (w:=w) (n:=m) (fun j hj=>by rw[<-hm];exact hno j (by omega));rw[<-hm]at hnoA;simp(disch:=omega)[hltI];exact rndA m (by simp(disch:=omega)[hmI]) ⟨rfl,by omega,by omega,by rw[hbn,hnoA]⟩
  ·have hn2I:¬(1:Int)<n:=by omega
   have hnE:n=1:=by omega
   subst hnE;rw[hbn,Gu sL h1]at h;have h1I:¬(w.length:Int)<1:=by omega
   simp(disch:=omega);exact ad h
 ·rw[if_neg hc,if_neg hc]at h;generalize cg w=c at *;simp(disch:=omega);exact ad (h _ (Sub.refl M))
end Go.Proofs.YtapimhjbilkfpaaGreatDoor
