/- Lemmas for FnExactConsole, part 7 of 46. -/
import Derived.Lib.ParseIntB
import Derived.Lib.ItoaMem
import Derived.Test.YtapimhjbilkfpaaGreatDoorZ04
import Derived.Test.YtapimhjbilkfpaaGreatDoorZ05
import Derived.Lib.AppendIntMem
import Derived.Lib.AtoiErrMem
set_option linter.unusedVariables false
set_option linter.unusedSimpArgs false
namespace Go.Proofs.YtapimhjbilkfpaaGreatDoor
open Go Go.Proofs.Tryz List
def j0(b:UInt8):Bool:=decide (48<=b.toNat)&&decide (b.toNat<=57)
def bQ(l:List UInt8):Bool:=(decide (1<=l.length)&&decide (l.length<=9))&&(!(decide (1<l.length)&&(l.headD 0==48))&&l.all j0)
def cd(l:List UInt8):Nat:=l.foldl (fun n b=>n*10+(b.toNat-48)) 0
def L9(l:List UInt8):Int:=if bQ l then (cd l:Nat) else -1
theorem kO(l:List UInt8)(b:UInt8):cd (l++[b])=cd l*10+(b.toNat-48):=by simp[cd,foldl_append]
theorem la{b:UInt8}(h:j0 b=true):48<=b.toNat/\b.toNat<=57:=by
 unfold j0 at h;rw[Bool.and_eq_true,decide_eq_true_eq,decide_eq_true_eq]at h;exact h
theorem J8(d:Nat)(h:d<10):j0 (UInt8.ofNat (48+d))=true/\(UInt8.ofNat (48+d)).toNat=48+d:=by
 have e:(UInt8.ofNat (48+d)).toNat=48+d:=by simp[UInt8.toNat_ofNat'];omega
 refine⟨?_,e⟩;unfold j0;rw[Bool.and_eq_true,decide_eq_true_eq,decide_eq_true_eq,e];omega
structure Canon(l:List UInt8):Prop where
 ne:l≠[]
 dig:∀ b∈l,j0 b=true
 head:l.length=1\/l.headD 0≠48
theorem dL{l:List UInt8}:bQ l=true↔Canon l/\l.length<=9:=by
 unfold bQ;simp only[Bool.and_eq_true,decide_eq_true_eq,Bool.not_eq_true',Bool.and_eq_false_iff,decide_eq_false_iff_not,beq_eq_false_iff_ne,all_eq_true];constructor
 ·rintro⟨⟨h1,h2⟩,h3,h4⟩
  refine⟨⟨fun e=>by rw[e]at h1;exact absurd h1 (by decide),h4,?_⟩,h2⟩;rcases h3 with h3|h3
  ·exact .inl (by omega)
  ·exact .inr h3
 ·rintro⟨⟨h1,h2,h3⟩,h4⟩
  have hp:1<=l.length:=by
   cases l with
   | nil=>exact absurd rfl h1
   | cons a r=>simp
  refine⟨⟨hp,h4⟩,?_,h2⟩;rcases h3 with h3|h3
  ·exact .inl (by omega)
  ·exact .inr h3
theorem CO{l:List UInt8}(h:l≠[]):∃ r b,l=r++[b]:=⟨l.dropLast,l.getLast h,(dropLast_concat_getLast h).symm⟩
theorem AJ{r:List UInt8}(h:r≠[])(b:UInt8):(r++[b]).headD 0=r.headD 0:=by
 cases r with
 | nil=>exact absurd rfl h
 | cons a r=>rfl
theorem Canon.init{r:List UInt8}{b:UInt8}(h:Canon (r++[b]))(hr:r≠[]):Canon r/\r.headD 0≠48:=by
 have hh:r.headD 0≠48:=by
  rcases h.head with h1|h1
  ·rw[length_append]at h1;have:r.length=0:=by simpa using h1
   exact absurd (List.length_eq_zero_iff.1 this) hr
  ·rwa[AJ hr]at h1
 exact⟨⟨hr,fun x hx=>h.dig x (mem_append_left _ hx),.inr hh⟩,hh⟩
theorem E8:∀(n:Nat) (l:List UInt8),l.length=n->Canon l->l.headD 0≠48->1<=cd l
 | 0,l,hn,h,_=>absurd (List.length_eq_zero_iff.1 hn) h.ne
 | n+1,l,hn,h,hh=>by
  obtain⟨r,b,rfl⟩:=CO h.ne;rw[kO];by_cases hr:r=[]
  ·subst hr;have hb:=la (h.dig b (by simp));have hb2:b.toNat≠48:=fun e=>hh (by
    show b=48;exact UInt8.toNat_inj.1 (by rw[e];rfl))
   show 1<=cd []*10+(b.toNat-48);omega
  ·obtain⟨h1,h2⟩:=h.init hr;have:=E8 n r (by rw[length_append]at hn;simpa using hn) h1 h2;omega
theorem Eo:∀(n:Nat) (l:List UInt8),l.length=n->Canon l->Lib.decDigits (cd l)=l
 | 0,l,hn,h=>absurd (List.length_eq_zero_iff.1 hn) h.ne
 | n+1,l,hn,h=>by
  obtain⟨r,b,rfl⟩:=CO h.ne;rw[kO];have hb:=la (h.dig b (by simp));by_cases hr:r=[]
  ·subst hr;show Lib.decDigits (cd []*10+(b.toNat-48))=[b];have e0:cd []=0:=rfl;rw[e0,Nat.zero_mul,Nat.zero_add,Lib.decDigits_one (by omega),show 48+(b.toNat-48)=b.toNat by omega,UInt8.ofNat_toNat]
  ·obtain⟨h1,h2⟩:=h.init hr;have hp:=E8 r.length r rfl h1 h2;have ih:=Eo n r (by rw[length_append]at hn;simpa using hn) h1;rw[Lib.decDigits,dif_neg (by omega),show (cd r*10+(b.toNat-48))/10=cd r by omega,ih,
    show 48+(cd r*10+(b.toNat-48))%10=b.toNat by omega,UInt8.ofNat_toNat]
theorem L7(n:Nat):Canon (Lib.decDigits n)/\cd (Lib.decDigits n)=n/\(1<=n->(Lib.decDigits n).headD 0≠48):=by
 induction n using Nat.strongRecOn with
 | _ n ih=>
  by_cases h:n<10
  ·rw[Lib.decDigits_one h];obtain⟨q1,q2⟩:=J8 n h;refine⟨⟨by simp,fun b hb=>?_,.inl rfl⟩,?_,fun h1 e=>?_⟩
   ·rw[mem_singleton]at hb;rw[hb];exact q1
   ·show cd []*10+((UInt8.ofNat (48+n)).toNat-48)=n;have e0:cd []=0:=rfl;rw[q2,e0];omega
   ·have e:UInt8.ofNat (48+n)=48:=e;rw[e]at q2;have:(48:UInt8).toNat=48:=rfl;omega
  ·obtain⟨c,v,hd⟩:=ih (n/10) (by omega);have hd:=hd (by omega);rw[Lib.decDigits,dif_neg h];obtain⟨q1,q2⟩:=J8 (n%10) (by omega);have hh:(Lib.decDigits (n/10)++[UInt8.ofNat (48+n%10)]).headD 0≠48:=by rw[AJ c.ne];exact hd
   refine⟨⟨by simp,fun b hb=>?_,.inr hh⟩,?_,fun _=>hh⟩
   ·rcases List.mem_append.1 hb with h1|h1
    ·exact c.dig b h1
    ·rw[mem_singleton]at h1;rw[h1];exact q1
   ·rw[kO,v,q2];omega
theorem Dd:∀(n:Nat) (l:List UInt8),l.length=n->(∀ b∈l,j0 b=true)->cd l<10 ^ n
 | 0,l,hn,_=>by rw[List.length_eq_zero_iff.1 hn];decide
 | n+1,l,hn,h=>by
  obtain⟨r,b,rfl⟩:=CO (l:=l) (fun e=>by rw[e]at hn;cases hn);have hb:=la (h b (by simp));have:=Dd n r (by rw[length_append]at hn;simpa using hn) (fun x hx=>h x (mem_append_left _ hx));rw[kO,Nat.pow_succ];omega
theorem fc{l:List UInt8}(h:bQ l=true):cd l<1000000000:=by
 obtain⟨c,h9⟩:=dL.1 h;have h1:=Dd l.length l rfl c.dig;have h2:10 ^ l.length<=10 ^ 9:=Nat.pow_le_pow_right (by decide) h9;have h3:(10:Nat) ^ 9=1000000000:=by decide
 omega
def XV(acc:Nat)(l:List UInt8):Nat:=l.foldl (fun n b=>n*10+(b.toNat-48)) acc
theorem Bl(T:Nat)(hT:1000000000<=T):∀(l:List UInt8) (acc:Nat),(∀ b∈l,j0 b=true)->(acc+1)*10 ^ l.length<=1000000000->Lib.parseUintM T acc l=.ok (XV acc l)
 | [],acc,_,_=>rfl
 | c::r,acc,h,ha=>by
  have hc:=la (h c (mem_cons_self ..));rw[length_cons,Nat.pow_succ]at ha;have hp:1<=10 ^ r.length:=Nat.one_le_pow _ _ (by decide);have h1:(acc+1)*10<=1000000000:=by
   refine Nat.le_trans ?_ ha;rw[Nat.mul_comm (10 ^ r.length) 10,<-Nat.mul_assoc];exact Nat.le_mul_of_pos_right _ hp
  unfold Lib.parseUintM;rw[if_pos hc,if_neg (by omega),if_neg (by omega)];rw[Bl T hT r _ (fun b hb=>h b (mem_cons_of_mem _ hb)) ?_]
  ·rfl
  ·refine Nat.le_trans (Nat.mul_le_mul_right _ (show acc*10+(c.toNat-48)+1<=(acc+1)*10 by omega)) ?_;rw[Nat.mul_comm (10 ^ r.length) 10,<-Nat.mul_assoc]at ha;exact ha
theorem uf{l:List UInt8}(h:bQ l=true):Lib.parseIntB 64 l=.ok (cd l:Nat):=by
 obtain⟨c,h9⟩:=dL.1 h;have hs:=fc h;have hp:Lib.parseUintB 64 l=.ok (cd l):=by
  unfold Lib.parseUintB;rw[if_neg c.ne];refine Bl _ (by decide) l 0 c.dig ?_;have h2:10 ^ l.length<=10 ^ 9:=Nat.pow_le_pow_right (by decide) h9;have h3:(10:Nat) ^ 9=1000000000:=by decide
  omega
 cases l with
 | nil=>exact absurd rfl c.ne
 | cons b r=>
  have hb:=la (c.dig b (mem_cons_self ..));unfold Lib.parseIntB;have e1:¬(b.toNat=43\/b.toNat=45):=by omega
  have e2:¬(b.toNat=45):=by omega
  have e63:¬(2:Nat) ^ (64-1)<=cd (b::r):=by
   have:(2:Nat) ^ (64-1)=9223372036854775808:=by decide
   omega
  have e3:¬(b.toNat=43):=by omega
  simp only[e3,e2,e63,or_self,if_false,hp,not_false_eq_true,true_and,false_and]
theorem QC{l:List UInt8}{n:Int}(h1:Lib.parseIntB 64 l=.ok n)(h0:0<=n)(h9:l.length<=9)(he:Lib.itoa n=l):bQ l=true/\(cd l:Int)=n:=by
 obtain⟨k,rfl⟩:∃ k:Nat,n=k:=⟨n.toNat,by omega⟩;rw[Lib.itoa_nonneg]at he;obtain⟨c,v,_⟩:=L7 k;rw[he]at c v;exact⟨dL.2 ⟨c,h9⟩,by rw[v]⟩
theorem NW{l:List UInt8}(h:bQ l=true):Lib.itoa (cd l:Nat)=l:=by
 rw[Lib.itoa_nonneg];exact Eo l.length l rfl (dL.1 h).1
theorem MU{l:List UInt8}{n:Int}(h:Lib.parseIntB 64 l=.ok n):n<=9223372036854775807:=by
 have e63:(2:Nat) ^ (64-1)=9223372036854775808:=by decide
 cases l with
 | nil=>cases h
 | cons c r=>
  unfold Lib.parseIntB at h;simp only[e63]at h;split at h
  ·cases h
  ·cases h
  ·rename_i u _;split at h
   ·cases h
   ·split at h
    ·cases h
    ·injection h with h
     split at h
     ·omega
     ·rename_i q1 q2 q3;rw[not_and]at q1;have:=q1 q3;omega
theorem lJ{l:List UInt8}(h:bQ l=true):L9 l=(cd l:Nat):=by unfold L9;rw[if_pos h]
theorem nK{l:List UInt8}(h:¬ bQ l=true):L9 l = -1:=by unfold L9;rw[if_neg h]
theorem zG{l:List UInt8}(h:bQ l=true):1<=l.length/\l.length<=9:=by
 unfold bQ at h;simp only[Bool.and_eq_true,decide_eq_true_eq]at h;exact h.1
theorem dh(n:Int)(h0 : -9223372036854775807<=n)(h1:n<=9223372036854775807):(Lib.itoa n).length<=21:=by
 have hd:∀ u:Nat,u<10 ^ 20->(Lib.decDigits u).length<=20:=by
  intro u hu;rw[Lib.decDigits_length];rcases Nat.lt_or_ge 20 (Lib.nDigits u) with h|h
  ·exfalso;have h2:∀(k u:Nat),k+1<Lib.nDigits u->10 ^ (k+1)<=u:=by
    intro k
    induction k with
    | zero=>
     intro u hu;by_cases h:u<10
     ·rw[Lib.nDigits_small h]at hu;omega
     ·simpa using h
    | succ k ih=>
     intro u hu;by_cases h:u<10
     ·rw[Lib.nDigits_small h]at hu;omega
     ·rw[Lib.nDigits_big h]at hu;have:=ih (u/10) (by omega);rw[Nat.pow_succ];omega
   have:=h2 19 u h;omega
  ·exact h
 have h20:(10:Nat) ^ 20=100000000000000000000:=by decide
 unfold Lib.itoa;split
 ·rw[length_cons];have:=hd n.natAbs (by omega);omega
 ·have:=hd n.toNat (by omega);omega
theorem Own.push{M M':Mem}{v:Value}{xs:List Value}(h:Own M v xs M'){b:Nat}(hb:M' b=none)(B:Blk):Own (M.put b B) v xs (M'.put b B):=by
 rcases h with ⟨rfl,rfl,rfl⟩|⟨b',c,rfl,hM,hc,rfl⟩
 ·exact Own.nil _
 ·have hne:b≠b':=by rintro rfl;rw[ag]at hb;cases hb
  refine .inr ⟨b',c,rfl,by rw[aF];exact⟨Ne.symm hne,hM⟩,hc,?_⟩
  funext i
  simp only[Mem.put];by_cases h1:i=b
  ·rw[if_pos h1,if_neg (by rw[h1];exact hne),if_pos h1]
  ·rw[if_neg h1,if_neg h1]
theorem al(M:Mem)(b:Nat)(B:Blk):M.set b B=M.put b B:=rfl
theorem Own.other{M M':Mem}{v:Value}{xs:List Value}{b:Nat}{B0:Blk}(h:Own M v xs M')(hb:M b=some B0)(B:Blk):Own (M.put b B) v xs (M'.put b B):=by
 rcases h with ⟨rfl,rfl,rfl⟩|⟨b',c,rfl,hM,hc,rfl⟩
 ·exact Own.nil _
 ·have hne:b≠b':=by rintro rfl;rw[hM]at hb;cases hb
  refine .inr ⟨b',c,rfl,by rw[aF];exact⟨Ne.symm hne,hM⟩,hc,?_⟩
  funext i
  simp only[Mem.put];by_cases h1:i=b
  ·rw[if_pos h1,if_neg (by rw[h1];exact hne),if_pos h1]
  ·rw[if_neg h1,if_neg h1]
theorem a7(M:Mem)(b:Nat)(A B:Blk):(M.put b A).put b B=M.put b B:=by
 funext i;simp only[Mem.put];split<;>rfl
def AV(w p:List UInt8)(v:Value):Value:=.agg #[str w,str p,v]
theorem nR(M:Mem)(R:VP)(h:∀ v M',Own M v (strs [[97,98],[97]]) M'->R (AV [97,98,97,97,98] [65,65] v) M'):ar prog 52 [] M R:=by
 refine fnS func52 rfl ntmps52 results52 ?_;simp(disch:=omega);intro b1 hb1;simp(disch:=omega);intro b2 hb2;have h2:=hb2;rw[aF]at h2;simp(disch:=omega);refine ae ?_ (h _ (M.put b2 (.cells true (strs [[97,98],[97]]) 2)) (Own.new h2.2 rfl (Nat.le_refl 2)));exact((Sub.refl M).put hb1 _).both b2 _
theorem jO(M:Mem)(R:VP)(h:∀ v M',Own M v (strs [[97,98],[97]]) M'->R (AV [97,98,97,97,98] [65,65] v) M'):ar prog 13 [] M R:=by
 refine fnS func13 rfl ntmps13 results13 ?_;simp(disch:=omega);intro b1 hb1;simp(disch:=omega);intro b2 hb2;have h2:=hb2;rw[aF]at h2;simp(disch:=omega);refine ae ?_ (h _ (M.put b2 (.cells true (strs [[97,98],[97]]) 2)) (Own.new h2.2 rfl (Nat.le_refl 2)));exact((Sub.refl M).put hb1 _).both b2 _
def seg(w:List UInt8)(a m:Nat):List UInt8:=(w.take (a+m)).drop a
theorem ef{w:List UInt8}{a m:Nat}(h:a+m<=w.length):(seg w a m).length=m:=by unfold seg;rw[length_drop,length_take];omega
theorem rk{w:List UInt8}(h:w.all isL=true)(a m:Nat):(seg w a m).all isL=true:=by
 rw[all_eq_true]at *;intro u hu;exact h u (mem_of_mem_take (mem_of_mem_drop hu))
theorem mn(w:List UInt8)(m:Nat):seg w 0 m=w.take m:=by simp[seg]
theorem fK{w:List UInt8}{a m:Nat}:(w.take ((a:Int)+m).toNat).drop a=seg w a m:=by unfold seg;rw[show ((a:Int)+m).toNat=a+m by omega]
inductive ck (M:Mem):List Value->List (List Int)->Mem->Prop
 | nil:ck M [] [] M
 | more {rs:List Value} {rows:List (List Int)} {N:Mem} {b c:Nat} {r:List Int} (cc:Nat) (x:List Value) (h:ck M rs rows N) (hb:N b=none) (hc:r.length<=cc) :
  ck M (rs++[.slice (some ⟨b,0,none⟩) r.length cc]) (rows++[r]) (N.put b (.cells true (ints r++x) c))
theorem ck.snoc{M:Mem}{rs:List Value}{rows:List (List Int)}{N:Mem}{b c:Nat}{r:List Int}(h:ck M rs rows N)(hb:N b=none)(hc:r.length<=c) :
  ck M (rs++[.slice (some ⟨b,0,none⟩) r.length c]) (rows++[r]) (N.put b (.cells true (ints r) c)):=by
 have:=h.more (c:=c) c [] hb hc;rw[append_nil]at this;exact this
theorem ck.sub{M N:Mem}{rs:List Value}{rows:List (List Int)}(h:ck M rs rows N):Sub M N:=by
 induction h with
 | nil=>exact Sub.refl _
 | more cc x h hb hc ih=>exact ih.putN hb _
theorem ck.len{M N:Mem}{rs:List Value}{rows:List (List Int)}(h:ck M rs rows N):rs.length=rows.length:=by
 induction h with
 | nil=>rfl
 | more cc x h hb hc ih=>rw[length_append,length_append,ih];rfl
theorem ck.base{M M' N:Mem}{rs:List Value}{rows:List (List Int)}(h:ck M' rs rows N)(hs:Sub M M'):∃ N2,ck M rs rows N2/\Sub N2 N:=by
 induction h with
 | nil=>exact⟨M,.nil,hs⟩
 | more cc x h hb hc ih=>
  obtain⟨N2,h1,h2⟩:=ih;exact⟨_,h1.more cc x (bM h2 hb) hc,h2.both _ _⟩
theorem ck.at{M N:Mem}{rs:List Value}{rows:List (List Int)}(h:ck M rs rows N):∀(i:Nat) (r:List Int),rows[i]?=some r->∃ b c cc x,rs[i]?=some (.slice (some ⟨b,0,none⟩) r.length cc)/\N b=some (.cells true (ints r++x) c)/\r.length<=cc/\M b=none:=by
 induction h with
 | nil=>intro i r h;simp at h
 | @more rs rows N b c r cc x h hb hc ih=>
  intro i r' hi;rcases Nat.lt_trichotomy i rows.length with hlt|heq|hgt
  ·rw[getElem?_append_left hlt]at hi;obtain⟨b',c',cc',x',h1,h2,h3,h4⟩:=ih i r' hi;refine⟨b',c',cc',x',by rw[getElem?_append_left (by rw[h.len];exact hlt),h1],?_,h3,h4⟩;rw[ai _ _ (by rintro rfl;rw[hb]at h2;cases h2),h2]
  ·subst heq;rw[getElem?_append_right (Nat.le_refl _),Nat.sub_self]at hi;injection hi with hi
   subst hi;refine⟨b,c,cc,x,?_,ag _ _ _,hc,bM h.sub hb⟩;rw[getElem?_append_right (by rw[h.len];exact Nat.le_refl _),h.len,Nat.sub_self];rfl
  ·rw[getElem?_eq_none (by rw[length_append,length_singleton];omega)]at hi;cases hi
theorem ET(M:Mem){a b:Nat}(h:a≠b)(A B:Blk):(M.put a A).put b B=(M.put b B).put a A:=by
 funext i
 simp only[Mem.put];by_cases h1:i=b
 ·rw[if_pos h1,if_neg (by rw[h1];exact Ne.symm h),if_pos h1]
 ·rw[if_neg h1,if_neg h1]
def My(M:Mem)(v:Value)(rows:List (List Int)):Prop:=∃ rs:List Value,Rd M v rs/\rs.length=rows.length/\∀(i:Nat) (r:List Int),rows[i]?=some r->∃ x:Value,rs[i]?=some x/\Rd M x (ints r)
theorem My.sub{M N:Mem}{v:Value}{rows:List (List Int)}(h:My M v rows)(hs:Sub M N):My N v rows:=by
 obtain⟨rs,h1,h2,h3⟩:=h;refine⟨rs,h1.sub hs,h2,fun i r hi=>?_⟩;obtain⟨x,h4,h5⟩:=h3 i r hi;exact⟨x,h4,h5.sub hs⟩
theorem Jo{M N M':Mem}{v:Value}{rs:List Value}{rows:List (List Int)}(h:ck M rs rows N)(ho:Own N v rs M'):My M' v rows:=by
 refine⟨rs,ho.rd,h.len,fun i r hi=>?_⟩;obtain⟨b,c,cc,x,h1,h2,h3,_⟩:=h.at i r hi;refine⟨_,h1,?_⟩;have:Rd N (.slice (some ⟨b,0,none⟩) r.length cc) (ints r):=by
  refine .inr ⟨b,0,cc,by rw[ay],?_,by rw[ay];exact h3⟩;rw[aq h2,lO,if_pos (by rw[length_append];omega),drop_zero,take_left]
 exact this.sub ho.sub
theorem Qg{M M' N M1:Mem}{v:Value}{rs:List Value}{rows:List (List Int)}(h:ck M' rs rows N)(ho:Own N v rs M1)(hs:Sub M M'):∃ N2 M2,ck M rs rows N2/\Own N2 v rs M2/\Sub M2 M1:=by
 obtain⟨N2,h1,h2⟩:=h.base hs;obtain⟨M2,h3,h4⟩:=ho.base h2;exact⟨N2,M2,h1,h3,h4⟩
theorem Of{w:List UInt8}{i q k:Nat}(hk:1<=k)(hi:i<=w.length):i+k*(q+1)<=w.length↔q<(w.length-i)/k:=by
 rw[Nat.lt_iff_add_one_le,Nat.le_div_iff_mul_le hk,Nat.mul_comm];omega
theorem OY{M N M':Mem}{v:Value}{rs:List Value}{rows:List (List Int)}(h:ck M rs rows N)(ho:Own N v rs M'){b:Nat}(hb:M' b=none)(r:List Int)(n c:Nat)(hn:r.length=n)(hc:n<=c) :
  ck M (rs++[.slice (some ⟨b,0,none⟩) n c]) (rows++[r]) (N.put b (.cells true (ints r) c))/\Own (N.put b (.cells true (ints r) c)) v rs (M'.put b (.cells true (ints r) c)):=by
 subst hn;exact⟨h.snoc (bM ho.sub hb) hc,ho.push hb _⟩
def ltr(n:Nat):UInt8:=UInt8.ofNat (97+n)
theorem lf{n:Nat}(h:n<=4):isL (ltr n)=true:=by
 unfold ltr;have:n=0\/n=1\/n=2\/n=3\/n=4:=by omega
 rcases this with rfl|rfl|rfl|rfl|rfl<;>decide
theorem iN(n:Nat)(M:Mem)(R:VP)(h1:n<=4)(h:R (str [ltr n]) M):ar prog 133 [.int .i64 n] M R:=by
 refine fnS func133 rfl ntmps133 results133 ?_;simp(disch:=omega);intro b hb;simp(disch:=omega);have e:(97+(n:Int)).toNat=97+n:=by omega
 unfold ltr at h;rw[<-e]at h;exact ae ((Sub.refl M).put hb _) h
theorem cN(n:Nat)(M:Mem)(R:VP)(h1:n<=4)(h:R (str [ltr n]) M):ar prog 229 [.int .i64 n] M R:=
 Ec n M R (by omega) (by omega) (by rw[Int.toNat_natCast];exact h)
theorem zR{α β:Type}(l:List α)(a:α)(f:α->Option β):(l++[a]).findSome? f=(l.findSome? f).or (f a):=by
 rw[findSome?_append];cases findSome? f l<;>simp
theorem OX{β:Type}{f:Nat->Option β}{c j:Nat}{b:β}(hc:c<j)(h0:(range c).findSome? f=none)(h:f c=some b):(range j).findSome? f=some b:=by
 have e:range j=range c++c::(range' (c+1) (j-c-1)):=by
  rw[range_eq_range',range_eq_range',<-range'_succ,show j-c-1+1=j-c by omega];have:=range'_append_1 (s:=0) (m:=c) (n:=j-c);rw[Nat.zero_add,show c+(j-c)=j by omega]at this;exact this.symm
 rw[e,findSome?_append,h0,findSome?_cons,h];rfl
end Go.Proofs.YtapimhjbilkfpaaGreatDoor
namespace Go.Proofs.YtapimhjbilkfpaaGreatDoor
open Go Go.Proofs.Tryz Go.RowKit List
theorem HZ{P:Program}{M:Mem}{w:World}(h:Rep M w){name:String}{g:Nat}(hg:P.globalNamed name=some g){xs:List Value}{own:Bool}(hM:M g=some (.cells own xs xs.length)):w.var? P name=some xs.toArray:=by
 obtain⟨c,e,fr,h1,h2,⟨ys,h3⟩,_⟩:=h g _ hM;have h4:ys=[]:=by
  have:=congrArg length h3;rw[Array.length_toList,length_append,h2]at this;exact List.length_eq_zero_iff.1 (by omega)
 rw[h4,append_nil]at h3;simp only[World.var?,hg,Option.bind_some,h1];rw[<-h3]
theorem Mh{P:Program}{f:FuncId}{args:List Value}{M:Mem}{R:VP}(hb:rR P f)(h:∀ w,Rep M w->Calls P f args.toArray w fun e w'=>∃ v,e=.returned v/\R v M/\Below w.heap.size w w'):ar P f args M R:=
 ⟨hb,fun w hw=>(h w hw).mono fun e w' ⟨v,he,hR,hbl⟩=>⟨v,M,he,Bu hw hbl,⟨hbl.os,hbl.tape,hbl.output,hbl.size,fun b hb _=>hbl.block b hb,fun b hb=>.inl hb⟩,hR⟩⟩
structure ch(M:Mem):Prop where
 pow:∃ g,prog.globalNamed "internal/strconv.uint64pow10" = some g/\M g=some (.cells false (Lib.pow10Tab.map fun z=>Value.int .u64 z) (Lib.pow10Tab.map fun z=>Value.int .u64 z).length)
 syn:∃ g tp p,prog.globalNamed "strconv.ErrSyntax" = some g/\M g=some (.cells false [.iface tp p] 1)
 rng:∃ g tp p,prog.globalNamed "strconv.ErrRange" = some g/\M g=some (.cells false [.iface tp p] 1)
theorem ch.sub{M N:Mem}(h:ch M)(hs:Sub M N):ch N:=by
 obtain⟨⟨g1,a1,b1⟩,⟨g2,t2,p2,a2,b2⟩,⟨g3,t3,p3,a3,b3⟩⟩:=h;exact⟨⟨g1,a1,hs _ _ b1⟩,⟨g2,t2,p2,a2,hs _ _ b2⟩,⟨g3,t3,p3,a3,hs _ _ b3⟩⟩
theorem yi(n:Int)(M:Mem)(R:VP)(hM:ch M)(h0 : -9223372036854775808<=n)(h1:n<=9223372036854775807)(h:R (str (Lib.itoa n)) M):ar prog 220 [.int .i64 n,.int .i64 10] M R:=by
 refine dk (str (Lib.itoa n)) ⟨_,func220,by kernel_rfl,by kernel_rfl⟩ (fun w hw=>?_) h;obtain⟨g,hg,hb⟩:=hM.pow;refine(Tryz.strconv_FormatInt_10 n h0 h1 w (HZ hw hg hb)).mono fun e w' h2=>?_;obtain⟨he,k,os,hw'⟩:=h2;exact⟨he,by rw[hw'];exact Lib.below_grow _ _ (Nat.le_refl _) k os⟩
theorem Av(l:List UInt8)(M:Mem)(R:VP)(hM:ch M)(hl:l.length<=281474976710656)(hok:∀ n,Lib.parseIntB 64 l=.ok n->R (.tuple #[.int .i64 n,.nilIface]) M)
  (hbad:(∀ n,Lib.parseIntB 64 l≠.ok n)->∀ n tp p,R (.tuple #[.int .i64 n,.iface tp (.pointer (some p))]) M):ar prog 153 [str l,.int .i64 10,.int .i64 64] M R:=by
 refine Mh ⟨_,func153,by kernel_rfl,by kernel_rfl⟩ (fun w hw=>?_);rcases hp:Lib.parseIntB 64 l with n|_|_
 ·skip
  refine(Tryz.strconv_ParseInt_10_at64_ok ⟨⟨l⟩⟩ (by show l.length<=_;omega) n hp w).mono fun e w' h2=>?_;obtain⟨he,hw'⟩:=h2;refine⟨_,he,hok n hp,?_⟩;rcases hw' with rfl|⟨t,rfl⟩
  ·exact Below.refl _ _
  ·exact Lib.bytesWorld_below _ _ _
 ·skip
  obtain⟨g,tp,p,hg,hb⟩:=hM.syn;refine(Any.strconv_ParseInt_10_at64_syntax_var Tryz.laysSyn ⟨⟨l⟩⟩ hl hp tp p w (HZ hw hg hb)).mono fun e w' h2=>?_;obtain⟨N,he,_,_,hbl⟩:=h2;exact⟨_,he,hbad (fun n e=>by rw[hp]at e;cases e) _ _ _,hbl⟩
 ·skip
  obtain⟨g,tp,p,hg,hb⟩:=hM.rng;refine(Tryz.strconv_ParseInt_10_at64_range_var ⟨⟨l⟩⟩ hl hp tp p w (HZ hw hg hb)).mono fun e w' h2=>?_;obtain⟨N,he,_,_,hbl⟩:=h2;exact⟨_,he,hbad (fun n e=>by rw[hp]at e;cases e) _ _ _,hbl⟩
theorem dM(n:Int)(M:Mem)(R:VP)(hM:ch M)(h0 : -9223372036854775807<=n)(h1:n<=9223372036854775807)(h:R (str (Lib.itoa n)) M):ar prog 154 [.int .i64 n] M R:=by
 refine fnS func154 rfl ntmps154 results154 ?_;simp(disch:=omega);refine yi n _ _ hM (by omega) h1 ?_;simp(disch:=omega);exact ad h
end Go.Proofs.YtapimhjbilkfpaaGreatDoor
namespace Go.Proofs.YtapimhjbilkfpaaGreatDoor
open List
def jS(a b:Nat)(c:Nat->Nat):Nat->Nat:=fun k=>if c k=b then a else c k
def BF(n p q:Nat)(f:Nat->Nat):Prop:=(∀ i,i+p<n->f i=f (i+p))/\∀ i,i+q<n->f i=f (i+q)
def jP(n p q:Nat)(c:Nat->Nat):Prop:=∀ f,BF n p q f->∀ k l,k<n->l<n->c k=c l->f k=f l
def fe(n:Nat)(c:Nat->Nat):Prop:=∀ k,k<n->c k<n
theorem uL{a b:Nat}{c:Nat->Nat}{k l:Nat}(h:c k=c l):jS a b c k=jS a b c l:=by unfold jS;rw[h]
theorem B2{a b:Nat}{c:Nat->Nat}{x y:Nat}(h:(c x=a/\c y=b)\/(c x=b/\c y=a)):jS a b c x=jS a b c y:=by
 unfold jS;rcases h with ⟨h1,h2⟩|⟨h1,h2⟩
 ·rw[h1,h2,if_pos rfl];split
  ·rfl
  ·rfl
 ·rw[h1,h2,if_pos rfl];split
  ·rfl
  ·rfl
theorem AP{n p q a b:Nat}{c:Nat->Nat}{x y:Nat}(hg:jP n p q c)(hx:x<n)(hy:y<n)(h:(c x=a/\c y=b)\/(c x=b/\c y=a))(he:∀ f,BF n p q f->f x=f y):jP n p q (jS a b c):=by
 intro f hf k l hk hl hkl;have hxy:=he f hf;have hba:∀ k l,k<n->l<n->c k=b->c l=a->f k=f l:=fun k l hk hl h1 h2=>by
  rcases h with ⟨q1,q2⟩|⟨q1,q2⟩
  ·rw[hg f hf k y hk hy (h1.trans q2.symm),hg f hf l x hl hx (h2.trans q1.symm),hxy]
  ·rw[hg f hf k x hk hx (h1.trans q1.symm),hg f hf l y hl hy (h2.trans q2.symm),hxy]
 unfold jS at hkl;by_cases h1:c k=b
 ·by_cases h2:c l=b
  ·exact hg f hf k l hk hl (h1.trans h2.symm)
  ·rw[if_pos h1,if_neg h2]at hkl;exact hba k l hk hl h1 hkl.symm
 ·by_cases h2:c l=b
  ·rw[if_neg h1,if_pos h2]at hkl;exact(hba l k hl hk h2 hkl).symm
  ·rw[if_neg h1,if_neg h2]at hkl;exact hg f hf k l hk hl hkl
theorem pZ{n a b:Nat}{c:Nat->Nat}(h:fe n c)(ha:a<n):fe n (jS a b c):=by
 intro k hk;unfold jS;split
 ·exact ha
 ·exact h k hk
theorem wY(n p q:Nat):jP n p q id:=fun f _ k l _ _ h=>by
 have h:k=l:=h;rw[h]
def stI(s:Nat)(c:Nat->Nat)(i:Nat):Nat->Nat:=jS (min (c i) (c (i-s))) (max (c i) (c (i-s))) c
def foI(s:Nat)(c:Nat->Nat):Nat->Nat->Nat
 | 0=>c
 | t+1=>stI s (foI s c t) (s+t)
def lk(n p q:Nat):Nat->Nat:=foI q (foI p id (n-p)) (n-q)
theorem Gi{s:Nat}{c:Nat->Nat}{k l:Nat}(h:c k=c l):∀ t,foI s c t k=foI s c t l
 | 0=>h
 | t+1=>by unfold foI stI;exact uL (Gi h t)
theorem MD(x y:Nat):(x=min x y/\y=max x y)\/(x=max x y/\y=min x y):=by omega
theorem xt{s:Nat}{c:Nat->Nat}:∀ t j,j<t->foI s c t (s+j)=foI s c t j
 | 0,j,h=>by omega
 | t+1,j,h=>by
  unfold foI stI;by_cases e:j=t
  ·subst e;refine B2 ?_;rw[Nat.add_sub_cancel_left];exact MD _ _
  ·exact uL (xt t j (by omega))
theorem sQ{n p q s:Nat}{c:Nat->Nat}(hg:jP n p q c)(hb:fe n c)(hs:s=p\/s=q):∀ t,s+t<=n->jP n p q (foI s c t)/\fe n (foI s c t)
 | 0,_=>⟨hg,hb⟩
 | t+1,h=>by
  obtain⟨h1,h2⟩:=sQ hg hb hs t (by omega);unfold foI stI;rw[Nat.add_sub_cancel_left];refine⟨AP (x:=s+t) (y:=t) h1 (by omega) (by omega) (MD _ _) (fun f hf=>?_),pZ h2 ?_⟩
  ·rcases hs with rfl|rfl
   ·rw[Nat.add_comm];exact(hf.1 t (by omega)).symm
   ·rw[Nat.add_comm];exact(hf.2 t (by omega)).symm
  ·have:=h2 t (by omega);have:=h2 (s+t) (by omega);omega
theorem JK(n p q:Nat):BF n p q (lk n p q)/\jP n p q (lk n p q)/\fe n (lk n p q):=by
 have h1:jP n p q (foI p id (n-p))/\fe n (foI p id (n-p)):=by
  by_cases hp:p<=n
  ·exact sQ (wY n p q) (fun k hk=>hk) (.inl rfl) _ (by omega)
  ·rw[show n-p=0 by omega];exact⟨wY n p q,fun k hk=>hk⟩
 have h2:jP n p q (lk n p q)/\fe n (lk n p q):=by
  unfold lk;by_cases hq:q<=n
  ·exact sQ h1.1 h1.2 (.inr rfl) _ (by omega)
  ·rw[show n-q=0 by omega];exact h1
 refine⟨⟨fun i hi=>?_,fun i hi=>?_⟩,h2⟩
 ·unfold lk;refine Gi ?_ _;have:=xt (s:=p) (c:=id) (n-p) i (by omega);rw[Nat.add_comm i p];exact this.symm
 ·unfold lk;have:=xt (s:=q) (c:=foI p id (n-p)) (n-q) i (by omega);rw[Nat.add_comm i q];exact this.symm
theorem MT{n p q:Nat}{c d:Nat->Nat}(hc:BF n p q c)(gc:jP n p q c)(hd:BF n p q d)(gd:jP n p q d){k l:Nat}(hk:k<n)(hl:l<n):(c k=c l)↔(d k=d l):=
 ⟨fun h=>gc d hd k l hk hl h,fun h=>gd c hc k l hk hl h⟩
def frs(c:Nat->Nat)(i:Nat):Nat:=((range i).find? fun k=>c k==c i).getD i
theorem nQ(c:Nat->Nat)(i:Nat):frs c i<=i/\c (frs c i)=c i/\∀ k,k<frs c i->c k≠c i:=by
 unfold frs;cases h:(range i).find? (fun k=>c k==c i) with
 | none=>
  rw[find?_eq_none]at h;refine⟨Nat.le_refl _,rfl,fun k hk e=>?_⟩;have:=h k (List.mem_range.2 hk);rw[e]at this;simp at this
 | some j=>
  rw[find?_range_eq_some]at h;obtain⟨h1,h2,h3⟩:=h;refine⟨Nat.le_of_lt (List.mem_range.1 h2),eq_of_beq h1,fun k hk e=>?_⟩;have:=h3 k hk;rw[e]at this;simp at this
theorem ze{c:Nat->Nat}{i j:Nat}(h1:j<=i)(h2:c j=c i)(h3:∀ k,k<j->c k≠c i):frs c i=j:=by
 obtain⟨q1,q2,q3⟩:=nQ c i;rcases Nat.lt_trichotomy (frs c i) j with h|h|h
 ·exact absurd q2 (h3 _ h)
 ·exact h
 ·exact absurd h2 (q3 _ h)
theorem Qu{n:Nat}{c d:Nat->Nat}(h:∀ k l,k<n->l<n->((c k=c l)↔(d k=d l))){i:Nat}(hi:i<n):frs c i=frs d i:=by
 obtain⟨q1,q2,q3⟩:=nQ d i;exact ze q1 ((h _ _ (by omega) hi).2 q2) (fun k hk e=>q3 k hk ((h k i (by omega) hi).1 e))
def dE(c:Nat->Nat)(i:Nat):Nat:=((range i).filter fun k=>frs c k==k).length
def lab(c:Nat->Nat)(i:Nat):Nat:=dE c (frs c i)
theorem oJ(c:Nat->Nat)(i:Nat):dE c (i+1)=dE c i+if frs c i=i then 1 else 0:=by
 unfold dE;rw[range_succ,filter_append,length_append]
 congr 1
 by_cases h:frs c i=i
 ·simp[h]
 ·simp[h]
theorem FH{n:Nat}{c d:Nat->Nat}(h:∀ i,i<n->frs c i=frs d i){i:Nat}(hi:i<=n):dE c i=dE d i:=by
 unfold dE
 congr 1
 refine filter_congr fun k hk=>?_;rw[h k (by have:=List.mem_range.1 hk;omega)]
theorem Qe{n:Nat}{c d:Nat->Nat}(h:∀ i,i<n->frs c i=frs d i){i:Nat}(hi:i<n):lab c i=lab d i:=by
 unfold lab;rw[h i hi];exact FH h (by have:=(nQ d i).1;omega)
theorem ob(c:Nat->Nat){i:Nat}:∀ {j},i<=j->dE c i<=dE c j
 | 0,h=>by
        have:i=0:=by omega
        subst this;exact Nat.le_refl _
 | j+1,h=>by
  by_cases e:i=j+1
  ·subst e;exact Nat.le_refl _
  ·have:=ob c (i:=i) (j:=j) (by omega);rw[oJ];omega
theorem CH{c:Nat->Nat}{i:Nat}(h:frs c i=i):lab c i=dE c i:=by unfold lab;rw[h]
theorem JI{c:Nat->Nat}{i k:Nat}(hk:k<i)(h:c k=c i):lab c i=lab c k:=by
 unfold lab;have:frs c i=frs c k:=by
  obtain⟨q1,q2,q3⟩:=nQ c k;exact ze (by omega) (q2.trans h) (fun j hj e=>q3 j hj (e.trans h.symm))
 rw[this]
theorem Hs(c:Nat->Nat){i j:Nat}(h:i<j):lab c i<dE c j:=by
 unfold lab;obtain⟨q1,q2,q3⟩:=nQ c i;have e:frs c (frs c i)=frs c i:=ze (Nat.le_refl _) rfl (fun k hk e=>q3 k hk (e.trans q2));have h1:=oJ c (frs c i);rw[if_pos e]at h1;have h2:=ob c (i:=frs c i+1) (j:=j) (by omega);omega
def fR(c:Nat->Nat)(n:Nat):List UInt8:=(range n).map fun i=>ltr (lab c i)
theorem uF(c:Nat->Nat)(n:Nat):fR c (n+1)=fR c n++[ltr (lab c n)]:=by simp[fR,range_succ]
theorem sR(c:Nat->Nat)(n:Nat):(fR c n).length=n:=by simp[fR]
theorem NM{n:Nat}{c d:Nat->Nat}(h:∀ i,i<n->frs c i=frs d i):fR c n=fR d n:=by
 unfold fR;refine map_congr_left fun i hi=>?_;rw[Qe h (List.mem_range.1 hi)]
def j9(p q:Nat):Nat:=p+q-Nat.gcd p q-1
def gP(p q:Int):Int:=if (1<=p/\p<=60)/\(1<=q/\q<=60) then (if 60<j9 p.toNat q.toNat then 3 else if 5<dE (lk (j9 p.toNat q.toNat) p.toNat q.toNat) (j9 p.toNat q.toNat) then 3 else 0) else 2
def iw(p q:Int):List UInt8:=if gP p q=0 then fR (lk (j9 p.toNat q.toNat) p.toNat q.toNat) (j9 p.toNat q.toNat) else []
end Go.Proofs.YtapimhjbilkfpaaGreatDoor
