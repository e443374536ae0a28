/- Lemmas for FnExactConsole, part 13 of 46. -/
import Derived.Test.YtapimhjbilkfpaaGreatDoorZ11
import Derived.Test.YtapimhjbilkfpaaGreatDoorZ05
import Derived.Lib.Bytealg
import Derived.Test.YtapimhjbilkfpaaGreatDoorZ04
import Derived.Test.YtapimhjbilkfpaaGreatDoorZ06
import Derived.Test.YtapimhjbilkfpaaGreatDoorZ07
import Derived.Test.YtapimhjbilkfpaaGreatDoorZ08
set_option linter.unusedVariables false
set_option linter.unusedSimpArgs false
namespace Go.Proofs.YtapimhjbilkfpaaGreatDoor
open Go Go.Proofs.Tryz Go.RowKit List
def spR(c:UInt8):List UInt8->List (List UInt8)
 | []=>[[]]
 | b::l=>if b=c then []::spR c l else (b::(spR c l).headD [])::(spR c l).tail
theorem ke(c:UInt8):∀ l,spR c l≠[]
 | []=>by simp[spR]
 | b::l=>by unfold spR;split<;>simp
theorem oC(c:UInt8):∀ l:List UInt8,(spR c l).length=l.count c+1
 | []=>rfl
 | b::l=>by
  have ih:=oC c l;unfold spR;rw[count_cons];split
  ·rename_i h;subst h;rw[length_cons,ih];simp
  ·rename_i h;rw[length_cons,length_tail,ih];have:(b==c)=false:=beq_eq_false_iff_ne.2 h;rw[this];simp
theorem oq(c:UInt8):∀ l:List UInt8,(Lib.indexByte l c = -1/\l.count c=0/\spR c l=[l]) \/
  (∃ m:Nat,Lib.indexByte l c=m/\m<l.length/\spR c l=l.take m::spR c (l.drop (m+1))/\l.count c=(l.drop (m+1)).count c+1)
 | []=>.inl ⟨rfl,rfl,rfl⟩
 | b::l=>by
  by_cases h:b=c
  ·subst h;refine .inr ⟨0,by simp[Lib.indexByte],by simp,by simp[spR],by simp⟩
  ·have hb:(b==c)=false:=beq_eq_false_iff_ne.2 h;have e1:spR c (b::l)=(b::(spR c l).headD [])::(spR c l).tail:=by conv=>lhs;unfold spR;rw[if_neg h]
   have e2:Lib.indexByte (b::l) c=if Lib.indexByte l c == -1 then -1 else Lib.indexByte l c+1:=by
    conv=>lhs;unfold Lib.indexByte;rw[hb,if_neg (by decide)]
   have e3:(b::l).count c=l.count c:=by rw[count_cons,hb];simp
   rcases oq c l with ⟨h1,h2,h3⟩|⟨m,h1,h2,h3,h4⟩
   ·refine .inl ⟨by rw[e2,h1];rfl,by rw[e3,h2],by rw[e1,h3];rfl⟩
   ·refine .inr ⟨m+1,?_,by rw[length_cons];omega,?_,?_⟩
    ·rw[e2,h1,if_neg (by rw[beq_iff_eq];omega)];omega
    ·rw[e1,h3];rfl
    ·rw[e3,h4,drop_succ_cons]
theorem DY(c:UInt8)(l:List UInt8):∀ i,i<=l.length->spR c l=(fN l c i).1++((((l.take i).drop (fN l c i).2)++(spR c (l.drop i)).headD [])::(spR c (l.drop i)).tail)
 | 0,_=>by
  show spR c l=[]++_;have:=ke c l;cases h:spR c l with
  | nil=>exact absurd h this
  | cons a r=>simp[fN,h]
 | i+1,hi=>by
  have ih:=DY c l i (by omega);have hat:=wJ l c i;have hdr:l.drop i=l[i]::l.drop (i+1):=drop_eq_getElem_cons (by omega);have hgd:l.getD i 0=l[i]:=by rw[getD_eq_getElem?_getD,getElem?_eq_getElem (by omega)];rfl
  have htk:l.take (i+1)=l.take i++[l[i]]:=az l (by omega);have e:fN l c (i+1)=if l.getD i 0=c then ((fN l c i).1++[(l.take i).drop (fN l c i).2],i+1) else fN l c i:=rfl
  rw[e,hgd];have hs:spR c (l.drop i)=if l[i]=c then []::spR c (l.drop (i+1)) else (l[i]::(spR c (l.drop (i+1))).headD [])::(spR c (l.drop (i+1))).tail:=by
   conv=>lhs;rw[hdr];unfold spR
  rw[hs]at ih;by_cases hc:l[i]=c
  ·rw[if_pos hc]at ih ⊢;have hz:(l.take (i+1)).drop (i+1)=[]:=drop_of_length_le (by rw[length_take];omega);simp only[headD_cons,tail_cons,append_nil]at ih;simp only[hz,nil_append];rw[ih,append_assoc]
   congr 1
   have hne:=ke c (l.drop (i+1));cases hh:spR c (l.drop (i+1)) with
   | nil=>exact absurd hh hne
   | cons a r=>rfl
  ·rw[if_neg hc]at ih ⊢;rw[ih,htk,drop_append_of_le_length (by rw[length_take];omega)];simp
theorem si(l:List UInt8)(c:UInt8):Ez l c=spR c l:=by
 have h:=DY c l l.length (Nat.le_refl _);rw[drop_length,take_length]at h;rw[h];unfold Ez;simp[spR]
theorem mM(c:UInt8)(l:List UInt8):∀ w∈spR c l,w.length<=l.length:=by
 rw[<-si];exact(On l c).2.2
theorem Ap(l:List UInt8)(c:UInt8)(M:Mem)(R:VP)(h:R (.int .i64 (l.count c:Nat)) M):ar prog 210 [str l,str [c]] M R:=by
 refine dk (.int .i64 (l.count c:Nat)) ⟨_,func210,by kernel_rfl,by kernel_rfl⟩ (fun w hw=>?_) h;exact(Tryz.strings_Count_one ⟨⟨l⟩⟩ c w).mono fun e w' ⟨h1,h2⟩=>⟨h1,by rw[h2];exact Below.refl _ _⟩
theorem zJ(l:List UInt8)(c:UInt8)(M:Mem)(R:VP)(h:R (.int .i64 (Lib.indexByte l c)) M):ar prog 211 [str l,str [c]] M R:=by
 refine dk (.int .i64 (Lib.indexByte l c)) ⟨_,func211,by kernel_rfl,by kernel_rfl⟩ (fun w hw=>?_) h;exact(Tryz.strings_Index_one ⟨⟨l⟩⟩ c w).mono fun e w' ⟨h1,h2⟩=>⟨h1,by rw[h2];exact Below.refl _ _⟩
theorem MR(n:Nat):replicate n (str [])=strs (replicate n []):=by simp[strs]
theorem AH(P:List (List UInt8))(x:List UInt8)(d:Nat):(P++replicate (d+1) []).set P.length x=(P++[x])++replicate d []:=by
 rw[set_append_right _ _ (Nat.le_refl _),Nat.sub_self,replicate_succ,set_cons_zero,append_assoc];rfl
theorem vk(l:List UInt8)(c:UInt8)(M:Mem)(R:VP)(hl:l.length<=1000000000)(h:∀ v M',Own M v (strs (spR c l)) M'->R v M'):ar prog 97 [str l,str [c]] M R:=by
 refine fnS func97 rfl ntmps97 results97 ?_;simp(disch:=omega);refine fnS func146 rfl ntmps146 results146 ?_;have hcl:l.count c<=l.length:=count_le_length;have hmin:¬((l.length:Int)+1<(l.count c:Int)+1):=by omega
 have hsl:=oC c l;simp(disch:=omega);refine Ap l c _ _ ?_;simp(disch:=omega)[hmin];intro b hb;rw[MR];generalize hn:l.count c=n at *;simp(disch:=omega);refine lupS [0,10,11,34,35,36,37,38,39,40,41,42,43,44,45,46,47,48,49,50,51,52,53,54,55,56,57] (fun x:List (List UInt8)×List UInt8=>[(10,.int .i64 (x.1.length:Nat)),(0,str x.2)]) (fun x M'=>M.put b (.cells true (strs (x.1++replicate (n+1-x.1.length) [])) (n+1))=M'/\x.1++spR c x.2=spR c l/\x.1.length+x.2.count c=n/\x.2.length<=l.length) (fun x=>n-x.1.length) ([],l) ⟨rfl,rfl,by simp only[length_nil];omega,Nat.le_refl _⟩ ?_
 rintro⟨P,r⟩ M' g ⟨rfl,hP,hc,hrl⟩
 simp only at hP hc hrl;have kM:∀ X,(M.put b (.cells true X (n+1))) b=some (.cells true X (n+1)):=fun X=>ag _ _ _;by_cases hlt:P.length<n
 ·have hix:=oq c r;rcases hix with ⟨_,h2,_⟩|⟨m,h1,h2,h3,h4⟩
  ·omega
  ·obtain⟨d,hd⟩:∃ d,n+1-P.length=d+1:=⟨n-P.length,by omega⟩;have hbs:=AH P (r.take m) d;have hln:(strs (P++replicate (d+1) [])).length=P.length+(d+1):=by rw[ah,length_append,length_replicate]
   have k1:=kM (strs (P++replicate (d+1) []));rw[hd];generalize hPl:P.length=p at *;simp(disch:=omega);refine zJ r c _ _ ?_;rw[h1];have hm0:¬(m:Int)<0:=by omega
   simp(disch:=omega)[hm0,al,gG,hbs];refine Rnd.mk' (P++[r.take m],r.drop (m+1)) (by simp only[length_append,length_singleton];omega) (by (repeat (first|exact km|refine kp rfl ?_|refine km' rfl ?_))) (by simp(disch:=omega)[hPl]) ⟨?_,?_,?_,?_⟩
   ·simp only[a7,length_append,length_singleton,hPl];rw[show n+1-(p+1)=d by omega];simp
   ·simp only[append_assoc,singleton_append];rw[<-h3];exact hP
   ·simp only[length_append,length_singleton,hPl];omega
   ·simp only[length_drop];omega
 ·have hPn:P.length=n:=by omega
  have hix:=oq c r;rcases hix with ⟨_,h2,h3⟩|⟨m,_,h2,h3,h4⟩
  ·have hbs:=AH P r 0;rw[h3]at hP;have k1:=kM (strs (P++replicate (0+1) []));have hln:(strs (P++replicate (0+1) [])).length=P.length+1:=by rw[ah,length_append,length_replicate]
   rw[replicate_zero,append_nil,hP]at hbs;rw[show n+1-P.length=0+1 by omega];generalize hPl:P.length=p at *;subst hPn;simp(disch:=omega)[al,gG];refine ad ?_;simp(disch:=omega);have ho:Own M (.slice (some ⟨b,0,none⟩) (p+1) (p+1)) (strs (P++[r])) (M.put b (.cells true (strs (P++[r])) (p+1))):=Own.new hb (by rw[ah,length_append,length_singleton,hPl]) (Nat.le_refl _);refine ad (h _ _ ?_);rw[<-hP]
   try rw[a7]
   exact ho
  ·omega
end Go.Proofs.YtapimhjbilkfpaaGreatDoor
namespace Go.Proofs.YtapimhjbilkfpaaGreatDoor
open Go Go.Proofs.Tryz List
theorem ck.other{M N:Mem}{rs:List Value}{rows:List (List Int)}(h:ck M rs rows N){b:Nat}{B0:Blk}(hb:M b=some B0)(B:Blk):ck (M.put b B) rs rows (N.put b B):=by
 induction h with
 | nil=>exact .nil
 | @more rs rows N b' c r cc x h hb' hc ih=>
  have hN:=h.sub _ _ hb;have hne:b'≠b:=by rintro rfl;rw[hb']at hN;cases hN
  rw[ET _ hne];exact ih.more cc x (by rw[aF];exact⟨hne,hb'⟩) hc
def pmL(l:List UInt8):List (List UInt8):=if aW (spR 44 l) then spR 44 l else []
def pmC(l:List UInt8):Int:=if aW (spR 44 l) then 0 else 6
theorem pH(l:List UInt8)(M:Mem)(R:VP)(hl:l.length<=1000000000)(h:∀ v M',Own M v (strs (pmL l)) M'->R (.tuple #[.agg #[v],.int .i64 (pmC l)]) M'):ar prog 150 [str l] M R:=by
 have hf:=mM 44 l;have hln:=oC 44 l;have hcl:l.count 44<=l.length:=count_le_length;refine fnS func150 rfl ntmps150 results150 ?_;simp(disch:=omega);intro b2 hb2;have s2:Sub M (M.put b2 (.cells true [.slice none 0 0] 1)):=(Sub.refl M).put hb2 _;have k2:(M.put b2 (.cells true [.slice none 0 0] 1)) b2=some (.cells true [.slice none 0 0] 1):=ag _ _ _;simp(disch:=omega);generalize M.put b2 (.cells true [.slice none 0 0] 1)=M0 at *;refine vk l 44 _ _ (by omega) ?_;intro v M1 o1;obtain⟨a,c,hv,_⟩:=o1.rd.opened;rw[ah]at hv;subst hv;simp(disch:=omega);intro b4 hb4;have k2':=o1.sub _ _ k2;have hne:b2≠b4:=by rintro rfl;rw[hb4]at k2';cases k2'
 have s1:=o1.sub;have r4:=o1.rd.put hb4 (.cells true [.slice a (spR 44 l).length c] 1);have k4:(M1.put b4 (.cells true [.slice a (spR 44 l).length c] 1)) b2=some (.cells true [.slice none 0 0] 1):=by rw[ai _ _ hne];exact k2'
 have k5:(M1.put b4 (.cells true [.slice a (spR 44 l).length c] 1)) b4=some (.cells true [.slice a (spR 44 l).length c] 1):=ag _ _ _;have s4:=(Sub.refl M1).put hb4 (.cells true [.slice a (spR 44 l).length c] 1);simp(disch:=omega)[al,a7];generalize M1.put b4 (.cells true [.slice a (spR 44 l).length c] 1)=M4 at *;refine l6 _ (spR 44 l) _ _ r4 (fun w hw=>by have:=hf w hw;omega) (by omega) ?_;unfold pmL pmC at h;have sN:∀ X,Sub M (M4.put b2 X):=fun X j B hB=>by
  have:j≠b2:=by rintro rfl;rw[hb2]at hB;cases hB
  rw[ai _ _ this];exact s4 _ _ (s1 _ _ (s2 _ _ hB))
 cases hm:aW (spR 44 l)
 ·rw[hm]at h;simp(disch:=omega)[k4,al];exact ae (sN _) (h _ _ (Own.nil M))
 ·rw[hm,if_pos rfl,if_pos rfl]at h;simp(disch:=omega)[k4,aq k5,al];have o5:=o1.other k2 (.cells true [.slice a (spR 44 l).length c] 1);obtain⟨M5,o6,s6⟩:=o5.base (M:=M) (by
   intro j B hB;have:j≠b2:=by rintro rfl;rw[hb2]at hB;cases hB
   rw[ai _ _ this];exact s2 _ _ hB)
  refine ae ?_ (h _ M5 o6);exact s6.trans (s4.both _ _)
theorem ql(l:List UInt8)(M:Mem)(R:VP)(hl:l.length<=1000000000)(h:∀ v M',Own M v (strs (pmL l)) M'->R (.tuple #[.agg #[v],.int .i64 (pmC l)]) M'):ar prog 111 [str l] M R:=by
 have hf:=mM 44 l;have hln:=oC 44 l;have hcl:l.count 44<=l.length:=count_le_length;refine fnS func111 rfl ntmps111 results111 ?_;simp(disch:=omega);intro b2 hb2;have s2:Sub M (M.put b2 (.cells true [.slice none 0 0] 1)):=(Sub.refl M).put hb2 _;have k2:(M.put b2 (.cells true [.slice none 0 0] 1)) b2=some (.cells true [.slice none 0 0] 1):=ag _ _ _;simp(disch:=omega);generalize M.put b2 (.cells true [.slice none 0 0] 1)=M0 at *;refine p5 l 44 _ _ (by omega) ?_;rw[si];intro v M1 o1;obtain⟨a,c,hv,_⟩:=o1.rd.opened;rw[ah]at hv;subst hv;simp(disch:=omega);intro b4 hb4;have k2':=o1.sub _ _ k2;have hne:b2≠b4:=by rintro rfl;rw[hb4]at k2';cases k2'
 have s1:=o1.sub;have r4:=o1.rd.put hb4 (.cells true [.slice a (spR 44 l).length c] 1);have k4:(M1.put b4 (.cells true [.slice a (spR 44 l).length c] 1)) b2=some (.cells true [.slice none 0 0] 1):=by rw[ai _ _ hne];exact k2'
 have k5:(M1.put b4 (.cells true [.slice a (spR 44 l).length c] 1)) b4=some (.cells true [.slice a (spR 44 l).length c] 1):=ag _ _ _;have s4:=(Sub.refl M1).put hb4 (.cells true [.slice a (spR 44 l).length c] 1);simp(disch:=omega)[al,a7];generalize M1.put b4 (.cells true [.slice a (spR 44 l).length c] 1)=M4 at *;refine fP _ (spR 44 l) _ _ r4 (fun w hw=>by have:=hf w hw;omega) (by omega) ?_;unfold pmL pmC at h;have sN:∀ X,Sub M (M4.put b2 X):=fun X j B hB=>by
  have:j≠b2:=by rintro rfl;rw[hb2]at hB;cases hB
  rw[ai _ _ this];exact s4 _ _ (s1 _ _ (s2 _ _ hB))
 cases hm:aW (spR 44 l)
 ·rw[hm]at h;simp(disch:=omega)[k4,al];exact ae (sN _) (h _ _ (Own.nil M))
 ·rw[hm,if_pos rfl,if_pos rfl]at h;simp(disch:=omega)[k4,aq k5,al];have o5:=o1.other k2 (.cells true [.slice a (spR 44 l).length c] 1);obtain⟨M5,o6,s6⟩:=o5.base (M:=M) (by
   intro j B hB;have:j≠b2:=by rintro rfl;rw[hb2]at hB;cases hB
   rw[ai _ _ this];exact s2 _ _ hB)
  refine ae ?_ (h _ M5 o6);exact s6.trans (s4.both _ _)
abbrev Cell:=Option Nat×Nat
def gN(w:List UInt8)(t:List Cell)(i:Nat)(own:List UInt8):Option Nat:=if own=[] then none else if own.isPrefixOf (w.drop i) then (t.getD (own.length-1) (none,0)).1 else none
def kc(cur:Cell)(k:Nat):Option Nat->Cell
 | none=>cur
 | some s=>match cur.1 with
  | none=>(some (s+1),k)
  | some x=>if s+1<x then (some (s+1),k) else cur
def cW(w:List UInt8)(ws:List (List UInt8))(t:List Cell)(i:Nat):Nat->Cell
 | 0=>(none,0)
 | k+1=>kc (cW w ws t i k) k (gN w t i (ws.getD k []))
def cQ(w:List UInt8)(ws:List (List UInt8)):Nat->List Cell
 | 0=>[(some 0,0)]
 | m+1=>cW w ws (cQ w ws m) (w.length-(m+1)) ws.length::cQ w ws m
theorem nG(w:List UInt8)(ws:List (List UInt8)):∀ m,(cQ w ws m).length=m+1
 | 0=>rfl
 | m+1=>by rw[cQ,length_cons,nG w ws m]
theorem B6{w:List UInt8}{t:List Cell}{i s:Nat}{own:List UInt8}(h:gN w t i own=some s):own≠[]/\own.isPrefixOf (w.drop i)=true/\(t.getD (own.length-1) (none,0)).1=some s:=by
 unfold gN at h;split at h
 ·cases h
 ·rename_i h1;split at h
  ·rename_i h2;exact⟨h1,h2,h⟩
  ·cases h
theorem nW(w:List UInt8)(ws:List (List UInt8))(t:List Cell)(i:Nat):∀ k,((cW w ws t i k).1=none->∀ j,j<k->gN w t i (ws.getD j [])=none) /\
  (∀ x,(cW w ws t i k).1=some x->(cW w ws t i k).2<k/\(∃ s,gN w t i (ws.getD (cW w ws t i k).2 [])=some s/\x=s+1)/\(∀ j s,j<k->gN w t i (ws.getD j [])=some s->x<=s+1)/\∀ j s,j<(cW w ws t i k).2->gN w t i (ws.getD j [])=some s->x<s+1)
 | 0=>⟨fun _ j hj=>absurd hj (Nat.not_lt_zero j),fun x h=>by cases h⟩
 | k+1=>by
  obtain⟨h1,h2⟩:=nW w ws t i k;have e:cW w ws t i (k+1)=kc (cW w ws t i k) k (gN w t i (ws.getD k [])):=rfl;rw[e];cases hc:gN w t i (ws.getD k []) with
  | none=>
   show ((cW w ws t i k).1=none->_)/\_;refine⟨fun h j hj=>?_,fun x hx=>?_⟩
   ·by_cases hjk:j=k
    ·subst hjk;exact hc
    ·exact h1 h j (by omega)
   ·obtain⟨q1,q2,q3,q4⟩:=h2 x hx;refine⟨by show (cW w ws t i k).2<k+1;omega,q2,fun j s hj hs=>?_,q4⟩;by_cases hjk:j=k
    ·subst hjk;rw[hc]at hs;cases hs
    ·exact q3 j s (by omega) hs
  | some s0=>
   cases hcur:(cW w ws t i k).1 with
   | none=>
    have e2:kc (cW w ws t i k) k (some s0)=(some (s0+1),k):=by unfold kc;rw[hcur]
    rw[e2];refine⟨fun h=>(by cases h),fun x hx=>?_⟩;injection hx with hx
    subst hx;refine⟨Nat.lt_succ_self k,⟨s0,hc,rfl⟩,fun j s hj hs=>?_,fun j s hj hs=>?_⟩
    ·by_cases hjk:j=k
     ·subst hjk;rw[hc]at hs;injection hs with hs;omega
     ·rw[h1 hcur j (by omega)]at hs;cases hs
    ·rw[h1 hcur j hj]at hs;cases hs
   | some x0=>
    obtain⟨q1,q2,q3,q4⟩:=h2 x0 hcur;by_cases hlt:s0+1<x0
    ·have e2:kc (cW w ws t i k) k (some s0)=(some (s0+1),k):=by unfold kc;rw[hcur];exact if_pos hlt
     rw[e2];refine⟨fun h=>(by cases h),fun x hx=>?_⟩;injection hx with hx
     subst hx;refine⟨Nat.lt_succ_self k,⟨s0,hc,rfl⟩,fun j s hj hs=>?_,fun j s hj hs=>?_⟩
     ·by_cases hjk:j=k
      ·subst hjk;rw[hc]at hs;injection hs with hs;omega
      ·have:=q3 j s (by omega) hs;omega
     ·have:=q3 j s hj hs;omega
    ·have e2:kc (cW w ws t i k) k (some s0)=cW w ws t i k:=by unfold kc;rw[hcur];exact if_neg hlt
     rw[e2];refine⟨fun h=>(by rw[hcur]at h;cases h),fun x hx=>?_⟩;rw[hcur]at hx;injection hx with hx
     subst hx;refine⟨by omega,q2,fun j s hj hs=>?_,q4⟩;by_cases hjk:j=k
     ·subst hjk;rw[hc]at hs;injection hs with hs;omega
     ·exact q3 j s (by omega) hs
theorem Cr{w:List UInt8}{ws:List (List UInt8)}{t:List Cell}{i B:Nat}(h:∀ c∈t,∀ s,c.1=some s->s<=B)(k x:Nat)(hx:(cW w ws t i k).1=some x):x<=B+1:=by
 obtain⟨_,⟨s,hs,rfl⟩,_⟩:=(nW w ws t i k).2 x hx;have:=(B6 hs).2.2;rw[getD_eq_getElem?_getD]at this;cases hg:t[(ws.getD (cW w ws t i k).2 []).length-1]? with
 | none=>rw[hg]at this;cases this
 | some c=>
  rw[hg]at this;have:=h c (mem_of_getElem? hg) s this;omega
theorem oE(w:List UInt8)(ws:List (List UInt8)):∀ m,∀ c∈cQ w ws m,∀ s,c.1=some s->s<=m
 | 0,c,hc,s,hs=>by
  rw[cQ,mem_singleton]at hc;subst hc;injection hs with hs
  omega
 | m+1,c,hc,s,hs=>by
  have ih:=oE w ws m;rw[cQ]at hc;rcases List.mem_cons.1 hc with rfl|hc
  ·exact Cr ih ws.length s hs
  ·have:=ih c hc s hs;omega
theorem NU(w:List UInt8)(ws:List (List UInt8)):∀ m,∀ c∈cQ w ws m,c.2<=ws.length
 | 0,c,hc=>by
  rw[cQ,mem_singleton]at hc;subst hc;exact Nat.zero_le _
 | m+1,c,hc=>by
  rw[cQ]at hc;rcases List.mem_cons.1 hc with rfl|hc
  ·cases h:(cW w ws (cQ w ws m) (w.length-(m+1)) ws.length).1 with
   | some x=>have:=((nW w ws (cQ w ws m) (w.length-(m+1)) ws.length).2 x h).1;omega
   | none=>
    have key:∀ k,(cW w ws (cQ w ws m) (w.length-(m+1)) k).2<=k:=by
     intro k
     induction k with
     | zero=>exact Nat.le_refl 0
     | succ k ih=>
      show (kc _ k _).2<=k+1;unfold kc;split
      ·omega
      ·split
       ·exact Nat.le_succ k
       ·split
        ·exact Nat.le_succ k
        ·omega
    exact key _
  ·exact NU w ws m c hc
def cH(w:List UInt8)(ws:List (List UInt8))(i:Nat):Cell:=(cQ w ws (w.length-i)).headD (none,0)
theorem rU(w:List UInt8)(ws:List (List UInt8)):∀ m j,j<=m->m<=w.length->(cQ w ws m)[j]?=some (cH w ws (w.length-m+j))
 | m,0,_,hm=>by
  unfold cH;rw[Nat.add_zero,show w.length-(w.length-m)=m by omega];cases m<;>rfl
 | 0,j+1,h,_=>by omega
 | m+1,j+1,h,hm=>by
  rw[cQ,getElem?_cons_succ,rU w ws m j (by omega) (by omega)]
  congr 2
  omega
theorem Np(w:List UInt8)(ws:List (List UInt8)){i:Nat}(h:i<w.length):cH w ws i=cW w ws (cQ w ws (w.length-i-1)) i ws.length:=by
 unfold cH;obtain⟨m,hm⟩:∃ m,w.length-i=m+1:=⟨w.length-i-1,by omega⟩;rw[hm,cQ,show m+1-1=m by omega,show w.length-(m+1)=i by omega];rfl
theorem E2{w:List UInt8}{ws:List (List UInt8)}{i:Nat}{own:List UInt8}(h:i<w.length)(h0:own≠[])(hp:own.isPrefixOf (w.drop i)=true):gN w (cQ w ws (w.length-i-1)) i own=(cH w ws (i+own.length)).1:=by
 unfold gN;rw[if_neg h0,if_pos hp,getD_eq_getElem?_getD];have hl:=eA hp;rw[length_drop]at hl;have h1:1<=own.length:=by cases own with
  | nil=>exact absurd rfl h0
  | cons a l=>simp
 rw[rU w ws _ _ (by omega) (by omega),show w.length-(w.length-i-1)+(own.length-1)=i+own.length by omega];rfl
def il(w:List UInt8)(ws:List (List UInt8)):Nat->Nat->List UInt8
 | 0,_=>[]
 | f+1,i=>if i<w.length then ltr (cH w ws i).2::il w ws f (i+(ws.getD (cH w ws i).2 []).length) else []
theorem Fb{w:List UInt8}{ws:List (List UInt8)}{i:Nat}(h:¬ i<w.length):∀ f,il w ws f i=[]
 | 0=>rfl
 | f+1=>by unfold il;rw[if_neg h]
theorem DN{w:List UInt8}{ws:List (List UInt8)}{i x:Nat}(h:i<w.length)(hx:(cH w ws i).1=some x):(cH w ws i).2<ws.length/\ws.getD (cH w ws i).2 []≠[]/\(ws.getD (cH w ws i).2 []).isPrefixOf (w.drop i)=true/\(∃ s,(cH w ws (i+(ws.getD (cH w ws i).2 []).length)).1=some s/\x=s+1)/\i+(ws.getD (cH w ws i).2 []).length<=w.length /\
  ∀ j,j<(cH w ws i).2->ws.getD j []≠[]->(ws.getD j []).isPrefixOf (w.drop i)=true->∀ s,(cH w ws (i+(ws.getD j []).length)).1=some s->x≠s+1:=by
 have e:=Np w ws h;have hsp:=(nW w ws (cQ w ws (w.length-i-1)) i ws.length).2 x (by rw[<-e];exact hx);rw[<-e]at hsp;obtain⟨q1,⟨s,hs,hxs⟩,q3,q4⟩:=hsp;obtain⟨c1,c2,c3⟩:=B6 hs;have hl:=eA c2;rw[length_drop]at hl;refine⟨q1,c1,c2,⟨s,?_,hxs⟩,by omega,fun j hj h0 hp s' hs'=>?_⟩
 ·rw[<-E2 h c1 c2];exact hs
 ·have:=q4 j s' hj (by rw[E2 h h0 hp];exact hs');omega
def pr(ws:List (List UInt8))(w:List UInt8):List UInt8:=if gU ws w=0 then (match (cH w ws 0).1 with|some _=>il w ws w.length 0|none=>[]) else []
def pA(ws:List (List UInt8))(w:List UInt8):Int:=if gU ws w=0 then (match (cH w ws 0).1 with|some _=>0|none=>4) else gU ws w
end Go.Proofs.YtapimhjbilkfpaaGreatDoor
