/- Lemmas for FnExactDeskAfter, part 11 of 33. -/
import Derived.Lib.Bytealg
import Derived.Test.YtapimhjbilkfpaaGreatDoorZ08
set_option linter.unusedVariables false
set_option linter.unusedSimpArgs false
namespace Go.Proofs.YtapimhjbilkfpaaGreatDoor
open Go Go.Proofs.Tryz List
theorem Oj{L:B8}{j:Nat}{v:UInt8}(h:L[j]?=some v)(hj:j<L.length):L[j]=v:=by
 rw[gEl hj]at h;injection h
def gr(l:B8)(c:UInt8):Nat->List B8×Nat
 | 0=>([],0)
 | i+1=>if l.getD i 0=c then ((gr l c i).1++[(l.take i).drop (gr l c i).2],i+1) else gr l c i
def F5(l:B8)(c:UInt8):List B8:=(gr l c l.length).1++[l.drop (gr l c l.length).2]
theorem xO(l:B8)(c:UInt8):∀ i,(gr l c i).2<=i/\(gr l c i).1.length<=i
 | 0=>⟨lRf 0,lRf 0⟩
 | i+1=>by
  have ih:=xO l c i;unfold gr;split
  ·rw[lAp,length_singleton];exact⟨lRf _,by omega⟩
  ·exact⟨by omega,by omega⟩
theorem Ay(l:B8)(c:UInt8):∀ i,∀ w∈(gr l c i).1,w.length<=l.length
 | 0,w,h=>by cases h
 | i+1,w,h=>by
  unfold gr at h;split at h
  ·rcases List.mem_append.1 h with h|h
   ·exact Ay l c i w h
   ·rw[List.mem_singleton.1 h,length_drop,lTa];omega
  ·exact Ay l c i w h
theorem Pb(l:B8)(c:UInt8):1<=(F5 l c).length/\(F5 l c).length<=l.length+1/\∀ w∈F5 l c,w.length<=l.length:=by
 unfold F5;have h:=xO l c l.length;rw[lAp,length_singleton];refine⟨by omega,by omega,fun w hw=>?_⟩;rcases List.mem_append.1 hw with hw|hw
 ·exact Ay l c _ w hw
 ·rw[List.mem_singleton.1 hw,length_drop];omega
theorem q9(l:B8)(c:UInt8)(M:Mem)(R:VP)(hl:l.length<=1099511627776)(h:∀ v M',Own M v (strs (F5 l c)) M'->R v M'):ar prog 51 [str l,.int .u8 c.toNat] M R:=by
 refine fnS func51 rfl ntmps51 results51 ?_;simp(disch:=omega);intro b0 hb0;simp(disch:=omega);refine aP aR (rlA [5,6,7] 9 20) (fun x:Nat×Value=>[(7,.int .i64 x.1),(6,.int .i64 ((gr l c x.1).2:Nat)),(5,x.2)]) (fun x M'=>x.1<=l.length/\Own M x.2 (strs (gr l c x.1).1) M') (fun x=>l.length-x.1) (0,.slice (some ⟨b0,0,none⟩) 0 0) (by kernel_rfl) (by simp(disch:=omega);rfl) ⟨lZe _,Own.new hb0 rfl (lRf 0)⟩ ?_
 rintro⟨i,v⟩ M1 g ⟨hi,ho⟩
 simp only at hi ho;have hat:=xO l c i;by_cases hlt:i<l.length
 ·have hx:l[i]?=some l[i]:=gEl hlt;have e:gr l c (i+1)=if l.getD i 0=c then ((gr l c i).1++[(l.take i).drop (gr l c i).2],i+1) else gr l c i:=rfl
  have hd:l.getD i 0=l[i]:=by rw[gDe,hx];rfl
  rw[hd]at e;have hu:=l[i].toNat_lt;have hc:=c.toNat_lt;generalize l[i]=u at *;generalize gr l c i=P at *;obtain⟨P1,P2⟩:=P;simp only at hat ho e;have hq:((u.toNat:Int)==(c.toNat:Int))=decide (u=c):=by
   rw[Bool.eq_iff_iff,beq_iff_eq,decide_eq_true_eq];constructor
   ·intro h;exact UInt8.toNat_inj.1 (by omega)
   ·rintro rfl;rfl
  by_cases huc:u=c
  ·rw[if_pos huc]at e;rw[decide_eq_true huc]at hq;simp(disch:=omega)[Oj hx,hq];intro b' hb';simp(disch:=omega);refine aN ho ((Sub.refl _).put hb' _) (by simp(disch:=omega);rfl) rfl rfl (by omega) (by simp(disch:=omega)) (by simp(disch:=omega);omega) ?_;intro v' M'' N'' ho' hs';simp(disch:=omega);refine rndB M'' (i+1,v') hs' (by rw[e];simp(disch:=omega)) ⟨by simp only;omega,?_⟩;simp only;rw[e,<-cK];exact ho'
  ·rw[if_neg huc]at e;rw[decide_eq_false huc]at hq;simp(disch:=omega)[Oj hx,hq];refine rndA (i+1,v) (by rw[e];simp(disch:=omega)) ⟨by simp only;omega,?_⟩;simp only;rw[e];exact ho
 ·have hi':i=l.length:=by omega
  subst hi';have hL:F5 l c=(gr l c l.length).1++[l.drop (gr l c l.length).2]:=rfl;generalize gr l c l.length=P at *;obtain⟨P1,P2⟩:=P;simp only at hat ho hL;simp(disch:=omega);intro b' hb';simp(disch:=omega);refine aN ho ((Sub.refl _).put hb' _) (by simp(disch:=omega);rfl) rfl rfl (by omega) (by simp(disch:=omega)) (by simp(disch:=omega);omega) ?_;intro v' M'' N'' ho' hs';simp(disch:=omega);refine ae hs' (h v' _ ?_);rw[hL,<-cK];exact ho'
end Go.Proofs.YtapimhjbilkfpaaGreatDoor
namespace Go.Proofs.YtapimhjbilkfpaaGreatDoor
open Go Go.Proofs.Tryz Go.RowKit List
def spR(c:UInt8):B8->List B8
 | []=>[[]]
 | b::l=>if b=c then []::spR c l else (b::(spR c l).headD [])::(spR c l).tail
theorem fo(c:UInt8):∀ l,spR c l≠[]
 | []=>by simp[spR]
 | b::l=>by unfold spR;split<;>simp
theorem pg(c:UInt8):∀ l:B8,(spR c l).length=l.count c+1
 | []=>rfl
 | b::l=>by
  have ih:=pg c l;unfold spR;rw[count_cons];split
  ·rename_i h;subst h;rw[length_cons,ih];simp
  ·rename_i h;rw[length_cons,length_tail,ih];have:(b==c)=false:=bNe.2 h;rw[this];simp
theorem pt(c:UInt8):∀ l:B8,(Lib.indexByte l c = -1/\l.count c=0/\spR c l=[l]) \/
  (∃ m:Nat,Lib.indexByte l c=m/\m<l.length/\spR c l=l.take m::spR c (l.drop (m+1))/\l.count c=(l.drop (m+1)).count c+1)
 | []=>.inl ⟨rfl,rfl,rfl⟩
 | b::l=>by
  by_cases h:b=c
  ·subst h;refine .inr ⟨0,by simp[Lib.indexByte],by simp,by simp[spR],by simp⟩
  ·have hb:(b==c)=false:=bNe.2 h;have e1:spR c (b::l)=(b::(spR c l).headD [])::(spR c l).tail:=by conv=>lhs;unfold spR;rw[if_neg h]
   have e2:Lib.indexByte (b::l) c=if Lib.indexByte l c == -1 then -1 else Lib.indexByte l c+1:=by
    conv=>lhs;unfold Lib.indexByte;rw[hb,if_neg (by decide)]
   have e3:(b::l).count c=l.count c:=by rw[count_cons,hb];simp
   rcases pt c l with ⟨h1,h2,h3⟩|⟨m,h1,h2,h3,h4⟩
   ·refine .inl ⟨by rw[e2,h1];rfl,by rw[e3,h2],by rw[e1,h3];rfl⟩
   ·refine .inr ⟨m+1,?_,by rw[length_cons];omega,?_,?_⟩
    ·rw[e2,h1,if_neg (by rw[beq_iff_eq];omega)];omega
    ·rw[e1,h3];rfl
    ·rw[e3,h4,drop_succ_cons]
theorem Gw(c:UInt8)(l:B8):∀ i,i<=l.length->spR c l=(gr l c i).1++((((l.take i).drop (gr l c i).2)++(spR c (l.drop i)).headD [])::(spR c (l.drop i)).tail)
 | 0,_=>by
  show spR c l=[]++_;have:=fo c l;cases h:spR c l with
  | nil=>exact absurd h this
  | cons a r=>simp[gr,h]
 | i+1,hi=>by
  have ih:=Gw c l i (by omega);have hat:=xO l c i;have hdr:l.drop i=l[i]::l.drop (i+1):=drop_eq_getElem_cons (by omega);have hgd:l.getD i 0=l[i]:=by rw[gDe,gEl (by omega)];rfl
  have htk:l.take (i+1)=l.take i++[l[i]]:=aw l (by omega);have e:gr l c (i+1)=if l.getD i 0=c then ((gr l c i).1++[(l.take i).drop (gr l c i).2],i+1) else gr l c i:=rfl
  rw[e,hgd];have hs:spR c (l.drop i)=if l[i]=c then []::spR c (l.drop (i+1)) else (l[i]::(spR c (l.drop (i+1))).headD [])::(spR c (l.drop (i+1))).tail:=by
   conv=>lhs;rw[hdr];unfold spR
  rw[hs]at ih;by_cases hc:l[i]=c
  ·rw[if_pos hc]at ih ⊢;have hz:(l.take (i+1)).drop (i+1)=[]:=drop_of_length_le (by rw[lTa];omega);simp only[headD_cons,tail_cons,append_nil]at ih;simp only[hz,nil_append];rw[ih,append_assoc]
   congr 1
   have hne:=fo c (l.drop (i+1));cases hh:spR c (l.drop (i+1)) with
   | nil=>exact absurd hh hne
   | cons a r=>rfl
  ·rw[if_neg hc]at ih ⊢;rw[ih,htk,drop_append_of_le_length (by rw[lTa];omega)];simp
theorem rT(l:B8)(c:UInt8):F5 l c=spR c l:=by
 have h:=Gw c l l.length (lRf _);rw[drop_length,take_length]at h;rw[h];unfold F5;simp[spR]
theorem nY(c:UInt8)(l:B8):∀ w∈spR c l,w.length<=l.length:=by
 rw[<-rT];exact(Pb l c).2.2
theorem Bk(l:B8)(c:UInt8)(M:Mem)(R:VP)(h:R (.int .i64 (l.count c:Nat)) M):ar prog 210 [str l,str [c]] M R:=by
 refine dt (.int .i64 (l.count c:Nat)) ⟨_,func210,by kernel_rfl,by kernel_rfl⟩ (fun w hw=>?_) h;exact(Tryz.strings_Count_one ⟨⟨l⟩⟩ c w).mono fun e w' ⟨h1,h2⟩=>⟨h1,by rw[h2];exact Below.refl _ _⟩
theorem Bm(l:B8)(c:UInt8)(M:Mem)(R:VP)(h:R (.int .i64 (Lib.indexByte l c)) M):ar prog 211 [str l,str [c]] M R:=by
 refine dt (.int .i64 (Lib.indexByte l c)) ⟨_,func211,by kernel_rfl,by kernel_rfl⟩ (fun w hw=>?_) h;exact(Tryz.strings_Index_one ⟨⟨l⟩⟩ c w).mono fun e w' ⟨h1,h2⟩=>⟨h1,by rw[h2];exact Below.refl _ _⟩
theorem QE(n:Nat):replicate n (str [])=strs (replicate n []):=by simp[strs]
theorem Cu(P:List B8)(x:B8)(d:Nat):(P++replicate (d+1) []).set P.length x=(P++[x])++replicate d []:=by
 rw[set_append_right _ _ (lRf _),Nat.sub_self,replicate_succ,set_cons_zero,append_assoc];rfl
theorem vV(l:B8)(c:UInt8)(M:Mem)(R:VP)(hl:l.length<=1000000000)(h:∀ v M',Own M v (strs (spR c l)) M'->R v M'):ar prog 97 [str l,str [c]] M R:=by
 refine fnS func97 rfl ntmps97 results97 ?_;simp(disch:=omega);refine fnS func146 rfl ntmps146 results146 ?_;have hcl:l.count c<=l.length:=count_le_length;have hmin:¬((l.length:Int)+1<(l.count c:Int)+1):=by omega
 have hsl:=pg c l;simp(disch:=omega);refine Bk l c _ _ ?_;simp(disch:=omega)[hmin];intro b hb;rw[QE];generalize hn:l.count c=n at *;simp(disch:=omega);refine lupS (rlA [0,10,11] 34 24) (fun x:List B8×B8=>[(10,.int .i64 (x.1.length:Nat)),(0,str x.2)]) (fun x M'=>M.put b (.cells true (strs (x.1++replicate (n+1-x.1.length) [])) (n+1))=M'/\x.1++spR c x.2=spR c l/\x.1.length+x.2.count c=n/\x.2.length<=l.length) (fun x=>n-x.1.length) ([],l) ⟨rfl,rfl,by simp only[length_nil];omega,lRf _⟩ ?_
 rintro⟨P,r⟩ M' g ⟨rfl,hP,hc,hrl⟩
 simp only at hP hc hrl;have kM:∀ X,(M.put b (.cells true X (n+1))) b=some (.cells true X (n+1)):=fun X=>ag _ _ _;by_cases hlt:P.length<n
 ·have hix:=pt c r;rcases hix with ⟨_,h2,_⟩|⟨m,h1,h2,h3,h4⟩
  ·omega
  ·obtain⟨d,hd⟩:∃ d,n+1-P.length=d+1:=⟨n-P.length,by omega⟩;have hbs:=Cu P (r.take m) d;have hln:(strs (P++replicate (d+1) [])).length=P.length+(d+1):=by rw[ah,lAp,length_replicate]
   have k1:=kM (strs (P++replicate (d+1) []));rw[hd];generalize hPl:P.length=p at *;simp(disch:=omega);refine Bm r c _ _ ?_;rw[h1];have hm0:¬(m:Int)<0:=by omega
   simp(disch:=omega)[hm0,aj,ix,hbs];refine Rnd.mk' (P++[r.take m],r.drop (m+1)) (by simp only[lAp,length_singleton];omega) (by (repeat (first|exact km|refine kp rfl ?_|refine km' rfl ?_))) (by simp(disch:=omega)[hPl]) ⟨?_,?_,?_,?_⟩
   ·simp only[aW,lAp,length_singleton,hPl];rw[show n+1-(p+1)=d by omega];simp
   ·simp only[append_assoc,singleton_append];rw[<-h3];exact hP
   ·simp only[lAp,length_singleton,hPl];omega
   ·simp only[length_drop];omega
 ·have hPn:P.length=n:=by omega
  have hix:=pt c r;rcases hix with ⟨_,h2,h3⟩|⟨m,_,h2,h3,h4⟩
  ·have hbs:=Cu P r 0;rw[h3]at hP;have k1:=kM (strs (P++replicate (0+1) []));have hln:(strs (P++replicate (0+1) [])).length=P.length+1:=by rw[ah,lAp,length_replicate]
   rw[replicate_zero,append_nil,hP]at hbs;rw[show n+1-P.length=0+1 by omega];generalize hPl:P.length=p at *;subst hPn;simp(disch:=omega)[aj,ix];refine ad ?_;simp(disch:=omega);have ho:Own M (.slice (some ⟨b,0,none⟩) (p+1) (p+1)) (strs (P++[r])) (M.put b (.cells true (strs (P++[r])) (p+1))):=Own.new hb (by rw[ah,lAp,length_singleton,hPl]) (lRf _);refine ad (h _ _ ?_);rw[<-hP]
   try rw[aW]
   exact ho
  ·omega
end Go.Proofs.YtapimhjbilkfpaaGreatDoor
namespace Go.Proofs.YtapimhjbilkfpaaGreatDoor
open Go Go.Proofs.Tryz List
def NV(N N3:Mem)(f:Mem->Mem):Prop:=(∀ K,Sub N3 K->Sub N (f K))/\(f=id\/∃ b B B0,N3 b=some B0/\f=fun K=>K.put b B)
theorem Own.turn{N N3 A A':Mem}{f:Mem->Mem}{v:Value}{xs:List Value}(t:NV N N3 f)(hs:Sub N3 A)(o:Own A v xs A'):Own (f A) v xs (f A'):=by
 rcases t.2 with rfl|⟨b,B,B0,hb,rfl⟩
 ·exact o
 ·exact o.other (hs _ _ hb) B
theorem cu.other{M N:Mem}{rs:List Value}{rows:List (List Int)}(h:cu M rs rows N){b:Nat}{B0:Blk}(hb:M b=some B0)(B:Blk):cu (M.put b B) rs rows (N.put b B):=by
 induction h with
 | nil=>exact .nil
 | @more rs rows N b' c r cc x h hb' hc ih=>
  have hN:=h.sub _ _ hb;have hne:b'≠b:=by rintro rfl;rw[hb']at hN;cases hN
  rw[HQ _ hne];exact ih.more cc x (by rw[aA];exact⟨hne,hb'⟩) hc
theorem NV.keep{N N3 K:Mem}{f:Mem->Mem}(t:NV N N3 f)(hs:Sub N3 K):Sub N (f K):=t.1 K hs
theorem Own.on{N N3 K:Mem}{v:Value}{xs:List Value}(o:Own N v xs N3)(hs:Sub N3 K):∃ K0,Own K0 v xs K/\∀ ys M2,ys.length=xs.length->Own K0 v ys M2->∃ f,NV N N3 f/\M2=f K:=by
 rcases o with ⟨rfl,rfl,rfl⟩|⟨b,c,rfl,hb,hc,rfl⟩
 ·refine⟨K,Own.nil K,fun ys M2 hl o2=>⟨id,⟨fun K h=>h,.inl rfl⟩,?_⟩⟩;rcases o2 with ⟨_,_,rfl⟩|⟨b',c',e,_,_,_⟩
  ·rfl
  ·cases e
 ·have hK:=hs _ _ (ag _ _ _);refine⟨K.del b,.inr ⟨b,c,rfl,by simp[Mem.del],hc,?_⟩,fun ys M2 hl o2=>?_⟩
  ·funext j
   simp only[Mem.put,Mem.del];split
   ·rename_i e;rw[e,hK]
   ·rfl
  ·rcases o2 with ⟨e,_,_⟩|⟨b',c',e,_,_,rfl⟩
   ·cases e
   ·injection e with q1 q2 q3
    injection q1 with q1
    injection q1 with q1
    subst q1;subst q3;refine⟨fun K=>K.put b (.cells true ys c),⟨fun K hK=>?_,.inr ⟨b,_,_,ag _ _ _,rfl⟩⟩,?_⟩
    ·intro i Bi hi;have:i≠b:=by rintro rfl;rw[hb]at hi;cases hi
     show (K.put b (.cells true ys c)) i=some Bi;rw[ai _ _ this];exact hK _ _ (by rw[ai _ _ this];exact hi)
    ·funext j
     simp only[Mem.put,Mem.del];split<;>rfl
theorem uh(v:Value)(xs:List Value)(k:Int)(M M1:Mem)(R:VP)(hv:Own M v xs M1)(hl:xs.length<=1099511627776)(h0:0<=k)(hk:k<=1099511627776)
  (h:∀ M2,Own M v (fa k xs.length) M2->R (.int .i64 (k+xs.length)) M2):ar prog 36 [.agg #[v],.int .i64 k] M1 R:=by
 refine fnS func36 rfl ntmps36 results36 ?_;obtain⟨a,c,rfl,ha⟩:=hv.rd.opened;simp(disch:=omega);intro b1 hb1;simp(disch:=omega);have hM:M b1=none:=bA hv.sub hb1;refine lA _ xs k _ _ _ (hv.push hb1 _) hl h0 hk ?_;intro M2 o2;simp(disch:=omega);obtain⟨M3,o3,s3⟩:=o2.base ((Sub.refl M).put hM _);exact ae s3 (h M3 o3)
def pmL(l:B8):List B8:=if aY (spR 44 l) then spR 44 l else []
def pmC(l:B8):Int:=if aY (spR 44 l) then 0 else 6
theorem rf(l:B8)(M:Mem)(R:VP)(hl:l.length<=1000000000)(h:∀ v M',Own M v (strs (pmL l)) M'->R (.tuple #[.agg #[v],.int .i64 (pmC l)]) M'):ar prog 150 [str l] M R:=by
 have hf:=nY 44 l;have hln:=pg 44 l;have hcl:l.count 44<=l.length:=count_le_length;refine fnS func150 rfl ntmps150 results150 ?_;simp(disch:=omega);intro b2 hb2;have s2:Sub M (M.put b2 (.cells true [.slice none 0 0] 1)):=(Sub.refl M).put hb2 _;have k2:(M.put b2 (.cells true [.slice none 0 0] 1)) b2=some (.cells true [.slice none 0 0] 1):=ag _ _ _;simp(disch:=omega);generalize M.put b2 (.cells true [.slice none 0 0] 1)=M0 at *;refine vV l 44 _ _ (by omega) ?_;intro v M1 o1;obtain⟨a,c,hv,_⟩:=o1.rd.opened;rw[ah]at hv;subst hv;simp(disch:=omega);intro b4 hb4;have k2':=o1.sub _ _ k2;have hne:b2≠b4:=by rintro rfl;rw[hb4]at k2';cases k2'
 have s1:=o1.sub;have r4:=o1.rd.put hb4 (.cells true [.slice a (spR 44 l).length c] 1);have k4:(M1.put b4 (.cells true [.slice a (spR 44 l).length c] 1)) b2=some (.cells true [.slice none 0 0] 1):=by rw[ai _ _ hne];exact k2'
 have k5:(M1.put b4 (.cells true [.slice a (spR 44 l).length c] 1)) b4=some (.cells true [.slice a (spR 44 l).length c] 1):=ag _ _ _;have s4:=(Sub.refl M1).put hb4 (.cells true [.slice a (spR 44 l).length c] 1);simp(disch:=omega)[aj,aW];generalize M1.put b4 (.cells true [.slice a (spR 44 l).length c] 1)=M4 at *;refine iI _ (spR 44 l) _ _ r4 (fun w hw=>by have:=hf w hw;omega) (by omega) ?_;unfold pmL pmC at h;have sN:∀ X,Sub M (M4.put b2 X):=fun X j B hB=>by
  have:j≠b2:=by rintro rfl;rw[hb2]at hB;cases hB
  rw[ai _ _ this];exact s4 _ _ (s1 _ _ (s2 _ _ hB))
 cases hm:aY (spR 44 l)
 ·rw[hm]at h;simp(disch:=omega)[k4,aj];exact ae (sN _) (h _ _ (Own.nil M))
 ·rw[hm,if_pos rfl,if_pos rfl]at h;simp(disch:=omega)[k4,aq k5,aj];have o5:=o1.other k2 (.cells true [.slice a (spR 44 l).length c] 1);obtain⟨M5,o6,s6⟩:=o5.base (M:=M) (by
   intro j B hB;have:j≠b2:=by rintro rfl;rw[hb2]at hB;cases hB
   rw[ai _ _ this];exact s2 _ _ hB)
  refine ae ?_ (h _ M5 o6);exact s6.trans (s4.both _ _)
theorem qF(l:B8)(M:Mem)(R:VP)(hl:l.length<=1000000000)(h:∀ v M',Own M v (strs (pmL l)) M'->R (.tuple #[.agg #[v],.int .i64 (pmC l)]) M'):ar prog 111 [str l] M R:=by
 have hf:=nY 44 l;have hln:=pg 44 l;have hcl:l.count 44<=l.length:=count_le_length;refine fnS func111 rfl ntmps111 results111 ?_;simp(disch:=omega);intro b2 hb2;have s2:Sub M (M.put b2 (.cells true [.slice none 0 0] 1)):=(Sub.refl M).put hb2 _;have k2:(M.put b2 (.cells true [.slice none 0 0] 1)) b2=some (.cells true [.slice none 0 0] 1):=ag _ _ _;simp(disch:=omega);generalize M.put b2 (.cells true [.slice none 0 0] 1)=M0 at *;refine q9 l 44 _ _ (by omega) ?_;rw[rT];intro v M1 o1;obtain⟨a,c,hv,_⟩:=o1.rd.opened;rw[ah]at hv;subst hv;simp(disch:=omega);intro b4 hb4;have k2':=o1.sub _ _ k2;have hne:b2≠b4:=by rintro rfl;rw[hb4]at k2';cases k2'
 have s1:=o1.sub;have r4:=o1.rd.put hb4 (.cells true [.slice a (spR 44 l).length c] 1);have k4:(M1.put b4 (.cells true [.slice a (spR 44 l).length c] 1)) b2=some (.cells true [.slice none 0 0] 1):=by rw[ai _ _ hne];exact k2'
 have k5:(M1.put b4 (.cells true [.slice a (spR 44 l).length c] 1)) b4=some (.cells true [.slice a (spR 44 l).length c] 1):=ag _ _ _;have s4:=(Sub.refl M1).put hb4 (.cells true [.slice a (spR 44 l).length c] 1);simp(disch:=omega)[aj,aW];generalize M1.put b4 (.cells true [.slice a (spR 44 l).length c] 1)=M4 at *;refine fA _ (spR 44 l) _ _ r4 (fun w hw=>by have:=hf w hw;omega) (by omega) ?_;unfold pmL pmC at h;have sN:∀ X,Sub M (M4.put b2 X):=fun X j B hB=>by
  have:j≠b2:=by rintro rfl;rw[hb2]at hB;cases hB
  rw[ai _ _ this];exact s4 _ _ (s1 _ _ (s2 _ _ hB))
 cases hm:aY (spR 44 l)
 ·rw[hm]at h;simp(disch:=omega)[k4,aj];exact ae (sN _) (h _ _ (Own.nil M))
 ·rw[hm,if_pos rfl,if_pos rfl]at h;simp(disch:=omega)[k4,aq k5,aj];have o5:=o1.other k2 (.cells true [.slice a (spR 44 l).length c] 1);obtain⟨M5,o6,s6⟩:=o5.base (M:=M) (by
   intro j B hB;have:j≠b2:=by rintro rfl;rw[hb2]at hB;cases hB
   rw[ai _ _ this];exact s2 _ _ hB)
  refine ae ?_ (h _ M5 o6);exact s6.trans (s4.both _ _)
abbrev Cell:=Option Nat×Nat
def iz(w:B8)(t:List Cell)(i:Nat)(own:B8):Option Nat:=if own=[] then none else if own.isPrefixOf (w.drop i) then (t.getD (own.length-1) (none,0)).1 else none
def kK(cur:Cell)(k:Nat):Option Nat->Cell
 | none=>cur
 | some s=>match cur.1 with
  | none=>(some (s+1),k)
  | some x=>if s+1<x then (some (s+1),k) else cur
def dc(w:B8)(ws:List B8)(t:List Cell)(i:Nat):Nat->Cell
 | 0=>(none,0)
 | k+1=>kK (dc w ws t i k) k (iz w t i (ws.getD k []))
def cX(w:B8)(ws:List B8):Nat->List Cell
 | 0=>[(some 0,0)]
 | m+1=>dc w ws (cX w ws m) (w.length-(m+1)) ws.length::cX w ws m
theorem nA(w:B8)(ws:List B8):∀ m,(cX w ws m).length=m+1
 | 0=>rfl
 | m+1=>by rw[cX,length_cons,nA w ws m]
theorem BM{w:B8}{t:List Cell}{i s:Nat}{own:B8}(h:iz w t i own=some s):own≠[]/\own.isPrefixOf (w.drop i)=true/\(t.getD (own.length-1) (none,0)).1=some s:=by
 unfold iz at h;split at h
 ·cases h
 ·rename_i h1;split at h
  ·rename_i h2;exact⟨h1,h2,h⟩
  ·cases h
theorem oT(w:B8)(ws:List B8)(t:List Cell)(i:Nat):∀ k,((dc w ws t i k).1=none->∀ j,j<k->iz w t i (ws.getD j [])=none) /\
  (∀ x,(dc w ws t i k).1=some x->(dc w ws t i k).2<k/\(∃ s,iz w t i (ws.getD (dc w ws t i k).2 [])=some s/\x=s+1)/\(∀ j s,j<k->iz w t i (ws.getD j [])=some s->x<=s+1)/\∀ j s,j<(dc w ws t i k).2->iz w t i (ws.getD j [])=some s->x<s+1)
 | 0=>⟨fun _ j hj=>absurd hj (Nat.not_lt_zero j),fun x h=>by cases h⟩
 | k+1=>by
  obtain⟨h1,h2⟩:=oT w ws t i k;have e:dc w ws t i (k+1)=kK (dc w ws t i k) k (iz w t i (ws.getD k [])):=rfl;rw[e];cases hc:iz w t i (ws.getD k []) with
  | none=>
   show ((dc w ws t i k).1=none->_)/\_;refine⟨fun h j hj=>?_,fun x hx=>?_⟩
   ·by_cases hjk:j=k
    ·subst hjk;exact hc
    ·exact h1 h j (by omega)
   ·obtain⟨q1,q2,q3,q4⟩:=h2 x hx;refine⟨by show (dc w ws t i k).2<k+1;omega,q2,fun j s hj hs=>?_,q4⟩;by_cases hjk:j=k
    ·subst hjk;rw[hc]at hs;cases hs
    ·exact q3 j s (by omega) hs
  | some s0=>
   cases hcur:(dc w ws t i k).1 with
   | none=>
    have e2:kK (dc w ws t i k) k (some s0)=(some (s0+1),k):=by unfold kK;rw[hcur]
    rw[e2];refine⟨fun h=>(by cases h),fun x hx=>?_⟩;injection hx with hx
    subst hx;refine⟨Nat.lt_succ_self k,⟨s0,hc,rfl⟩,fun j s hj hs=>?_,fun j s hj hs=>?_⟩
    ·by_cases hjk:j=k
     ·subst hjk;rw[hc]at hs;injection hs with hs;omega
     ·rw[h1 hcur j (by omega)]at hs;cases hs
    ·rw[h1 hcur j hj]at hs;cases hs
   | some x0=>
    obtain⟨q1,q2,q3,q4⟩:=h2 x0 hcur;by_cases hlt:s0+1<x0
    ·have e2:kK (dc w ws t i k) k (some s0)=(some (s0+1),k):=by unfold kK;rw[hcur];exact if_pos hlt
     rw[e2];refine⟨fun h=>(by cases h),fun x hx=>?_⟩;injection hx with hx
     subst hx;refine⟨Nat.lt_succ_self k,⟨s0,hc,rfl⟩,fun j s hj hs=>?_,fun j s hj hs=>?_⟩
     ·by_cases hjk:j=k
      ·subst hjk;rw[hc]at hs;injection hs with hs;omega
      ·have:=q3 j s (by omega) hs;omega
     ·have:=q3 j s hj hs;omega
    ·have e2:kK (dc w ws t i k) k (some s0)=dc w ws t i k:=by unfold kK;rw[hcur];exact if_neg hlt
     rw[e2];refine⟨fun h=>(by rw[hcur]at h;cases h),fun x hx=>?_⟩;rw[hcur]at hx;injection hx with hx
     subst hx;refine⟨by omega,q2,fun j s hj hs=>?_,q4⟩;by_cases hjk:j=k
     ·subst hjk;rw[hc]at hs;injection hs with hs;omega
     ·exact q3 j s (by omega) hs
theorem EX{w:B8}{ws:List B8}{t:List Cell}{i B:Nat}(h:∀ c∈t,∀ s,c.1=some s->s<=B)(k x:Nat)(hx:(dc w ws t i k).1=some x):x<=B+1:=by
 obtain⟨_,⟨s,hs,rfl⟩,_⟩:=(oT w ws t i k).2 x hx;have:=(BM hs).2.2;rw[gDe]at this;cases hg:t[(ws.getD (dc w ws t i k).2 []).length-1]? with
 | none=>rw[hg]at this;cases this
 | some c=>
  rw[hg]at this;have:=h c (mem_of_getElem? hg) s this;omega
theorem oN(w:B8)(ws:List B8):∀ m,∀ c∈cX w ws m,∀ s,c.1=some s->s<=m
 | 0,c,hc,s,hs=>by
  rw[cX,mem_singleton]at hc;subst hc;injection hs with hs
  omega
 | m+1,c,hc,s,hs=>by
  have ih:=oN w ws m;rw[cX]at hc;rcases List.mem_cons.1 hc with rfl|hc
  ·exact EX ih ws.length s hs
  ·have:=ih c hc s hs;omega
theorem Pg(w:B8)(ws:List B8):∀ m,∀ c∈cX w ws m,c.2<=ws.length
 | 0,c,hc=>by
  rw[cX,mem_singleton]at hc;subst hc;exact lZe _
 | m+1,c,hc=>by
  rw[cX]at hc;rcases List.mem_cons.1 hc with rfl|hc
  ·cases h:(dc w ws (cX w ws m) (w.length-(m+1)) ws.length).1 with
   | some x=>have:=((oT w ws (cX w ws m) (w.length-(m+1)) ws.length).2 x h).1;omega
   | none=>
    have key:∀ k,(dc w ws (cX w ws m) (w.length-(m+1)) k).2<=k:=by
     intro k
     induction k with
     | zero=>exact lRf 0
     | succ k ih=>
      show (kK _ k _).2<=k+1;unfold kK;split
      ·omega
      ·split
       ·exact Nat.le_succ k
       ·split
        ·exact Nat.le_succ k
        ·omega
    exact key _
  ·exact Pg w ws m c hc
def cO(w:B8)(ws:List B8)(i:Nat):Cell:=(cX w ws (w.length-i)).headD (none,0)
theorem sh(w:B8)(ws:List B8):∀ m j,j<=m->m<=w.length->(cX w ws m)[j]?=some (cO w ws (w.length-m+j))
 | m,0,_,hm=>by
  unfold cO;rw[Nat.add_zero,show w.length-(w.length-m)=m by omega];cases m<;>rfl
 | 0,j+1,h,_=>by omega
 | m+1,j+1,h,hm=>by
  rw[cX,getElem?_cons_succ,sh w ws m j (by omega) (by omega)]
  congr 2
  omega
theorem Q6(w:B8)(ws:List B8){i:Nat}(h:i<w.length):cO w ws i=dc w ws (cX w ws (w.length-i-1)) i ws.length:=by
 unfold cO;obtain⟨m,hm⟩:∃ m,w.length-i=m+1:=⟨w.length-i-1,by omega⟩;rw[hm,cX,show m+1-1=m by omega,show w.length-(m+1)=i by omega];rfl
theorem Gz{w:B8}{ws:List B8}{i:Nat}{own:B8}(h:i<w.length)(h0:own≠[])(hp:own.isPrefixOf (w.drop i)=true):iz w (cX w ws (w.length-i-1)) i own=(cO w ws (i+own.length)).1:=by
 unfold iz;rw[if_neg h0,if_pos hp,gDe];have hl:=eK hp;rw[length_drop]at hl;have h1:1<=own.length:=by cases own with
  | nil=>exact absurd rfl h0
  | cons a l=>simp
 rw[sh w ws _ _ (by omega) (by omega),show w.length-(w.length-i-1)+(own.length-1)=i+own.length by omega];rfl
def iO(w:B8)(ws:List B8):Nat->Nat->B8
 | 0,_=>[]
 | f+1,i=>if i<w.length then ltr (cO w ws i).2::iO w ws f (i+(ws.getD (cO w ws i).2 []).length) else []
theorem G6{w:B8}{ws:List B8}{i:Nat}(h:¬ i<w.length):∀ f,iO w ws f i=[]
 | 0=>rfl
 | f+1=>by unfold iO;rw[if_neg h]
theorem ES{w:B8}{ws:List B8}{i x:Nat}(h:i<w.length)(hx:(cO w ws i).1=some x):(cO w ws i).2<ws.length/\ws.getD (cO w ws i).2 []≠[]/\(ws.getD (cO w ws i).2 []).isPrefixOf (w.drop i)=true/\(∃ s,(cO w ws (i+(ws.getD (cO w ws i).2 []).length)).1=some s/\x=s+1)/\i+(ws.getD (cO w ws i).2 []).length<=w.length /\
  ∀ j,j<(cO w ws i).2->ws.getD j []≠[]->(ws.getD j []).isPrefixOf (w.drop i)=true->∀ s,(cO w ws (i+(ws.getD j []).length)).1=some s->x≠s+1:=by
 have e:=Q6 w ws h;have hsp:=(oT w ws (cX w ws (w.length-i-1)) i ws.length).2 x (by rw[<-e];exact hx);rw[<-e]at hsp;obtain⟨q1,⟨s,hs,hxs⟩,q3,q4⟩:=hsp;obtain⟨c1,c2,c3⟩:=BM hs;have hl:=eK c2;rw[length_drop]at hl;refine⟨q1,c1,c2,⟨s,?_,hxs⟩,by omega,fun j hj h0 hp s' hs'=>?_⟩
 ·rw[<-Gz h c1 c2];exact hs
 ·have:=q4 j s' hj (by rw[Gz h h0 hp];exact hs');omega
def pS(ws:List B8)(w:B8):B8:=if il ws w=0 then (match (cO w ws 0).1 with|some _=>iO w ws w.length 0|none=>[]) else []
def pM(ws:List B8)(w:B8):Int:=if il ws w=0 then (match (cO w ws 0).1 with|some _=>0|none=>4) else il ws w
def encI:Cell->Nat
 | (some s,_)=>s
 | (none,_)=>61
def kR(i:Nat)(c:Cell)(t:List Cell):List Nat:=replicate i 0++(encI c::t.map encI)
def uR(i:Nat)(c:Cell)(t:List Cell):List Nat:=replicate i 0++(c.2::t.map (·.2))
theorem HM(i:Nat)(c:Cell)(t:List Cell):(kR i c t).length=i+1+t.length:=by simp[kR];omega
theorem FT(i:Nat)(c:Cell)(t:List Cell):(uR i c t).length=i+1+t.length:=by simp[uR];omega
theorem O7(i:Nat)(c:Cell)(t:List Cell):(kR i c t)[i]?=some (encI c):=by
 unfold kR;rw[getElem?_append_right (by simp)];simp
theorem Si(i j:Nat)(c:Cell)(t:List Cell)(h:j<t.length):(kR i c t)[i+(j+1)]?=some (encI t[j]):=by
 unfold kR;rw[getElem?_append_right (by rw[length_replicate];omega),length_replicate,show i+(j+1)-i=j+1 by omega,getElem?_cons_succ,getElem?_map,gEl h];rfl
theorem QX(i:Nat)(c c':Cell)(t:List Cell):(kR i c t).set i (encI c')=kR i c' t:=by
 unfold kR;rw[set_append_right _ _ (by simp),length_replicate,Nat.sub_self,set_cons_zero]
theorem Q2(i:Nat)(c c':Cell)(t:List Cell):(uR i c t).set i c'.2=uR i c' t:=by
 unfold uR;rw[set_append_right _ _ (by simp),length_replicate,Nat.sub_self,set_cons_zero]
def iv(i:Nat)(t:List Cell):List Nat:=replicate i 0++t.map encI
def kh(i:Nat)(t:List Cell):List Nat:=replicate i 0++t.map (·.2)
theorem J4(i:Nat)(c:Cell)(t:List Cell):iv i (c::t)=kR i c t:=rfl
theorem IA(i:Nat)(c:Cell)(t:List Cell):kh i (c::t)=uR i c t:=rfl
theorem Mn(i:Nat)(t:List Cell):(iv (i+1) t).set i 61=kR i (none,0) t:=by
 unfold iv kR;rw[replicate_succ',append_assoc,set_append_right _ _ (by simp),length_replicate,Nat.sub_self];rfl
theorem I3(i:Nat)(t:List Cell):kh (i+1) t=uR i (none,0) t:=by
 unfold kh uR;rw[replicate_succ',append_assoc];rfl
theorem IU(n:Nat):replicate (n+1) 0=iv n [(some 0,0)]:=by
 unfold iv;rw[replicate_succ'];rfl
theorem Ks(n:Nat):replicate (n+1) 0=kh n [(some 0,0)]:=by
 unfold kh;rw[replicate_succ'];rfl
theorem CA(b:Nat):encI (none,b)=61:=rfl
theorem gG(s b:Nat):encI (some s,b)=s:=rfl
theorem Lp{c:Cell}{B:Nat}(h:∀ s,c.1=some s->s<=B)(hB:B<=60):encI c<=61:=by
 obtain⟨o,b⟩:=c;cases o with
 | none=>exact lRf 61
 | some s=>have:=h s rfl;rw[gG];omega
theorem DN{c:Cell}(h:c.1=none):encI c=61:=by
 obtain⟨o,b⟩:=c;cases o with
 | none=>rfl
 | some s=>cases h
theorem EP{c:Cell}{s:Nat}(h:c.1=some s):encI c=s:=by
 obtain⟨o,b⟩:=c;cases o with
 | none=>cases h
 | some x=>injection h
theorem NM(t:List Cell)(i:Nat):(iv 0 t)[i]?=t[i]?.map encI:=by
 unfold iv;rw[replicate_zero,nil_append,getElem?_map]
theorem Ml(t:List Cell)(i:Nat):(kh 0 t)[i]?=t[i]?.map (·.2):=by
 unfold kh;rw[replicate_zero,nil_append,getElem?_map]
theorem zU(w:B8)(ws:List B8):∀ f i,(iO w ws f i).length<=f
 | 0,_=>lRf 0
 | f+1,i=>by
  unfold iO;split
  ·have:=zU w ws f (i+(ws.getD (cO w ws i).2 []).length);rw[length_cons];omega
  ·exact lZe _
theorem yx(w:B8)(ws:List B8)(t:List Cell)(i k:Nat):dc w ws t i (k+1)=kK (dc w ws t i k) k (iz w t i (ws.getD k [])):=rfl
theorem y8(n:Nat):replicate n (Value.int .i64 0)=aD (replicate n 0):=by simp[aD]
theorem qJ(l:List Nat)(i n:Nat):(aD l).set i (.int .i64 n)=aD (l.set i n):=by simp[aD,map_set]
theorem Ph(ws:List B8)(w:B8):(if aY ws then gn [w] ([w].all (fun u=>iC u ws.length)&&true) else 1)=il ws w:=by
 unfold il;rw[db];simp only[all_cons,all_nil,Bool.and_true];cases aY ws<;>cases isWord w<;>rfl
theorem qz{ws:List B8}{w:B8}(h:il ws w=0):aY ws=true/\isWord w=true:=by
 rw[<-uT]at h;obtain⟨g1,g2,_⟩:=mb h;exact⟨g1,g2⟩
set_option maxHeartbeats 4000000 in
theorem qR(v:Value)(ws:List B8)(w:B8)(M:Mem)(R:VP)(hv:Rd M v (strs ws))(hf:cP ws)(hn:ws.length<=1099511627776)(hl:w.length<=1099511627776)(h:R (aE (str (pS ws w)) (pM ws w)) M):ar prog 159 [.agg #[v],str w] M R:=by
 refine fnS func159 rfl ntmps159 results159 ?_;obtain⟨a,c,rfl,ha⟩:=hv.opened;rw[ah]at ha hv ⊢;simp(disch:=omega);intro b2 hb2;have hs2:Sub M (M.put b2 (.cells true [.slice a ws.length c] 1)):=(Sub.refl M).put hb2 _;have hv2:=hv.put hb2 (.cells true [.slice a ws.length c] 1);have k2:(M.put b2 (.cells true [.slice a ws.length c] 1)) b2=some (.cells true [.slice a ws.length c] 1):=ag _ _ _;simp(disch:=omega);generalize M.put b2 (.cells true [.slice a ws.length c] 1)=N1 at *;intro b16 hb16;have s16:=(Sub.refl N1).put hb16 (.cells true [str w] 1);have r16:Rd (N1.put b16 (.cells true [str w] 1)) (.slice (some ⟨b16,0,none⟩) 1 1) (strs [w]):=Rd.new rfl (lRf 1);have k2':=s16 _ _ k2;simp(disch:=omega);generalize N1.put b16 (.cells true [str w] 1)=N2 at *;have hs22:=hs2.trans s16;have hv22:=hv2.sub s16;refine dq _ _ _ ws [w] true (fun _=>True) _ _ hv22 hf hn r16 (gg hl) (by simp) rfl trivial bV (bI _) ?_;rw[Ph];unfold pS pM at h;by_cases h0:il ws w=0
 ·obtain⟨hm,hw⟩:=qz h0;rw[if_pos h0,if_pos h0]at h;have h15:=aV hm;have h60:=au hw;rw[h0];rcases ha with hz|⟨b,o,rfl,ha⟩
  ·omega
  have hget:∀ k,(hk:k<ws.length)->N2.get? b (o+k)=some (str ws[k]):=by
   intro k hk;have hg0:=ha k hk;rw[ba,gEl hk]at hg0;exact aX hg0 hs22
  have er:((w.length:Int)+1).toNat=w.length+1:=by omega
  have eI:replicate (w.length+1) (Value.int .i64 0)=aD (iv w.length [(some 0,0)]):=by rw[y8,IU]
  have eN:replicate (w.length+1) (Value.int .i64 0)=aD (kh w.length [(some 0,0)]):=by rw[y8,Ks]
  simp(disch:=omega);refine plyS (ak [0,1,2,4,5,6] (.alt 3 1 (.light 8 (.one 7 1 (.light 9 .fin))) (.one 7 1 (.one 3 1 (ak [8,9] .fin))))) ?_;simp(disch:=omega)[jz,er];refine⟨?c1,?c2⟩
  case' c1=>
   intro b7 hb7;have t7:=(Sub.refl N2).put hb7 (.cells true (aD (iv w.length [(some 0,0)])) (w.length+1));simp only[length_replicate];simp only[eI];have hb7':∀ X,(N2.put b7 X) b7=some X:=fun X=>ag _ _ _;simp(disch:=omega);refine⟨t7,?_⟩;intro b8 hb8;have hne:b7≠b8:=by rintro rfl;rw[ag]at hb8;cases hb8
   have hb82:N2 b8=none:=bA t7 hb8;simp only[length_replicate];simp only[eN];have t8:=(Sub.refl (N2.put b7 (.cells true (aD (iv w.length [(some 0,0)])) (w.length+1)))).put hb8 (.cells true (aD (kh w.length [(some 0,0)])) (w.length+1));simp(disch:=omega);refine⟨t8,?_⟩;clear t7 hb7' hb8 t8
  case' c2=>
   intro b8 hb82;have t8:=(Sub.refl N2).put hb82 (.cells true (aD (kh w.length [(some 0,0)])) (w.length+1));simp only[length_replicate];simp only[eN];simp(disch:=omega);refine⟨t8,?_⟩;intro b7 hb70;have hne:b7≠b8:=by rintro rfl;rw[ag]at hb70;cases hb70
   have hb7:N2 b7=none:=bA t8 hb70;simp only[length_replicate];simp only[eI];have t7:=(Sub.refl (N2.put b8 (.cells true (aD (kh w.length [(some 0,0)])) (w.length+1)))).put hb70 (.cells true (aD (iv w.length [(some 0,0)])) (w.length+1));simp(disch:=omega);refine⟨t7,?_⟩;rw[HQ N2 (Ne.symm hne)];clear t7 hb70 t8
  all_goals
   refine lupS (rlA [9,10,11] 32 55) (fun m:Nat=>[(9,.int .i64 ((w.length:Int)-1-m))]) (fun m M'=>m<=w.length/\M'=(N2.put b7 (.cells true (aD (iv (w.length-m) (cX w ws m))) (w.length+1))).put b8 (.cells true (aD (kh (w.length-m) (cX w ws m))) (w.length+1))) (fun m=>w.length-m) 0 ⟨by omega,rfl⟩ ?_
   rintro m M' g ⟨hmn,rfl⟩
   have htl:=nA w ws m;have htle:=oN w ws m;have htb:=Pg w ws m;by_cases hlt:m<w.length
   ·obtain⟨i,hi⟩:∃ i,i=w.length-(m+1):=⟨_,rfl⟩;have ei:(w.length:Int)-1-m=(i:Int):=by omega
    have hc1:cX w ws (m+1)=dc w ws (cX w ws m) i ws.length::cX w ws m:=by rw[hi];rfl
    rw[show w.length-m=i+1 by omega,ei,I3];have hhs:=Mn i (cX w ws m);have hhl:(iv (i+1) (cX w ws m)).length=w.length+1:=by unfold iv;simp;omega
    have hset:(aD (iv (i+1) (cX w ws m))).set i (.int .i64 61)=aD (kR i (none,0) (cX w ws m)):=by rw[<-hhs,<-qJ];rfl
    generalize cX w ws m=t at *;have l2:((N2.put b7 (.cells true (aD (kR i (none,0) t)) (w.length+1))).put b8 (.cells true (aD (uR i (none,0) t)) (w.length+1))) b2=some (.cells true [.slice (some ⟨b,o,none⟩) ws.length c] 1):=by
     rw[ai _ _ (by rintro rfl;rw[k2']at hb82;cases hb82),ai _ _ (by rintro rfl;rw[k2']at hb7;cases hb7)];exact k2'
    simp(disch:=omega);refine⟨by rw[aB];omega,?_⟩;simp(disch:=omega)[hset,al l2];have hml2:m<=59:=by omega
    have hil:i+1+m=w.length:=by omega
    refine lupS (rlA [10,11] 42 45) (fun k:Nat=>[(42,.int .i64 k)]) (fun k M1=>k<=ws.length/\M1=(N2.put b7 (.cells true (aD (kR i (dc w ws t i k) t)) (w.length+1))).put b8 (.cells true (aD (uR i (dc w ws t i k) t)) (w.length+1))) (fun k=>ws.length-k) 0 ⟨by omega,rfl⟩ ?_
    rintro k M1 g1 ⟨hk,rfl⟩
    have hcs:=yx w ws t i k;have hcle:=fun x=>EX (w:=w) (ws:=ws) (i:=i) htle k x;by_cases hkl:k<ws.length
    ·have hgk:=hget k hkl;have hgd:ws.getD k []=ws[k]:=by rw[gDe,gEl hkl];rfl
     rw[hgd]at hcs;obtain⟨own,hown⟩:∃ own,own=ws[k]:=⟨_,rfl⟩;rw[<-hown]at hgk hcs;generalize hcur:dc w ws t i k=cur at *;have hI:=O7 i cur t;have hIl:=HM i cur t;have hNl:=FT i cur t;have sN:Sub N2 ((N2.put b7 (.cells true (aD (kR i cur t)) (w.length+1))).put b8 (.cells true (aD (uR i cur t)) (w.length+1))):=by
      intro j B hB;rw[ai _ _ (by rintro rfl;rw[hB]at hb82;cases hb82),ai _ _ (by rintro rfl;rw[hB]at hb7;cases hb7)];exact hB
     have hgk2:=aX hgk sN;have hIv:(aD (kR i cur t))[i]?=some (.int .i64 (encI cur:Nat)):=by rw[bU,hI];rfl
     have hcur61:=Lp (c:=cur) (B:=m+1) hcle (by omega);have hdl:(w.drop i).length=m+1:=by rw[length_drop];omega
     simp(disch:=omega)[hgk2];refine drwS ?_;by_cases h1:own=[]
     ·have hc0:iz w t i own=none:=by unfold iz;rw[if_pos h1]
      rw[hc0]at hcs;subst h1;simp(disch:=omega);refine rndS (k+1) ⟨by omega,?_⟩;rw[hcs];rfl
     ·have he:own.isEmpty=false:=by cases own with
       | nil=>exact absurd rfl h1
       | cons a l=>rfl
      have ho1:1<=own.length:=by cases own with
       | nil=>exact absurd rfl h1
       | cons a l=>simp
      have hown12:own.length<=12:=by rw[hown];exact(bL hm (getElem_mem hkl)).1
      simp(disch:=omega)[he];refine aU (a:=[]) (c:=[]) (dG _ _ _ _ (by omega) (by omega) ⟨rfl,rfl⟩) ?_;cases hpre:own.isPrefixOf (w.drop i)
      ·have hc0:iz w t i own=none:=by unfold iz;rw[if_neg h1,hpre];rfl
       rw[hc0]at hcs;simp(disch:=omega);refine rndS (k+1) ⟨by omega,?_⟩;rw[hcs];rfl
      ·have hple:=eK hpre;rw[hdl]at hple;have htj:own.length-1<t.length:=by omega
       have hc0:iz w t i own=(t[own.length-1]).1:=by
        unfold iz;rw[if_neg h1,hpre,if_pos rfl,gDe,gEl htj];rfl
       rw[hc0]at hcs;have hIt:=Si i (own.length-1) cur t htj;rw[show i+(own.length-1+1)=i+own.length by omega]at hIt;have hte:=htle _ (getElem_mem htj);have hte61:=Lp (c:=t[own.length-1]) (B:=m) hte (by omega);generalize t[own.length-1]=ce at *;have hIt2:(aD (kR i cur t))[i+own.length]?=some (.int .i64 (encI ce:Nat)):=by rw[bU,hIt];rfl
       have ea:((i:Int)+own.length).toNat=i+own.length:=by omega
       simp(disch:=omega)[hIv,hIt2,ea];by_cases hcond:(1:Int)+(encI ce:Nat)<(encI cur:Nat)
       ·obtain⟨os,bs⟩:=ce;cases os with
        | none=>rw[CA]at hcond;omega
        | some s=>
         rw[gG]at hcond hIt2;have hup:kK cur k (some s)=(some (s+1),k):=by
          obtain⟨oc,bc⟩:=cur;unfold kK;cases oc with
          | none=>rfl
          | some x=>rw[gG]at hcond;exact if_pos (by omega)
         rw[show (some s,bs).1=some s from rfl,hup]at hcs;have hs1:=QX i cur (some (s+1),k) t;have hs2:=Q2 i cur (some (s+1),k) t;have hs1':(aD (kR i cur t)).set i (.int .i64 ((1:Int)+(s:Nat)))=aD (kR i (some (s+1),k) t):=by
          rw[<-hs1,<-qJ,gG,show ((1:Int)+(s:Nat))=((s+1:Nat):Int) by omega]
         have hs2':(aD (uR i cur t)).set i (.int .i64 (k:Nat))=aD (uR i (some (s+1),k) t):=by
          rw[<-hs2,<-qJ]
         rw[gG];have hcond':(1:Int)+(s:Nat)<(encI cur:Nat):=hcond;simp(disch:=omega)[hcond',hIt2,ea,hs1'];refine⟨by rw[aB];omega,?_⟩;simp(disch:=omega)[hs2'];refine⟨by rw[aB];omega,?_⟩;simp(disch:=omega);refine rndS (k+1) ⟨by omega,?_⟩;rw[hcs]
       ·have hup:kK cur k ce.1=cur:=by
         obtain⟨os,bs⟩:=ce;cases os with
         | none=>rfl
         | some s=>
          obtain⟨oc,bc⟩:=cur;rw[gG]at hcond;unfold kK;cases oc with
          | none=>rw[CA]at hcond;have:=hte s rfl;omega
          | some x=>rw[gG]at hcond;exact if_neg (by omega)
        rw[hup]at hcs;simp(disch:=omega)[hcond];refine rndS (k+1) ⟨by omega,?_⟩;rw[hcs]
    ·have hk':k=ws.length:=by omega
     subst hk';simp(disch:=omega);refine rndA (m+1) (by simp(disch:=omega);omega) ⟨by omega,?_⟩;rw[show w.length-(m+1)=i by omega,hc1,J4,IA]
   ·have hm':m=w.length:=by omega
    subst hm';have hent:∀ i,i<=w.length->(cX w ws w.length)[i]?=some (cO w ws i):=fun i hi=>by
     rw[sh w ws w.length i hi (lRf _),Nat.sub_self,Nat.zero_add]
    rw[Nat.sub_self];have hI0:∀ i,i<=w.length->(aD (iv 0 (cX w ws w.length)))[i]?=some (.int .i64 (encI (cO w ws i):Nat)):=fun i hi=>by rw[bU,NM,hent i hi];rfl
    have hN0:∀ i,i<=w.length->(aD (kh 0 (cX w ws w.length)))[i]?=some (.int .i64 ((cO w ws i).2:Nat)):=fun i hi=>by rw[bU,Ml,hent i hi];rfl
    generalize aD (iv 0 (cX w ws w.length))=LI at *;generalize aD (kh 0 (cX w ws w.length))=LN at *;have sN:Sub N2 ((N2.put b7 (.cells true LI (w.length+1))).put b8 (.cells true LN (w.length+1))):=by
     intro j B hB;rw[ai _ _ (by rintro rfl;rw[hB]at hb82;cases hb82),ai _ _ (by rintro rfl;rw[hB]at hb7;cases hb7)];exact hB
    have l2:=sN _ _ k2';have hI00:=hI0 0 (by omega);simp(disch:=omega)[hI00];cases he0:(cO w ws 0).1 with
    | none=>
     rw[he0]at h;have e61:(60:Int)<((encI (cO w ws 0):Nat):Int):=by rw[DN he0];omega
     simp(disch:=omega)[e61];exact ae (hs22.trans sN) h
    | some x0=>
     rw[he0]at h;have hx0:x0<=w.length:=oN w ws w.length _ (mem_of_getElem? (hent 0 (by omega))) x0 he0;have e61:¬(60:Int)<((encI (cO w ws 0):Nat):Int):=by rw[EP he0];omega
     simp(disch:=omega)[e61];refine lupS (rlA [12,13] 91 22) (fun x:Nat×B8=>[(13,.int .i64 x.1),(12,str x.2)]) (fun x M'=>M'=(N2.put b7 (.cells true LI (w.length+1))).put b8 (.cells true LN (w.length+1))/\x.1<=w.length/\(∃ y,(cO w ws x.1).1=some y)/\∃ f,w.length<=x.1+f/\x.2++iO w ws f x.1=iO w ws w.length 0) (fun x=>w.length-x.1) (0,[]) ⟨rfl,by omega,⟨x0,he0⟩,w.length,by omega,rfl⟩ ?_
     rintro⟨i,out⟩ M' g ⟨rfl,hi,⟨y,hy⟩,f,hf2,hout⟩
     simp only at hi hy hf2 hout;have hol:=congrArg length hout;have hofl:=zU w ws w.length 0;rw[lAp]at hol;by_cases hlt:i<w.length
     ·obtain⟨w1,w2,w3,⟨s,w4,w5⟩,w6,w7⟩:=ES hlt hy;obtain⟨f,rfl⟩:∃ f',f=f'+1:=⟨f-1,by omega⟩;have hof:iO w ws (f+1) i=ltr (cO w ws i).2::iO w ws f (i+(ws.getD (cO w ws i).2 []).length):=by
       conv=>lhs;unfold iO
       rw[if_pos hlt]
      rw[hof]at hout;have hNi:=hN0 i hi;have hgd:ws.getD (cO w ws i).2 []=ws[(cO w ws i).2]:=by rw[gDe,gEl w1];rfl
      have hgb:=aX (hget _ w1) sN;have hob:1<=(ws.getD (cO w ws i).2 []).length:=by
       cases hq:ws.getD (cO w ws i).2 [] with
       | nil=>exact absurd hq w2
       | cons a l=>simp
      rw[<-hgd]at hgb;generalize (cO w ws i).2=bb at *;generalize ws.getD bb []=own at *;simp(disch:=omega)[hNi];refine cS bb _ _ (by omega) ?_;simp(disch:=omega);refine drwS ?_;simp(disch:=omega)[al l2,hNi,hgb];refine rndS (i+own.length,out++[ltr bb]) ⟨rfl,by simp only;omega,⟨s,w4⟩,f,by simp only;omega,?_⟩;simp only;rw[append_assoc];exact hout
     ·have hi':i=w.length:=by omega
      rw[G6 hlt,append_nil]at hout;rw[<-hout]at h;simp(disch:=omega);exact ae (hs22.trans sN) h
 ·rw[if_neg h0,if_neg h0]at h;have hb:(il ws w==0)=false:=bNe.2 h0;generalize il ws w=code at *;simp(disch:=omega)[hb];exact ae hs22 h
end Go.Proofs.YtapimhjbilkfpaaGreatDoor
