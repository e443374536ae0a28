/- Lemmas, part 3. -/
import Derived.Test.YtapimhjbilkfpaaGreatDoorY01
import Derived.Lib.AppendIntMem
import Derived.Lib.AtoiErrMem
set_option linter.unusedVariables false
set_option linter.unusedSimpArgs false
set_option maxHeartbeats 8000000
namespace Go.Proofs.YtapimhjbilkfpaaGreatDoor
open Go Go.Proofs.Tryz List
theorem Own.push{M M':Mem}{v:Value}{xs:List Value}(h:Own M v xs M'){b:Nat}(hb:M' b=none)(B:Blk):Own (M.put b B) v xs (M'.put b B):=by
 rcases h with ⟨rfl,rfl,rfl⟩|⟨b',c,rfl,hM,hc,rfl⟩
 .exact Own.nil _
 .have hne:b≠b':=by rintro rfl;rw[ae]at hb;cases hb
  refine .inr ⟨b',c,rfl,by rw[aG];exact⟨Ne.symm hne,hM⟩,hc,?_⟩
  funext i
  simp only[Mem.put];by_cases h1:i=b
  .rw[if_pos h1,if_neg (by rw[h1];exact hne),if_pos h1]
  .rw[if_neg h1,if_neg h1]
theorem aj(M:Mem)(b:Nat)(B:Blk):M.set b B=M.put b B:=rfl
theorem Own.other{M M':Mem}{v:Value}{xs:List Value}{b:Nat}{B0:Blk}(h:Own M v xs M')(hb:M b=some B0)(B:Blk):Own (M.put b B) v xs (M'.put b B):=by
 rcases h with ⟨rfl,rfl,rfl⟩|⟨b',c,rfl,hM,hc,rfl⟩
 .exact Own.nil _
 .have hne:b≠b':=by rintro rfl;rw[hM]at hb;cases hb
  refine .inr ⟨b',c,rfl,by rw[aG];exact⟨Ne.symm hne,hM⟩,hc,?_⟩
  funext i
  simp only[Mem.put];by_cases h1:i=b
  .rw[if_pos h1,if_neg (by rw[h1];exact hne),if_pos h1]
  .rw[if_neg h1,if_neg h1]
theorem aN(M:Mem)(b:Nat)(A B:Blk):(M.put b A).put b B=M.put b B:=by
 funext i;simp only[Mem.put];split<;>rfl
def iC(w p:B8)(v:Value):Value:=.agg #[str w,str p,v]
theorem iz(M:Mem)(R:VP)(h:∀ v M',Own M v (strs [[97,98],[97]]) M'->R (iC [97,98,97,97,98] [65,65] v) M'):ar prog 52 [] M R:=by
 refine fnT func52 rfl ntmps52 results52 ?_;intro b1 hb1;refine sS ?_;intro b2 hb2;have h2:=hb2;rw[aG]at h2;refine sS ?_;refine ag ?_ (h _ (M.put b2 (.cells true (strs [[97,98],[97]]) 2)) (Own.new h2.2 rfl (lRf 2)));exact((Sub.refl M).put hb1 _).both b2 _
theorem eQ(M:Mem)(R:VP)(h:∀ v M',Own M v (strs [[97,98],[97]]) M'->R (iC [97,98,97,97,98] [65,65] v) M'):ar prog 13 [] M R:=by
 refine fnT func13 rfl ntmps13 results13 ?_;intro b1 hb1;refine sS ?_;intro b2 hb2;have h2:=hb2;rw[aG]at h2;refine sS ?_;refine ag ?_ (h _ (M.put b2 (.cells true (strs [[97,98],[97]]) 2)) (Own.new h2.2 rfl (lRf 2)));exact((Sub.refl M).put hb1 _).both b2 _
def seg(w:B8)(a m:Nat):B8:=(w.take (a+m)).drop a
theorem eM{w:B8}{a m:Nat}(h:a+m<=w.length):(seg w a m).length=m:=by unfold seg;rw[lDr,lTa];omega
theorem sT{w:B8}(h:w.all isL=true)(a m:Nat):(seg w a m).all isL=true:=by
 rw[all_eq_true]at *;intro u hu;exact h u (mem_of_mem_take (mem_of_mem_drop hu))
theorem oQ(w:B8)(m:Nat):seg w 0 m=w.take m:=by simp[seg]
theorem gp{w:B8}{a m:Nat}:(w.take ((a:Int)+m).toNat).drop a=seg w a m:=by unfold seg;rw[show ((a:Int)+m).toNat=a+m by omega]
inductive cC (M:Mem):List Value->List (List Int)->Mem->Prop
 | nil:cC M [] [] M
 | more {rs:List Value} {rows:List (List Int)} {N:Mem} {b c:Nat} {r:List Int} (cc:Nat) (x:List Value) (h:cC M rs rows N) (hb:N b=none) (hc:r.length<=cc) :
  cC M (rs++[.slice (some ⟨b,0,none⟩) r.length cc]) (rows++[r]) (N.put b (.cells true (ints r++x) c))
theorem cC.snoc{M:Mem}{rs:List Value}{rows:List (List Int)}{N:Mem}{b c:Nat}{r:List Int}(h:cC M rs rows N)(hb:N b=none)(hc:r.length<=c) :
  cC M (rs++[.slice (some ⟨b,0,none⟩) r.length c]) (rows++[r]) (N.put b (.cells true (ints r) c)):=by
 have:=h.more (c:=c) c [] hb hc;rw[append_nil]at this;exact this
theorem cC.sub{M N:Mem}{rs:List Value}{rows:List (List Int)}(h:cC M rs rows N):Sub M N:=by
 induction h with
 | nil=>exact Sub.refl _
 | more cc x h hb hc ih=>exact ih.putN hb _
theorem cC.len{M N:Mem}{rs:List Value}{rows:List (List Int)}(h:cC M rs rows N):rs.length=rows.length:=by
 induction h with
 | nil=>rfl
 | more cc x h hb hc ih=>rw[lAp,lAp,ih];rfl
theorem cC.base{M M' N:Mem}{rs:List Value}{rows:List (List Int)}(h:cC M' rs rows N)(hs:Sub M M'):∃ N2,cC M rs rows N2/\Sub N2 N:=by
 induction h with
 | nil=>exact⟨M,.nil,hs⟩
 | more cc x h hb hc ih=>
  obtain⟨N2,h1,h2⟩:=ih;exact⟨_,h1.more cc x (ba h2 hb) hc,h2.both _ _⟩
theorem cC.at{M N:Mem}{rs:List Value}{rows:List (List Int)}(h:cC M rs rows N):∀(i:Nat) (r:List Int),rows[i]?=some r->∃ b c cc x,rs[i]?=some (.slice (some ⟨b,0,none⟩) r.length cc)/\N b=some (.cells true (ints r++x) c)/\r.length<=cc/\M b=none:=by
 induction h with
 | nil=>intro i r h;simp at h
 | @more rs rows N b c r cc x h hb hc ih=>
  intro i r' hi;rcases Nat.lt_trichotomy i rows.length with hlt|heq|hgt
  .rw[getElem?_append_left hlt]at hi;obtain⟨b',c',cc',x',h1,h2,h3,h4⟩:=ih i r' hi;refine⟨b',c',cc',x',by rw[getElem?_append_left (by rw[h.len];exact hlt),h1],?_,h3,h4⟩;rw[al _ _ (by rintro rfl;rw[hb]at h2;cases h2),h2]
  .subst heq;rw[getElem?_append_right (lRf _),Nat.sub_self]at hi;injection hi with hi
   subst hi;refine⟨b,c,cc,x,?_,ae _ _ _,hc,ba h.sub hb⟩;rw[getElem?_append_right (by rw[h.len];exact lRf _),h.len,Nat.sub_self];rfl
  .rw[getElem?_eq_none (by rw[lAp,lSi];omega)]at hi;cases hi
theorem HU(M:Mem){a b:Nat}(h:a≠b)(A B:Blk):(M.put a A).put b B=(M.put b B).put a A:=by
 funext i
 simp only[Mem.put];by_cases h1:i=b
 .rw[if_pos h1,if_neg (by rw[h1];exact Ne.symm h),if_pos h1]
 .rw[if_neg h1,if_neg h1]
def Nu(M:Mem)(v:Value)(rows:List (List Int)):Prop:=∃ rs:List Value,Rd M v rs/\rs.length=rows.length/\∀(i:Nat) (r:List Int),rows[i]?=some r->∃ x:Value,rs[i]?=some x/\Rd M x (ints r)
theorem Nu.sub{M N:Mem}{v:Value}{rows:List (List Int)}(h:Nu M v rows)(hs:Sub M N):Nu N v rows:=by
 obtain⟨rs,h1,h2,h3⟩:=h;refine⟨rs,h1.sub hs,h2,fun i r hi=>?_⟩;obtain⟨x,h4,h5⟩:=h3 i r hi;exact⟨x,h4,h5.sub hs⟩
theorem LO{M N M':Mem}{v:Value}{rs:List Value}{rows:List (List Int)}(h:cC M rs rows N)(ho:Own N v rs M'):Nu M' v rows:=by
 refine⟨rs,ho.rd,h.len,fun i r hi=>?_⟩;obtain⟨b,c,cc,x,h1,h2,h3,_⟩:=h.at i r hi;refine⟨_,h1,?_⟩;have:Rd N (.slice (some ⟨b,0,none⟩) r.length cc) (ints r):=by
  refine .inr ⟨b,0,cc,by rw[az],?_,by rw[az];exact h3⟩;rw[aq h2,lN,if_pos (by rw[lAp];omega),drop_zero,take_left]
 exact this.sub ho.sub
theorem Se{M M' N M1:Mem}{v:Value}{rs:List Value}{rows:List (List Int)}(h:cC M' rs rows N)(ho:Own N v rs M1)(hs:Sub M M'):∃ N2 M2,cC M rs rows N2/\Own N2 v rs M2/\Sub M2 M1:=by
 obtain⟨N2,h1,h2⟩:=h.base hs;obtain⟨M2,h3,h4⟩:=ho.base h2;exact⟨N2,M2,h1,h3,h4⟩
theorem Qu{w:B8}{i q k:Nat}(hk:1<=k)(hi:i<=w.length):i+k*(q+1)<=w.length↔q<(w.length-i)/k:=by
 rw[Nat.lt_iff_add_one_le,Nat.le_div_iff_mul_le hk,Nat.mul_comm];omega
theorem Rb{M N M':Mem}{v:Value}{rs:List Value}{rows:List (List Int)}(h:cC M rs rows N)(ho:Own N v rs M'){b:Nat}(hb:M' b=none)(r:List Int)(n c:Nat)(hn:r.length=n)(hc:n<=c) :
  cC M (rs++[.slice (some ⟨b,0,none⟩) n c]) (rows++[r]) (N.put b (.cells true (ints r) c))/\Own (N.put b (.cells true (ints r) c)) v rs (M'.put b (.cells true (ints r) c)):=by
 subst hn;exact⟨h.snoc (ba ho.sub hb) hc,ho.push hb _⟩
def ltr(n:Nat):UInt8:=UInt8.ofNat (97+n)
theorem mH{n:Nat}(h:n<=4):isL (ltr n)=true:=by
 unfold ltr;have:n=0\/n=1\/n=2\/n=3\/n=4:=by omega
 rcases this with rfl|rfl|rfl|rfl|rfl<;>decide
theorem jM(n:Nat)(M:Mem)(R:VP)(h1:n<=4)(h:R (str [ltr n]) M):ar prog 133 [.int .i64 n] M R:=by
 refine fnT func133 rfl ntmps133 results133 ?_;intro b hb;refine sS ?_;have e:(97+(n:Int)).toNat=97+n:=by omega
 unfold ltr at h;rw[<-e]at h;exact ag ((Sub.refl M).put hb _) h
theorem db(n:Nat)(M:Mem)(R:VP)(h1:n<=4)(h:R (str [ltr n]) M):ar prog 229 [.int .i64 n] M R:=
 H7 n M R (by omega) (by omega) (by rw[iNa];exact h)
theorem Bu{α β:Type}(l:List α)(a:α)(f:α->Option β):(l++[a]).findSome? f=(l.findSome? f).or (f a):=by
 rw[findSome?_append];cases findSome? f l<;>simp
theorem PY{β:Type}{f:Nat->Option β}{c j:Nat}{b:β}(hc:c<j)(h0:(range c).findSome? f=none)(h:f c=some b):(range j).findSome? f=some b:=by
 have e:range j=range c++c::(range' (c+1) (j-c-1)):=by
  rw[range_eq_range',range_eq_range',<-range'_succ,show j-c-1+1=j-c by omega];have:=range'_append_1 (s:=0) (m:=c) (n:=j-c);rw[Nat.zero_add,show c+(j-c)=j by omega]at this;exact this.symm
 rw[e,findSome?_append,h0,findSome?_cons,h];rfl
end Go.Proofs.YtapimhjbilkfpaaGreatDoor
namespace Go.Proofs.YtapimhjbilkfpaaGreatDoor
open Go Go.Proofs.Tryz Go.RowKit List
theorem IQ{P:Program}{M:Mem}{w:World}(h:Rep M w){name:String}{g:Nat}(hg:P.globalNamed name=some g){xs:List Value}{own:Bool}(hM:M g=some (.cells own xs xs.length)):w.var? P name=some xs.toArray:=by
 obtain⟨c,e,fr,h1,h2,⟨ys,h3⟩,_⟩:=h g _ hM;have h4:ys=[]:=by
  have:=congrArg length h3;rw[Array.length_toList,lAp,h2]at this;exact length_eq_zero_iff.1 (by omega)
 rw[h4,append_nil]at h3;simp only[World.var?,hg,Option.bind_some,h1];rw[<-h3]
theorem OF{P:Program}{f:FuncId}{args:List Value}{M:Mem}{R:VP}(hb:sf P f)(h:∀ w,Rep M w->Calls P f args.toArray w fun e w'=>∃ v,e=.returned v/\R v M/\Below w.heap.size w w'):ar P f args M R:=
 ⟨hb,fun w hw=>(h w hw).mono fun e w' ⟨v,he,hR,hbl⟩=>⟨v,M,he,Dr hw hbl,⟨hbl.os,hbl.tape,hbl.output,hbl.size,fun b hb _=>hbl.block b hb,fun b hb=>.inl hb⟩,hR⟩⟩
structure cj(M:Mem):Prop where
 pow:∃ g,prog.globalNamed "internal/strconv.uint64pow10" = some g/\M g=some (.cells false (Lib.pow10Tab.map fun z=>Value.int .u64 z) (Lib.pow10Tab.map fun z=>Value.int .u64 z).length)
 syn:∃ g tp p,prog.globalNamed "strconv.ErrSyntax" = some g/\M g=some (.cells false [.iface tp p] 1)
 rng:∃ g tp p,prog.globalNamed "strconv.ErrRange" = some g/\M g=some (.cells false [.iface tp p] 1)
theorem cj.sub{M N:Mem}(h:cj M)(hs:Sub M N):cj N:=by
 obtain⟨⟨g1,a1,b1⟩,⟨g2,t2,p2,a2,b2⟩,⟨g3,t3,p3,a3,b3⟩⟩:=h;exact⟨⟨g1,a1,hs _ _ b1⟩,⟨g2,t2,p2,a2,hs _ _ b2⟩,⟨g3,t3,p3,a3,hs _ _ b3⟩⟩
theorem zS(n:Int)(M:Mem)(R:VP)(hM:cj M)(h0 : -9223372036854775808<=n)(h1:n<=9223372036854775807)(h:R (str (Lib.itoa n)) M):ar prog 220 [.int .i64 n,.int .i64 10] M R:=by
 refine dK (str (Lib.itoa n)) ⟨_,func220,by kernel_rfl,by kernel_rfl⟩ (fun w hw=>?_) h;obtain⟨g,hg,hb⟩:=hM.pow;refine(Tryz.strconv_FormatInt_10 n h0 h1 w (IQ hw hg hb)).mono fun e w' h2=>?_;obtain⟨he,k,os,hw'⟩:=h2;exact⟨he,by rw[hw'];exact Lib.below_grow _ _ (lRf _) k os⟩
theorem A9(l:B8)(M:Mem)(R:VP)(hM:cj M)(hl:l.length<=281474976710656)(hok:∀ n,Lib.parseIntB 64 l=.ok n->R (.tuple #[.int .i64 n,.nilIface]) M)
  (hbad:(∀ n,Lib.parseIntB 64 l≠.ok n)->∀ n tp p,R (.tuple #[.int .i64 n,.iface tp (.pointer (some p))]) M):ar prog 153 [str l,.int .i64 10,.int .i64 64] M R:=by
 refine OF ⟨_,func153,by kernel_rfl,by kernel_rfl⟩ (fun w hw=>?_);rcases hp:Lib.parseIntB 64 l with n|_|_
 .skip
  refine(Tryz.strconv_ParseInt_10_at64_ok ⟨⟨l⟩⟩ (by show l.length<=_;omega) n hp w).mono fun e w' h2=>?_;obtain⟨he,hw'⟩:=h2;refine⟨_,he,hok n hp,?_⟩;rcases hw' with rfl|⟨t,rfl⟩
  .exact Below.refl _ _
  .exact Lib.bytesWorld_below _ _ _
 .skip
  obtain⟨g,tp,p,hg,hb⟩:=hM.syn;refine(Any.strconv_ParseInt_10_at64_syntax_var Tryz.laysSyn ⟨⟨l⟩⟩ hl hp tp p w (IQ hw hg hb)).mono fun e w' h2=>?_;obtain⟨N,he,_,_,hbl⟩:=h2;exact⟨_,he,hbad (fun n e=>by rw[hp]at e;cases e) _ _ _,hbl⟩
 .skip
  obtain⟨g,tp,p,hg,hb⟩:=hM.rng;refine(Tryz.strconv_ParseInt_10_at64_range_var ⟨⟨l⟩⟩ hl hp tp p w (IQ hw hg hb)).mono fun e w' h2=>?_;obtain⟨N,he,_,_,hbl⟩:=h2;exact⟨_,he,hbad (fun n e=>by rw[hp]at e;cases e) _ _ _,hbl⟩
theorem ez(n:Int)(M:Mem)(R:VP)(hM:cj M)(h0 : -9223372036854775807<=n)(h1:n<=9223372036854775807)(h:R (str (Lib.itoa n)) M):ar prog 154 [.int .i64 n] M R:=by
 refine fnT func154 rfl ntmps154 results154 ?_;refine zS n _ _ hM (by omega) h1 ?_;refine sS ?_;exact ad h
end Go.Proofs.YtapimhjbilkfpaaGreatDoor
namespace Go.Proofs.YtapimhjbilkfpaaGreatDoor
open List
def kY(a b:Nat)(c:Nat->Nat):Nat->Nat:=fun k=>if c k=b then a else c k
def Dg(n p q:Nat)(f:Nat->Nat):Prop:=(∀ i,i+p<n->f i=f (i+p))/\∀ i,i+q<n->f i=f (i+q)
def kB(n p q:Nat)(c:Nat->Nat):Prop:=∀ f,Dg n p q f->∀ k l,k<n->l<n->c k=c l->f k=f l
def fQ(n:Nat)(c:Nat->Nat):Prop:=∀ k,k<n->c k<n
theorem vW{a b:Nat}{c:Nat->Nat}{k l:Nat}(h:c k=c l):kY a b c k=kY a b c l:=by unfold kY;rw[h]
theorem BV{a b:Nat}{c:Nat->Nat}{x y:Nat}(h:(c x=a/\c y=b)\/(c x=b/\c y=a)):kY a b c x=kY a b c y:=by
 unfold kY;rcases h with ⟨h1,h2⟩|⟨h1,h2⟩
 .rw[h1,h2,if_pos rfl];split
  .rfl
  .rfl
 .rw[h1,h2,if_pos rfl];split
  .rfl
  .rfl
theorem Dh{n p q a b:Nat}{c:Nat->Nat}{x y:Nat}(hg:kB n p q c)(hx:x<n)(hy:y<n)(h:(c x=a/\c y=b)\/(c x=b/\c y=a))(he:∀ f,Dg n p q f->f x=f y):kB n p q (kY a b c):=by
 intro f hf k l hk hl hkl;have hxy:=he f hf;have hba:∀ k l,k<n->l<n->c k=b->c l=a->f k=f l:=fun k l hk hl h1 h2=>by
  rcases h with ⟨q1,q2⟩|⟨q1,q2⟩
  .rw[hg f hf k y hk hy (h1.trans q2.symm),hg f hf l x hl hx (h2.trans q1.symm),hxy]
  .rw[hg f hf k x hk hx (h1.trans q1.symm),hg f hf l y hl hy (h2.trans q2.symm),hxy]
 unfold kY at hkl;by_cases h1:c k=b
 .by_cases h2:c l=b
  .exact hg f hf k l hk hl (h1.trans h2.symm)
  .rw[if_pos h1,if_neg h2]at hkl;exact hba k l hk hl h1 hkl.symm
 .by_cases h2:c l=b
  .rw[if_neg h1,if_pos h2]at hkl;exact(hba l k hl hk h2 hkl).symm
  .rw[if_neg h1,if_neg h2]at hkl;exact hg f hf k l hk hl hkl
theorem qJ{n a b:Nat}{c:Nat->Nat}(h:fQ n c)(ha:a<n):fQ n (kY a b c):=by
 intro k hk;unfold kY;split
 .exact ha
 .exact h k hk
theorem xS(n p q:Nat):kB n p q id:=fun f _ k l _ _ h=>by
 have h:k=l:=h;rw[h]
def stI(s:Nat)(c:Nat->Nat)(i:Nat):Nat->Nat:=kY (min (c i) (c (i-s))) (max (c i) (c (i-s))) c
def foI(s:Nat)(c:Nat->Nat):Nat->Nat->Nat
 | 0=>c
 | t+1=>stI s (foI s c t) (s+t)
def mb(n p q:Nat):Nat->Nat:=foI q (foI p id (n-p)) (n-q)
theorem FP{s:Nat}{c:Nat->Nat}{k l:Nat}(h:c k=c l):∀ t,foI s c t k=foI s c t l
 | 0=>h
 | t+1=>by unfold foI stI;exact vW (FP h t)
theorem Ph(x y:Nat):(x=min x y/\y=max x y)\/(x=max x y/\y=min x y):=by omega
theorem yN{s:Nat}{c:Nat->Nat}:∀ t j,j<t->foI s c t (s+j)=foI s c t j
 | 0,j,h=>by omega
 | t+1,j,h=>by
  unfold foI stI;by_cases e:j=t
  .subst e;refine BV ?_;rw[Nat.add_sub_cancel_left];exact Ph _ _
  .exact vW (yN t j (by omega))
theorem sD{n p q s:Nat}{c:Nat->Nat}(hg:kB n p q c)(hb:fQ n c)(hs:s=p\/s=q):∀ t,s+t<=n->kB n p q (foI s c t)/\fQ n (foI s c t)
 | 0,_=>⟨hg,hb⟩
 | t+1,h=>by
  obtain⟨h1,h2⟩:=sD hg hb hs t (by omega);unfold foI stI;rw[Nat.add_sub_cancel_left];refine⟨Dh (x:=s+t) (y:=t) h1 (by omega) (by omega) (Ph _ _) (fun f hf=>?_),qJ h2 ?_⟩
  .rcases hs with rfl|rfl
   .rw[Nat.add_comm];exact(hf.1 t (by omega)).symm
   .rw[Nat.add_comm];exact(hf.2 t (by omega)).symm
  .have:=h2 t (by omega);have:=h2 (s+t) (by omega);omega
theorem LP(n p q:Nat):Dg n p q (mb n p q)/\kB n p q (mb n p q)/\fQ n (mb n p q):=by
 have h1:kB n p q (foI p id (n-p))/\fQ n (foI p id (n-p)):=by
  by_cases hp:p<=n
  .exact sD (xS n p q) (fun k hk=>hk) (.inl rfl) _ (by omega)
  .rw[show n-p=0 by omega];exact⟨xS n p q,fun k hk=>hk⟩
 have h2:kB n p q (mb n p q)/\fQ n (mb n p q):=by
  unfold mb;by_cases hq:q<=n
  .exact sD h1.1 h1.2 (.inr rfl) _ (by omega)
  .rw[show n-q=0 by omega];exact h1
 refine⟨⟨fun i hi=>?_,fun i hi=>?_⟩,h2⟩
 .unfold mb;refine FP ?_ _;have:=yN (s:=p) (c:=id) (n-p) i (by omega);rw[Nat.add_comm i p];exact this.symm
 .unfold mb;have:=yN (s:=q) (c:=foI p id (n-p)) (n-q) i (by omega);rw[Nat.add_comm i q];exact this.symm
theorem QO{n p q:Nat}{c d:Nat->Nat}(hc:Dg n p q c)(gc:kB n p q c)(hd:Dg n p q d)(gd:kB n p q d){k l:Nat}(hk:k<n)(hl:l<n):(c k=c l)↔(d k=d l):=
 ⟨fun h=>gc d hd k l hk hl h,fun h=>gd c hc k l hk hl h⟩
def frs(c:Nat->Nat)(i:Nat):Nat:=((range i).find? fun k=>c k==c i).getD i
theorem oE(c:Nat->Nat)(i:Nat):frs c i<=i/\c (frs c i)=c i/\∀ k,k<frs c i->c k≠c i:=by
 unfold frs;cases h:(range i).find? (fun k=>c k==c i) with
 | none=>
  rw[find?_eq_none]at h;refine⟨lRf _,rfl,fun k hk e=>?_⟩;have:=h k (mem_range.2 hk);rw[e]at this;simp at this
 | some j=>
  rw[find?_range_eq_some]at h;obtain⟨h1,h2,h3⟩:=h;refine⟨Nat.le_of_lt (mem_range.1 h2),eq_of_beq h1,fun k hk e=>?_⟩;have:=h3 k hk;rw[e]at this;simp at this
theorem zG{c:Nat->Nat}{i j:Nat}(h1:j<=i)(h2:c j=c i)(h3:∀ k,k<j->c k≠c i):frs c i=j:=by
 obtain⟨q1,q2,q3⟩:=oE c i;rcases Nat.lt_trichotomy (frs c i) j with h|h|h
 .exact absurd q2 (h3 _ h)
 .exact h
 .exact absurd h2 (q3 _ h)
theorem Sw{n:Nat}{c d:Nat->Nat}(h:∀ k l,k<n->l<n->((c k=c l)↔(d k=d l))){i:Nat}(hi:i<n):frs c i=frs d i:=by
 obtain⟨q1,q2,q3⟩:=oE d i;exact zG q1 ((h _ _ (by omega) hi).2 q2) (fun k hk e=>q3 k hk ((h k i (by omega) hi).1 e))
def eg(c:Nat->Nat)(i:Nat):Nat:=((range i).filter fun k=>frs c k==k).length
def lab(c:Nat->Nat)(i:Nat):Nat:=eg c (frs c i)
theorem pJ(c:Nat->Nat)(i:Nat):eg c (i+1)=eg c i+if frs c i=i then 1 else 0:=by
 unfold eg;rw[range_succ,filter_append,lAp]
 congr 1
 by_cases h:frs c i=i
 .simp[h]
 .simp[h]
theorem Ig{n:Nat}{c d:Nat->Nat}(h:∀ i,i<n->frs c i=frs d i){i:Nat}(hi:i<=n):eg c i=eg d i:=by
 unfold eg
 congr 1
 refine filter_congr fun k hk=>?_;rw[h k (by have:=mem_range.1 hk;omega)]
theorem S1{n:Nat}{c d:Nat->Nat}(h:∀ i,i<n->frs c i=frs d i){i:Nat}(hi:i<n):lab c i=lab d i:=by
 unfold lab;rw[h i hi];exact Ig h (by have:=(oE d i).1;omega)
theorem pK(c:Nat->Nat){i:Nat}:∀ {j},i<=j->eg c i<=eg c j
 | 0,h=>by
        have:i=0:=by omega
        subst this;exact lRf _
 | j+1,h=>by
  by_cases e:i=j+1
  .subst e;exact lRf _
  .have:=pK c (i:=i) (j:=j) (by omega);rw[pJ];omega
theorem DG{c:Nat->Nat}{i:Nat}(h:frs c i=i):lab c i=eg c i:=by unfold lab;rw[h]
theorem Md{c:Nat->Nat}{i k:Nat}(hk:k<i)(h:c k=c i):lab c i=lab c k:=by
 unfold lab;have:frs c i=frs c k:=by
  obtain⟨q1,q2,q3⟩:=oE c k;exact zG (by omega) (q2.trans h) (fun j hj e=>q3 j hj (e.trans h.symm))
 rw[this]
theorem I9(c:Nat->Nat){i j:Nat}(h:i<j):lab c i<eg c j:=by
 unfold lab;obtain⟨q1,q2,q3⟩:=oE c i;have e:frs c (frs c i)=frs c i:=zG (lRf _) rfl (fun k hk e=>q3 k hk (e.trans q2));have h1:=pJ c (frs c i);rw[if_pos e]at h1;have h2:=pK c (i:=frs c i+1) (j:=j) (by omega);omega
def gS(c:Nat->Nat)(n:Nat):B8:=(range n).map fun i=>ltr (lab c i)
theorem vV(c:Nat->Nat)(n:Nat):gS c (n+1)=gS c n++[ltr (lab c n)]:=by simp[gS,range_succ]
theorem tF(c:Nat->Nat)(n:Nat):(gS c n).length=n:=by simp[gS]
theorem Rq{n:Nat}{c d:Nat->Nat}(h:∀ i,i<n->frs c i=frs d i):gS c n=gS d n:=by
 unfold gS;refine map_congr_left fun i hi=>?_;rw[S1 h (mem_range.1 hi)]
def kT(p q:Nat):Nat:=p+q-Nat.gcd p q-1
def iL(p q:Int):Int:=if (1<=p/\p<=60)/\(1<=q/\q<=60) then (if 60<kT p.toNat q.toNat then 3 else if 5<eg (mb (kT p.toNat q.toNat) p.toNat q.toNat) (kT p.toNat q.toNat) then 3 else 0) else 2
def jd(p q:Int):B8:=if iL p q=0 then gS (mb (kT p.toNat q.toNat) p.toNat q.toNat) (kT p.toNat q.toNat) else []
end Go.Proofs.YtapimhjbilkfpaaGreatDoor
namespace Go.Proofs.YtapimhjbilkfpaaGreatDoor
open Go Go.Proofs.Tryz List
def iA(l:B8)(m:Nat):Bool:=l.all fun u=>decide (u.toNat-97<m)
def okW(n:Nat)(w:B8):Bool:=decide (w.length<=12)&&(isWord w&&iA w n)
def aY(ws:List B8):Bool:=decide (1<=ws.length/\ws.length<=5)&&ws.all (okW ws.length)
theorem U9{l:B8}{m i:Nat}(hi:i<l.length)(h:¬ l[i].toNat-97<m):iA l m=false:=by
 unfold iA;rw[all_eq_false];exact⟨_,gMe hi,by simpa using h⟩
theorem nv(l:B8)(m:Nat)(M:Mem)(R:VP)(hl:l.length<=1099511627776)(hw:l.all isL=true)(hm:m<=1099511627776)(h:R (.bool (iA l m)) M):ar prog 92 [str l,.int .i64 m] M R:=by
 refine fnT func92 rfl ntmps92 results92 ?_;refine lupS (rlA [] 4 15) (fun i:Nat=>[(5,.int .i64 i)]) (fun i M'=>M'=M/\i<=l.length/\∀ u∈l.take i,u.toNat-97<m) (fun i=>l.length-i) 0 ⟨rfl,by omega,by simp⟩ ?_
 rintro i M' g ⟨rfl,hi,hp⟩
 by_cases hlt:i<l.length
 .have hx:l[i]?=some l[i]:=gEl hlt;have hr:=eE (all_eq_true.1 hw _ (gMe hlt));by_cases hq:l[i].toNat-97<m
  .have hq':¬(m:Int)<=(l[i].toNat:Int)-97:=by omega
   simp(disch:=omega)[hq'];refine rndS (i+1) ⟨rfl,by omega,?_⟩;rw[aw l hlt];intro u hu;rcases mem_append.1 hu with hu|hu
   .exact hp u hu
   .rw[mem_singleton.1 hu];exact hq
  .have hq':(m:Int)<=(l[i].toNat:Int)-97:=by omega
   rw[U9 hlt hq]at h;simp(disch:=omega)[hq'];exact ad h
 .have hi':i=l.length:=by omega
  subst hi';rw[take_length]at hp;have:iA l m=true:=by unfold iA;rw[all_eq_true];intro u hu;simpa using hp u hu
  rw[this]at h;refine sS ?_;exact ad h
theorem fK(v:Value)(ws:List B8)(M:Mem)(R:VP)(hv:Rd M v (strs ws))(hf:cS ws)(hn:ws.length<=1099511627776)(h:R (.bool (aY ws)) M):ar prog 49 [.agg #[v]] M R:=by
 refine fnS func49 rfl ntmps49 results49 ?_;obtain⟨a,c,rfl,ha⟩:=hv.opened;rw[ah]at ha ⊢;refine sS ?_;intro b1 hb1;have hs:=(Sub.refl M).put hb1 (.cells true [.slice a ws.length c] 1);unfold aY at h;by_cases h1:ws.length<1
 .rw[dFa (by omega:¬(1<=ws.length/\ws.length<=5)),Bool.false_and]at h;have h1':(ws.length:Int)<1:=by omega
  simp(disch:=omega)[h1'];exact ag hs h
 have h1':¬(ws.length:Int)<1:=by omega
 by_cases h5:5<ws.length
 .rw[dFa (by omega:¬(1<=ws.length/\ws.length<=5)),Bool.false_and]at h;have h5':(5:Int)<ws.length:=by omega
  simp(disch:=omega)[h1',h5'];exact ag hs h
 have h5':¬(5:Int)<ws.length:=by omega
 rw[dTr (by omega:1<=ws.length/\ws.length<=5),Bool.true_and]at h;simp(disch:=omega)[h1',h5'];refine lupS (rlA [2,4] 14 31) (fun i:Nat=>[(4,.int .i64 i)]) (fun i M'=>M'=M.put b1 (.cells true [.slice a ws.length c] 1)/\i<=ws.length/\∀ w∈ws.take i,okW ws.length w=true) (fun i=>ws.length-i) 0 ⟨rfl,by omega,by simp⟩ ?_
 rintro i M' g ⟨rfl,hi,hp⟩
 by_cases hlt:i<ws.length
 .rcases ha with h0|⟨b,o,rfl,ha⟩
  .omega
  have hx:ws[i]?=some ws[i]:=gEl hlt;have hg0:=ha i hlt;rw[a7,hx]at hg0;have hne:b≠b1:=by rintro rfl;unfold Mem.get? at hg0;rw[hb1]at hg0;cases hg0
  have hg:(M.put b1 (.cells true [.slice (some ⟨b,o,none⟩) ws.length c] 1)).get? b (o+i)=some (str ws[i]):=by
   unfold Mem.get? at hg0 ⊢;rw[al _ _ hne];exact hg0
  have hwl:=hf _ (gMe hlt);have bad:okW ws.length ws[i]=false->ws.all (okW ws.length)=false:=by
   intro hb;rw[all_eq_false];exact⟨_,gMe hlt,by rw[hb];simp⟩
  by_cases h12:ws[i].length<=12
  .have h12':¬(12:Int)<ws[i].length:=by omega
   simp(disch:=omega)[hg,h12'];refine bg ws[i] _ _ hwl ?_;cases hiw:isWord ws[i]
   .rw[bad (by unfold okW;rw[hiw,Bool.false_and,Bool.and_false])]at h;refine sS ?_;exact ag hs h
   .simp(disch:=omega)[hg];refine nv ws[i] ws.length _ _ hwl (aZ hiw) (by omega) ?_;cases hfe:iA ws[i] ws.length
    .rw[bad (by unfold okW;rw[hfe,Bool.and_false,Bool.and_false])]at h;refine sS ?_;exact ag hs h
    .refine sS ?_;refine rndS (i+1) ⟨rfl,by omega,?_⟩;rw[aw ws hlt];intro w hw;rcases mem_append.1 hw with hw|hw
     .exact hp w hw
     .unfold okW;rw[mem_singleton.1 hw,dTr h12,hiw,hfe];rfl
  .have h12':(12:Int)<ws[i].length:=by omega
   rw[bad (by unfold okW;rw[dFa h12,Bool.false_and])]at h;simp(disch:=omega)[hg,h12'];exact ag hs h
 .have hi':i=ws.length:=by omega
  subst hi';rw[take_length]at hp;rw[all_eq_true.2 hp]at h;refine sS ?_;exact ag hs h
theorem jg(v:Value)(xs:List Value)(M:Mem)(R:VP)(hv:Rd M v xs)(hn:xs.length<=1099511627776)(h:R (.int .i64 xs.length) M):ar prog 88 [.agg #[v]] M R:=by
 refine fnS func88 rfl ntmps88 results88 ?_;obtain⟨a,c,rfl,ha⟩:=hv.opened;refine sS ?_;intro b1 hb1;refine sS ?_;exact ag ((Sub.refl M).put hb1 _) h
theorem Hm(v:Value)(xs:List Value)(l:B8)(M:Mem)(R:VP)(hv:Rd M v xs)(hn:xs.length<=1099511627776)(hl:l.length<=1099511627776)(hw:l.all isL=true)(h:R (.bool (iA l xs.length)) M):ar prog 91 [.agg #[v],str l] M R:=by
 refine fnS func91 rfl ntmps91 results91 ?_;obtain⟨a,c,rfl,ha⟩:=hv.opened;refine sS ?_;intro b1 hb1;refine sS ?_;intro b2 c2 hb2 hc2;have hne:b1≠b2:=by rintro rfl;rw[ae]at hb2;cases hb2
 refine sS ?_;have hs1:=(Sub.refl M).put hb1 (.cells true [.slice a xs.length c] 1);refine mj _ _ (av l) (onB fun u=>decide (u.toNat-97<xs.length)) (fun M'=>M' b1=some (.cells true [.slice a xs.length c] 1)/\Rd M' (.slice a xs.length c) xs) _ _ (Rd.new (aO l) (by simp(disch:=omega) at hc2;omega)) ⟨by rw[al _ _ hne,ae],(hv.put hb1 _).put hb2 _⟩ ?_ ?_ rfl (by rw[aO];omega) ?_
 .intro N b B ⟨q1,q2⟩ hb;have:b1≠b:=by rintro rfl;rw[hb]at q1;cases q1
  exact⟨by rw[al _ _ this,q1],q2.put hb _⟩
 .intro x hx N R' ⟨q1,q2⟩ hR';obtain⟨u,hu,rfl⟩:=vX hx;rw[tP]at hR';have hr:=eE (all_eq_true.1 hw _ hu);refine sS ?_;refine fnT func141 rfl ntmps141 results141 ?_;refine drwS ?_;refine sS ?_;refine aX (a:=[]) (c:=[]) (iN u _ _ ⟨rfl,rfl⟩) ?_;simp(disch:=omega)[aq q1];refine aX (a:=[]) (c:=[]) (jg _ xs _ _ q2 hn ⟨rfl,rfl⟩) ?_;have e:decide (u.toNat-97<xs.length)=decide ((u.toNat:Int)-97<xs.length):=by rw[decide_eq_decide];omega
  rw[e]at hR';refine sS ?_;exact ad hR'
 .rw[vx];refine sS ?_;exact ag (hs1.putN hb2 _) h
theorem np(n:Int)(M:Mem)(R:VP)(h:R (.bool (decide (1<=n/\n<=5))) M):ar prog 87 [.int .i64 n] M R:=by
 refine fnT func87 rfl ntmps87 results87 ?_;refine bJ _ _ _ _ _ ?_;refine sS ?_;exact ad (by simpa using h)
theorem iU(v:Value)(ws:List B8)(M:Mem)(R:VP)(hv:Rd M v (strs ws))(hf:cS ws)(hn:ws.length<=1099511627776)(h:R (.bool (aY ws)) M):ar prog 46 [.agg #[v]] M R:=by
 refine fnS func46 rfl ntmps46 results46 ?_;obtain⟨a,c,rfl,ha⟩:=hv.opened;rw[ah]at ha hv ⊢;refine sS ?_;intro b1 hb1;have hs1:=(Sub.refl M).put hb1 (.cells true [.slice a ws.length c] 1);refine sS ?_;refine jg _ (strs ws) _ _ (hv.put hb1 _) (by rw[ah];omega) ?_;rw[ah];refine sS ?_;refine np _ _ _ ?_;unfold aY at h;by_cases h15:1<=ws.length/\ws.length<=5
 .rw[dTr h15,Bool.true_and]at h;have e:decide (1<=(ws.length:Int)/\(ws.length:Int)<=5)=true:=dTr (by omega);rw[e];refine sS ?_;refine l9 _ _ (strs ws) (onS (okW ws.length)) (fun M'=>M' b1=some (.cells true [.slice a ws.length c] 1)/\Rd M' (.slice a ws.length c) (strs ws)) _ _ (hv.put hb1 _) ⟨ae _ _ _,hv.put hb1 _⟩ ?_ ?_ rfl (by rw[ah];omega) ?_
  .intro N b B ⟨q1,q2⟩ hb;have:b1≠b:=by rintro rfl;rw[hb]at q1;cases q1
   exact⟨by rw[al _ _ this,q1],q2.put hb _⟩
  .intro x hx N R' ⟨q1,q2⟩ hR';obtain⟨w,hw,rfl⟩:=Ag hx;rw[xO]at hR';unfold okW at hR';have hwl:=hf w hw;refine sS ?_;refine fnT func90 rfl ntmps90 results90 ?_;refine fY w _ _ hwl ?_;cases hiw:isWord w
   .rw[hiw,Bool.false_and,Bool.and_false]at hR';refine sS ?_;exact ad hR'
   .rw[hiw,Bool.true_and]at hR';by_cases h12:w.length<=12
    .have h12':(w.length:Int)<=12:=by omega
     rw[dTr h12,Bool.true_and]at hR';simp(disch:=omega)[h12',aq q1];refine Hm _ (strs ws) w _ _ q2 (by rw[ah];omega) hwl (aZ hiw) ?_;rw[ah];refine sS ?_;exact ad hR'
    .have h12':¬(w.length:Int)<=12:=by omega
     rw[dFa h12,Bool.false_and]at hR';simp(disch:=omega)[h12'];exact ad hR'
  .rw[yv];refine sS ?_;exact ag hs1 h
 .rw[dFa h15,Bool.false_and]at h;have e:decide (1<=(ws.length:Int)/\(ws.length:Int)<=5)=false:=dFa (by omega);rw[e];refine sS ?_;exact ag hs1 h
theorem mg(l:B8)(u:UInt8):av l++[.int .u8 u.toNat]=av (l++[u]):=by simp[av]
def named(l:B8):Option (List B8):=
 if l=[102,105,98,111,110,97,99,99,105] then some [[97,98],[97]]
 else if l=[116,104,117,101] then some [[97,98],[98,97]]
 else if l=[100,111,117,98,108,105,110,103] then some [[97,98],[97,97]]
 else if l=[116,114,105,112,108,101] then some [[97,98,99],[97,99],[98]]
 else none
def aS(ws:List B8)(l:B8):B8:=l.flatMap fun u=>ws.getD (u.toNat-97) []
def eD(ws:List B8)(m:Nat):Nat->B8->B8
 | 0,l=>l
 | f+1,l=>if l.length<m then eD ws m f (aS ws l) else l
structure I8(ws:List B8):Prop where
 len:∀ w∈ws,1<=w.length/\w.length<=3
 ltr:∀ w∈ws,∀ u∈w,97<=u.toNat/\u.toNat-97<ws.length
 head:∃ b r rest,ws=(97::b::r)::rest
 few:ws.length<=3
theorem jC{l:B8}{ws:List B8}(h:named l=some ws):I8 ws:=by
 unfold named at h;split at h
 .injection h with h;subst h;exact⟨by decide,by decide,⟨_,_,_,rfl⟩,by decide⟩
 .split at h
  .injection h with h;subst h;exact⟨by decide,by decide,⟨_,_,_,rfl⟩,by decide⟩
  .split at h
   .injection h with h;subst h;exact⟨by decide,by decide,⟨_,_,_,rfl⟩,by decide⟩
   .split at h
    .injection h with h;subst h;exact⟨by decide,by decide,⟨_,_,_,rfl⟩,by decide⟩
    .cases h
structure Grown(ws:List B8)(l:B8):Prop where
 ltr:∀ u∈l,97<=u.toNat/\u.toNat-97<ws.length
 head:∃ r,l=97::r
theorem fe(ws:List B8):aS ws []=[]:=rfl
theorem eW(ws:List B8)(u:UInt8)(l:B8):aS ws (u::l)=ws.getD (u.toNat-97) []++aS ws l:=by simp[aS]
theorem fL(ws:List B8)(u:UInt8)(l:B8):aS ws (l++[u])=aS ws l++ws.getD (u.toNat-97) []:=by simp[aS]
theorem lK{ws:List B8}{k:Nat}(h:k<ws.length):ws.getD k []∈ws:=by
 rw[gDe,gEl h];exact gMe h
theorem dD{ws:List B8}(hn:I8 ws):∀(l:B8),(∀ u∈l,97<=u.toNat/\u.toNat-97<ws.length)->l.length<=(aS ws l).length/\(aS ws l).length<=3*l.length
 | [],_=>⟨lRf _,lRf _⟩
 | u::l,h=>by
  have ih:=dD hn l fun v hv=>h v (mem_cons_of_mem _ hv);have h1:=hn.len _ (lK (h u (mem_cons_self ..)).2);rw[eW,lAp,lCo];omega
theorem Grown.img{ws:List B8}(hn:I8 ws){l:B8}(h:Grown ws l):Grown ws (aS ws l)/\l.length<(aS ws l).length:=by
 obtain⟨r,rfl⟩:=h.head;obtain⟨b,r',rest,hw⟩:=hn.head;have hr:∀ u∈r,97<=u.toNat/\u.toNat-97<ws.length:=fun u hu=>h.ltr u (mem_cons_of_mem _ hu);have hl:=dD hn r hr;have h0:ws.getD ((97:UInt8).toNat-97) []=97::b::r':=by rw[hw];rfl
 refine⟨⟨?_,?_⟩,?_⟩
 .intro u hu;unfold aS at hu;obtain⟨v,hv,hu⟩:=mem_flatMap.1 hu;exact hn.ltr _ (lK (h.ltr v hv).2) u hu
 .rw[eW,h0];exact⟨_,rfl⟩
 .rw[eW,h0];simp only[lAp,lCo];omega
theorem jz{ws:List B8}{m:Nat}{l:B8}(h:m<=l.length):∀ f,eD ws m f l=l
 | 0=>rfl
 | f+1=>by unfold eD;rw[if_neg (by omega)]
theorem jB{ws:List B8}{m f:Nat}{l:B8}(h:l.length<m)(hf:m<=l.length+f):eD ws m f l=eD ws m (f-1) (aS ws l):=by
 match f,hf with
 | 0,hf=>omega
 | f+1,hf=>
         conv=>lhs;unfold eD
         rw[if_pos h];rfl
def hU(l:B8)(m:Int):B8:=
 if 0<=m/\m<=60 then (match named l with|some ws=>(eD ws m.toNat 60 [97]).take m.toNat|none=>[]) else []
def iX(l:B8)(m:Int):Int:=if 0<=m/\m<=60 then (match named l with|some ws=>0|none=>4) else 2
theorem Ev{a b:B8}(h:a=b):(a==b)=true:=by rw[h];exact beq_self_eq_true _
theorem jx{a b:B8}(h:¬ a=b):(a==b)=false:=bNe.2 h
theorem vM(l:B8)(M:Mem)(R:VP)(h0:named l=none->R (.slice none 0 0) M)
  (h1:∀ ws,named l=some ws->∀ b,M b=none->R (.slice (some ⟨b,0,none⟩) ws.length ws.length) (M.put b (.cells true (strs ws) ws.length))):ar prog 217 [str l] M R:=by
 refine fnS func217 rfl ntmps217 results217 ?_;unfold named at h0 h1;by_cases e1:l=[102,105,98,111,110,97,99,99,105]
 .rw[if_pos e1]at h1;have b1:=Ev e1;simp(disch:=omega)[b1];intro b hb;refine sS ?_;exact ad (h1 _ rfl b hb)
 have b1:=jx e1;rw[if_neg e1]at h0 h1;by_cases e2:l=[116,104,117,101]
 .rw[if_pos e2]at h1;have b2:=Ev e2;simp(disch:=omega)[b1,b2];intro b hb;refine sS ?_;exact ad (h1 _ rfl b hb)
 have b2:=jx e2;rw[if_neg e2]at h0 h1;by_cases e3:l=[100,111,117,98,108,105,110,103]
 .rw[if_pos e3]at h1;have b3:=Ev e3;simp(disch:=omega)[b1,b2,b3];intro b hb;refine sS ?_;exact ad (h1 _ rfl b hb)
 have b3:=jx e3;rw[if_neg e3]at h0 h1;by_cases e4:l=[116,114,105,112,108,101]
 .rw[if_pos e4]at h1;have b4:=Ev e4;simp(disch:=omega)[b1,b2,b3,b4];intro b hb;refine sS ?_;exact ad (h1 _ rfl b hb)
 have b4:=jx e4;rw[if_neg e4]at h0;simp(disch:=omega)[b1,b2,b3,b4];exact ad (h0 rfl)
theorem yJ(l:B8)(m:Int)(M:Mem)(R:VP)(hl:l.length<=1099511627776)(h:R (aF (str (hU l m)) (iX l m)) M):ar prog 152 [str l,.int .i64 m] M R:=by
 unfold aF hU iX at h;refine fnT func152 rfl ntmps152 results152 ?_;refine qk m _ _ ?_;by_cases hm:0<=m/\m<=60
 .rw[if_pos hm,if_pos hm]at h;have hd:decide (0<=m/\m<=60)=true:=dTr hm;simp(disch:=omega)[hd];refine vM l _ _ ?_ ?_
  .intro hn;rw[hn]at h;refine sS ?_;exact ad h
  .intro ws hn b hb;rw[hn]at h;dsimp only at h;have nice:=jC hn;have hfew:=nice.few;obtain⟨m,rfl⟩:∃ k:Nat,m=k:=⟨m.toNat,by omega⟩;have hs1:=(Sub.refl M).put hb (.cells true (strs ws) ws.length);refine sS ?_;refine lupS (rlA [7,8,10] 18 20) (fun x:B8×Nat=>[(7,str x.1)]) (fun x M'=>M'=M.put b (.cells true (strs ws) ws.length)/\Grown ws x.1/\x.1.length<=180/\m<=x.1.length+x.2/\eD ws m x.2 x.1=eD ws m 60 [97]) (fun x=>m-x.1.length) ([97],60) ⟨rfl,⟨by obtain⟨p,q,r,hw⟩:=nice.head;intro u hu;rw[mem_singleton.1 hu,hw];exact⟨by decide,by simp⟩,⟨[],rfl⟩⟩,by decide,by simp only[lSi];omega,rfl⟩ ?_
   rintro⟨out,f⟩ M' g ⟨rfl,hg,hl1,hf,he⟩
   simp only at hg hl1 hf he;by_cases hlt:(out.length:Int)<m
   .obtain⟨hg',hl2⟩:=hg.img nice;have hl3:=dD nice out hg.ltr;refine sS ?_;refine bZ out _ _ (by omega) ?_;simp(disch:=omega)[hlt];intro b2 c2 hb2 hc2;refine sS ?_;have hne:b2≠b:=by rintro rfl;rw[ae]at hb2;cases hb2
    refine aR aU (rlA [8,10] 25 12) (fun i:Nat=>[(25,.int .i64 i),(8,str (aS ws (out.take i)))]) (fun i M1=>i<=out.length/\M1=(M.put b (.cells true (strs ws) ws.length)).put b2 (.cells true (av out) c2)) (fun i=>out.length-i) 0 (by kernel_rfl) (by simp(disch:=omega)[fe]) ⟨by omega,rfl⟩ ?_
    rintro i M1 g' ⟨hi,rfl⟩
    by_cases hil:i<out.length
    .have hx:out[i]?=some out[i]:=gEl hil;have hu:=out[i].toNat_lt;have hL:=hg.ltr _ (gMe hil);have hk:((out[i].toNat:Int)-97).toNat=out[i].toNat-97:=by omega
     obtain⟨w,hw,hwl,hsn⟩:∃ w,ws[out[i].toNat-97]'hL.2=w/\w.length<=3/\aS ws (out.take (i+1))=aS ws (out.take i)++w:=
      ⟨_,rfl,(nice.len _ (gMe hL.2)).2,by rw[aw out hil,fL,gDe,gEl hL.2];rfl⟩
     have hil2:=dD nice (out.take i) fun u hu=>hg.ltr u (mem_of_mem_take hu);have hil3:(out.take i).length<=out.length:=by rw[lTa];omega
     refine sS ?_;refine iN _ _ _ ?_;simp(disch:=omega)[hk,hw];refine rndA (i+1) (by simp(disch:=omega)[hsn]) ⟨by omega,rfl⟩
    .have hi':i=out.length:=by omega
     subst hi';refine sS ?_;refine rndM (M.put b (.cells true (strs ws) ws.length)) (aS ws out,f-1) ((Sub.refl _).put hb2 _) ⟨rfl,hg',by simp only;omega,by simp only;omega,?_⟩;simp only;rw[<-jB (by omega) hf];exact he
   .have hmo:m<=out.length:=by omega
    rw[jz hmo]at he;rw[iNa]at h;rw[<-he]at h;refine sS ?_;refine bZ out _ _ (by omega) ?_;simp(disch:=omega)[hlt];exact ag hs1 h
 .rw[if_neg hm,if_neg hm]at h;have hd:decide (0<=m/\m<=60)=false:=dFa hm;simp(disch:=omega)[hd];exact ad h
theorem JR(l:B8)(hl:l=[102,105,98,111,110,97,99,99,105])(ws:List B8)(hws:ws=[[97,98],[97]])(m:Nat)(M:Mem)(R:VP)(hm:m<=60)
  (h:R (.tuple #[str ((eD ws m 60 [97]).take m),.bool true]) M):ar prog 113 [str l,.int .i64 m] M R:=by
 have b1:(l==[102,105,98,111,110,97,99,99,105])=decide (1=1):=by rw[hl];decide
 have b2:(l==[116,104,117,101])=decide (1=2):=by rw[hl];decide
 have b3:(l==[100,111,117,98,108,105,110,103])=decide (1=3):=by rw[hl];decide
 have b4:(l==[116,114,105,112,108,101])=decide (1=4):=by rw[hl];decide
 have hll:l.length<=1099511627776:=by rw[hl];decide
 have nice:I8 ws:=jC (l:=l) (by rw[hl,hws];decide);have hfew:=nice.few;have hlen:ws.length=([[97,98],[97]]:List B8).length:=by rw[hws]
 clear hl;refine fnT func113 rfl ntmps113 results113 ?_;intro b0 hb0;simp(disch:=omega)[b1];intro b hb;have hV:([str [97,98],str [97]]:List Value)=strs ws:=by rw[hws];rfl
 have hs0:=(Sub.refl M).put hb0 (.cells true [] 0);rw[hV];clear hV hws;refine sS ?_;refine lupS (rlA [7,8,9] 24 19) (fun x:B8×Nat=>[(7,str x.1)]) (fun x M'=>M'=(M.put b0 (.cells true [] 0)).put b (.cells true (strs ws) ws.length)/\Grown ws x.1/\x.1.length<=180/\m<=x.1.length+x.2/\eD ws m x.2 x.1=eD ws m 60 [97]) (fun x=>m-x.1.length) ([97],60) ⟨by rw[hlen],⟨by obtain⟨p,q,r,hw⟩:=nice.head;intro u hu;rw[mem_singleton.1 hu,hw];exact⟨by decide,by simp⟩,⟨[],rfl⟩⟩,by decide,by simp only[lSi];omega,rfl⟩ ?_
 rintro⟨out,f⟩ M' g ⟨rfl,hg,hl1,hf,he⟩
 simp only at hg hl1 hf he;by_cases hlt:(out.length:Int)<m
 .obtain⟨hg',hl2⟩:=hg.img nice;have hl3:=dD nice out hg.ltr;simp(disch:=omega)[hlt];refine aR aU (rlA [8,9] 28 14) (fun i:Nat=>[(9,.int .i64 i),(8,str (aS ws (out.take i)))]) (fun i M1=>i<=out.length/\M1=(M.put b0 (.cells true [] 0)).put b (.cells true (strs ws) ws.length)) (fun i=>out.length-i) 0 (by kernel_rfl) (by simp(disch:=omega)[fe]) ⟨by omega,rfl⟩ ?_
  rintro i M1 g' ⟨hi,rfl⟩
  by_cases hil:i<out.length
  .have hx:out[i]?=some out[i]:=gEl hil;have hu:=out[i].toNat_lt;have hL:=hg.ltr _ (gMe hil);have hk:((out[i].toNat:Int)-97).toNat=out[i].toNat-97:=by omega
   obtain⟨w,hw,hwl,hsn⟩:∃ w,ws[out[i].toNat-97]'hL.2=w/\w.length<=3/\aS ws (out.take (i+1))=aS ws (out.take i)++w:=
    ⟨_,rfl,(nice.len _ (gMe hL.2)).2,by rw[aw out hil,fL,gDe,gEl hL.2];rfl⟩
   have hil2:=dD nice (out.take i) fun u hu=>hg.ltr u (mem_of_mem_take hu);have hil3:(out.take i).length<=out.length:=by rw[lTa];omega
   have hL2:(out[i].toNat:Int)-97<([[97,98],[97]]:List B8).length:=by rw[<-hlen];omega
   refine sS ?_;refine jX out i _ _ _ (by omega) hx ?_;simp only[lCo,length_nil]at hL2;simp(disch:=omega)[hk,hw];refine rndA (i+1) (by simp(disch:=omega)[hsn]) ⟨by omega,rfl⟩
  .have hi':i=out.length:=by omega
   subst hi';refine sS ?_;refine rndS (aS ws out,f-1) ⟨rfl,hg',by simp only;omega,by simp only;omega,?_⟩;simp only;rw[<-jB (by omega) hf];exact he
 .have hmo:m<=out.length:=by omega
  rw[jz hmo]at he;rw[<-he]at h;simp(disch:=omega)[hlt];exact ag (hs0.putN hb _) h
theorem Kf(l:B8)(hl:l=[116,104,117,101])(ws:List B8)(hws:ws=[[97,98],[98,97]])(m:Nat)(M:Mem)(R:VP)(hm:m<=60)
  (h:R (.tuple #[str ((eD ws m 60 [97]).take m),.bool true]) M):ar prog 113 [str l,.int .i64 m] M R:=by
 have b1:(l==[102,105,98,111,110,97,99,99,105])=decide (2=1):=by rw[hl];decide
 have b2:(l==[116,104,117,101])=decide (2=2):=by rw[hl];decide
 have b3:(l==[100,111,117,98,108,105,110,103])=decide (2=3):=by rw[hl];decide
 have b4:(l==[116,114,105,112,108,101])=decide (2=4):=by rw[hl];decide
 have hll:l.length<=1099511627776:=by rw[hl];decide
 have nice:I8 ws:=jC (l:=l) (by rw[hl,hws];decide);have hfew:=nice.few;have hlen:ws.length=([[97,98],[98,97]]:List B8).length:=by rw[hws]
 clear hl;refine fnT func113 rfl ntmps113 results113 ?_;intro b0 hb0;simp(disch:=omega)[b1,b2];intro b hb;have hV:([str [97,98],str [98,97]]:List Value)=strs ws:=by rw[hws];rfl
 have hs0:=(Sub.refl M).put hb0 (.cells true [] 0);rw[hV];clear hV hws;refine sS ?_;refine lupS (rlA [7,8,9] 24 19) (fun x:B8×Nat=>[(7,str x.1)]) (fun x M'=>M'=(M.put b0 (.cells true [] 0)).put b (.cells true (strs ws) ws.length)/\Grown ws x.1/\x.1.length<=180/\m<=x.1.length+x.2/\eD ws m x.2 x.1=eD ws m 60 [97]) (fun x=>m-x.1.length) ([97],60) ⟨by rw[hlen],⟨by obtain⟨p,q,r,hw⟩:=nice.head;intro u hu;rw[mem_singleton.1 hu,hw];exact⟨by decide,by simp⟩,⟨[],rfl⟩⟩,by decide,by simp only[lSi];omega,rfl⟩ ?_
 rintro⟨out,f⟩ M' g ⟨rfl,hg,hl1,hf,he⟩
 simp only at hg hl1 hf he;by_cases hlt:(out.length:Int)<m
 .obtain⟨hg',hl2⟩:=hg.img nice;have hl3:=dD nice out hg.ltr;simp(disch:=omega)[hlt];refine aR aU (rlA [8,9] 28 14) (fun i:Nat=>[(9,.int .i64 i),(8,str (aS ws (out.take i)))]) (fun i M1=>i<=out.length/\M1=(M.put b0 (.cells true [] 0)).put b (.cells true (strs ws) ws.length)) (fun i=>out.length-i) 0 (by kernel_rfl) (by simp(disch:=omega)[fe]) ⟨by omega,rfl⟩ ?_
  rintro i M1 g' ⟨hi,rfl⟩
  by_cases hil:i<out.length
  .have hx:out[i]?=some out[i]:=gEl hil;have hu:=out[i].toNat_lt;have hL:=hg.ltr _ (gMe hil);have hk:((out[i].toNat:Int)-97).toNat=out[i].toNat-97:=by omega
   obtain⟨w,hw,hwl,hsn⟩:∃ w,ws[out[i].toNat-97]'hL.2=w/\w.length<=3/\aS ws (out.take (i+1))=aS ws (out.take i)++w:=
    ⟨_,rfl,(nice.len _ (gMe hL.2)).2,by rw[aw out hil,fL,gDe,gEl hL.2];rfl⟩
   have hil2:=dD nice (out.take i) fun u hu=>hg.ltr u (mem_of_mem_take hu);have hil3:(out.take i).length<=out.length:=by rw[lTa];omega
   have hL2:(out[i].toNat:Int)-97<([[97,98],[98,97]]:List B8).length:=by rw[<-hlen];omega
   refine sS ?_;refine jX out i _ _ _ (by omega) hx ?_;simp only[lCo,length_nil]at hL2;simp(disch:=omega)[hk,hw];refine rndA (i+1) (by simp(disch:=omega)[hsn]) ⟨by omega,rfl⟩
  .have hi':i=out.length:=by omega
   subst hi';refine sS ?_;refine rndS (aS ws out,f-1) ⟨rfl,hg',by simp only;omega,by simp only;omega,?_⟩;simp only;rw[<-jB (by omega) hf];exact he
 .have hmo:m<=out.length:=by omega
  rw[jz hmo]at he;rw[<-he]at h;simp(disch:=omega)[hlt];exact ag (hs0.putN hb _) h
theorem Kj(l:B8)(hl:l=[100,111,117,98,108,105,110,103])(ws:List B8)(hws:ws=[[97,98],[97,97]])(m:Nat)(M:Mem)(R:VP)(hm:m<=60)
  (h:R (.tuple #[str ((eD ws m 60 [97]).take m),.bool true]) M):ar prog 113 [str l,.int .i64 m] M R:=by
 have b1:(l==[102,105,98,111,110,97,99,99,105])=decide (3=1):=by rw[hl];decide
 have b2:(l==[116,104,117,101])=decide (3=2):=by rw[hl];decide
 have b3:(l==[100,111,117,98,108,105,110,103])=decide (3=3):=by rw[hl];decide
 have b4:(l==[116,114,105,112,108,101])=decide (3=4):=by rw[hl];decide
 have hll:l.length<=1099511627776:=by rw[hl];decide
 have nice:I8 ws:=jC (l:=l) (by rw[hl,hws];decide);have hfew:=nice.few;have hlen:ws.length=([[97,98],[97,97]]:List B8).length:=by rw[hws]
 clear hl;refine fnT func113 rfl ntmps113 results113 ?_;intro b0 hb0;simp(disch:=omega)[b1,b2,b3];intro b hb;have hV:([str [97,98],str [97,97]]:List Value)=strs ws:=by rw[hws];rfl
 have hs0:=(Sub.refl M).put hb0 (.cells true [] 0);rw[hV];clear hV hws;refine sS ?_;refine lupS (rlA [7,8,9] 24 19) (fun x:B8×Nat=>[(7,str x.1)]) (fun x M'=>M'=(M.put b0 (.cells true [] 0)).put b (.cells true (strs ws) ws.length)/\Grown ws x.1/\x.1.length<=180/\m<=x.1.length+x.2/\eD ws m x.2 x.1=eD ws m 60 [97]) (fun x=>m-x.1.length) ([97],60) ⟨by rw[hlen],⟨by obtain⟨p,q,r,hw⟩:=nice.head;intro u hu;rw[mem_singleton.1 hu,hw];exact⟨by decide,by simp⟩,⟨[],rfl⟩⟩,by decide,by simp only[lSi];omega,rfl⟩ ?_
 rintro⟨out,f⟩ M' g ⟨rfl,hg,hl1,hf,he⟩
 simp only at hg hl1 hf he;by_cases hlt:(out.length:Int)<m
 .obtain⟨hg',hl2⟩:=hg.img nice;have hl3:=dD nice out hg.ltr;simp(disch:=omega)[hlt];refine aR aU (rlA [8,9] 28 14) (fun i:Nat=>[(9,.int .i64 i),(8,str (aS ws (out.take i)))]) (fun i M1=>i<=out.length/\M1=(M.put b0 (.cells true [] 0)).put b (.cells true (strs ws) ws.length)) (fun i=>out.length-i) 0 (by kernel_rfl) (by simp(disch:=omega)[fe]) ⟨by omega,rfl⟩ ?_
  rintro i M1 g' ⟨hi,rfl⟩
  by_cases hil:i<out.length
  .have hx:out[i]?=some out[i]:=gEl hil;have hu:=out[i].toNat_lt;have hL:=hg.ltr _ (gMe hil);have hk:((out[i].toNat:Int)-97).toNat=out[i].toNat-97:=by omega
   obtain⟨w,hw,hwl,hsn⟩:∃ w,ws[out[i].toNat-97]'hL.2=w/\w.length<=3/\aS ws (out.take (i+1))=aS ws (out.take i)++w:=
    ⟨_,rfl,(nice.len _ (gMe hL.2)).2,by rw[aw out hil,fL,gDe,gEl hL.2];rfl⟩
   have hil2:=dD nice (out.take i) fun u hu=>hg.ltr u (mem_of_mem_take hu);have hil3:(out.take i).length<=out.length:=by rw[lTa];omega
   have hL2:(out[i].toNat:Int)-97<([[97,98],[97,97]]:List B8).length:=by rw[<-hlen];omega
   refine sS ?_;refine jX out i _ _ _ (by omega) hx ?_;simp only[lCo,length_nil]at hL2;simp(disch:=omega)[hk,hw];refine rndA (i+1) (by simp(disch:=omega)[hsn]) ⟨by omega,rfl⟩
  .have hi':i=out.length:=by omega
   subst hi';refine sS ?_;refine rndS (aS ws out,f-1) ⟨rfl,hg',by simp only;omega,by simp only;omega,?_⟩;simp only;rw[<-jB (by omega) hf];exact he
 .have hmo:m<=out.length:=by omega
  rw[jz hmo]at he;rw[<-he]at h;simp(disch:=omega)[hlt];exact ag (hs0.putN hb _) h
theorem KD(l:B8)(hl:l=[116,114,105,112,108,101])(ws:List B8)(hws:ws=[[97,98,99],[97,99],[98]])(m:Nat)(M:Mem)(R:VP)(hm:m<=60)
  (h:R (.tuple #[str ((eD ws m 60 [97]).take m),.bool true]) M):ar prog 113 [str l,.int .i64 m] M R:=by
 have b1:(l==[102,105,98,111,110,97,99,99,105])=decide (4=1):=by rw[hl];decide
 have b2:(l==[116,104,117,101])=decide (4=2):=by rw[hl];decide
 have b3:(l==[100,111,117,98,108,105,110,103])=decide (4=3):=by rw[hl];decide
 have b4:(l==[116,114,105,112,108,101])=decide (4=4):=by rw[hl];decide
 have hll:l.length<=1099511627776:=by rw[hl];decide
 have nice:I8 ws:=jC (l:=l) (by rw[hl,hws];decide);have hfew:=nice.few;have hlen:ws.length=([[97,98,99],[97,99],[98]]:List B8).length:=by rw[hws]
 clear hl;refine fnT func113 rfl ntmps113 results113 ?_;intro b0 hb0;simp(disch:=omega)[b1,b2,b3,b4];intro b hb;have hV:([str [97,98,99],str [97,99],str [98]]:List Value)=strs ws:=by rw[hws];rfl
 have hs0:=(Sub.refl M).put hb0 (.cells true [] 0);rw[hV];clear hV hws;refine sS ?_;refine lupS (rlA [7,8,9] 24 19) (fun x:B8×Nat=>[(7,str x.1)]) (fun x M'=>M'=(M.put b0 (.cells true [] 0)).put b (.cells true (strs ws) ws.length)/\Grown ws x.1/\x.1.length<=180/\m<=x.1.length+x.2/\eD ws m x.2 x.1=eD ws m 60 [97]) (fun x=>m-x.1.length) ([97],60) ⟨by rw[hlen],⟨by obtain⟨p,q,r,hw⟩:=nice.head;intro u hu;rw[mem_singleton.1 hu,hw];exact⟨by decide,by simp⟩,⟨[],rfl⟩⟩,by decide,by simp only[lSi];omega,rfl⟩ ?_
 rintro⟨out,f⟩ M' g ⟨rfl,hg,hl1,hf,he⟩
 simp only at hg hl1 hf he;by_cases hlt:(out.length:Int)<m
 .obtain⟨hg',hl2⟩:=hg.img nice;have hl3:=dD nice out hg.ltr;simp(disch:=omega)[hlt];refine aR aU (rlA [8,9] 28 14) (fun i:Nat=>[(9,.int .i64 i),(8,str (aS ws (out.take i)))]) (fun i M1=>i<=out.length/\M1=(M.put b0 (.cells true [] 0)).put b (.cells true (strs ws) ws.length)) (fun i=>out.length-i) 0 (by kernel_rfl) (by simp(disch:=omega)[fe]) ⟨by omega,rfl⟩ ?_
  rintro i M1 g' ⟨hi,rfl⟩
  by_cases hil:i<out.length
  .have hx:out[i]?=some out[i]:=gEl hil;have hu:=out[i].toNat_lt;have hL:=hg.ltr _ (gMe hil);have hk:((out[i].toNat:Int)-97).toNat=out[i].toNat-97:=by omega
   obtain⟨w,hw,hwl,hsn⟩:∃ w,ws[out[i].toNat-97]'hL.2=w/\w.length<=3/\aS ws (out.take (i+1))=aS ws (out.take i)++w:=
    ⟨_,rfl,(nice.len _ (gMe hL.2)).2,by rw[aw out hil,fL,gDe,gEl hL.2];rfl⟩
   have hil2:=dD nice (out.take i) fun u hu=>hg.ltr u (mem_of_mem_take hu);have hil3:(out.take i).length<=out.length:=by rw[lTa];omega
   have hL2:(out[i].toNat:Int)-97<([[97,98,99],[97,99],[98]]:List B8).length:=by rw[<-hlen];omega
   refine sS ?_;refine jX out i _ _ _ (by omega) hx ?_;simp only[lCo,length_nil]at hL2;simp(disch:=omega)[hk,hw];refine rndA (i+1) (by simp(disch:=omega)[hsn]) ⟨by omega,rfl⟩
  .have hi':i=out.length:=by omega
   subst hi';refine sS ?_;refine rndS (aS ws out,f-1) ⟨rfl,hg',by simp only;omega,by simp only;omega,?_⟩;simp only;rw[<-jB (by omega) hf];exact he
 .have hmo:m<=out.length:=by omega
  rw[jz hmo]at he;rw[<-he]at h;simp(disch:=omega)[hlt];exact ag (hs0.putN hb _) h
theorem qm(l:B8)(m:Nat)(M:Mem)(R:VP)(hl:l.length<=1099511627776)(hm:m<=60)
  (h:R (match named l with|some ws=>.tuple #[str ((eD ws m 60 [97]).take m),.bool true]|none=>.tuple #[str [],.bool false]) M):ar prog 113 [str l,.int .i64 m] M R:=by
 by_cases e1:l=[102,105,98,111,110,97,99,99,105]
 .exact JR l e1 _ rfl m M R hm (by rw[show named l=some [[97,98],[97]] by rw[e1];decide]at h;exact h)
 by_cases e2:l=[116,104,117,101]
 .exact Kf l e2 _ rfl m M R hm (by rw[show named l=some [[97,98],[98,97]] by rw[e2];decide]at h;exact h)
 by_cases e3:l=[100,111,117,98,108,105,110,103]
 .exact Kj l e3 _ rfl m M R hm (by rw[show named l=some [[97,98],[97,97]] by rw[e3];decide]at h;exact h)
 by_cases e4:l=[116,114,105,112,108,101]
 .exact KD l e4 _ rfl m M R hm (by rw[show named l=some [[97,98,99],[97,99],[98]] by rw[e4];decide]at h;exact h)
 have hn:named l=none:=by unfold named;rw[if_neg e1,if_neg e2,if_neg e3,if_neg e4]
 rw[hn]at h;dsimp only at h;refine fnT func113 rfl ntmps113 results113 ?_;intro b0 hb0;simp(disch:=omega)[jx e1,jx e2,jx e3,jx e4];exact ag ((Sub.refl _).put hb0 _) h
theorem zT(l:B8)(m:Int)(M:Mem)(R:VP)(hl:l.length<=1099511627776)(h:R (aF (str (hU l m)) (iX l m)) M):ar prog 62 [str l,.int .i64 m] M R:=by
 unfold aF hU iX at h;refine fnT func62 rfl ntmps62 results62 ?_;refine ck m 0 60 _ _ ?_;by_cases hm:0<=m/\m<=60
 .rw[if_pos hm,if_pos hm]at h;have hd:decide (0<=m/\m<=60)=true:=dTr hm;obtain⟨m,rfl⟩:∃ k:Nat,m=k:=⟨m.toNat,by omega⟩;refine sS ?_;refine qm l m _ _ hl (by omega) ?_;cases hn:named l with
  | none=>
   rw[hn]at h;dsimp only at h ⊢;refine sS ?_;exact ad h
  | some ws=>
   rw[hn]at h;dsimp only at h ⊢;refine sS ?_;exact ad h
 .rw[if_neg hm,if_neg hm]at h;have hd:decide (0<=m/\m<=60)=false:=dFa hm;simp(disch:=omega)[hd];exact ad h
def iM(ws:List B8)(w:B8):Int:=if aY ws&&isWord w then (if iA w ws.length then 0 else 2) else 1
def iY(ws:List B8)(w:B8)(k:Int):Int:=if aY ws&&isWord w then (if iA w ws.length&&decide (0<=k/\k<=100) then 0 else 2) else 1
theorem aW{ws:List B8}(h:aY ws=true):1<=ws.length/\ws.length<=5:=by
 unfold aY at h;rw[bAn,dTe]at h;exact h.1
theorem bH{ws:List B8}(h:aY ws=true){w:B8}(hw:w∈ws):w.length<=12/\isWord w=true/\iA w ws.length=true:=by
 unfold aY at h;rw[bAn]at h;have:=all_eq_true.1 h.2 w hw;unfold okW at this;simpa using this
def Lt(ws:List B8)(l:B8):Prop:=∀ u∈l,97<=u.toNat/\u.toNat-97<ws.length
theorem y5{ws:List B8}{l:B8}(hw:l.all isL=true)(hf:iA l ws.length=true):Lt ws l:=by
 intro u hu;have h1:=eE (all_eq_true.1 hw u hu);have h2:=all_eq_true.1 hf u hu;rw[dTe]at h2;exact⟨h1.1,h2⟩
theorem JS{ws:List B8}(hm:aY ws=true){l:B8}(h:Lt ws l):Lt ws (aS ws l):=by
 intro u hu;unfold aS at hu;obtain⟨v,hv,hu⟩:=mem_flatMap.1 hu;have:=bH hm (lK (h v hv).2);exact y5 (aZ this.2.1) this.2.2 u hu
theorem jj{ws:List B8}(hm:aY ws=true):∀ {l:B8},Lt ws l->(aS ws l).length<=12*l.length
 | [],_=>lRf _
 | u::l,h=>by
  have ih:=jj hm (l:=l) fun v hv=>h v (mem_cons_of_mem _ hv);have h1:=(bH hm (lK (h u (mem_cons_self ..)).2)).1;rw[eW,lAp,lCo];omega
theorem LH{ws:List B8}{l:B8}(h:Lt ws l)(i:Nat):Lt ws (l.take i):=fun u hu=>h u (mem_of_mem_take hu)
theorem aT{M N:Mem}{b i:Nat}{v:Value}(h:M.get? b i=some v)(hs:Sub M N):N.get? b i=some v:=by
 unfold Mem.get? at h ⊢;cases hMb:M b with
 | none=>rw[hMb]at h;cases h
 | some B=>rw[hMb]at h;rw[hs _ _ hMb];exact h
theorem te(v:Value)(ws:List B8)(w:B8)(M:Mem)(R:VP)(hv:Rd M v (strs ws))(hf:cS ws)(hn:ws.length<=1099511627776)(hl:w.length<=1099511627776)(h:R (.int .i64 (iM ws w)) M):ar prog 181 [.agg #[v],str w] M R:=by
 refine fnS func181 rfl ntmps181 results181 ?_;obtain⟨a,c,rfl,ha⟩:=hv.opened;rw[ah]at ha hv ⊢;refine sS ?_;intro b1 hb1;have hs1:=(Sub.refl M).put hb1 (.cells true [.slice a ws.length c] 1);have hv1:=hv.put hb1 (.cells true [.slice a ws.length c] 1);unfold iM at h;refine sS ?_;refine fK _ ws _ _ hv1 hf hn ?_;cases e1:aY ws
 .rw[e1,Bool.false_and]at h;refine sS ?_;exact ag hs1 h
 .rw[e1,Bool.true_and]at h;refine sS ?_;refine bg w _ _ hl ?_;cases e2:isWord w
  .rw[e2]at h;refine sS ?_;exact ag hs1 h
  .rw[e2,if_pos rfl]at h;refine sS ?_;refine nv w ws.length _ _ hl (aZ e2) (by omega) ?_;cases e3:iA w ws.length
   .rw[e3]at h;refine sS ?_;exact ag hs1 h
   .rw[e3]at h;refine sS ?_;exact ag hs1 h
theorem lb(v:Value)(ws:List B8)(l:B8)(M:Mem)(R:VP)(hv:Rd M v (strs ws))(hm:aY ws=true)(hl:l.length<=60)(hlt:Lt ws l)(h:R (str (aS ws l)) M):ar prog 182 [.agg #[v],str l] M R:=by
 refine fnS func182 rfl ntmps182 results182 ?_;obtain⟨a,c,rfl,ha⟩:=hv.opened;have h15:=aW hm;rw[ah]at ha hv ⊢;refine sS ?_;intro b1 hb1;have hs1:=(Sub.refl M).put hb1 (.cells true [.slice a ws.length c] 1);rcases ha with h0|⟨b,o,rfl,ha⟩
 .omega
 refine sS ?_;refine aR aU (rlA [] 5 18) (fun i:Nat=>[(6,.int .i64 i),(5,str (aS ws (l.take i)))]) (fun i M'=>M'=M.put b1 (.cells true [.slice (some ⟨b,o,none⟩) ws.length c] 1)/\i<=l.length) (fun i=>l.length-i) 0 (by kernel_rfl) (by simp(disch:=omega)[fe]) ⟨rfl,by omega⟩ ?_
 rintro i M' g ⟨rfl,hi⟩
 by_cases hil:i<l.length
 .have hx:l[i]?=some l[i]:=gEl hil;have hL:=hlt _ (gMe hil);have hu:=l[i].toNat_lt;have hk:((l[i].toNat:Int)-97).toNat=l[i].toNat-97:=by omega
  obtain⟨x,hx1,hxl,hsn⟩:∃ x,ws[l[i].toNat-97]'hL.2=x/\x.length<=12/\aS ws (l.take (i+1))=aS ws (l.take i)++x:=
   ⟨_,rfl,(bH hm (gMe hL.2)).1,by rw[aw l hil,fL,gDe,gEl hL.2];rfl⟩
  have hil2:=jj hm (LH hlt i);have hil3:(l.take i).length<=l.length:=by rw[lTa];omega
  have hg0:=ha (l[i].toNat-97) hL.2;rw[a7,gEl hL.2,hx1]at hg0;have hg:=aT hg0 hs1;refine sS ?_;refine drwS ?_;simp(disch:=omega)[hk,hg];refine rndA (i+1) (by simp(disch:=omega)[hsn]) ⟨rfl,by omega⟩
 .have hi':i=l.length:=by omega
  subst hi';rw[take_length];refine sS ?_;exact ag hs1 h
theorem mr(v:Value)(ws:List B8)(l:B8)(M:Mem)(R:VP)(hv:Rd M v (strs ws))(hm:aY ws=true)(hl:l.length<=60)(hlt:Lt ws l)(h:R (str (aS ws l)) M):ar prog 257 [.agg #[v],str l] M R:=by
 refine fnS func257 rfl ntmps257 results257 ?_;obtain⟨a,c,rfl,ha⟩:=hv.opened;have h15:=aW hm;rw[ah]at ha hv ⊢;refine sS ?_;intro b1 hb1;have hs1:=(Sub.refl M).put hb1 (.cells true [.slice a ws.length c] 1);rcases ha with h0|⟨b,o,rfl,ha⟩
 .omega
 refine sS ?_;intro b2 c2 hb2 hc2;have hs2:=hs1.putN hb2 (.cells true (av l) c2);have e12:b1≠b2:=by rintro rfl;rw[ae]at hb2;cases hb2
 have k1:((M.put b1 (.cells true [.slice (some ⟨b,o,none⟩) ws.length c] 1)).put b2 (.cells true (av l) c2)) b1=some (.cells true [.slice (some ⟨b,o,none⟩) ws.length c] 1):=(al _ _ e12).trans (ae _ _ _);have k2:=ae (M.put b1 (.cells true [.slice (some ⟨b,o,none⟩) ws.length c] 1)) b2 (.cells true (av l) c2);refine sS ?_;generalize (M.put b1 (.cells true [.slice (some ⟨b,o,none⟩) ws.length c] 1)).put b2 (.cells true (av l) c2)=N at *;refine aR aU (rlA [5,7] 11 13) (fun i:Nat=>[(11,.int .i64 i),(5,str (aS ws (l.take i)))]) (fun i M'=>M'=N/\i<=l.length) (fun i=>l.length-i) 0 (by kernel_rfl) (by simp(disch:=omega)[fe]) ⟨rfl,by omega⟩ ?_
 rintro i M' g ⟨rfl,hi⟩
 by_cases hil:i<l.length
 .have hx:l[i]?=some l[i]:=gEl hil;have hL:=hlt _ (gMe hil);have hu:=l[i].toNat_lt;have hk:((l[i].toNat:Int)-97).toNat=l[i].toNat-97:=by omega
  obtain⟨x,hx1,hxl,hsn⟩:∃ x,ws[l[i].toNat-97]'hL.2=x/\x.length<=12/\aS ws (l.take (i+1))=aS ws (l.take i)++x:=
   ⟨_,rfl,(bH hm (gMe hL.2)).1,by rw[aw l hil,fL,gDe,gEl hL.2];rfl⟩
  have hil2:=jj hm (LH hlt i);have hil3:(l.take i).length<=l.length:=by rw[lTa];omega
  have hg0:=ha (l[i].toNat-97) hL.2;rw[a7,gEl hL.2,hx1]at hg0;have hg:=aT hg0 hs2;simp(disch:=omega)[ak k2];refine drwS ?_;simp(disch:=omega)[ak k1];refine aX (a:=[]) (c:=[]) (iN _ _ _ ⟨rfl,rfl⟩) ?_;simp(disch:=omega)[hk,hg];refine rndA (i+1) (by simp(disch:=omega)[hsn]) ⟨rfl,by omega⟩
 .have hi':i=l.length:=by omega
  subst hi';rw[take_length];refine sS ?_;exact ag hs2 h
theorem dH(v fv sv:Value)(ws us:List B8)(b:Bool)(G:Mem->Prop)(M:Mem)(R:VP)(hv:Rd M v (strs ws))(hf:cS ws)(hn:ws.length<=1099511627776)(hs:Rd M sv (strs us))(hfu:cS us)(hnu:us.length<=1099511627776)
  (hfl:bE fv=true) (hG:G M) (hst:oK G) (ht:E5 prog fv b G) (h:R (.int .i64 (if aY ws then ia us (us.all (fun u=>iA u ws.length)&&b) else 1)) M):ar prog 228 [.agg #[v],fv,sv] M R:=by
 refine fnS func228 rfl ntmps228 results228 ?_;obtain⟨a,c,rfl,ha⟩:=hv.opened;obtain⟨a',c',rfl,ha'⟩:=hs.opened;rw[ah]at hv hs ⊢;rw[ah];refine sS ?_;intro b3 hb3;refine sS ?_;intro b4 hb4;refine sS ?_;intro b5 hb5;have n4:=hb4;have n5:=hb5;rw[aG]at n4;rw[aG,aG]at n5;have hs5:Sub M (((M.put b3 (.cells true [.slice a ws.length c] 1)).put b4 (.cells true [fv] 1)).put b5 (.cells true [.slice a' us.length c'] 1)):=(((Sub.refl M).put hb3 _).putN hb4 _).putN hb5 _;have k3:(((M.put b3 (.cells true [.slice a ws.length c] 1)).put b4 (.cells true [fv] 1)).put b5 (.cells true [.slice a' us.length c'] 1)) b3=some (.cells true [.slice a ws.length c] 1):=by rw[al _ _ (Ne.symm n5.2.1),al _ _ (Ne.symm n4.1)];exact ae _ _ _
 have k4:(((M.put b3 (.cells true [.slice a ws.length c] 1)).put b4 (.cells true [fv] 1)).put b5 (.cells true [.slice a' us.length c'] 1)) b4=some (.cells true [fv] 1):=by rw[al _ _ (Ne.symm n5.1)];exact ae _ _ _
 have k5:(((M.put b3 (.cells true [.slice a ws.length c] 1)).put b4 (.cells true [fv] 1)).put b5 (.cells true [.slice a' us.length c'] 1)) b5=some (.cells true [.slice a' us.length c'] 1):=ae _ _ _;refine sS ?_;have hG5:=hst _ _ (.cells true [.slice a' us.length c'] 1) (hst _ _ (.cells true [fv] 1) (hst _ _ (.cells true [.slice a ws.length c] 1) hG hb3) hb4) hb5;generalize (((M.put b3 (.cells true [.slice a ws.length c] 1)).put b4 (.cells true [fv] 1)).put b5 (.cells true [.slice a' us.length c'] 1))=N at *;refine iU _ ws _ _ (hv.sub hs5) hf hn ?_;cases hm:aY ws
 .rw[hm]at h;refine sS ?_;exact ag hs5 h
 .rw[hm,if_pos rfl]at h;simp(disch:=omega)[ak k5];refine oL _ _ us (us.all (fun u=>iA u ws.length)&&b) (fun M'=>Sub N M'/\G M') _ _ (hs.sub hs5) hfu hnu ⟨Sub.refl N,hG5⟩ ?_ ?_ ?_
  .intro K b' B ⟨q1,q2⟩ hb;exact⟨q1.putN hb _,hst _ _ _ q2 hb⟩
  .intro hall K R' ⟨q1,q2⟩ hR';have j3:=q1 _ _ k3;have j4:=q1 _ _ k4;have j5:=q1 _ _ k5;refine sS ?_;refine fnS func314 rfl ntmps314 results314 ?_;simp(disch:=omega)[ak j5,aq j3];refine l9 _ _ (strs us) (onS fun u=>iA u ws.length) (fun M'=>Rd M' (.slice a ws.length c) (strs ws)) _ _ ((hs.sub hs5).sub q1) ((hv.sub hs5).sub q1) (fun K2 b' B q hb=>q.put hb _) ?_ rfl (by rw[ah];omega) ?_
   .intro x hx K2 R2 q hR2;obtain⟨u,hu,rfl⟩:=Ag hx;rw[xO]at hR2;have hwu:=all_eq_true.1 hall u hu;refine sS ?_;refine Hm _ (strs ws) u _ _ q (by rw[ah];omega) (hfu u hu) (aZ hwu) ?_;rw[ah];exact hR2
   .rw[yv];cases hall2:us.all fun u=>iA u ws.length
    .rw[hall2,Bool.false_and]at hR';refine sS ?_;exact ad hR'
    .rw[hall2,Bool.true_and]at hR';simp(disch:=omega)[ak j4];refine ht _ _ q2 ?_;refine sS ?_;exact ad hR'
  .refine sS ?_;exact ag hs5 h
def qp(ws:List B8):Nat->B8->Option B8
 | 0,w=>some w
 | k+1,w=>if 60<(aS ws w).length then none else qp ws k (aS ws w)
theorem Ae(ws:List B8)(w:B8):qp ws 0 w=some w:=rfl
theorem q9(ws:List B8)(k:Nat)(w:B8):qp ws (k+1) w=if 60<(aS ws w).length then none else qp ws k (aS ws w):=rfl
def oP(ws:List B8)(w:B8)(k:Int):B8:=if iY ws w k=0 then (match qp ws k.toNat w with|some x=>x|none=>[]) else []
def od(ws:List B8)(w:B8)(k:Int):Int:=if iY ws w k=0 then (match qp ws k.toNat w with|some x=>0|none=>3) else iY ws w k
theorem lZ{ws:List B8}{w:B8}{k:Int}(h:iY ws w k=0):aY ws=true/\isWord w=true/\iA w ws.length=true/\0<=k/\k<=100:=by
 unfold iY at h;split at h
 .rename_i h1;split at h
  .rename_i h2;rw[bAn]at h1 h2;rw[dTe]at h2;exact⟨h1.1,h1.2,h2.1,h2.2.1,h2.2.2⟩
  .cases h
 .cases h
theorem Fc(v:Value)(ws:List B8)(w:B8)(k:Int)(M:Mem)(R:VP)(hv:Rd M v (strs ws))(hf:cS ws)(hn:ws.length<=1099511627776)(hl:w.length<=1099511627776)(h:R (aF (str (oP ws w k)) (od ws w k)) M):ar prog 227 [.agg #[v],str w,.int .i64 k] M R:=by
 refine fnS func227 rfl ntmps227 results227 ?_;obtain⟨a,c,rfl,ha⟩:=hv.opened;rw[ah]at hv ⊢;refine sS ?_;intro b3 hb3;refine sS ?_;intro b5 hb5;have n5:=hb5;rw[aG]at n5;refine sS ?_;intro b12 hb12;have n12:=hb12;rw[aG,aG]at n12;have hs:Sub M (((M.put b3 (.cells true [.slice a ws.length c] 1)).put b5 (.cells true [.int .i64 k] 1)).put b12 (.cells true [str w] 1)):=(((Sub.refl M).put hb3 _).putN hb5 _).putN hb12 _;have k3:(((M.put b3 (.cells true [.slice a ws.length c] 1)).put b5 (.cells true [.int .i64 k] 1)).put b12 (.cells true [str w] 1)) b3=some (.cells true [.slice a ws.length c] 1):=by rw[al _ _ (Ne.symm n12.2.1),al _ _ (Ne.symm n5.1)];exact ae _ _ _
 have k5:(((M.put b3 (.cells true [.slice a ws.length c] 1)).put b5 (.cells true [.int .i64 k] 1)).put b12 (.cells true [str w] 1)) b5=some (.cells true [.int .i64 k] 1):=by rw[al _ _ (Ne.symm n12.1)];exact ae _ _ _
 have k12:Rd (((M.put b3 (.cells true [.slice a ws.length c] 1)).put b5 (.cells true [.int .i64 k] 1)).put b12 (.cells true [str w] 1)) (.slice (some ⟨b12,0,none⟩) 1 1) (strs [w]):=Rd.new rfl (lRf 1);refine sS ?_;generalize (((M.put b3 (.cells true [.slice a ws.length c] 1)).put b5 (.cells true [.int .i64 k] 1)).put b12 (.cells true [str w] 1))=N at *;refine dH _ _ _ ws [w] (decide (0<=k/\k<=100)) (fun M'=>M' b5=some (.cells true [.int .i64 k] 1)) _ _ (hv.sub hs) hf hn k12 (gM hl) (by simp) rfl k5 ?_ ?_ ?_
 .intro K b' B q hb;have:b5≠b':=by rintro rfl;rw[hb]at q;cases q
  rw[al _ _ this];exact q
 .intro K R' q hR';refine sS ?_;refine fnS func313 rfl ntmps313 results313 ?_;simp(disch:=omega)[ak q];refine bJ k 0 100 _ _ ?_;refine sS ?_;exact ad (by simpa using hR')
 .have hcode:(if aY ws then ia [w] ([w].all (fun u=>iA u ws.length)&&decide (0<=k/\k<=100)) else 1)=iY ws w k:=by
   unfold iY;rw[dq];simp only[all_cons,all_nil,Bool.and_true];cases aY ws<;>cases isWord w<;>rfl
  rw[hcode];unfold oP od at h;by_cases h0:iY ws w k=0
  .obtain⟨g1,g2,g3,g4,g5⟩:=lZ h0;rw[if_pos h0,if_pos h0]at h;have hb:(iY ws w k==0)=true:=by rw[h0];rfl
   rw[h0];obtain⟨k,rfl⟩:∃ n:Nat,k=n:=⟨k.toNat,by omega⟩;rw[iNa]at h;simp(disch:=omega)[ak k5];refine lupS (rlA [1,6,7] 18 9) (fun x:Nat×B8=>[(18,.int .i64 x.1),(1,str x.2)]) (fun x M'=>M'=N/\x.1<=k/\x.2.length<=60/\Lt ws x.2/\qp ws (k-x.1) x.2=qp ws k w) (fun x=>k-x.1) (0,w) ⟨rfl,by omega,au g2,y5 (aZ g2) g3,rfl⟩ ?_
   rintro⟨i,x⟩ M' g ⟨rfl,hi,hx6,hx,hit⟩
   simp only at hi hx6 hx hit;by_cases hlt:i<k
   .have hil:=jj g1 hx;rw[show k-i=(k-(i+1))+1 by omega,q9]at hit;simp(disch:=omega)[aq k3];refine mr _ ws x _ _ (hv.sub hs) g1 hx6 hx ?_;by_cases hbig:60<(aS ws x).length
    .rw[if_pos hbig]at hit;have hbig':(60:Int)<(aS ws x).length:=by omega
     rw[<-hit]at h;simp(disch:=omega)[hbig'];exact ag hs h
    .rw[if_neg hbig]at hit;have hbig':¬(60:Int)<(aS ws x).length:=by omega
     simp(disch:=omega)[hbig'];exact rndS (i+1,aS ws x) ⟨rfl,by simp only;omega,by simp only;omega,JS g1 hx,hit⟩
   .have hi':i=k:=by omega
    subst hi';rw[Nat.sub_self,Ae]at hit;rw[<-hit]at h;refine sS ?_;exact ag hs h
  .rw[if_neg h0,if_neg h0]at h;have hb:(iY ws w k==0)=false:=bNe.2 h0;generalize iY ws w k=code at *;simp(disch:=omega)[hb];exact ag hs h
def Src(M:Mem)(b:Nat):Prop:=∃(v:Value) (xs:B8) (i:Nat) (h:Int),M b=some (.cells true [v,.int .i64 i,.int .u64 h] 3)/\Rd (M.del b) v (av xs)/\xs.length<=140737488355328/\i<=xs.length
theorem tB(M:Mem)(b:Nat):(M.del b) b=none:=by simp[Mem.del]
theorem AX(M:Mem)(b:Nat):Sub (M.del b) M:=by
 intro i B hi;by_cases e:i=b
 .simp[Mem.del,e]at hi
 .simpa[Mem.del,e] using hi
theorem IC{D M:Mem}{b:Nat}(hs:Sub D M)(hb:D b=none):Sub D (M.del b):=by
 intro i B hi;have hne:i≠b:=by rintro rfl;rw[hb]at hi;cases hi
 simp only[Mem.del,if_neg hne];exact hs _ _ hi
theorem Uy(a:Nat):∃ r:Nat,r<=16777215/\IntKind.i64.wrap (IntKind.u64.wrap ((a &&& 16777215%2 ^ IntKind.u64.bits:Nat):Int))=r:=by
 have e:16777215%2 ^ IntKind.u64.bits=16777215:=by decide
 rw[e];have h:a &&& 16777215<=16777215:=Nat.and_le_right;refine⟨a &&& 16777215,h,?_⟩;generalize a &&& 16777215=r at *;simp[IntKind.wrap,IntKind.bits,IntKind.signed];omega
theorem LF{a n:Int}(ha:0<=a)(hn:1<=n):0<=a.tmod n/\a.tmod n<n:=by
 rw[Int.tmod_eq_emod_of_nonneg ha];exact⟨Int.emod_nonneg _ (by omega),Int.emod_lt_of_pos _ (by omega)⟩
theorem R4{M:Mem}{b:Nat}{v:Value}{xs:B8}(hb:M b=none)(hv:Rd M v (av xs))(hl:xs.length<=140737488355328)(w:Int):Src (M.put b (.cells true [v,.int .i64 0,.int .u64 w] 3)) b:=by
 refine⟨v,xs,0,w,ae _ _ _,hv.sub ?_,hl,lZe _⟩;exact IC ((Sub.refl M).put hb _) hb
theorem Du(v:Value)(xs:B8) (M:Mem)(R:VP)(hv:Rd M v (av xs))(hl:xs.length<=4096)(h:∀ b M',M b=none->Sub M M'->Src M' b->R (.pointer (some ⟨b,0,none⟩)) M'):ar prog 38 [v] M R:=by
 obtain⟨a,c,rfl,ha⟩:=hv.opened;rw[aO]at ha hv ⊢;refine fnT func38 rfl ntmps38 results38 ?_;intro b hb;refine sS ?_;refine lupS (rlA [4] 12 25) (fun x:Nat×Int=>[(4,.int .i64 x.1)]) (fun x M'=>x.1<=xs.length/\M'=M.put b (.cells true [.slice a xs.length c,.int .i64 0,.int .u64 x.2] 3)) (fun x=>xs.length-x.1) (0,_) ⟨lZe _,rfl⟩ ?_
 rintro⟨i,w⟩ M' g ⟨hi,rfl⟩
 simp only at hi;have hN:=ae M b (.cells true [.slice a xs.length c,.int .i64 0,.int .u64 w] 3);have hs:=(Sub.refl M).put hb (.cells true [.slice a xs.length c,.int .i64 0,.int .u64 w] 3);have hsrc:=R4 hb hv (by omega) w;by_cases hil:i<xs.length
 .have hil':(i:Int)<xs.length:=by omega
  have hi4:(i:Int)<4096:=by omega
  rcases ha with hz|⟨b2,o2,rfl,ha⟩
  .omega
  have hg:=ha i hil;unfold av at hg;rw[getElem?_map,gEl hil,Option.map_some]at hg;have hg2:=aT hg hs;simp(disch:=omega)[hil',hi4];refine plyS (ai [0,1,2,3,4,5,6,7,8,9,10,11,12,13,14] (.one 15 2 .fin)) ?_;simp(disch:=omega)[ak hN,hg2,aj];refine rndS (i+1,_) ⟨by simp only;omega,by simp only[aN];rfl⟩
 .have hil':¬(i:Int)<xs.length:=by omega
  simp(disch:=omega)[hil'];exact ad (h b _ hb hs hsrc)
theorem Rx(v:Value)(xs:B8)(M:Mem)(R:VP)(hv:Rd M v (av xs))(hl:xs.length<=9223372036854775807)(h:R (.bool (decide (4096<xs.length))) M):ar prog 21 [v] M R:=by
 obtain⟨a,c,rfl,ha⟩:=hv.opened;rw[aO];refine fnT func21 rfl ntmps21 results21 ?_;have e:decide ((4096:Int)<xs.length)=decide (4096<xs.length):=by rw[decide_eq_decide];omega
 rw[e];exact ad h
end Go.Proofs.YtapimhjbilkfpaaGreatDoor
namespace Go.Proofs.YtapimhjbilkfpaaGreatDoor
open List
def bU{S A:Type}(step:S->A->S×Bool):S->List A->S×Bool
 | s,[]=>(s,false)
 | s,x::l=>if (step s x).2 then ((step s x).1,true) else bU step (step s x).1 l
theorem nK{S A:Type}(step:S->A->S×Bool)(s:S):bU step s []=(s,false):=rfl
theorem zv{S A:Type}(step:S->A->S×Bool)(s:S)(x:A):bU step s [x]=step s x:=by
 unfold bU bU;cases h:(step s x).2
 .simp[<-h]
 .simp[<-h]
theorem oD{S A:Type}(step:S->A->S×Bool):∀(a b:List A) (s:S),bU step s (a++b)=if (bU step s a).2 then bU step s a else bU step (bU step s a).1 b
 | [],b,s=>rfl
 | x::a,b,s=>by
  rw[cons_append]
  conv=>lhs;unfold bU
  by_cases h:(step s x).2=true
  .rw[if_pos h];have e:bU step s (x::a)=((step s x).1,true):=by conv=>lhs;unfold bU;rw[if_pos h]
   rw[e];rfl
  .rw[if_neg h,oD step a b];have e:bU step s (x::a)=bU step (step s x).1 a:=by conv=>lhs;unfold bU;rw[if_neg h]
   rw[e]
theorem vz{S A:Type}{step:S->A->S×Bool}{a b:List A}{s:S}(h:(bU step s a).2=true):bU step s (a++b)=bU step s a:=by rw[oD,if_pos h]
theorem sY{S A:Type}{step:S->A->S×Bool}{a b:List A}{s:S}(h:(bU step s a).2=false):bU step s (a++b)=bU step (bU step s a).1 b:=by rw[oD,if_neg (by rw[h];decide)]
abbrev bD:=List B8
def aI(c:UInt8):Nat:=c.toNat-65
def cT(w:B8):B8->bD->Nat->List (bD×Nat)
 | [],V,t=>[(V,t)]
 | c::p,V,t=>if V.getD (aI c) []=[] then (range (w.length-t)).flatMap fun n=>cT w p (V.set (aI c) ((w.drop t).take (n+1))) (t+(n+1))
  else if (V.getD (aI c) []).isPrefixOf (w.drop t) then cT w p V (t+(V.getD (aI c) []).length) else []
def kd:B8->B8->bD->Bool
 | [],w,_=>w.isEmpty
 | c::p,w,V=>if V.getD (aI c) []=[] then (range w.length).any fun n=>kd p (w.drop (n+1)) (V.set (aI c) (w.take (n+1)))
  else (V.getD (aI c) []).isPrefixOf w&&kd p (w.drop (V.getD (aI c) []).length) V
def ke(w p:B8)(V:bD)(k t n:Nat):List (bD×Nat):=(range n).flatMap fun n=>cT w p (V.set k ((w.drop t).take (n+1))) (t+(n+1))
theorem AJ(w p:B8)(V:bD)(k t n:Nat):ke w p V k t (n+1)=ke w p V k t n++cT w p (V.set k ((w.drop t).take (n+1))) (t+(n+1)):=by simp[ke,range_succ]
theorem zA{w p:B8}{V:bD}{t:Nat}{c:UInt8}(h:V.getD (aI c) []=[]):cT w (c::p) V t=ke w p V (aI c) t (w.length-t):=by
 conv=>lhs;unfold cT
 rw[if_pos h];rfl
theorem AO{w p:B8}{V:bD}{t:Nat}{c:UInt8}(h:¬ V.getD (aI c) []=[]):cT w (c::p) V t=if (V.getD (aI c) []).isPrefixOf (w.drop t) then cT w p V (t+(V.getD (aI c) []).length) else []:=by
 conv=>lhs;unfold cT
 rw[if_neg h]
def Bf(p w:B8)(V:bD)(k n:Nat):Bool:=(range n).any fun n=>kd p (w.drop (n+1)) (V.set k (w.take (n+1)))
theorem OJ(p w:B8)(V:bD)(k n:Nat):Bf p w V k (n+1)=(Bf p w V k n||kd p (w.drop (n+1)) (V.set k (w.take (n+1)))):=by simp[Bf,range_succ]
theorem Q6{p w:B8}{V:bD}{k n m:Nat}(hn:n<m)(h:kd p (w.drop (n+1)) (V.set k (w.take (n+1)))=true):Bf p w V k m=true:=by
 unfold Bf;rw[any_eq_true];exact⟨n,mem_range.2 hn,h⟩
theorem Ra{p w:B8}{V:bD}{c:UInt8}(h:V.getD (aI c) []=[]):kd (c::p) w V=Bf p w V (aI c) w.length:=by
 conv=>lhs;unfold kd
 rw[if_pos h];rfl
theorem O9{p w:B8}{V:bD}{c:UInt8}(h:¬ V.getD (aI c) []=[]):kd (c::p) w V=((V.getD (aI c) []).isPrefixOf w&&kd p (w.drop (V.getD (aI c) []).length) V):=by
 conv=>lhs;unfold kd
 rw[if_neg h]
theorem RC{A B:Type}(l:List A)(f:A->List B)(q:B->Bool):(l.flatMap f).any q=l.any fun a=>(f a).any q:=by
 induction l with
 | nil=>rfl
 | cons a l ih=>rw[flatMap_cons,any_append,any_cons,ih]
theorem eV{a b:B8}(h:a.isPrefixOf b=true):a.length<=b.length:=(isPrefixOf_iff_prefix.1 h).length_le
theorem sG(w:B8):∀(p:B8) (V:bD) (t:Nat),t<=w.length->(cT w p V t).any (fun x=>x.2==w.length)=kd p (w.drop t) V
 | [],V,t,ht=>by
  unfold cT kd;rw[Bool.eq_iff_iff];simp;omega
 | c::p,V,t,ht=>by
  unfold cT kd;by_cases h0:V.getD (aI c) []=[]
  .rw[if_pos h0,if_pos h0,RC,lDr];rw[Bool.eq_iff_iff,any_eq_true,any_eq_true];have e:∀ n,n∈range (w.length-t)->(cT w p (V.set (aI c) ((w.drop t).take (n+1))) (t+(n+1))).any (fun x=>x.2==w.length)=kd p ((w.drop t).drop (n+1)) (V.set (aI c) ((w.drop t).take (n+1))):=by
    intro n hn;have:=mem_range.1 hn;rw[sG w p _ _ (by omega),drop_drop]
   constructor
   .rintro⟨n,hn,h⟩;exact⟨n,hn,by rw[<-e n hn];exact h⟩
   .rintro⟨n,hn,h⟩;exact⟨n,hn,by rw[e n hn];exact h⟩
  .rw[if_neg h0,if_neg h0];by_cases hp:(V.getD (aI c) []).isPrefixOf (w.drop t)=true
   .have hl:=eV hp;rw[lDr]at hl;rw[if_pos hp,hp,Bool.true_and,sG w p _ _ (by omega),drop_drop]
   .rw[if_neg hp];have:(V.getD (aI c) []).isPrefixOf (w.drop t)=false:=by cases hh:(V.getD (aI c) []).isPrefixOf (w.drop t) with
     | false=>rfl
     | true=>exact absurd hh hp
    rw[this,Bool.false_and];rfl
theorem jG:∀(p w:B8) (V:bD),kd p w V=true->p.length<=w.length
 | [],w,V,_=>lZe _
 | c::p,w,V,h=>by
  unfold kd at h;by_cases h0:V.getD (aI c) []=[]
  .rw[if_pos h0,any_eq_true]at h;obtain⟨n,hn,h⟩:=h;have h1:=jG p _ _ h;have:=mem_range.1 hn;rw[lDr]at h1;rw[lCo];omega
  .rw[if_neg h0,bAn]at h;have h1:=jG p _ _ h.2;have h2:=eV h.1;have h3:1<=(V.getD (aI c) []).length:=by
    cases e:V.getD (aI c) [] with
    | nil=>exact absurd e h0
    | cons a l=>simp
   rw[lDr]at h1;rw[lCo];omega
theorem RU{p w:B8}{V:bD}{k:Nat}:Bf p w V k w.length=Bf p w V k (w.length-p.length):=by
 rw[Bool.eq_iff_iff];unfold Bf;rw[any_eq_true,any_eq_true];constructor
 .rintro⟨n,hn,h⟩
  have h1:=jG _ _ _ h;have h2:=mem_range.1 hn;rw[lDr]at h1;exact⟨n,mem_range.2 (by omega),h⟩
 .rintro⟨n,hn,h⟩
  have h2:=mem_range.1 hn;exact⟨n,mem_range.2 (by omega),h⟩
def V0:bD:=[[],[],[]]
def ft(w p:B8):Bool:=kd p w V0
def fD(w p:B8):Bool:=(range w.length).any fun i=>ft (w.drop i) p
theorem NQ(w p:B8)(hp:1<=p.length):fD w p=(range (w.length+1-p.length)).any fun i=>ft (w.drop i) p:=by
 rw[Bool.eq_iff_iff];unfold fD;rw[any_eq_true,any_eq_true];constructor
 .rintro⟨i,hi,h⟩
  have h1:=jG _ _ _ h;rw[lDr]at h1;have:=mem_range.1 hi;exact⟨i,mem_range.2 (by omega),h⟩
 .rintro⟨i,hi,h⟩
  have:=mem_range.1 hi;exact⟨i,mem_range.2 (by omega),h⟩
def mG(w p:B8)(i:Int)(m:Nat):Bool:=(range m).any fun j=>decide (i<j)&&ft (w.drop j) p
theorem KF{w p:B8}{i:Int}{m:Nat}(h:(m:Int)<=i+1):mG w p i m=false:=by
 cases hh:mG w p i m with
 | false=>rfl
 | true=>
  unfold mG at hh;obtain⟨j,hj,hf⟩:=any_eq_true.1 hh;rw[bAn,dTe]at hf;have:=mem_range.1 hj;omega
theorem HW(w p:B8){i m:Nat}(h:i<m):mG w p ((i:Int)-1) m=(mG w p i m||ft (w.drop i) p):=by
 rw[Bool.eq_iff_iff,Bool.or_eq_true];unfold mG;rw[any_eq_true,any_eq_true];constructor
 .rintro⟨j,hj,hf⟩
  rw[bAn,dTe]at hf;by_cases he:j=i
  .subst he;exact .inr hf.2
  .exact .inl ⟨j,hj,by rw[bAn,dTe];exact⟨by omega,hf.2⟩⟩
 .rintro(⟨j,hj,hf⟩|hf)
  .rw[bAn,dTe]at hf;exact⟨j,hj,by rw[bAn,dTe];exact⟨by omega,hf.2⟩⟩
  .exact⟨i,mem_range.2 h,by rw[bAn,dTe];exact⟨by omega,hf⟩⟩
theorem Kc{w p:B8}{i:Int}{m:Nat}(h:i<0):mG w p i m=(range m).any fun j=>ft (w.drop j) p:=by
 rw[Bool.eq_iff_iff];unfold mG;rw[any_eq_true,any_eq_true];constructor
 .rintro⟨j,hj,hf⟩
  rw[bAn,dTe]at hf;exact⟨j,hj,hf.2⟩
 .rintro⟨j,hj,hf⟩
  exact⟨j,hj,by rw[bAn,dTe];exact⟨by omega,hf⟩⟩
def avL(p:B8)(k:Nat):Nat->B8->List B8
 | 0,w=>[w]
 | d+1,w=>(range k).flatMap fun i=>if fD (w++[ltr i]) p then [] else avL p k d (w++[ltr i])
def avS(p:B8)(k d:Nat)(w:B8)(i:Nat):List B8:=if fD (w++[ltr i]) p then [] else avL p k d (w++[ltr i])
def avN(p:B8)(k d:Nat)(w:B8)(i:Nat):List B8:=(range i).flatMap (avS p k d w)
theorem tR(p:B8)(k d:Nat)(w:B8):avN p k d w 0=[]:=rfl
theorem th(p:B8)(k d:Nat)(w:B8)(i:Nat):avN p k d w (i+1)=avN p k d w i++avS p k d w i:=by simp[avN,range_succ]
theorem tn(p:B8)(k d:Nat)(w:B8):avL p k (d+1) w=avN p k d w k:=rfl
theorem ph(p:B8)(k d:Nat)(w:B8){i:Nat}(h:i<=k):∃ rest,avL p k (d+1) w=avN p k d w i++rest:=by
 refine⟨(range' i (k-i)).flatMap (avS p k d w),?_⟩;rw[tn];unfold avN;rw[<-flatMap_append]
 congr 1
 rw[range_eq_range',range_eq_range'];have:=range'_append_1 (s:=0) (m:=i) (n:=k-i);rw[Nat.zero_add,show i+(k-i)=k by omega]at this;exact this.symm
def a8(p:B8):Bool:=decide (1<=p.length/\p.length<=8)&&p.all fun c=>decide (65<=c.toNat)&&decide (c.toNat<68)
end Go.Proofs.YtapimhjbilkfpaaGreatDoor
namespace Go.Proofs.YtapimhjbilkfpaaGreatDoor
open Go Go.Proofs.Tryz List
def hp(v:B8)(q:Nat):Bool:=v.drop q==v.take (v.length-q)
def fb(u:B8)(n:Nat):Bool:=(range n).any fun q=>hp (u.drop (u.length-2*(q+1))) (q+1)
def dY(u:B8):Bool:=fb u (u.length/2)
theorem qg(u:B8)(n:Nat):fb u (n+1)=(fb u n||hp (u.drop (u.length-2*(n+1))) (n+1)):=by simp[fb,range_succ]
theorem rQ{u:B8}{n m:Nat}(h:n<m)(hh:hp (u.drop (u.length-2*(n+1))) (n+1)=true):fb u m=true:=by
 unfold fb;rw[any_eq_true];exact⟨n,mem_range.2 h,hh⟩
def nR(P:Nat->Nat->Bool)(i q:Nat):List (List Int):=((range q).filter fun m=>P i (m+1)).map fun (m:Nat)=>[(i:Int),((m+1:Nat):Int)]
def eJ(P:Nat->Nat->Bool)(L k n:Nat):List (List Int):=(range n).flatMap fun i=>nR P i ((L-i)/k)
theorem zZ(P:Nat->Nat->Bool)(i q:Nat):nR P i (q+1)=nR P i q++if P i (q+1) then [[(i:Int),((q+1:Nat):Int)]] else []:=by
 unfold nR;rw[range_succ,filter_append,map_append]
 congr 1
 cases h:P i (q+1)<;>simp[h]
theorem wm(P:Nat->Nat->Bool)(L k n:Nat):eJ P L k (n+1)=eJ P L k n++nR P n ((L-n)/k):=by simp[eJ,range_succ]
theorem CP(P:Nat->Nat->Bool)(i q:Nat):(nR P i q).length<=q:=by
 unfold nR;rw[length_map];exact Nat.le_trans (length_filter_le _ _) (by rw[length_range];exact lRf _)
theorem KV(P:Nat->Nat->Bool)(L k n:Nat):(eJ P L k n).length<=n*L:=by
 induction n with
 | zero=>simp[eJ]
 | succ n ih=>
  have h1:=CP P n ((L-n)/k);have h2:(L-n)/k<=L:=Nat.le_trans (Nat.div_le_self _ _) (Nat.sub_le _ _);rw[wm,lAp,Nat.succ_mul];omega
def na(w:B8):Bool:=(range w.length).any fun i=>(range ((w.length-i)/2)).any fun m=>hp (seg w i (2*(m+1))) (m+1)
def pwP(w:B8)(k:Nat):Nat->Nat->Bool:=fun i m=>hp (seg w i (k*m)) m
theorem NN(w:B8):(eJ (pwP w 2) w.length 2 w.length).isEmpty = !na w:=by
 have key:(eJ (pwP w 2) w.length 2 w.length).isEmpty=false↔na w=true:=by
  unfold na;rw[any_eq_true];constructor
  .intro h;cases hr:eJ (pwP w 2) w.length 2 w.length with
   | nil=>rw[hr]at h;cases h
   | cons a l=>
    have ha:a∈eJ (pwP w 2) w.length 2 w.length:=by rw[hr];exact mem_cons_self ..
    unfold eJ at ha;obtain⟨i,hi,ha⟩:=mem_flatMap.1 ha;unfold nR at ha;obtain⟨m,hm,_⟩:=mem_map.1 ha;obtain⟨h1,h2⟩:=mem_filter.1 hm;exact⟨i,hi,any_eq_true.2 ⟨m,h1,h2⟩⟩
  .rintro⟨i,hi,h⟩
   obtain⟨m,hm,h2⟩:=any_eq_true.1 h;have:[(i:Int),((m+1:Nat):Int)]∈eJ (pwP w 2) w.length 2 w.length:=by
    unfold eJ;refine mem_flatMap.2 ⟨i,hi,?_⟩;unfold nR;exact mem_map.2 ⟨m,mem_filter.2 ⟨hm,h2⟩,rfl⟩
   cases hr:eJ (pwP w 2) w.length 2 w.length with
   | nil=>rw[hr]at this;cases this
   | cons a l=>rfl
 cases h:na w
 .cases h2:(eJ (pwP w 2) w.length 2 w.length).isEmpty
  .rw[key.1 h2]at h;cases h
  .rfl
 .rw[key.2 h];rfl
theorem Nj(w:B8):na w=(range (w.length+1)).any fun n=>dY (w.take n):=by
 rw[Bool.eq_iff_iff];unfold na dY fb;rw[any_eq_true,any_eq_true];constructor
 .rintro⟨i,hi,h⟩
  obtain⟨m,hm,h2⟩:=any_eq_true.1 h;have h1:=mem_range.1 hi;have h3:=mem_range.1 hm;have h4:i+2*(m+1)<=w.length:=by omega
  have hl:(w.take (i+2*(m+1))).length=i+2*(m+1):=by rw[lTa];omega
  refine⟨i+2*(m+1),mem_range.2 (by omega),any_eq_true.2 ⟨m,mem_range.2 (by rw[hl];omega),?_⟩⟩;rw[hl,show i+2*(m+1)-2*(m+1)=i by omega];exact h2
 .rintro⟨n,hn,h⟩
  obtain⟨m,hm,h2⟩:=any_eq_true.1 h;have h1:=mem_range.1 hn;have hl:(w.take n).length=n:=by rw[lTa];omega
  rw[hl]at hm h2;have h3:=mem_range.1 hm;refine⟨n-2*(m+1),mem_range.2 (by omega),any_eq_true.2 ⟨m,mem_range.2 (by omega),?_⟩⟩;unfold seg;rw[show n-2*(m+1)+2*(m+1)=n by omega];exact h2
theorem Wo{u:B8}{q:Nat}(h:2*q<=u.length):(u.drop (u.length-q)==(u.take (u.length-q)).drop (u.length-2*q))=hp (u.drop (u.length-2*q)) q:=by
 unfold hp;rw[drop_drop,lDr,show u.length-2*q+q=u.length-q by omega,show u.length-(u.length-2*q)-q=q by omega,drop_take,show u.length-q-(u.length-2*q)=q by omega]
def grL(k:Nat):Nat->B8->List B8
 | 0,w=>[w]
 | d+1,w=>(range k).flatMap fun i=>if dY (w++[ltr i]) then [] else grL k d (w++[ltr i])
def grS(k d:Nat)(w:B8)(i:Nat):List B8:=if dY (w++[ltr i]) then [] else grL k d (w++[ltr i])
def grN(k d:Nat)(w:B8)(i:Nat):List B8:=(range i).flatMap (grS k d w)
theorem GS(k d:Nat)(w:B8):grN k d w 0=[]:=rfl
theorem Il(k d:Nat)(w:B8)(i:Nat):grN k d w (i+1)=grN k d w i++grS k d w i:=by simp[grN,range_succ]
theorem Dy(k d:Nat)(w:B8):grL k (d+1) w=grN k d w k:=rfl
theorem CF(k d:Nat)(w:B8){i:Nat}(h:i<=k):∃ rest,grL k (d+1) w=grN k d w i++rest:=by
 refine⟨(range' i (k-i)).flatMap (grS k d w),?_⟩;rw[Dy];unfold grN;rw[<-flatMap_append]
 congr 1
 rw[range_eq_range',range_eq_range'];have:=range'_append_1 (s:=0) (m:=i) (n:=k-i);rw[Nat.zero_add,show i+(k-i)=k by omega]at this;exact this.symm
theorem H9(k:Nat):∀(d:Nat) (w u:B8),u∈grL k d w->u.length=w.length+d/\∀ c∈u,c∈w\/∃ i,i<k/\c=ltr i
 | 0,w,u,h=>by
  unfold grL at h;rw[mem_singleton.1 h];exact⟨rfl,fun c hc=>.inl hc⟩
 | d+1,w,u,h=>by
  unfold grL at h;obtain⟨i,hi,h⟩:=mem_flatMap.1 h;split at h
  .cases h
  .obtain⟨h1,h2⟩:=H9 k d _ u h;rw[lAp,lSi]at h1;refine⟨by omega,fun c hc=>?_⟩;rcases h2 c hc with h3|h3
   .rcases mem_append.1 h3 with h3|h3
    .exact .inl h3
    .exact .inr ⟨i,mem_range.1 hi,mem_singleton.1 h3⟩
   .exact .inr h3
def Lt0(k:Nat)(w:B8):Prop:=∀ u∈w,97<=u.toNat/\u.toNat-97<k
theorem La(k:Nat):Lt0 k []:=fun u h=>by cases h
theorem ic{i:Nat}(h:i<=100):(ltr i).toNat=97+i:=by
 unfold ltr;rw[UInt8.toNat_ofNat_of_lt' (by show 97+i<256;omega)]
theorem Ih{k:Nat}{w:B8}(h:Lt0 k w){i:Nat}(hi:i<k)(hk:i<=100):Lt0 k (w++[ltr i]):=by
 intro u hu;rcases mem_append.1 hu with hu|hu
 .exact h u hu
 .rw[mem_singleton.1 hu,ic hk];omega
def uC(ws:List B8)(d:Nat)(w:B8):Option B8:=(grL ws.length d w).find? fun u=>na (aS ws u)
def Gy(ws:List B8):B8->B8->B8×Bool:=fun _ u=>(u,na (aS ws u))
theorem CE(ws:List B8):∀(l:List B8) (s:B8),(bU (Gy ws) s l).2=(l.find? fun u=>na (aS ws u)).isSome/\∀ u,(l.find? fun u=>na (aS ws u))=some u->(bU (Gy ws) s l).1=u
 | [],s=>⟨rfl,fun u h=>by cases h⟩
 | a::l,s=>by
  have ih:=CE ws l a;unfold bU;rw[find?_cons];cases h:na (aS ws a)
  .have e:(Gy ws s a).2=false:=h;rw[e,if_neg (by decide)];exact ih
  .have e:(Gy ws s a).2=true:=h;rw[e,if_pos rfl];exact⟨rfl,fun u hu=>by injection hu⟩
def jH(ws:List B8)(n:Nat):Option B8:=(range n).findSome? fun m=>uC ws m []
theorem wK(ws:List B8)(n:Nat):jH ws (n+1)=(jH ws n).or (uC ws n []):=by
 unfold jH;rw[range_succ,Bu]
theorem zp{ws:List B8}{n m:Nat}{u:B8}(h:n<m)(h0:jH ws n=none)(hu:uC ws n []=some u):jH ws m=some u:=PY h h0 hu
def isV(c:UInt8):Bool:=decide (65<=c.toNat)&&decide (c.toNat<68)
theorem uN{x:Int}(h:0<=x/\x<=127):IntKind.i32.wrap x=x:=by
 unfold IntKind.wrap;simp[IntKind.bits,IntKind.signed];omega
theorem ym{i:Nat}(h:i<=5):UInt8.ofNat ((97:Int)+i).toNat=ltr i:=by
 unfold ltr;rw[show ((97:Int)+i).toNat=97+i by omega]
theorem Kw{N:Mem}{v:Value}{xs:List Value}(h:Rd N v xs)(h1:1<=xs.length):du N v=some xs:=by
 rcases h with ⟨a,c,rfl,rfl⟩|⟨b,o,c,rfl,h,_⟩
 .simp at h1
 .exact h
theorem Sub.set{M N:Mem}{b:Nat}(h:Sub M N)(hb:M b=none)(B:Blk):Sub M (N.set b B):=by
 rw[aj];intro i Bi hi;have:i≠b:=by rintro rfl;rw[hb]at hi;cases hi
 rw[al _ _ this];exact h _ _ hi
theorem dG{c:UInt8}(h:isV c=true):65<=c.toNat/\c.toNat<68:=by
 unfold isV at h;simpa using h
def V6(p:B8):Bool:=p.all isV
theorem bC{p:B8}(h:a8 p=true):1<=p.length/\p.length<=8/\p.all isV=true:=by
 unfold a8 at h;rw[bAn,dTe]at h;exact⟨h.1.1,h.1.2,h.2⟩
def U2(q:bD×Nat->Bool)(l:List (bD×Nat)):Bool:=l.any q
def fa(V:bD):Prop:=V.length=3/\∀ x∈V,x.length<=60
theorem oZ{V:bD}(h:fa V){k:Nat}{x:B8}(hx:x.length<=60):fa (V.set k x):=
 ⟨by rw[length_set];exact h.1,fun y hy=>by
  rcases mem_or_eq_of_mem_set hy with hy|rfl
  .exact h.2 y hy
  .exact hx⟩
theorem lG{V:bD}(h:fa V)(k:Nat):(V.getD k []).length<=60:=by
 rw[gDe];cases hk:V[k]? with
 | none=>simp
 | some x=>exact h.2 x (mem_of_getElem? hk)
theorem uE:fa V0:=⟨rfl,by intro x hx;unfold V0 at hx;simp at hx;subst hx;simp⟩
theorem pj{V:bD}(h:V.length=3){k:Nat}(hk:k<3):(strs V)[k]?=some (str (V.getD k [])):=by
 rw[a7,gEl (by omega),gDe,gEl (by omega)];rfl
theorem dj{V:bD}(h:V.length=3):(strs V).take 3=strs V:=take_of_length_le (by rw[ah];omega)
theorem qF(a b:B8)(h:b.length<=a.length):(a.take b.length==b)=b.isPrefixOf a:=by
 rw[Bool.eq_iff_iff,beq_iff_eq,isPrefixOf_iff_prefix,prefix_iff_eq_take];exact⟨fun h=>h.symm,fun h=>h.symm⟩
theorem uD{a b:B8}(h:a.length<b.length):b.isPrefixOf a=false:=by
 cases hp:b.isPrefixOf a with
 | false=>rfl
 | true=>have:=eV hp;omega
theorem xy(a b:B8)(M:Mem)(R:VP)(ha:a.length<=1099511627776)(hb:b.length<=1099511627776)(h:R (.bool (b.isPrefixOf a)) M):ar prog 309 [str a,str b] M R:=by
 refine fnS func309 rfl ntmps309 results309 ?_;by_cases hlt:b.length<=a.length
 .have e:=qF a b hlt;have hlt':(b.length:Int)<=a.length:=by omega
  simp(disch:=omega)[e,hlt'];exact ad h
 .have hlt':¬(b.length:Int)<=a.length:=by omega
  rw[uD (by omega)]at h;simp(disch:=omega)[hlt'];exact ad h
theorem dX(a b:B8)(M:Mem)(R:VP)(ha:a.length<=1099511627776)(hb:b.length<=1099511627776)(h:R (.bool (b.isPrefixOf a)) M):ar prog 222 [str a,str b] M R:=by
 refine fnT func222 rfl ntmps222 results222 ?_;refine xy a b _ _ ha hb ?_;refine sS ?_;exact ad h
theorem vh(l:B8):mT prog (.func (.func 86) #[] #[]) (av l) (onB isV) (fun _=>True):=by
 intro x hx M R _ h;obtain⟨u,hu,rfl⟩:=vX hx;rw[tP]at h;unfold isV at h;refine sS ?_;refine fnS func86 rfl ntmps86 results86 ?_;have:=u.toNat_lt;by_cases h1:65<=u.toNat
 .rw[dTr h1,Bool.true_and]at h;have h1':(65:Int)<=u.toNat:=by omega
  simp(disch:=omega)[h1'];refine ad ?_;have e:decide ((u.toNat:Int)<68)=decide (u.toNat<68):=by
   by_cases h2:u.toNat<68
   .rw[dTr h2];exact dTr (by omega)
   .rw[dFa h2];exact dFa (by omega)
  rw[e];exact h
 .rw[dFa h1,Bool.false_and]at h;have h1':¬(65:Int)<=u.toNat:=by omega
  simp(disch:=omega)[h1'];exact ad h
theorem gE(p:B8)(M:Mem)(R:VP)(hl:p.length<=1099511627776)(h:R (.bool (a8 p)) M):ar prog 45 [str p] M R:=by
 refine fnT func45 rfl ntmps45 results45 ?_;refine bZ p _ _ hl ?_;refine sS ?_;refine bJ _ 1 8 _ _ ?_;unfold a8 at h;by_cases h1:1<=p.length/\p.length<=8
 .rw[dTr h1,Bool.true_and]at h;have e:decide ((1:Int)<=(p.length:Int)/\(p.length:Int)<=8)=true:=dTr (by omega);rw[e];refine sS ?_;intro b c hb hc;refine sS ?_;refine mj _ _ (av p) (onB isV) (fun _=>True) _ _ (Rd.new (aO p) (by simp(disch:=omega) at hc;omega)) trivial bW (vh p) rfl (by rw[aO];omega) ?_;rw[vx];refine sS ?_;exact ag ((Sub.refl M).put hb _) h
 .rw[dFa h1,Bool.false_and]at h;have e:decide ((1:Int)<=(p.length:Int)/\(p.length:Int)<=8)=false:=dFa (by omega);rw[e];refine sS ?_;exact ad h
theorem gU(p:B8)(M:Mem)(R:VP)(hl:p.length<=1099511627776)(h:R (.bool (a8 p)) M):ar prog 48 [str p] M R:=by
 refine fnT func48 rfl ntmps48 results48 ?_;refine lupS (rlA [] 2 18) (fun i:Nat=>[(3,.int .i64 i)]) (fun i M'=>M'=M/\i<=p.length/\V6 (p.take i)=true) (fun i=>p.length-i) 0 ⟨rfl,by omega,rfl⟩ ?_
 rintro i M' g ⟨rfl,hi,hall⟩
 by_cases hlt:i<p.length
 .have hx:p[i]?=some p[i]:=gEl hlt;have hu:=p[i].toNat_lt;by_cases hv:isV p[i]=true
  .have hr:=dG hv;have h65':¬(p[i].toNat:Int)<65:=by omega
   have h68':¬ 67<(p[i].toNat:Int):=by omega
   simp(disch:=omega)[h65',h68'];refine rndS (i+1) ⟨rfl,by omega,?_⟩;unfold V6 at hall ⊢;rw[aw p hlt,all_append,hall];simpa using hv
  .have hno:a8 p=false:=by
    unfold a8;have:p.all (fun c=>decide (65<=c.toNat)&&decide (c.toNat<68))=false:=by
     cases hq:p.all (fun c=>decide (65<=c.toNat)&&decide (c.toNat<68)) with
     | false=>rfl
     | true=>exact absurd (all_eq_true.1 hq _ (gMe hlt)) hv
    rw[this,Bool.and_false]
   rw[hno]at h;by_cases h65:65<=p[i].toNat
   .have h68:¬ p[i].toNat<68:=fun hh=>hv (by unfold isV;simp;omega);have h65':¬(p[i].toNat:Int)<65:=by omega
    have h68':67<(p[i].toNat:Int):=by omega
    simp(disch:=omega)[h65',h68'];exact ad h
   .have h65':(p[i].toNat:Int)<65:=by omega
    simp(disch:=omega)[h65'];exact ad h
 .have hi':i=p.length:=by omega
  subst hi';rw[take_length]at hall;unfold a8 at h;rw[show p.all (fun c=>decide (65<=c.toNat)&&decide (c.toNat<68))=true from hall,Bool.and_true]at h;by_cases h0:0<p.length
  .have h0':0<(p.length:Int):=by omega
   simp(disch:=omega)[h0];refine ad ?_;have e:decide ((p.length:Int)<=8)=decide (1<=p.length/\p.length<=8):=by
    by_cases h8:p.length<=8
    .rw[dTr (show 1<=p.length/\p.length<=8 by omega)];exact dTr (by omega)
    .rw[dFa (show ¬(1<=p.length/\p.length<=8) by omega)];exact dFa (by omega)
   rw[e];exact h
  .rw[dFa (by omega)]at h;have h0':¬ 0<(p.length:Int):=by omega
   simp(disch:=omega)[h0];exact ad h
theorem lW(w:B8)(hl:w.length<=60)(q:bD×Nat->Bool)(fv:Value)(hfl:bE fv=true)(G:Mem->Prop)(hst:oK G)(ht:∀ V t M R,fa V->G M->R (.bool (q (V,t))) M->fO prog fv [.agg (strs V).toArray,.int .i64 (t:Nat)] R M) :
  ∀(p:B8) (V:bD) (t:Nat) (M:Mem) (R:VP),p.all isV=true->p.length<=8->fa V->t<=w.length->G M->R (.bool ((cT w p V t).any q)) M->ar prog 319 [str w,str p,.agg (strs V).toArray,.int .i64 t,fv] M R
 | [],V,t,M,R,hp,hp8,hV,htl,hG,h=>by
  unfold cT at h;refine fnS func319 rfl ntmps319 results319 ?_;have h3:=dj hV.1;have h3':=hV.1;refine sS ?_;intro b7 hb7;simp(disch:=omega)[h3,h3'];refine ht V t _ _ hV (hst _ _ _ hG hb7) ?_;refine sS ?_;exact ag ((Sub.refl M).put hb7 _) (by simpa using h)
 | c::p,V,t,M,R,hp,hp8,hV,htl,hG,h=>by
  rw[all_cons,bAn]at hp;have hc:=dG hp.1;refine fnS func319 rfl ntmps319 results319 ?_;have h3:=dj hV.1;have h3':=hV.1;have hk:((c.toNat:Int)-65).toNat=aI c:=by unfold aI;omega
  have hk3:aI c<3:=by unfold aI;omega
  have hgv:=pj hV.1 hk3;have hsm:=lG hV (aI c);have hold:=AO (w:=w) (p:=p) (V:=V) (t:=t) (c:=c);have hnew:=zA (w:=w) (p:=p) (V:=V) (t:=t) (c:=c);rw[lCo]at hp8;obtain⟨own,hown⟩:∃ own,own=V.getD (aI c) []:=⟨_,rfl⟩;rw[<-hown]at hgv hsm hold hnew;obtain⟨k,hkk⟩:∃ k,k=aI c:=⟨_,rfl⟩;rw[<-hkk]at hk hk3 hgv hnew hown;refine sS ?_;intro b7 hb7;have hG7:=hst _ _ (.cells true (strs V) 3) hG hb7;have hs7:=(Sub.refl M).put hb7 (.cells true (strs V) 3);have k7:=ae M b7 (.cells true (strs V) 3);simp(disch:=omega)[h3',hk,hgv];by_cases h0:own=[]
  .rw[hnew h0]at h;subst h0;refine sS ?_;generalize M.put b7 (.cells true (strs V) 3)=N at *;refine lupS (rlA [10,13,14] 48 20) (fun n:Nat=>[(13,.int .i64 (((t+n:Nat):Int)+1))]) (fun n M'=>M'=N/\t+n<=w.length/\U2 q (ke w p V k t n)=false) (fun n=>w.length-n) 0 ⟨rfl,by omega,rfl⟩ ?_
   rintro n M' g ⟨rfl,hn,hno⟩
   have hsucc:=AJ w p V k t n;by_cases hlt:t+n<w.length
   .simp(disch:=omega)[aq k7,h3,h3'];intro b14 hb14;simp(disch:=omega)[h3'];refine⟨cJ V,?_⟩;have hG14:=hst _ _ (.cells true (strs (V.set k ((w.drop t).take (n+1)))) 3) hG7 hb14;have hV':fa (V.set k ((w.drop t).take (n+1))):=oZ hV (by rw[lTa];omega);have h4:=dj hV'.1;refine drwS ?_;have hseg:drop t (take ((t:Int)+n+1).toNat w)=(w.drop t).take (n+1):=by
     rw[show ((t:Int)+n+1).toNat=t+(n+1) by omega,drop_take,show t+(n+1)-t=n+1 by omega]
    have e2:((t:Int)+n+1)=((t+(n+1):Nat):Int):=by omega
    simp(disch:=omega)[iH,hk,hseg,h4];rw[e2];refine aX (a:=[]) (c:=[]) (lW w hl q fv hfl G hst ht p (V.set k ((w.drop t).take (n+1))) (t+(n+1)) _ _ hp.2 (by omega) hV' (by omega) hG14 ⟨rfl,rfl⟩) ?_;cases hq:(cT w p (V.set k ((w.drop t).take (n+1))) (t+(n+1))).any q
    .refine sS ?_;refine rndM M' (n+1) ((Sub.refl M').put hb14 _) ⟨rfl,by omega,?_⟩;unfold U2 at hno ⊢;rw[hsucc,any_append,hno,hq];rfl
    .have hyes:(ke w p V k t (w.length-t)).any q=true:=by
      rw[any_eq_true]at hq ⊢;obtain⟨x,hx,hqx⟩:=hq;refine⟨x,?_,hqx⟩;unfold ke;exact mem_flatMap.2 ⟨n,mem_range.2 (by omega),hx⟩
     rw[hyes]at h;refine sS ?_;exact ag (hs7.putN hb14 _) h
   .have hn':n=w.length-t:=by omega
    unfold U2 at hno;rw[<-hn',hno]at h;refine sS ?_;exact ag hs7 h
  .have he:own.isEmpty=false:=by cases own with
    | nil=>exact absurd rfl h0
    | cons a l=>rfl
   rw[hold h0]at h;simp(disch:=omega)[he];refine drwS ?_;refine sS ?_;refine aX (a:=[]) (c:=[]) (dX _ _ _ _ (by rw[lDr];omega) (by omega) ⟨rfl,rfl⟩) ?_;cases hpre:own.isPrefixOf (w.drop t)
   .rw[hpre]at h;refine sS ?_;exact ag hs7 h
   .rw[hpre,if_pos rfl]at h;have hle:=eV hpre;rw[lDr]at hle;have e1:((t:Int)+own.length)=((t+own.length:Nat):Int):=by push_cast;rfl
    simp(disch:=omega)[aq k7,h3,h3'];rw[e1];refine aX (a:=[]) (c:=[]) (lW w hl q fv hfl G hst ht p V (t+own.length) _ _ hp.2 (by omega) hV (by omega) hG7 ⟨rfl,rfl⟩) ?_;refine sS ?_;exact ag hs7 h
theorem MY(w p:B8)(M:Mem)(R:VP)(hl:w.length<=60)(hp:a8 p=true)(h:R (.bool (ft w p)) M):ar prog 403 [str w,str p] M R:=by
 obtain⟨hp1,hp8,hpv⟩:=bC hp;refine fnT func403 rfl ntmps403 results403 ?_;intro b2 hb2;have hs2:=(Sub.refl M).put hb2 (.cells true [str w] 1);have k2:=ae M b2 (.cells true [str w] 1);refine sS ?_;generalize M.put b2 (.cells true [str w] 1)=N at *;refine lW w hl (fun x=>x.2==w.length) _ rfl (fun M'=>M' b2=some (.cells true [str w] 1)) ?_ ?_ p V0 0 _ _ hpv hp8 uE (by omega) k2 ?_
 .intro K b B q hb;have:b2≠b:=by rintro rfl;rw[hb]at q;cases q
  rw[al _ _ this];exact q
 .intro V t K R' hV q hR;have h3:=hV.1;refine sS ?_;refine fnT func430 rfl ntmps430 results430 ?_;intro b3 hb3;have hne:b2≠b3:=by rintro rfl;rw[hb3]at q;cases q
  have q3:(K.put b3 (.cells true (strs V) 3)) b2=some (.cells true [str w] 1):=by rw[al _ _ hne];exact q
  simp(disch:=omega)[h3,ak q];have e:((t:Int)==(w.length:Int))=(t==w.length):=by
   rw[Bool.eq_iff_iff,beq_iff_eq,beq_iff_eq];omega
  rw[e];exact ag ((Sub.refl K).put hb3 _) hR
 .rw[sG w p V0 0 (by omega),drop_zero];refine sS ?_;exact ag hs2 h
def lU(w p:B8)(n:Nat):Bool:=(range n).any fun i=>ft (w.drop i) p
theorem E3(w p:B8)(n:Nat):lU w p (n+1)=(lU w p n||ft (w.drop n) p):=by simp[lU,range_succ]
theorem Gs{w p:B8}{n m:Nat}(hn:n<m)(h:ft (w.drop n) p=true):lU w p m=true:=by
 unfold lU;rw[any_eq_true];exact⟨n,mem_range.2 hn,h⟩
theorem A4(w p:B8)(M:Mem)(R:VP)(hl:w.length<=60)(hp:a8 p=true)(h:R (.bool (fD w p)) M):ar prog 355 [str w,str p] M R:=by
 refine fnT func355 rfl ntmps355 results355 ?_;refine lupS (rlA [4,5] 8 9) (fun i:Nat=>[(8,.int .i64 i)]) (fun i M'=>M'=M/\i<=w.length/\lU w p i=false) (fun i=>w.length-i) 0 ⟨rfl,by omega,rfl⟩ ?_
 rintro i M' g ⟨rfl,hi,hno⟩
 by_cases hlt:i<w.length
 .have hs:=E3 w p i;refine sS ?_;refine MY _ _ _ _ (by rw[lDr];omega) hp ?_;cases hf:ft (w.drop i) p
  .rw[hno,hf]at hs;refine sS ?_;exact rndS (i+1) ⟨rfl,by omega,hs⟩
  .rw[show fD w p=true from Gs hlt hf]at h;refine sS ?_;exact ad h
 .have hi':i=w.length:=by omega
  rw[show fD w p=lU w p w.length from rfl,<-hi',hno]at h;refine sS ?_;exact ad h
theorem dp(p:B8)(b:Bool)(M:Mem)(R:VP)(hl:p.length<=1099511627776)(h:R (.int .i64 (if a8 p then (if b then 0 else 2) else 1)) M):ar prog 264 [str p,.bool b] M R:=by
 refine fnT func264 rfl ntmps264 results264 ?_;refine gE p _ _ hl ?_;cases hp:a8 p
 .rw[hp]at h;refine sS ?_;exact ad h
 .rw[hp]at h;cases b
  .refine sS ?_;exact ad h
  .refine sS ?_;exact ad h
theorem p8(p:B8)(k w n t:Int)(M:Mem)(R:VP)(hl:p.length<=1099511627776)(h:R (.int .i64 (if a8 p then (if decide (1<=k/\k<=w)&&decide (0<=n/\n<=t) then 0 else 2) else 1)) M):ar prog 202 [str p,.int .i64 k,.int .i64 w,.int .i64 n,.int .i64 t] M R:=by
 refine fnT func202 rfl ntmps202 results202 ?_;refine gU p _ _ hl ?_;cases hp:a8 p
 .rw[hp]at h;refine sS ?_;exact ad h
 .rw[hp,if_pos rfl]at h;refine sS ?_;refine ck _ _ _ _ _ ?_;cases h1:decide (1<=k/\k<=w)
  .rw[h1]at h;refine sS ?_;exact ad h
  .rw[h1,Bool.true_and]at h;refine sS ?_;refine ck _ _ _ _ _ ?_;cases h2:decide (0<=n/\n<=t)
   .rw[h2]at h;refine sS ?_;exact ad h
   .rw[h2]at h;refine sS ?_;exact ad h
theorem ld{S:Type}(p:B8)(k n:Nat)(hp:a8 p=true)(hk:k<=5)(hn:n<=50)(fv:Value)(step:S->B8->S×Bool)(J:S->Mem->Prop)(ht:∀ s w M R,w.length=n->J s M->(∀ M',J (step s w).1 M'->R (.bool (step s w).2) M')->fO prog fv [str w] R M) :
  ∀(d:Nat) (w:B8) (s:S) (M:Mem) (R:VP),w.length+d=n->J s M->(∀ M',J (bU step s (avL p k d w)).1 M'->R (.bool (bU step s (avL p k d w)).2) M')->ar prog 265 [str p,.int .i64 k,.int .i64 n,str w,fv] M R
 | 0,w,s,M,R,hd,hJ,h=>by
  have hb:((w.length:Int)==n)=true:=by rw[beq_iff_eq];omega
  unfold avL at h;rw[zv]at h;refine fnT func265 rfl ntmps265 results265 ?_;refine bZ w _ _ (by omega) ?_;simp(disch:=omega)[hb];refine ht s w _ _ (by omega) hJ fun M' hM'=>?_;refine sS ?_;exact ad (h M' hM')
 | d+1,w,s,M,R,hd,hJ,h=>by
  have hb:((w.length:Int)==n)=false:=bNe.2 (by omega);refine fnT func265 rfl ntmps265 results265 ?_;refine bZ w _ _ (by omega) ?_;simp(disch:=omega)[hb];refine lupS (rlA [10,11,12] 21 20) (fun i:Nat=>[(21,.int .i64 i)]) (fun i M'=>i<=k/\J (bU step s (avN p k d w i)).1 M'/\(bU step s (avN p k d w i)).2=false) (fun i=>k-i) 0 ⟨by omega,by rw[tR,nK];exact hJ,by rw[tR,nK]⟩ ?_
  rintro i M' g ⟨hi,hM',hno⟩
  have hs:=th p k d w i;by_cases hlt:i<k
  .refine sS ?_;refine db i _ _ (by omega) ?_;refine sS ?_;have hl':(w++[ltr i]).length=w.length+1:=by simp
   refine A4 _ p _ _ (by omega) hp ?_;unfold avS at hs;cases he:fD (w++[ltr i]) p
   .rw[he,if_neg (by decide)]at hs;refine sS ?_;refine ld p k n hp hk hn fv step J ht d (w++[ltr i]) (bU step s (avN p k d w i)).1 _ _ (by omega) hM' fun M2 hM2=>?_;rw[<-sY hno,<-hs]at hM2;have hrun:bU step (bU step s (avN p k d w i)).1 (avL p k d (w++[ltr i]))=bU step s (avN p k d w (i+1)):=by rw[hs,sY hno]
    rw[hrun];cases hr:(bU step s (avN p k d w (i+1))).2
    .refine sS ?_;exact rndS (i+1) ⟨by omega,hM2,hr⟩
    .obtain⟨rest,hrest⟩:=ph p k d w (i:=i+1) (by omega);rw[hrest,vz hr,hr]at h;refine sS ?_;exact ad (h M2 hM2)
   .rw[he,if_pos rfl,append_nil]at hs;refine sS ?_;exact rndS (i+1) ⟨by omega,by rw[hs];exact hM',by rw[hs];exact hno⟩
  .have hi':i=k:=by omega
   rw[hi']at hM' hno;rw[tn p k d w,hno]at h;refine sS ?_;exact ad (h M' hM')
theorem nT:∀(p w:B8) (V:bD) (v:Value) (M:Mem) (R:VP),p.all isV=true->p.length<=8->w.length<=60->fa V->Rd M v (strs V)->(∀ v' M',Sub M M'->R (.tuple #[v',.bool (kd p w V)]) M') ->
  ar prog 359 [str w,str p,v] M R
 | [],w,V,v,M,R,hp,hp8,hl,hV,hv,h=>by
  unfold kd at h;obtain⟨a,c,rfl,ha⟩:=hv.opened;refine fnT func359 rfl ntmps359 results359 ?_;exact ad (h _ _ (Sub.refl M))
 | c::p,w,V,v,M,R,hp,hp8,hl,hV,hv,h=>by
  rw[all_cons,bAn]at hp;have hc:=dG hp.1;have h3:=dj hV.1;have h3':=hV.1;have hk:((c.toNat:Int)-65).toNat=aI c:=by unfold aI;omega
  have hk3:aI c<3:=by unfold aI;omega
  have hgv:=pj hV.1 hk3;have hsm:=lG hV (aI c);have hlen:=jG (c::p) w V;have hold:=O9 (w:=w) (p:=p) (V:=V) (c:=c);have hnew:=Ra (w:=w) (p:=p) (V:=V) (c:=c);rw[lCo]at hp8 hlen;obtain⟨own,hown⟩:∃ own,own=V.getD (aI c) []:=⟨_,rfl⟩;rw[<-hown]at hgv hsm hold hnew;obtain⟨k,hkk⟩:∃ k,k=aI c:=⟨_,rfl⟩;rw[<-hkk]at hk hk3 hgv hnew hown;obtain⟨a,cc,rfl,ha⟩:=hv.opened;rw[ah,h3']at ha hv ⊢;rcases ha with h0|⟨b,o,rfl,ha⟩
  .omega
  have hg:=ha k hk3;rw[hgv]at hg;refine fnT func359 rfl ntmps359 results359 ?_;by_cases hsh:w.length<p.length+1
  .have hno:kd (c::p) w V=false:=by
    cases hf:kd (c::p) w V with
    | false=>rfl
    | true=>have:=hlen hf;omega
   rw[hno]at h;refine sS ?_;exact ad (h _ _ (Sub.refl M))
  .simp(disch:=omega)[hk,hg];by_cases h0:own=[]
   .rw[hnew h0,RU]at h;subst h0;have hs0:=Sub.refl M;refine sS ?_;refine lupS (rlA [6,7,10,11,12,13] 56 31) (fun n:Nat=>[(10,.int .i64 ((n:Int)+1))]) (fun n M'=>Sub M M'/\n<=w.length-p.length/\Bf p w V k n=false) (fun n=>w.length-p.length-n) 0 ⟨Sub.refl M,by omega,rfl⟩ ?_
    rintro n M' g ⟨hs,hn,hno⟩
    have hsucc:=OJ p w V k n;by_cases hlt:n<w.length-p.length
    .refine sS ?_;intro bn hbn;have hsrc:(M'.put bn (.cells true [] 0)).sub? b o 3=some (strs V):=Kw ((hv.sub hs).put hbn (.cells true [] 0)) (by rw[ah,h3'];decide);simp(disch:=omega)[hsrc,h3'];refine⟨cJ V,?_⟩;intro b1 c1 hM hc1;rw[ah,h3']at hc1;have k1:(M'.put b1 (.cells true (strs V) c1)) b1=some (.cells true (strs V) c1):=ae _ _ _;have e1:((n:Int)+1).toNat=n+1:=by omega
     have hV':fa (V.set k (w.take (n+1))):=oZ hV (by rw[lTa];omega);have s2:Sub M' (M'.put b1 (.cells true (strs (V.set k (w.take (n+1)))) c1)):=(Sub.refl M').putN hM _;have r2:Rd (M'.put b1 (.cells true (strs (V.set k (w.take (n+1)))) c1)) (.slice (some ⟨b1,0,none⟩) 3 c1) (strs (V.set k (w.take (n+1)))):=Rd.new (by rw[ah];exact hV'.1) hc1;simp(disch:=omega)[hk,iH,e1,h3'];generalize M'.put b1 (.cells true (strs (V.set k (w.take (n+1)))) c1)=N2 at *;refine plyS (ai [0,1,2,3,4,5] (.one 6 1 (ai [7,8,9,10,11] .fin))) ?_;simp(disch:=omega)[e1];refine nT p _ _ _ _ _ hp.2 (by omega) (by rw[lDr];omega) hV' r2 fun v3 M3 s3=>?_;refine sS ?_;refine⟨s3,?_⟩;cases hf:kd p (w.drop (n+1)) (V.set k (w.take (n+1)))
     .rw[hno,hf]at hsucc;refine sS ?_;exact rndS (n+1) ⟨(hs.trans s2).trans s3,by omega,hsucc⟩
     .rw[Q6 hlt hf]at h;refine sS ?_;exact ad (h _ _ ((hs.trans s2).trans s3))
    .have hn':n=w.length-p.length:=by omega
     rw[<-hn',hno]at h;refine sS ?_;exact ad (h _ _ hs)
   .have he:own.isEmpty=false:=by cases own with
     | nil=>exact absurd rfl h0
     | cons a l=>rfl
    rw[hold h0]at h;by_cases hlo:w.length<own.length
    .rw[uD hlo,Bool.false_and]at h;have hlo':(w.length:Int)<own.length:=by omega
     simp(disch:=omega)[he,hlo'];exact ad (h _ _ (Sub.refl M))
    .have hlo':¬(w.length:Int)<own.length:=by omega
     have hpb:=qF w own (by omega);cases hpre:own.isPrefixOf w
     .rw[hpre,Bool.false_and]at h;rw[hpre]at hpb;simp(disch:=omega)[he,hlo',hpb];exact ad (h _ _ (Sub.refl M))
     .rw[hpre,Bool.true_and]at h;rw[hpre]at hpb;simp(disch:=omega)[he,hlo',hpb];refine plyS (ai [0,1,2,3,4,5,6] (.one 7 1 (ai [8,9,10,11] .fin))) ?_;refine sS ?_;refine nT p _ V _ _ _ hp.2 (by omega) (by rw[lDr];omega) hV hv fun v' M' hs=>?_;refine sS ?_;exact⟨hs,ad (h _ _ hs)⟩
theorem sC(w p:B8)(M:Mem)(R:VP)(hl:w.length<=60)(hp:a8 p=true)(h:R (.bool (ft w p)) M):ar prog 278 [str w,str p] M R:=by
 obtain⟨hp1,hp8,hpv⟩:=bC hp;refine fnT func278 rfl ntmps278 results278 ?_;intro b hb;refine sS ?_;refine nT p w V0 _ _ _ hpv hp8 hl uE (Rd.new rfl (lRf 3)) fun v' M' hs=>?_;refine sS ?_;exact ag (((Sub.refl M).put hb _).trans hs) h
theorem l8(w p:B8)(M:Mem)(R:VP)(hl:w.length<=60)(hp:a8 p=true)(h:R (.bool (fD w p)) M):ar prog 295 [str w,str p] M R:=by
 obtain⟨hp1,hp8,hpv⟩:=bC hp;rw[NQ w p hp1]at h;obtain⟨m,hm⟩:∃ m,m=w.length+1-p.length:=⟨_,rfl⟩;rw[<-hm]at h;refine fnT func295 rfl ntmps295 results295 ?_;refine lupS (rlA [4,5] 11 9) (fun i:Int=>[(5,.int .i64 i)]) (fun i M'=>M'=M/\-8<=i/\i<=(w.length:Int)-p.length/\i<60/\mG w p i m=false) (fun i=>(i+9).toNat) ((w.length:Int)-p.length) ⟨rfl,by omega,by omega,by omega,?_⟩ ?_
 .rcases Nat.lt_or_ge w.length p.length with hh|hh
  .rw[hm,show w.length+1-p.length=0 by omega];rfl
  .exact KF (by omega)
 rintro i M' g ⟨rfl,hi8,hi,hi60,hno⟩
 by_cases hlt:0<=i
 .obtain⟨i,rfl⟩:∃ n:Nat,i=n:=⟨i.toNat,by omega⟩;have hs:=HW w p (i:=i) (m:=m) (by omega);refine sS ?_;refine sC _ _ _ _ (by rw[lDr];omega) hp ?_;cases hf:ft (w.drop i) p
  .rw[hno,hf]at hs;refine sS ?_;exact rndS ((i:Int)-1) ⟨rfl,by omega,by omega,by omega,hs⟩
  .rw[show (range m).any (fun i=>ft (w.drop i) p)=true from any_eq_true.2 ⟨i,mem_range.2 (by omega),hf⟩]at h;refine sS ?_;exact ad h
 .rw[Kc (by omega)]at hno;rw[hno]at h;simp(disch:=omega)[hlt];exact ad h
def hdL(l:List B8):B8:=l.headD []
def emL(l:List B8):Bool:=l.isEmpty
theorem xV{l:List B8}(h:emL l=true):l=[]:=isEmpty_iff.1 h
def vC(l:List B8):Value:=.tuple #[str (hdL l),.bool (!emL l)]
theorem Fg{l r:List B8}(h:emL l=false):vC (l++r)=vC l:=by
 cases l with
 | nil=>cases h
 | cons a l=>rfl
theorem qh(p:B8)(k:Nat)(hp:a8 p=true)(hk:k<=5):∀(d:Nat) (w:B8) (M:Mem) (R:VP),w.length+d<=60->R (vC (avL p k d w)) M->ar prog 203 [str w,str p,.int .i64 k,.int .i64 d] M R
 | 0,w,M,R,hd,h=>by
  unfold avL at h;refine fnT func203 rfl ntmps203 results203 ?_;exact ad h
 | d+1,w,M,R,hd,h=>by
  refine fnS func203 rfl ntmps203 results203 ?_;have hb:(((d:Int)+1)==0)=false:=bNe.2 (by omega);simp(disch:=omega)[hb];refine lupS (rlA [8,9,10,11,12,13] 17 23) (fun i:Nat=>[(10,.int .i64 i)]) (fun i M'=>M'=M/\i<=k/\emL (avN p k d w i)=true) (fun i=>k-i) 0 ⟨rfl,by omega,rfl⟩ ?_
  rintro i M' g ⟨rfl,hi,hno⟩
  have hs:=th p k d w i;have hnil:avN p k d w i=[]:=xV hno;rw[hnil,nil_append]at hs;by_cases hlt:i<k
  .refine sS ?_;refine jM i _ _ (by omega) ?_;refine sS ?_;have hl':(w++[ltr i]).length=w.length+1:=by simp
   refine l8 _ p _ _ (by omega) hp ?_;unfold avS at hs;cases he:fD (w++[ltr i]) p
   .rw[he,if_neg (by decide)]at hs;refine sS ?_;refine qh p k hp hk d _ _ _ (by omega) ?_;rw[<-hs];cases hr:emL (avN p k d w (i+1))
    .obtain⟨rest,hrest⟩:=ph p k d w (i:=i+1) (by omega);rw[hrest,Fg hr]at h;unfold vC at h ⊢;rw[hr]at h ⊢;refine sS ?_;exact ad h
    .unfold vC;rw[hr];refine sS ?_;exact rndS (i+1) ⟨rfl,by omega,hr⟩
   .rw[he,if_pos rfl]at hs;refine sS ?_;exact rndS (i+1) ⟨rfl,by omega,by rw[hs];rfl⟩
  .have hi':i=k:=by omega
   rw[hi']at hnil;rw[tn,hnil]at h;refine sS ?_;exact ad h
theorem uM(ws:List B8)(w:B8):iY ws w 1=iM ws w:=by
 unfold iY iM;rw[show decide ((0:Int)<=1/\(1:Int)<=100)=true by decide,Bool.and_true]
theorem DC(v:Value)(ws:List B8)(w:B8)(M:Mem)(R:VP)(hv:Rd M v (strs ws))(hf:cS ws)(hn:ws.length<=1099511627776)(hl:w.length<=1099511627776)(h:R (aF (str (oP ws w 1)) (od ws w 1)) M):ar prog 158 [.agg #[v],str w] M R:=by
 refine fnS func158 rfl ntmps158 results158 ?_;obtain⟨a,c,rfl,ha⟩:=hv.opened;rw[ah]at hv ⊢;refine sS ?_;intro b1 hb1;refine sS ?_;refine Fc _ ws w 1 _ _ (hv.put hb1 _) hf hn hl ?_;simp(disch:=omega)[aF];exact ag ((Sub.refl M).put hb1 _) h
theorem EC(v:Value)(ws:List B8)(w:B8)(M:Mem)(R:VP)(hv:Rd M v (strs ws))(hf:cS ws)(hn:ws.length<=1099511627776)(hl:w.length<=1099511627776)(h:R (aF (str (oP ws w 1)) (od ws w 1)) M):ar prog 117 [.agg #[v],str w] M R:=by
 refine fnS func117 rfl ntmps117 results117 ?_;obtain⟨a,c,rfl,ha⟩:=hv.opened;rw[ah]at hv ⊢;refine sS ?_;intro b1 hb1;have hs:=(Sub.refl M).put hb1 (.cells true [.slice a ws.length c] 1);refine sS ?_;refine te _ ws w _ _ (hv.put hb1 _) hf hn hl ?_;unfold oP od at h;by_cases h0:iY ws w 1=0
 .obtain⟨g1,g2,g3,_,_⟩:=lZ h0;rw[if_pos h0,if_pos h0,show (1:Int).toNat=1 from rfl,q9]at h;rw[<-uM,h0];have hx:=y5 (aZ g2) g3;have hil:=jj g1 hx;have h60:=au g2;refine sS ?_;refine lb _ ws w _ _ (hv.put hb1 _) g1 h60 hx ?_;by_cases hbig:60<(aS ws w).length
  .rw[if_pos hbig]at h;have hbig':(60:Int)<(aS ws w).length:=by omega
   simp(disch:=omega)[hbig'];exact ag hs h
  .rw[if_neg hbig]at h;have hbig':¬(60:Int)<(aS ws w).length:=by omega
   simp(disch:=omega)[hbig'];exact ag hs h
 .rw[if_neg h0,if_neg h0]at h;rw[<-uM];generalize iY ws w 1=code at *;refine sS ?_;exact ag hs h
def mnL:List Nat->Nat
 | []=>0
 | a::l=>l.foldl Nat.min a
def mxL:List Nat->Nat
 | []=>0
 | a::l=>l.foldl Nat.max a
theorem Hu{l:List Nat}(h:1<=l.length)(a:Nat):mnL (l++[a])=Nat.min (mnL l) a:=by
 cases l with
 | nil=>simp at h
 | cons b l=>simp[mnL]
theorem Fw{l:List Nat}(h:1<=l.length)(a:Nat):mxL (l++[a])=Nat.max (mxL l) a:=by
 cases l with
 | nil=>simp at h
 | cons b l=>simp[mxL]
theorem LX(a:Nat):mnL [a]=a:=rfl
theorem LV(a:Nat):mxL [a]=a:=rfl
theorem QM(a b:Nat):(if b<a then (b:Int) else a)=(Nat.min a b:Nat):=by
 show _=((min a b:Nat):Int);split<;>omega
theorem Rc(a b:Nat):(if a<b then (b:Int) else a)=(Nat.max a b:Nat):=by
 show _=((max a b:Nat):Int);split<;>omega
def lens(ws:List B8):List Nat:=ws.map length
theorem kK(ws:List B8):(lens ws).length=ws.length:=by simp[lens]
theorem MR(ws:List B8)(w:B8):lens (ws++[w])=lens ws++[w.length]:=by simp[lens]
theorem qB:∀(l:List Nat) (a:Nat),l.foldl Nat.min a<=a/\∀ x∈l,l.foldl Nat.min a<=x
 | [],a=>⟨lRf a,fun _ h=>by cases h⟩
 | b::l,a=>by
  obtain⟨h1,h2⟩:=qB l (Nat.min a b);have e:Nat.min a b=min a b:=rfl;refine⟨by rw[foldl_cons];omega,fun x hx=>?_⟩;rw[foldl_cons];rcases mem_cons.1 hx with rfl|hx
  .omega
  .exact h2 x hx
theorem Uf{l:List Nat}{x:Nat}(h:x∈l):mnL l<=x:=by
 cases l with
 | nil=>cases h
 | cons a l=>
  rcases mem_cons.1 h with rfl|h
  .exact(qB l x).1
  .exact(qB l a).2 x h
theorem Hn:∀(l:List Nat) (a:Nat),l.foldl Nat.max a∈a::l
 | [],a=>mem_cons_self ..
 | b::l,a=>by
  rw[foldl_cons];have:=Hn l (Nat.max a b);have e:Nat.max a b=a\/Nat.max a b=b:=by show max a b=a\/max a b=b;omega
  rcases mem_cons.1 this with h|h
  .rw[h];rcases e with e|e<;>rw[e]<;>simp
  .exact mem_cons_of_mem _ (mem_cons_of_mem _ h)
theorem SB{l:List Nat}(h:1<=l.length):mxL l∈l:=by
 cases l with
 | nil=>simp at h
 | cons a l=>exact Hn l a
def lO(ws:List B8):Int:=if aY ws then 0 else 1
def jS(ws:List B8):Nat:=if mnL (lens ws)=0 then 0 else max 3 ((mxL (lens ws)-3+mnL (lens ws)-1)/mnL (lens ws)+1)
def Mf(ws:List B8):Nat:=if aY ws then jS ws else 0
def lA(ws:List B8):Int:=if aY ws then (if jS ws=0 then 5 else 0) else 1
theorem L6{ws:List B8}(h:aY ws=true):mnL (lens ws)<=12/\mxL (lens ws)<=12/\mnL (lens ws)<=mxL (lens ws):=by
 have h1:=aW h;have h2:=SB (l:=lens ws) (by rw[kK];omega);obtain⟨w,hw,he⟩:=mem_map.1 h2;have:=(bH h hw).1;have:=Uf h2;omega
theorem eZ(l:List Nat)(a:Nat):aB l++[.int .i64 a]=aB (l++[a]):=by simp[aB]
theorem take_one{α:Type}{l:List α}(h:0<l.length):l.take 1=[l[0]]:=by
 cases l with
 | nil=>simp at h
 | cons a l=>rfl
theorem ub(v:Value)(ws:List B8)(M:Mem)(R:VP)(hv:Rd M v (strs ws))(hf:cS ws)(hn:ws.length<=1000000)(h:∀ v' M',Own M v' (aB (lens ws)) M'->R v' M'):ar prog 388 [.agg #[v]] M R:=by
 refine fnS func388 rfl ntmps388 results388 ?_;obtain⟨a,c,rfl,ha⟩:=hv.opened;rw[ah]at ha hv ⊢;refine sS ?_;intro b1 hb1;have hs1:=(Sub.refl M).put hb1 (.cells true [.slice a ws.length c] 1);refine sS ?_;generalize M.put b1 (.cells true [.slice a ws.length c] 1)=N at *;refine lupS (rlA [3,5] 9 10) (fun x:Nat×Value=>[(9,.int .i64 x.1),(3,x.2)]) (fun x M'=>x.1<=ws.length/\Own N x.2 (aB (lens (ws.take x.1))) M') (fun x=>ws.length-x.1) (0,.slice none 0 0) ⟨by simp,Own.nil _⟩ ?_
 rintro⟨i,v⟩ M' g ⟨hi,ho⟩
 simp only at hi ho;by_cases hlt:i<ws.length
 .rcases ha with h0|⟨b,o,rfl,ha⟩
  .omega
  have hg0:=ha i hlt;rw[a7,gEl hlt]at hg0;have hg:=aT (aT hg0 hs1) ho.sub;have hw:=hf _ (gMe hlt);have hle:(aB (lens (ws.take i))).length<=1000000:=by rw[aA,kK,lTa];omega
  simp(disch:=omega)[hg];refine bZ _ _ _ hw ?_;refine sS ?_;intro b' hb';refine sS ?_;refine apT ho ((Sub.refl _).put hb' _) ?_;intro v' M'' N'' ho' hs';refine sS ?_;refine rndM M'' (i+1,v') hs' ⟨by simp only;omega,?_⟩;rw[eZ,<-MR,<-aw ws hlt]at ho';exact ho'
 .have hi':i=ws.length:=by omega
  subst hi';refine sS ?_;rw[take_length]at ho;obtain⟨M'',ho',hs'⟩:=ho.base hs1;exact ag hs' (h v M'' ho')
theorem QU(v:Value)(ns:List Nat)(M:Mem)(R:VP)(hv:Rd M v (aB ns))(h1:1<=ns.length)(hl:ns.length<=1000000)(h:R (.int .i64 (mnL ns)) M):ar prog 387 [v] M R:=by
 refine fnS func387 rfl ntmps387 results387 ?_;obtain⟨a,c,rfl,ha⟩:=hv.opened;rw[aA]at ha ⊢;rcases ha with h0|⟨b,o,rfl,ha⟩
 .omega
 have hg0:=ha 0 (by omega);rw[bV,gEl (by omega),Nat.add_zero]at hg0;simp(disch:=omega)[hg0];refine aR aU (rlA [3,4] 12 12) (fun i:Nat=>[(4,.int .i64 i),(3,.int .i64 (mnL (ns.take i)))]) (fun i M'=>M'=M/\1<=i/\i<=ns.length) (fun i=>ns.length-i) 1 (by kernel_rfl) (by rw[take_one (by omega)];simp(disch:=omega)[LX]) ⟨rfl,by omega,h1⟩ ?_
 rintro i M' g ⟨rfl,hi1,hi⟩
 by_cases hlt:i<ns.length
 .have hg:=ha i hlt;rw[bV,gEl hlt]at hg;simp(disch:=omega)[hg,QM];refine rndA (i+1) ?_ ⟨rfl,by omega,by omega⟩;rw[aw ns hlt,Hu (by rw[lTa];omega)];simp(disch:=omega)
 .have hi':i=ns.length:=by omega
  subst hi';rw[take_length];refine sS ?_;exact ad h
theorem P8(v:Value)(ns:List Nat)(M:Mem)(R:VP)(hv:Rd M v (aB ns))(h1:1<=ns.length)(hl:ns.length<=1000000)(h:R (.int .i64 (mxL ns)) M):ar prog 389 [v] M R:=by
 refine fnS func389 rfl ntmps389 results389 ?_;obtain⟨a,c,rfl,ha⟩:=hv.opened;rw[aA]at ha ⊢;rcases ha with h0|⟨b,o,rfl,ha⟩
 .omega
 have hg0:=ha 0 (by omega);rw[bV,gEl (by omega),Nat.add_zero]at hg0;simp(disch:=omega)[hg0];refine aR aU (rlA [3,4] 12 12) (fun i:Nat=>[(4,.int .i64 i),(3,.int .i64 (mxL (ns.take i)))]) (fun i M'=>M'=M/\1<=i/\i<=ns.length) (fun i=>ns.length-i) 1 (by kernel_rfl) (by rw[take_one (by omega)];simp(disch:=omega)[LV]) ⟨rfl,by omega,h1⟩ ?_
 rintro i M' g ⟨rfl,hi1,hi⟩
 by_cases hlt:i<ns.length
 .have hg:=ha i hlt;rw[bV,gEl hlt]at hg;simp(disch:=omega)[hg,Rc];refine rndA (i+1) ?_ ⟨rfl,by omega,by omega⟩;rw[aw ns hlt,Fw (by rw[lTa];omega)];simp(disch:=omega)
 .have hi':i=ns.length:=by omega
  subst hi';rw[take_length];refine sS ?_;exact ad h
theorem PR:cS []:=by intro w hw;cases hw
theorem I0(M:Mem):Rd M (.slice none 0 0) []:=(Own.nil M).rd
theorem fN(v:Value)(ws:List B8)(M:Mem)(R:VP)(hv:Rd M v (strs ws))(hf:cS ws)(hn:ws.length<=1099511627776)(h:R (.int .i64 (lO ws)) M):ar prog 228 [.agg #[v],.func (.func 213) #[] #[],.slice none 0 0] M R:=by
 refine dH v _ _ ws [] true (fun _=>True) M R hv hf hn (I0 M) PR (by simp) rfl trivial bW (bK _) ?_;have e:ia [] ([].all (fun u=>iA u ws.length)&&true)=0:=rfl;rw[e];exact h
theorem FN{a b:Nat}(ha:1<=a)(ha':a<=12)(hb:b<=12):((((b-3:Nat):Int)+a-1).tdiv a)=(((b-3+a-1)/a:Nat):Int):=by
 have e:((b-3:Nat):Int)+a-1=((b-3+a-1:Nat):Int):=by omega
 rw[e,Int.tdiv_eq_ediv_of_nonneg (by omega)]
 push_cast;rfl
theorem Lu{a b:Nat}(hb:b<=12)(ha:a<=12):(b-3+a-1)/a<=21:=Nat.le_trans (Nat.div_le_self _ _) (by omega)
theorem Tv(r:Nat):(if (3:Int)<(r:Int)+1 then (r:Int)+1 else 3)=(max 3 (r+1):Nat):=by split<;>omega
theorem Xu(b:Nat):(if (b:Int)-3<0 then (0:Int) else (b:Int)-3)=((b-3:Nat):Int):=by split<;>omega
theorem wW(v:Value)(ws:List B8)(M:Mem)(R:VP)(hv:Rd M v (strs ws))(hf:cS ws)(hn:ws.length<=1099511627776)(h:R (aF (.int .i64 (Mf ws)) (lA ws)) M):ar prog 336 [.agg #[v]] M R:=by
 refine fnS func336 rfl ntmps336 results336 ?_;obtain⟨a,c,rfl,ha⟩:=hv.opened;rw[ah]at hv ⊢;refine sS ?_;intro b1 hb1;have hs1:=(Sub.refl M).put hb1 (.cells true [.slice a ws.length c] 1);have hv1:=hv.put hb1 (.cells true [.slice a ws.length c] 1);have k1:=ae M b1 (.cells true [.slice a ws.length c] 1);refine sS ?_;generalize M.put b1 (.cells true [.slice a ws.length c] 1)=N at *;refine fN _ ws _ _ hv1 hf hn ?_;unfold Mf lA at h;unfold lO;cases hm:aY ws
 .rw[hm]at h;refine sS ?_;exact ag hs1 h
 .rw[hm,if_pos rfl,if_pos rfl]at h;have h15:=aW hm;have hll:=kK ws;obtain⟨q1,q2,q3⟩:=L6 hm;unfold jS at h;refine sS ?_;refine plyS (ai [0,3] (.one 1 1 (.one 2 1 (.one 4 1 (.one 5 1 (ai [6,7] .fin)))))) ?_;simp(disch:=omega)[aq k1];refine ub _ ws _ _ hv1 hf (by omega) ?_;intro v2 N2 o2;refine sS ?_;refine⟨o2.sub,?_⟩;refine QU _ _ _ _ o2.rd (by omega) (by omega) ?_;refine sS ?_;refine ub _ ws _ _ (hv1.sub o2.sub) hf (by omega) ?_;intro v3 N3 o3;refine sS ?_;refine⟨o3.sub,?_⟩;refine P8 _ _ _ _ o3.rd (by omega) (by omega) ?_;have hsz:=(hs1.trans o2.sub).trans o3.sub;generalize mnL (lens ws)=p at *;generalize mxL (lens ws)=q at *;by_cases h0:p=0
  .subst h0;refine sS ?_;exact ag hsz h
  .have h0':¬(p:Int)=0:=by omega
   rw[if_neg h0]at h;have t1:=FN (a:=p) (b:=q) (by omega) q1 q2;have t2:=Lu (a:=p) (b:=q) q2 q1;have t3:=Xu q;generalize (q-3+p-1)/p=r at *;simp(disch:=omega)[t3,t1,Tv];rw[if_neg (show ¬ max 3 (r+1)=0 by omega)]at h;exact ag hsz h
theorem DW(v:Value)(ws:List B8)(M:Mem)(R:VP)(hv:Rd M v (strs ws))(hm:aY ws=true)(h:R (.int .i64 (jS ws)) M):ar prog 275 [.agg #[v]] M R:=by
 refine fnS func275 rfl ntmps275 results275 ?_;obtain⟨a,c,rfl,ha⟩:=hv.opened;have h15:=aW hm;have hll:=kK ws;obtain⟨q1,q2,q3⟩:=L6 hm;rw[ah]at ha hv ⊢;refine sS ?_;intro b1 hb1;have hs1:=(Sub.refl M).put hb1 (.cells true [.slice a ws.length c] 1);have k1:=ae M b1 (.cells true [.slice a ws.length c] 1);rcases ha with h0|⟨b,o,rfl,ha⟩
 .omega
 refine sS ?_;generalize M.put b1 (.cells true [.slice (some ⟨b,o,none⟩) ws.length c] 1)=N at *;have hget:∀ i,(hi:i<ws.length)->N.get? b (o+i)=some (str ws[i]):=by
  intro i hi;have hg0:=ha i hi;rw[a7,gEl hi]at hg0;exact aT hg0 hs1
 have hg1:=hget 0 (by omega);rw[Nat.add_zero]at hg1;have hl0:(lens ws)[0]'(by omega)=(ws[0]'(by omega)).length:=by simp[lens]
 refine drwS ?_;simp(disch:=omega)[ak k1,hg1];refine aR aU (rlA [3,4,5] 16 23) (fun i:Nat=>[(5,.int .i64 i),(3,.int .i64 (mnL ((lens ws).take i))),(4,.int .i64 (mxL ((lens ws).take i)))]) (fun i M'=>M'=N/\1<=i/\i<=ws.length) (fun i=>ws.length-i) 1 (by kernel_rfl) (by rw[take_one (by omega),LX,LV,hl0];simp(disch:=omega)) ⟨rfl,by omega,by omega⟩ ?_
 rintro i M' g ⟨rfl,hi1,hi⟩
 by_cases hlt:i<ws.length
 .have hg:=hget i hlt;have hli:(lens ws)[i]'(by omega)=ws[i].length:=by simp[lens]
  simp(disch:=omega)[ak k1,hg,QM,Rc];refine rndA (i+1) ?_ ⟨rfl,by omega,by omega⟩;rw[aw (lens ws) (by omega),hli,Hu (by rw[lTa];omega),Fw (by rw[lTa];omega)];simp(disch:=omega)
 .have hi':i=ws.length:=by omega
  rw[take_of_length_le (by omega)];unfold jS at h;generalize mnL (lens ws)=p at *;generalize mxL (lens ws)=q at *;by_cases h0:p=0
  .subst h0;simp(disch:=omega)[ak k1];exact ag hs1 h
  .have h0':¬(p:Int)=0:=by omega
   rw[if_neg h0]at h;have t1:=FN (a:=p) (b:=q) (by omega) q1 q2;have t2:=Lu (a:=p) (b:=q) q2 q1;have t3:=Xu q;generalize (q-3+p-1)/p=r at *;simp(disch:=omega)[ak k1,t3,t1,Tv];exact ag hs1 h
theorem gz(v:B8)(q:Nat)(qi:Int)(hqi:qi=q)(M:Mem)(R:VP)(hl:v.length<=60)(hq:q<=v.length)(h:R (.bool (hp v q)) M):ar prog 383 [str v,.int .i64 qi] M R:=by
 subst hqi;refine fnS func383 rfl ntmps383 results383 ?_;have e:(v.length:Int)-q=((v.length-q:Nat):Int):=by omega
 refine sS ?_;refine drwS ?_;simp(disch:=omega)[e];exact ad h
theorem BE(w:B8)(k:Nat)(M:Mem)(R:VP)(hl:w.length<=60)(hk:1<=k)(hk':k<=60)
  (h:∀ v rs N M',cC M rs (eJ (pwP w k) w.length k w.length) N->Own N v rs M'->R v M'):ar prog 391 [str w,.int .i64 k] M R:=by
 refine fnT func391 rfl ntmps391 results391 ?_;refine lupS (rlA [5,6,7] 10 30) (fun x:Nat×List Value×Value=>[(10,.int .i64 x.1),(5,x.2.2)]) (fun x M'=>x.1<=w.length/\∃ N,cC M x.2.1 (eJ (pwP w k) w.length k x.1) N/\Own N x.2.2 x.2.1 M') (fun x=>w.length-x.1) (0,[],.slice none 0 0) ⟨by simp,M,.nil,Own.nil _⟩ ?_
 rintro⟨i,rs,v⟩ M' g ⟨hi,N,hr,ho⟩
 simp only at hi hr ho;by_cases hlt:i<w.length
 .refine sS ?_;refine lupS (rlA [5,7] 13 26) (fun x:Nat×List Value×Value=>[(7,.int .i64 (x.1+1)),(5,x.2.2)]) (fun x M1=>x.1<=(w.length-i)/k/\∃ N,cC M x.2.1 (eJ (pwP w k) w.length k i++nR (pwP w k) i x.1) N/\Own N x.2.2 x.2.1 M1) (fun x=>(w.length-i)/k-x.1) (0,rs,v) ⟨by simp,N,by simpa[nR] using hr,ho⟩ ?_
  rintro⟨q,rs1,v1⟩ M1 g1 ⟨hq,N1,hr1,ho1⟩
  simp only at hq hr1 ho1;have hdiv:(w.length-i)/k<=w.length:=Nat.le_trans (Nat.div_le_self _ _) (Nat.sub_le _ _);obtain⟨p,hpp⟩:∃ p,p=k*(q+1):=⟨_,rfl⟩;have hp':p<=60*61:=by rw[hpp];exact Nat.mul_le_mul hk' (by omega)
  have e2:(k:Int)*(q+1)=p:=by rw[hpp];push_cast;rfl
  have hqp:q+1<=p:=by rw[hpp];exact Nat.le_mul_of_pos_left _ hk
  have hiff:=Qu (w:=w) (i:=i) (q:=q) hk hi;rw[<-hpp]at hiff;by_cases hqlt:q<(w.length-i)/k
  .have hle:=hiff.2 hqlt;have hle':(i:Int)+p<=w.length:=by omega
   have hseg:=gp (w:=w) (a:=i) (m:=p);have hsl:=eM (w:=w) (a:=i) (m:=p) hle;have hq1:((q:Int)+1)=((q+1:Nat):Int):=by push_cast;rfl
   simp(disch:=omega)[e2,hle']
   try simp only[hseg]
   refine gz (seg w i p) (q+1) _ hq1 _ _ (by omega) (by omega) ?_;rw[show hp (seg w i p) (q+1)=pwP w k i (q+1) by unfold pwP;rw[hpp]];cases hab:pwP w k i (q+1)
   .refine sS ?_;refine rndS (q+1,rs1,v1) ⟨by simp only;omega,N1,?_,ho1⟩;simp only;rw[zZ,hab];simpa using hr1
   .refine sS ?_;intro b1 hb1;refine sS ?_;intro b2 hb2;refine sS ?_;obtain⟨hr2,ho2⟩:=Rb hr1 ho1 hb1 [(i:Int),((q+1:Nat):Int)] 2 2 rfl (lRf 2);have hlr:=hr1.len;have hcount:=CP (pwP w k) i q;have hcount2:=KV (pwP w k) w.length k i;have hcount3:i*w.length<=60*60:=Nat.mul_le_mul (by omega) hl;rw[lAp]at hlr;refine apT ho2 ((Sub.refl _).put hb2 _) ?_;intro v' M'' N'' ho' hs';refine sS ?_;refine rndM M'' (q+1,_,v') hs' ⟨by simp only;omega,_,?_,ho'⟩;simp only;rw[zZ,hab,if_pos rfl,<-append_assoc];exact hr2
  .have hle':¬(i:Int)+p<=w.length:=by intro hc;exact hqlt (hiff.1 (by omega))
   have hq':q=(w.length-i)/k:=by omega
   simp(disch:=omega)[e2,hle'];refine rndS (i+1,rs1,v1) ⟨by simp only;omega,N1,?_,ho1⟩;simp only;rw[wm,<-hq'];exact hr1
 .have hi':i=w.length:=by omega
  subst hi';refine sS ?_;exact ad (h _ _ _ _ hr ho)
theorem rZ(w:B8)(M:Mem)(R:VP)(hl:w.length<=60)(h:R (.bool (!na w)) M):ar prog 339 [str w] M R:=by
 refine fnT func339 rfl ntmps339 results339 ?_;refine BE w 2 _ _ hl (by omega) (by omega) ?_;intro v rs N M' hr ho;have hlen:=hr.len;obtain⟨a,c,rfl,_⟩:=ho.rd.opened;have e:((rs.length:Int)==0) = !na w:=by
  rw[<-NN,hlen];cases eJ (pwP w 2) w.length 2 w.length with
  | nil=>rfl
  | cons a l=>exact bNe.2 (by simp;omega)
 simp(disch:=omega)[e];exact ag (hr.sub.trans ho.sub) h
theorem Bo(w:B8)(M:Mem)(R:VP)(hl:w.length<=60)(h:R (.bool (!dY w)) M):ar prog 390 [str w] M R:=by
 refine fnT func390 rfl ntmps390 results390 ?_;refine lupS (rlA [] 2 18) (fun q:Nat=>[(3,.int .i64 (q+1))]) (fun q M'=>M'=M/\q<=w.length/2/\fb w q=false) (fun q=>w.length/2-q) 0 ⟨rfl,by omega,rfl⟩ ?_
 rintro q M' g ⟨rfl,hq,hno⟩
 by_cases hlt:q<w.length/2
 .have hle':(2:Int)*(q+1)<=w.length:=by omega
  have e1:(w.length:Int)-2*(q+1)=((w.length-2*(q+1):Nat):Int):=by omega
  have e2:((w.length:Int)-2*(q+1)).toNat=w.length-2*(q+1):=by omega
  have hs:=qg w q;simp(disch:=omega)[hle',e2];refine gz _ (q+1) _ (by push_cast;rfl) _ _ (by rw[lDr];omega) (by rw[lDr];omega) ?_;cases hh:hp (w.drop (w.length-2*(q+1))) (q+1)
  .rw[hno,hh]at hs;refine sS ?_;exact rndS (q+1) ⟨rfl,by omega,hs⟩
  .rw[show dY w=true from rQ hlt hh]at h;refine sS ?_;exact ad h
 .have hle':¬(2:Int)*(q+1)<=w.length:=by omega
  have hq':q=w.length/2:=by omega
  rw[show dY w=fb w (w.length/2) from rfl,<-hq',hno]at h;simp(disch:=omega)[hle'];exact ad h
theorem ob(w:B8)(M:Mem)(R:VP)(hl:w.length<=60)(h:R (.bool (dY w)) M):ar prog 358 [str w] M R:=by
 refine fnT func358 rfl ntmps358 results358 ?_;refine lupS (rlA [] 2 27) (fun q:Nat=>[(3,.int .i64 (q+1))]) (fun q M'=>M'=M/\q<=w.length/2/\fb w q=false) (fun q=>w.length/2-q) 0 ⟨rfl,by omega,rfl⟩ ?_
 rintro q M' g ⟨rfl,hq,hno⟩
 by_cases hlt:q<w.length/2
 .have hle':(2:Int)*(q+1)<=w.length:=by omega
  have e1:((w.length:Int)-(q+1)).toNat=w.length-(q+1):=by omega
  have e2:((w.length:Int)-2*(q+1)).toNat=w.length-2*(q+1):=by omega
  have hs:=qg w q;have hsq:=Wo (u:=w) (q:=q+1) (by omega);simp(disch:=omega)[hle'];refine drwS ?_;simp(disch:=omega)[e1,e2,hsq];cases hh:hp (w.drop (w.length-2*(q+1))) (q+1)
  .rw[hno,hh]at hs;refine sS ?_;exact rndS (q+1) ⟨rfl,by omega,hs⟩
  .rw[show dY w=true from rQ hlt hh]at h;refine sS ?_;exact ad h
 .have hle':¬(2:Int)*(q+1)<=w.length:=by omega
  have hq':q=w.length/2:=by omega
  rw[show dY w=fb w (w.length/2) from rfl,<-hq',hno]at h;simp(disch:=omega)[hle'];exact ad h
def EY(w:B8)(n:Nat):Bool:=(range n).any fun m=>dY (w.take m)
theorem vB(w:B8)(n:Nat):EY w (n+1)=(EY w n||dY (w.take n)):=by simp[EY,range_succ]
theorem P5(w:B8):EY w 2=false:=by
 have h:∀ n,n<2->dY (w.take n)=false:=fun n hn=>by
  unfold dY;rw[show (w.take n).length/2=0 by rw[lTa];omega];rfl
 rw[show (2:Nat)=0+1+1 from rfl,vB,vB,h 0 (by omega),h 1 (by omega)];rfl
theorem G6{w:B8}{n m:Nat}(h:n<m)(hh:dY (w.take n)=true):EY w m=true:=by
 unfold EY;rw[any_eq_true];exact⟨n,mem_range.2 h,hh⟩
theorem Gz(w:B8)(M:Mem)(R:VP)(hl:w.length<=60)(h:R (.bool (na w)) M):ar prog 357 [str w] M R:=by
 refine fnS func357 rfl ntmps357 results357 ?_;rw[Nj]at h;refine sS ?_;refine lupS (rlA [] 2 12) (fun n:Nat=>[(3,.int .i64 n)]) (fun n M'=>M'=M/\2<=n/\(n<=w.length+1\/n=2)/\EY w n=false) (fun n=>w.length+2-n) 2 ⟨rfl,by omega,by omega,P5 w⟩ ?_
 rintro n M' g ⟨rfl,hn2,hn,hno⟩
 by_cases hlt:n<=w.length
 .have hs:=vB w n;refine sS ?_;refine ob _ _ _ (by rw[lTa];omega) ?_;cases hh:dY (w.take n)
  .rw[hno,hh]at hs;refine sS ?_;exact rndS (n+1) ⟨rfl,by omega,by omega,hs⟩
  .rw[show (range (w.length+1)).any (fun n=>dY (w.take n))=true from G6 (by omega) hh]at h;refine sS ?_;exact ad h
 .have hno':(range (w.length+1)).any (fun n=>dY (w.take n))=false:=by
   cases hh:EY w (w.length+1) with
   | false=>exact hh
   | true=>
    unfold EY at hh;obtain⟨m,hm,h2⟩:=any_eq_true.1 hh;have:=mem_range.1 hm;rw[G6 (m:=n) (by omega) h2]at hno;cases hno
  rw[hno']at h;refine sS ?_;exact ad h
theorem yV{S:Type}(k n:Nat)(hk:k<=5)(hn:n<=50)(fv:Value)(step:S->B8->S×Bool)(J:S->Mem->Prop)(ht:∀ s w M R,w.length=n->Lt0 k w->J s M->(∀ M',J (step s w).1 M'->R (.bool (step s w).2) M')->fO prog fv [str w] R M) :
  ∀(d:Nat) (w:B8) (s:S) (M:Mem) (R:VP),w.length+d=n->Lt0 k w->J s M->(∀ M',J (bU step s (grL k d w)).1 M'->R (.bool (bU step s (grL k d w)).2) M')->ar prog 337 [str w,.int .i64 n,.int .i64 k,fv] M R
 | 0,w,s,M,R,hd,hlt0,hJ,h=>by
  have hb:((w.length:Int)==n)=true:=by rw[beq_iff_eq];omega
  unfold grL at h;rw[zv]at h;refine fnT func337 rfl ntmps337 results337 ?_;refine bZ w _ _ (by omega) ?_;simp(disch:=omega)[hb];refine ht s w _ _ (by omega) hlt0 hJ fun M' hM'=>?_;refine sS ?_;exact ad (h M' hM')
 | d+1,w,s,M,R,hd,hlt0,hJ,h=>by
  have hb:((w.length:Int)==n)=false:=bNe.2 (by omega);refine fnT func337 rfl ntmps337 results337 ?_;refine bZ w _ _ (by omega) ?_;simp(disch:=omega)[hb];refine lupS (rlA [8,9,10] 19 17) (fun i:Nat=>[(19,.int .i64 i)]) (fun i M'=>i<=k/\J (bU step s (grN k d w i)).1 M'/\(bU step s (grN k d w i)).2=false) (fun i=>k-i) 0 ⟨by omega,by rw[GS,nK];exact hJ,by rw[GS,nK]⟩ ?_
  rintro i M' g ⟨hi,hM',hno⟩
  have hs:=Il k d w i;by_cases hlt:i<k
  .refine sS ?_;refine db i _ _ (by omega) ?_;refine sS ?_;have hl':(w++[ltr i]).length=w.length+1:=by simp
   refine Bo _ _ _ (by omega) ?_;unfold grS at hs;cases he:dY (w++[ltr i])
   .rw[he,if_neg (by decide)]at hs;refine sS ?_;refine yV k n hk hn fv step J ht d (w++[ltr i]) (bU step s (grN k d w i)).1 _ _ (by omega) (Ih hlt0 hlt (by omega)) hM' fun M2 hM2=>?_;rw[<-sY hno,<-hs]at hM2;have hrun:bU step (bU step s (grN k d w i)).1 (grL k d (w++[ltr i]))=bU step s (grN k d w (i+1)):=by rw[hs,sY hno]
    rw[hrun];cases hr:(bU step s (grN k d w (i+1))).2
    .refine sS ?_;exact rndS (i+1) ⟨by omega,hM2,hr⟩
    .obtain⟨rest,hrest⟩:=CF k d w (i:=i+1) (by omega);rw[hrest,vz hr,hr]at h;refine sS ?_;exact ad (h M2 hM2)
   .rw[he,if_pos rfl,append_nil]at hs;refine sS ?_;exact rndS (i+1) ⟨by omega,by rw[hs];exact hM',by rw[hs];exact hno⟩
  .have hi':i=k:=by omega
   rw[hi']at hM' hno;rw[Dy k d w,hno]at h;refine sS ?_;exact ad (h M' hM')
theorem vw{l r:List B8}{p:B8->Bool}{u:B8}(h:l.find? p=some u):(l++r).find? p=some u:=by rw[find?_append,h];rfl
theorem wb{l r:List B8}{p:B8->Bool}(h:l.find? p=none):(l++r).find? p=r.find? p:=by rw[find?_append,h];rfl
def sqI(ws:List B8)(u:B8):Bool:=na (aS ws u)
def fnd(ws:List B8)(l:List B8):Option B8:=l.find? (sqI ws)
theorem Sv(ws:List B8)(u:B8):fnd ws [u]=if sqI ws u then some u else none:=by
 unfold fnd;rw[find?_cons];cases sqI ws u<;>rfl
theorem qv(v:Value)(ws:List B8)(n:Nat)(hm:aY ws=true)(hn:n<=5):∀(d:Nat) (w:B8) (M:Mem) (R:VP),Rd M v (strs ws)->w.length+d=n->Lt0 ws.length w->(∀ u,fnd ws (grL ws.length d w)=some u->R (.tuple #[str u,.bool true]) M)->(fnd ws (grL ws.length d w)=none->∀ x,R (.tuple #[str x,.bool false]) M) ->
  ar prog 276 [.agg #[v],str w,.int .i64 n] M R
 | 0,w,M,R,hv,hd,hL,h1,h0=>by
  have hb:((w.length:Int)==n)=true:=by rw[beq_iff_eq];omega
  have hil:=jj hm (l:=w) hL;unfold grL at h1 h0;rw[Sv]at h1 h0;obtain⟨a,c,rfl,ha⟩:=hv.opened;rw[ah]at hv ⊢;refine fnT func276 rfl ntmps276 results276 ?_;intro b3 hb3;have hv3:=hv.put hb3 (.cells true [.slice a ws.length c] 1);have hs3:=(Sub.refl M).put hb3 (.cells true [.slice a ws.length c] 1);simp(disch:=omega)[hb];refine lb _ ws w _ _ hv3 hm (by omega) hL ?_;refine sS ?_;refine Gz _ _ _ (by omega) ?_;unfold sqI at h1 h0;cases hq:na (aS ws w)
  .rw[hq]at h0;refine sS ?_;exact ag hs3 (h0 rfl w)
  .rw[hq]at h1;refine sS ?_;exact ag hs3 (h1 w rfl)
 | d+1,w,M,R,hv,hd,hL,h1,h0=>by
  have hb:((w.length:Int)==n)=false:=bNe.2 (by omega);have h15:=aW hm;obtain⟨a,c,rfl,ha⟩:=hv.opened;rw[ah]at hv ⊢;refine fnT func276 rfl ntmps276 results276 ?_;intro b3 hb3;have hv3:=hv.put hb3 (.cells true [.slice a ws.length c] 1);have hs3:=(Sub.refl M).put hb3 (.cells true [.slice a ws.length c] 1);have k3:=ae M b3 (.cells true [.slice a ws.length c] 1);simp(disch:=omega)[hb];generalize M.put b3 (.cells true [.slice a ws.length c] 1)=N at *;refine lupS (rlA [6,7,8,9,10,11] 21 24) (fun i:Nat=>[(8,.int .i64 i)]) (fun i M'=>M'=N/\i<=ws.length/\fnd ws (grN ws.length d w i)=none) (fun i=>ws.length-i) 0 ⟨rfl,by omega,rfl⟩ ?_
  rintro i M' g ⟨rfl,hi,hno⟩
  have hs:=Il ws.length d w i;by_cases hlt:i<ws.length
  .have hr:=ym (i:=i) (by omega);have hl':(w++[ltr i]).length=w.length+1:=by simp
   simp(disch:=omega)[ak k3,uN,hr];refine ob _ _ _ (by omega) ?_;unfold grS at hs;cases he:dY (w++[ltr i])
   .rw[he,if_neg (by decide)]at hs;have hfs:fnd ws (grN ws.length d w (i+1))=fnd ws (grL ws.length d (w++[ltr i])):=by
     rw[hs];exact wb hno
    simp(disch:=omega)[aq k3];refine qv _ ws n hm hn d (w++[ltr i]) _ _ hv3 (by omega) (Ih hL hlt (by omega)) ?_ ?_
    .intro u hu;obtain⟨rest,hrest⟩:=CF ws.length d w (i:=i+1) (by omega);have:=h1 u (by rw[hrest];exact vw (by rw[<-hu,<-hfs];rfl));refine sS ?_;exact ag hs3 this
    .intro hnn x;refine sS ?_;exact rndS (i+1) ⟨rfl,by omega,by rw[hfs];exact hnn⟩
   .rw[he,if_pos rfl,append_nil]at hs;refine sS ?_;exact rndS (i+1) ⟨rfl,by omega,by rw[hs];exact hno⟩
  .have hi':i=ws.length:=by omega
   rw[hi']at hno;simp(disch:=omega)[ak k3];exact ag hs3 (h0 (by rw[Dy];exact hno) [])
def p6(ws:List B8):B8:=if lA ws=0 then (if jS ws<=5 then (match jH ws (jS ws+1) with|some u=>u|none=>[]) else []) else []
def yG(ws:List B8):Int:=if lA ws=0 then (if jS ws<=5 then (match jH ws (jS ws+1) with|some _=>0|none=>4) else 3) else lA ws
theorem Jw{ws:List B8}(h:lA ws=0):aY ws=true/\jS ws≠0:=by
 unfold lA at h;split at h
 .rename_i h1;split at h
  .cases h
  .rename_i h2;exact⟨h1,h2⟩
 .cases h
theorem mY(v:Value)(ws:List B8)(M:Mem)(R:VP)(hv:Rd M v (strs ws))(hf:cS ws)(hn:ws.length<=1099511627776)(h:R (aF (str (p6 ws)) (yG ws)) M):ar prog 189 [.agg #[v]] M R:=by
 refine fnS func189 rfl ntmps189 results189 ?_;obtain⟨a,c,rfl,ha⟩:=hv.opened;rw[ah]at hv ⊢;refine sS ?_;intro b1 hb1;have hs1:=(Sub.refl M).put hb1 (.cells true [.slice a ws.length c] 1);have hv1:=hv.put hb1 (.cells true [.slice a ws.length c] 1);have k1:=ae M b1 (.cells true [.slice a ws.length c] 1);refine sS ?_;generalize M.put b1 (.cells true [.slice a ws.length c] 1)=N at *;refine fK _ ws _ _ hv1 hf hn ?_;unfold p6 yG lA at h;cases hm:aY ws
 .rw[hm]at h;refine sS ?_;exact ag hs1 h
 .rw[hm,if_pos rfl]at h;simp(disch:=omega)[aq k1];refine DW _ ws _ _ hv1 hm ?_;generalize jS ws=r at *;by_cases h0:r=0
  .subst h0;refine sS ?_;exact ag hs1 h
  .have h0':((r:Int)==0)=false:=bNe.2 (by omega);rw[if_neg h0,if_pos rfl,if_pos rfl]at h;by_cases h5:r<=5
   .have h5':¬(5:Int)<r:=by omega
    rw[if_pos h5,if_pos h5]at h;simp(disch:=omega)[h0',h5'];refine lupS (rlA [2,3,5,6,7] 19 13) (fun m:Nat=>[(5,.int .i64 m)]) (fun m M'=>M'=N/\m<=r+1/\jH ws m=none) (fun m=>r+1-m) 0 ⟨rfl,by omega,rfl⟩ ?_
    rintro m M' g ⟨rfl,hmr,hno⟩
    have hs:=wK ws m;rw[hno,Option.none_or]at hs;by_cases hlt:m<=r
    .simp(disch:=omega)[aq k1];refine qv _ ws m hm (by omega) m [] _ _ hv1 (by simp) (La _) ?_ ?_
     .intro u hu;rw[zp (m:=r+1) (by omega) hno (show uC ws m []=some u from hu)]at h;refine sS ?_;exact ag hs1 h
     .intro hnn x;refine sS ?_;exact rndS (m+1) ⟨rfl,by omega,by rw[hs];exact hnn⟩
    .have hm':m=r+1:=by omega
     rw[<-hm',hno]at h;refine sS ?_;exact ag hs1 h
   .have h5':(5:Int)<r:=by omega
    rw[if_neg h5,if_neg h5]at h;simp(disch:=omega)[h0',h5'];exact ag hs1 h
theorem mZ(v:Value)(ws:List B8)(M:Mem)(R:VP)(hv:Rd M v (strs ws))(hf:cS ws)(hn:ws.length<=1099511627776)(h:R (aF (str (p6 ws)) (yG ws)) M):ar prog 247 [.agg #[v]] M R:=by
 refine fnS func247 rfl ntmps247 results247 ?_;obtain⟨a,c,rfl,ha⟩:=hv.opened;rw[ah]at hv ⊢;refine sS ?_;intro b1 hb1;have hs1:=(Sub.refl M).put hb1 (.cells true [.slice a ws.length c] 1);have hv1:=hv.put hb1 (.cells true [.slice a ws.length c] 1);have k1:=ae M b1 (.cells true [.slice a ws.length c] 1);refine sS ?_;generalize M.put b1 (.cells true [.slice a ws.length c] 1)=N at *;refine wW _ ws _ _ hv1 hf hn ?_;unfold p6 yG at h;have hT:Mf ws=if lA ws=0 then jS ws else 0:=by
  unfold Mf lA;cases aY ws
  .rfl
  .by_cases h0:jS ws=0
   .simp[h0]
   .simp[h0]
 by_cases hc:lA ws=0
 .obtain⟨hm,h0⟩:=Jw hc;have h15:=aW hm;rw[if_pos hc,if_pos hc]at h;rw[if_pos hc]at hT;rw[hT,hc];generalize jS ws=r at *;by_cases h5:r<=5
  .have h5':¬(5:Int)<r:=by omega
   rw[if_pos h5,if_pos h5]at h;unfold aF;simp(disch:=omega)[h5'];refine lupS (rlA [2,3,6,7] 22 10) (fun m:Nat=>[(22,.int .i64 m)]) (fun m M'=>M'=N/\m<=r+1/\jH ws m=none) (fun m=>r+1-m) 0 ⟨rfl,by omega,rfl⟩ ?_
   rintro m M' g ⟨rfl,hmr,hno⟩
   have hs:=wK ws m;rw[hno,Option.none_or]at hs;by_cases hlt:m<r+1
   .refine sS ?_;intro b7 hb7;have hne:b1≠b7:=by rintro rfl;rw[k1]at hb7;cases hb7
    simp(disch:=omega)[aq k1];refine jg _ (strs ws) _ _ (hv1.put hb7 _) (by rw[ah];omega) ?_;rw[ah];refine sS ?_;refine yV (S:=B8) ws.length m (by omega) (by omega) _ (Gy ws) (fun s K=>K b7=some (.cells true [str s] 1)/\∃ A,Sub M' A/\K=A.put b7 (.cells true [str s] 1)) ?_ m [] [] _ _ (by simp) (La _) ⟨ae _ _ _,M',Sub.refl M',rfl⟩ ?_
    .rintro s w K R' hw hL ⟨q7,A,sA,rfl⟩ hR
     have q1:(A.put b7 (.cells true [str s] 1)) b1=some (.cells true [.slice a ws.length c] 1):=by rw[al _ _ hne];exact sA _ _ k1
     have hil:=jj hm (l:=w) hL;refine sS ?_;refine fnS func338 rfl ntmps338 results338 ?_;simp(disch:=omega)[aq (sA _ _ k1)];have hv2:Rd (A.put b7 (.cells true [str w] 1)) (.slice a ws.length c) (strs ws):=by
      refine hv1.sub ?_;intro i B hB;have:i≠b7:=by rintro rfl;rw[hB]at hb7;cases hb7
      rw[al _ _ this];exact sA _ _ hB
     refine mr _ ws w _ _ hv2 hm (by omega) hL ?_;refine sS ?_;refine rZ _ _ _ (by omega) ?_;refine sS ?_;exact ad (hR _ ⟨ae _ _ _,A,sA,rfl⟩)
    .rintro K ⟨q7,A,sA,rfl⟩
     have hrf:=CE ws (grL ws.length m []) [];rw[hrf.1];have hmk:uC ws m []=(grL ws.length m []).find? (fun u=>na (aS ws u)):=rfl;cases hq:(grL ws.length m []).find? (fun u=>na (aS ws u)) with
     | none=>
      rw[hq]at hmk;refine sS ?_;refine rndM M' (m+1) ?_ ⟨rfl,by omega,by rw[hs];exact hmk⟩;intro i B hB;have:i≠b7:=by rintro rfl;rw[hB]at hb7;cases hb7
      rw[al _ _ this];exact sA _ _ hB
     | some u=>
      rw[hq]at hmk;have hu:=hrf.2 u hq;rw[hu];rw[zp hlt hno hmk]at h;refine sS ?_;refine ag ?_ h;intro i B hB;have:i≠b7:=by rintro rfl;rw[hs1 _ _ hB]at hb7;cases hb7
      rw[al _ _ this];exact sA _ _ (hs1 _ _ hB)
   .have hm':m=r+1:=by omega
    rw[<-hm',hno]at h;refine sS ?_;exact ag hs1 h
  .have h5':(5:Int)<r:=by omega
   rw[if_neg h5,if_neg h5]at h;unfold aF;simp(disch:=omega)[h5'];exact ag hs1 h
 .rw[if_neg hc,if_neg hc]at h;rw[if_neg hc]at hT;have hb:(lA ws==0)=false:=bNe.2 hc;rw[hT];generalize lA ws=code at *;unfold aF;simp(disch:=omega)[hb];exact ag hs1 h
def kl(w:B8)(n:Nat):List Int:=((range n).filter fun p=>hp w (p+1)).map fun (p:Nat)=>((p+1:Nat):Int)
def cN(w:B8):List Int:=kl w w.length
theorem AG(w:B8)(n:Nat):kl w (n+1)=kl w n++if hp w (n+1) then [((n+1:Nat):Int)] else []:=by
 unfold kl;rw[range_succ,filter_append,map_append]
 congr 1
 cases h:hp w (n+1)<;>simp[h]
theorem vA(w:B8)(n:Nat):(kl w n).length<=n:=by
 unfold kl;rw[length_map];exact Nat.le_trans (length_filter_le _ _) (by rw[length_range];exact lRf _)
def cQ(w:B8):Nat:=((range w.length).find? fun q=>hp w (q+1)).getD 0+1
theorem Jd(w:B8):hp w w.length=true:=by
 unfold hp;rw[drop_length,Nat.sub_self];rfl
theorem LS{w:B8}{p:Nat}(h1:1<=p)(h2:p<=w.length)(h3:hp w p=true)(h4:∀ q,1<=q->q<p->hp w q=false):cQ w=p:=by
 unfold cQ;have:(range w.length).find? (fun q=>hp w (q+1))=some (p-1):=by
  rw[find?_range_eq_some];refine⟨by rw[show p-1+1=p by omega];exact h3,mem_range.2 (by omega),fun j hj=>?_⟩;rw[h4 (j+1) (by omega) (by omega)];rfl
 rw[this];simp only[Option.getD_some];omega
def eU(w:B8):B8:=if w.length%cQ w=0 then w.take (cQ w) else w
def cl(w:B8):Bool:=w==w.reverse
def Fe(w:B8):Nat:=((range w.length).find? fun i=>cl (w.drop i)).getD w.length
theorem LU{w:B8}{i:Nat}(h1:i<=w.length)(h2:cl (w.drop i)=true)(h3:∀ j,j<i->cl (w.drop j)=false):Fe w=i:=by
 unfold Fe;by_cases hi:i=w.length
 .have:(range w.length).find? (fun i=>cl (w.drop i))=none:=by
   rw[find?_eq_none];intro j hj;have:=mem_range.1 hj;rw[h3 j (by omega)];simp
  rw[this,hi];rfl
 .have:(range w.length).find? (fun i=>cl (w.drop i))=some i:=by
   rw[find?_range_eq_some];exact⟨h2,mem_range.2 (by omega),fun j hj=>by rw[h3 j hj];rfl⟩
  rw[this];rfl
theorem LM(w:B8):Fe w<=w.length:=by
 unfold Fe;cases h:(range w.length).find? (fun i=>cl (w.drop i)) with
 | none=>exact lRf _
 | some i=>
  have:=mem_range.1 (mem_of_find?_eq_some h);simp only[Option.getD_some];omega
def mV(w:B8):B8:=w++(w.take (Fe w)).reverse
theorem C0(w:B8):(mV w).length<=2*w.length:=by
 unfold mV;rw[lAp,length_reverse,lTa];omega
def eh(w:B8)(k:Nat):B8:=(replicate k w).flatten
def cy(w:B8):Int:=if isWord w then (if w=[] then 5 else 0) else 1
def mL(w:B8):B8:=if cy w=0 then eU w else []
def qa(w:B8):Int:=if cy w=0 then ((w.length/(eU w).length:Nat):Int) else 0
def ql(w:B8):B8:=if isWord w then (if (mV w).length<=60 then mV w else []) else []
def qo(w:B8):Int:=if isWord w then (if (mV w).length<=60 then 0 else 3) else 1
def gw:List B8:=[[102,105,98,111,110,97,99,99,105],[116,104,117,101],[100,111,117,98,108,105,110,103],[116,114,105,112,108,101]]
end Go.Proofs.YtapimhjbilkfpaaGreatDoor
