/- Lemmas for FnExactDeskAfter, part 7 of 33. -/
import Derived.Test.YtapimhjbilkfpaaGreatDoorZ05
import Derived.Lib.AppendIntMem
import Derived.Lib.AtoiErrMem
set_option linter.unusedVariables false
set_option linter.unusedSimpArgs false
namespace Go.Proofs.YtapimhjbilkfpaaGreatDoor
open Go Go.Proofs.Tryz List
theorem Own.push{M M':Mem}{v:Value}{xs:List Value}(h:Own M v xs M'){b:Nat}(hb:M' b=none)(B:Blk):Own (M.put b B) v xs (M'.put b B):=by
 rcases h with ⟨rfl,rfl,rfl⟩|⟨b',c,rfl,hM,hc,rfl⟩
 ·exact Own.nil _
 ·have hne:b≠b':=by rintro rfl;rw[ag]at hb;cases hb
  refine .inr ⟨b',c,rfl,by rw[aA];exact⟨Ne.symm hne,hM⟩,hc,?_⟩
  funext i
  simp only[Mem.put];by_cases h1:i=b
  ·rw[if_pos h1,if_neg (by rw[h1];exact hne),if_pos h1]
  ·rw[if_neg h1,if_neg h1]
theorem aj(M:Mem)(b:Nat)(B:Blk):M.set b B=M.put b B:=rfl
theorem Own.other{M M':Mem}{v:Value}{xs:List Value}{b:Nat}{B0:Blk}(h:Own M v xs M')(hb:M b=some B0)(B:Blk):Own (M.put b B) v xs (M'.put b B):=by
 rcases h with ⟨rfl,rfl,rfl⟩|⟨b',c,rfl,hM,hc,rfl⟩
 ·exact Own.nil _
 ·have hne:b≠b':=by rintro rfl;rw[hM]at hb;cases hb
  refine .inr ⟨b',c,rfl,by rw[aA];exact⟨Ne.symm hne,hM⟩,hc,?_⟩
  funext i
  simp only[Mem.put];by_cases h1:i=b
  ·rw[if_pos h1,if_neg (by rw[h1];exact hne),if_pos h1]
  ·rw[if_neg h1,if_neg h1]
theorem aW(M:Mem)(b:Nat)(A B:Blk):(M.put b A).put b B=M.put b B:=by
 funext i;simp only[Mem.put];split<;>rfl
def cQ(w p:B8)(v:Value):Value:=.agg #[str w,str p,v]
theorem wY(v v':Value)(xs ys:List B8)(M:Mem)(R:VP)(hx:Rd M v (strs xs))(hy:Rd M v' (strs ys))(hl:xs.length<=1099511627776)(hl':ys.length<=1099511627776)
  (h:R (.bool (xs==ys)) M):ar prog 35 [.agg #[v],.agg #[v']] M R:=by
 refine fnS func35 rfl ntmps35 results35 ?_;obtain⟨a,c,rfl,ha⟩:=hx.opened;obtain⟨a',c',rfl,ha'⟩:=hy.opened;rw[ah]at hx hy ⊢;rw[ah];simp(disch:=omega);intro b1 hb1;simp(disch:=omega);intro b2 hb2;simp(disch:=omega);have h2:=hb2;rw[aA]at h2;simp(disch:=omega);refine yG _ _ xs ys _ _ ((hx.put hb1 _).put hb2 _) ((hy.put hb1 _).put hb2 _) hl hl' ?_;have hs:Sub M ((M.put b1 (.cells true [.slice a xs.length c] 1)).put b2 (.cells true [.slice a' ys.length c'] 1)):=((Sub.refl _).put hb1 _).putN hb2 _;cases he:(xs==ys)
 ·rw[he]at h;simp(disch:=omega);exact ae hs h
 ·rw[he]at h;simp(disch:=omega);exact ae hs h
theorem tg(v:Value)(xs:List Value)(k:Int)(M M1:Mem)(R:VP)(hv:Own M v xs M1)(hl:xs.length<=1099511627776)(h0:0<=k)(hk:k<=1099511627776)
  (h:∀ N M2,Sub M N->Own N v (fa k xs.length) M2->R (.int .i64 (k+xs.length)) M2):ar prog 36 [.agg #[v],.int .i64 k] M1 R:=by
 refine fnS func36 rfl ntmps36 results36 ?_;obtain⟨a,c,rfl,ha⟩:=hv.rd.opened;simp(disch:=omega);intro b1 hb1;simp(disch:=omega);have hM:M b1=none:=by
  cases hMb:M b1 with
  | none=>rfl
  | some B=>rw[hv.sub _ _ hMb]at hb1;cases hb1
 refine lA _ xs k _ _ _ (hv.push hb1 _) hl h0 hk ?_;intro M2 o2;simp(disch:=omega);exact ad (h _ M2 ((Sub.refl _).put hM _) o2)
theorem rN(v:Value)(n:Nat)(k:Int)(M:Mem)(R:VP)(hv:Rd M v (fa k n))(hl:n<=1099511627776)(h0:0<=k)(hk:k<=1099511627776)
  (h:R (.int .i64 (k+n)) M):ar prog 37 [.agg #[v],.int .i64 k] M R:=by
 refine fnS func37 rfl ntmps37 results37 ?_;obtain⟨a,c,rfl,ha⟩:=hv.opened;simp(disch:=omega);intro b1 hb1;simp(disch:=omega);have hv':=hv.put hb1 (.cells true [.slice a n c] 1);rw[dT]at hv';refine uU _ n k _ _ hv' hl h0 hk ?_;simp(disch:=omega);exact ae ((Sub.refl _).put hb1 _) h
theorem mR(M:Mem)(R:VP)(h:∀ v M',Own M v (strs [[97,98],[97]]) M'->R (cQ [97,98,97,97,98] [65,65] v) M'):ar prog 52 [] M R:=by
 refine fnS func52 rfl ntmps52 results52 ?_;simp(disch:=omega);intro b1 hb1;simp(disch:=omega);intro b2 hb2;have h2:=hb2;rw[aA]at h2;simp(disch:=omega);refine ae ?_ (h _ (M.put b2 (.cells true (strs [[97,98],[97]]) 2)) (Own.new h2.2 rfl (lRf 2)));exact((Sub.refl M).put hb1 _).both b2 _
theorem fV(M:Mem)(R:VP)(h:∀ v M',Own M v (strs [[97,98],[97]]) M'->R (cQ [97,98,97,97,98] [65,65] v) M'):ar prog 13 [] M R:=by
 refine fnS func13 rfl ntmps13 results13 ?_;simp(disch:=omega);intro b1 hb1;simp(disch:=omega);intro b2 hb2;have h2:=hb2;rw[aA]at h2;simp(disch:=omega);refine ae ?_ (h _ (M.put b2 (.cells true (strs [[97,98],[97]]) 2)) (Own.new h2.2 rfl (lRf 2)));exact((Sub.refl M).put hb1 _).both b2 _
theorem fK(w w' p p':B8)(v v':Value)(xs ys:List B8)(M:Mem)(R:VP)(hx:Rd M v (strs xs))(hy:Rd M v' (strs ys))(hl:xs.length<=1099511627776)(hl':ys.length<=1099511627776)
  (h:R (.bool ((w==w')&&((p==p')&&(xs==ys)))) M):ar prog 18 [cQ w p v,cQ w' p' v'] M R:=by
 unfold cQ;obtain⟨a,c,rfl,ha⟩:=hx.opened;obtain⟨a',c',rfl,ha'⟩:=hy.opened;rw[ah]at hx hy ⊢;rw[ah];refine fnS func18 rfl ntmps18 results18 ?_;simp(disch:=omega);intro b1 hb1;simp(disch:=omega);intro b2 hb2;have h2:=hb2;rw[aA]at h2;have hs:Sub M ((M.put b1 (.cells true [str w,str p,.slice a xs.length c] 3)).put b2 (.cells true [str w',str p',.slice a' ys.length c'] 3)):=((Sub.refl _).put hb1 _).putN hb2 _;cases e1:(w==w')
 ·rw[e1]at h;simp(disch:=omega)[e1];exact ae hs h
 ·rw[e1]at h;cases e2:(p==p')
  ·rw[e2]at h;simp(disch:=omega)[e1,e2];exact ae hs h
  ·rw[e2]at h;simp(disch:=omega)[e1,e2];refine wY _ _ xs ys _ _ ((hx.put hb1 _).put hb2 _) ((hy.put hb1 _).put hb2 _) hl hl' ?_;cases e3:(xs==ys)
   ·rw[e3]at h;simp(disch:=omega);exact ae hs h
   ·rw[e3]at h;simp(disch:=omega);exact ae hs h
theorem Bg(w p:B8)(v:Value)(xs:List Value)(k:Int)(M M1:Mem)(R:VP)(hv:Own M v xs M1)(hl:xs.length<=1099511627776)(h0:0<=k)(hk:k<=1099511627776)
  (h:∀ N M2,Sub M N->Own N v (fa k xs.length) M2->R (.int .i64 (k+xs.length)) M2):ar prog 19 [cQ w p v,.int .i64 k] M1 R:=by
 unfold cQ;refine fnS func19 rfl ntmps19 results19 ?_;obtain⟨a,c,rfl,ha⟩:=hv.rd.opened;simp(disch:=omega);intro b1 hb1;simp(disch:=omega);have hM:M b1=none:=by
  cases hMb:M b1 with
  | none=>rfl
  | some B=>rw[hv.sub _ _ hMb]at hb1;cases hb1
 refine tg _ xs k _ _ _ (hv.push hb1 _) hl h0 hk ?_;intro N M2 hs o2;simp(disch:=omega);exact ad (h N M2 (((Sub.refl _).put hM _).trans hs) o2)
theorem gY(w p:B8)(v:Value)(n:Nat)(k:Int)(M:Mem)(R:VP)(hv:Rd M v (fa k n))(hl:n<=1099511627776)(h0:0<=k)(hk:k<=1099511627776)
  (h:R (.int .i64 (k+n)) M):ar prog 20 [cQ w p v,.int .i64 k] M R:=by
 unfold cQ;refine fnS func20 rfl ntmps20 results20 ?_;obtain⟨a,c,rfl,ha⟩:=hv.opened;simp(disch:=omega);intro b1 hb1;simp(disch:=omega);have hv':=hv.put hb1 (.cells true [str w,str p,.slice a n c] 3);rw[dT]at hv';refine rN _ n k _ _ hv' hl h0 hk ?_;simp(disch:=omega);exact ae ((Sub.refl _).put hb1 _) h
def seg(w:B8)(a m:Nat):B8:=(w.take (a+m)).drop a
theorem eB{w:B8}{a m:Nat}(h:a+m<=w.length):(seg w a m).length=m:=by unfold seg;rw[length_drop,lTa];omega
theorem rH{w:B8}(h:w.all isL=true)(a m:Nat):(seg w a m).all isL=true:=by
 rw[all_eq_true]at *;intro u hu;exact h u (mem_of_mem_take (mem_of_mem_drop hu))
theorem nE(w:B8)(m:Nat):seg w 0 m=w.take m:=by simp[seg]
theorem ga{w:B8}{a m:Nat}:(w.take ((a:Int)+m).toNat).drop a=seg w a m:=by unfold seg;rw[show ((a:Int)+m).toNat=a+m by omega]
inductive cu (M:Mem):List Value->List (List Int)->Mem->Prop
 | nil:cu M [] [] M
 | more {rs:List Value} {rows:List (List Int)} {N:Mem} {b c:Nat} {r:List Int} (cc:Nat) (x:List Value) (h:cu M rs rows N) (hb:N b=none) (hc:r.length<=cc) :
  cu M (rs++[.slice (some ⟨b,0,none⟩) r.length cc]) (rows++[r]) (N.put b (.cells true (ints r++x) c))
theorem cu.snoc{M:Mem}{rs:List Value}{rows:List (List Int)}{N:Mem}{b c:Nat}{r:List Int}(h:cu M rs rows N)(hb:N b=none)(hc:r.length<=c) :
  cu M (rs++[.slice (some ⟨b,0,none⟩) r.length c]) (rows++[r]) (N.put b (.cells true (ints r) c)):=by
 have:=h.more (c:=c) c [] hb hc;rw[append_nil]at this;exact this
theorem cu.sub{M N:Mem}{rs:List Value}{rows:List (List Int)}(h:cu M rs rows N):Sub M N:=by
 induction h with
 | nil=>exact Sub.refl _
 | more cc x h hb hc ih=>exact ih.putN hb _
theorem cu.len{M N:Mem}{rs:List Value}{rows:List (List Int)}(h:cu M rs rows N):rs.length=rows.length:=by
 induction h with
 | nil=>rfl
 | more cc x h hb hc ih=>rw[lAp,lAp,ih];rfl
theorem cu.base{M M' N:Mem}{rs:List Value}{rows:List (List Int)}(h:cu M' rs rows N)(hs:Sub M M'):∃ N2,cu M rs rows N2/\Sub N2 N:=by
 induction h with
 | nil=>exact⟨M,.nil,hs⟩
 | more cc x h hb hc ih=>
  obtain⟨N2,h1,h2⟩:=ih;exact⟨_,h1.more cc x (bA h2 hb) hc,h2.both _ _⟩
theorem cu.at{M N:Mem}{rs:List Value}{rows:List (List Int)}(h:cu M rs rows N):∀(i:Nat) (r:List Int),rows[i]?=some r->∃ b c cc x,rs[i]?=some (.slice (some ⟨b,0,none⟩) r.length cc)/\N b=some (.cells true (ints r++x) c)/\r.length<=cc/\M b=none:=by
 induction h with
 | nil=>intro i r h;simp at h
 | @more rs rows N b c r cc x h hb hc ih=>
  intro i r' hi;rcases Nat.lt_trichotomy i rows.length with hlt|heq|hgt
  ·rw[getElem?_append_left hlt]at hi;obtain⟨b',c',cc',x',h1,h2,h3,h4⟩:=ih i r' hi;refine⟨b',c',cc',x',by rw[getElem?_append_left (by rw[h.len];exact hlt),h1],?_,h3,h4⟩;rw[ai _ _ (by rintro rfl;rw[hb]at h2;cases h2),h2]
  ·subst heq;rw[getElem?_append_right (lRf _),Nat.sub_self]at hi;injection hi with hi
   subst hi;refine⟨b,c,cc,x,?_,ag _ _ _,hc,bA h.sub hb⟩;rw[getElem?_append_right (by rw[h.len];exact lRf _),h.len,Nat.sub_self];rfl
  ·rw[getElem?_eq_none (by rw[lAp,length_singleton];omega)]at hi;cases hi
theorem HQ(M:Mem){a b:Nat}(h:a≠b)(A B:Blk):(M.put a A).put b B=(M.put b B).put a A:=by
 funext i
 simp only[Mem.put];by_cases h1:i=b
 ·rw[if_pos h1,if_neg (by rw[h1];exact Ne.symm h),if_pos h1]
 ·rw[if_neg h1,if_neg h1]
def Mt(M:Mem)(v:Value)(rows:List (List Int)):Prop:=∃ rs:List Value,Rd M v rs/\rs.length=rows.length/\∀(i:Nat) (r:List Int),rows[i]?=some r->∃ x:Value,rs[i]?=some x/\Rd M x (ints r)
theorem Mt.sub{M N:Mem}{v:Value}{rows:List (List Int)}(h:Mt M v rows)(hs:Sub M N):Mt N v rows:=by
 obtain⟨rs,h1,h2,h3⟩:=h;refine⟨rs,h1.sub hs,h2,fun i r hi=>?_⟩;obtain⟨x,h4,h5⟩:=h3 i r hi;exact⟨x,h4,h5.sub hs⟩
theorem Li{M N M':Mem}{v:Value}{rs:List Value}{rows:List (List Int)}(h:cu M rs rows N)(ho:Own N v rs M'):Mt M' v rows:=by
 refine⟨rs,ho.rd,h.len,fun i r hi=>?_⟩;obtain⟨b,c,cc,x,h1,h2,h3,_⟩:=h.at i r hi;refine⟨_,h1,?_⟩;have:Rd N (.slice (some ⟨b,0,none⟩) r.length cc) (ints r):=by
  refine .inr ⟨b,0,cc,by rw[az],?_,by rw[az];exact h3⟩;rw[aq h2,mq,if_pos (by rw[lAp];omega),drop_zero,take_left]
 exact this.sub ho.sub
theorem RL{M M' N M1:Mem}{v:Value}{rs:List Value}{rows:List (List Int)}(h:cu M' rs rows N)(ho:Own N v rs M1)(hs:Sub M M'):∃ N2 M2,cu M rs rows N2/\Own N2 v rs M2/\Sub M2 M1:=by
 obtain⟨N2,h1,h2⟩:=h.base hs;obtain⟨M2,h3,h4⟩:=ho.base h2;exact⟨N2,M2,h1,h3,h4⟩
theorem OA{w:B8}{i q k:Nat}(hk:1<=k)(hi:i<=w.length):i+k*(q+1)<=w.length↔q<(w.length-i)/k:=by
 rw[Nat.lt_iff_add_one_le,Nat.le_div_iff_mul_le hk,Nat.mul_comm];omega
theorem O4{M N M':Mem}{v:Value}{rs:List Value}{rows:List (List Int)}(h:cu M rs rows N)(ho:Own N v rs M'){b:Nat}(hb:M' b=none)(r:List Int)(n c:Nat)(hn:r.length=n)(hc:n<=c) :
  cu M (rs++[.slice (some ⟨b,0,none⟩) n c]) (rows++[r]) (N.put b (.cells true (ints r) c))/\Own (N.put b (.cells true (ints r) c)) v rs (M'.put b (.cells true (ints r) c)):=by
 subst hn;exact⟨h.snoc (bA ho.sub hb) hc,ho.push hb _⟩
def ltr(n:Nat):UInt8:=UInt8.ofNat (97+n)
theorem ma{n:Nat}(h:n<=4):isL (ltr n)=true:=by
 unfold ltr;have:n=0\/n=1\/n=2\/n=3\/n=4:=by omega
 rcases this with rfl|rfl|rfl|rfl|rfl<;>decide
theorem jy(n:Nat)(M:Mem)(R:VP)(h1:n<=4)(h:R (str [ltr n]) M):ar prog 133 [.int .i64 n] M R:=by
 refine fnS func133 rfl ntmps133 results133 ?_;simp(disch:=omega);intro b hb;simp(disch:=omega);have e:(97+(n:Int)).toNat=97+n:=by omega
 unfold ltr at h;rw[<-e]at h;exact ae ((Sub.refl M).put hb _) h
theorem cS(n:Nat)(M:Mem)(R:VP)(h1:n<=4)(h:R (str [ltr n]) M):ar prog 229 [.int .i64 n] M R:=
 Hn n M R (by omega) (by omega) (by rw[Int.toNat_natCast];exact h)
theorem Bh{α β:Type}(l:List α)(a:α)(f:α->Option β):(l++[a]).findSome? f=(l.findSome? f).or (f a):=by
 rw[findSome?_append];cases findSome? f l<;>simp
theorem Rc{β:Type}{f:Nat->Option β}{c j:Nat}{b:β}(hc:c<j)(h0:(range c).findSome? f=none)(h:f c=some b):(range j).findSome? f=some b:=by
 have e:range j=range c++c::(range' (c+1) (j-c-1)):=by
  rw[range_eq_range',range_eq_range',<-range'_succ,show j-c-1+1=j-c by omega];have:=range'_append_1 (s:=0) (m:=c) (n:=j-c);rw[Nat.zero_add,show c+(j-c)=j by omega]at this;exact this.symm
 rw[e,findSome?_append,h0,findSome?_cons,h];rfl
end Go.Proofs.YtapimhjbilkfpaaGreatDoor
namespace Go.Proofs.YtapimhjbilkfpaaGreatDoor
open Go Go.Proofs.Tryz Go.RowKit List
theorem IT{P:Program}{M:Mem}{w:World}(h:Rep M w){name:String}{g:Nat}(hg:P.globalNamed name=some g){xs:List Value}{own:Bool}(hM:M g=some (.cells own xs xs.length)):w.var? P name=some xs.toArray:=by
 obtain⟨c,e,fr,h1,h2,⟨ys,h3⟩,_⟩:=h g _ hM;have h4:ys=[]:=by
  have:=congrArg length h3;rw[Array.length_toList,lAp,h2]at this;exact List.length_eq_zero_iff.1 (by omega)
 rw[h4,append_nil]at h3;simp only[World.var?,hg,Option.bind_some,h1];rw[<-h3]
theorem MM{P:Program}{f:FuncId}{args:List Value}{M:Mem}{R:VP}(hb:tS P f)(h:∀ w,Rep M w->Calls P f args.toArray w fun e w'=>∃ v,e=.returned v/\R v M/\Below w.heap.size w w'):ar P f args M R:=
 ⟨hb,fun w hw=>(h w hw).mono fun e w' ⟨v,he,hR,hbl⟩=>⟨v,M,he,B2 hw hbl,⟨hbl.os,hbl.tape,hbl.output,hbl.size,fun b hb _=>hbl.block b hb,fun b hb=>.inl hb⟩,hR⟩⟩
structure bW(M:Mem):Prop where
 pow:∃ g,prog.globalNamed "internal/strconv.uint64pow10" = some g/\M g=some (.cells false (Lib.pow10Tab.map fun z=>Value.int .u64 z) (Lib.pow10Tab.map fun z=>Value.int .u64 z).length)
 syn:∃ g tp p,prog.globalNamed "strconv.ErrSyntax" = some g/\M g=some (.cells false [.iface tp p] 1)
 rng:∃ g tp p,prog.globalNamed "strconv.ErrRange" = some g/\M g=some (.cells false [.iface tp p] 1)
theorem bW.sub{M N:Mem}(h:bW M)(hs:Sub M N):bW N:=by
 obtain⟨⟨g1,a1,b1⟩,⟨g2,t2,p2,a2,b2⟩,⟨g3,t3,p3,a3,b3⟩⟩:=h;exact⟨⟨g1,a1,hs _ _ b1⟩,⟨g2,t2,p2,a2,hs _ _ b2⟩,⟨g3,t3,p3,a3,hs _ _ b3⟩⟩
theorem yo(n:Int)(M:Mem)(R:VP)(hM:bW M)(h0 : -9223372036854775808<=n)(h1:n<=9223372036854775807)(h:R (str (Lib.itoa n)) M):ar prog 220 [.int .i64 n,.int .i64 10] M R:=by
 refine dt (str (Lib.itoa n)) ⟨_,func220,by kernel_rfl,by kernel_rfl⟩ (fun w hw=>?_) h;obtain⟨g,hg,hb⟩:=hM.pow;refine(Tryz.strconv_FormatInt_10 n h0 h1 w (IT hw hg hb)).mono fun e w' h2=>?_;obtain⟨he,k,os,hw'⟩:=h2;exact⟨he,by rw[hw'];exact Lib.below_grow _ _ (lRf _) k os⟩
theorem Bw(l:B8)(M:Mem)(R:VP)(hM:bW M)(hl:l.length<=281474976710656)(hok:∀ n,Lib.parseIntB 64 l=.ok n->R (.tuple #[.int .i64 n,.nilIface]) M)
  (hbad:(∀ n,Lib.parseIntB 64 l≠.ok n)->∀ n tp p,R (.tuple #[.int .i64 n,.iface tp (.pointer (some p))]) M):ar prog 153 [str l,.int .i64 10,.int .i64 64] M R:=by
 refine MM ⟨_,func153,by kernel_rfl,by kernel_rfl⟩ (fun w hw=>?_);rcases hp:Lib.parseIntB 64 l with n|_|_
 ·skip
  refine(Tryz.strconv_ParseInt_10_at64_ok ⟨⟨l⟩⟩ (by show l.length<=_;omega) n hp w).mono fun e w' h2=>?_;obtain⟨he,hw'⟩:=h2;refine⟨_,he,hok n hp,?_⟩;rcases hw' with rfl|⟨t,rfl⟩
  ·exact Below.refl _ _
  ·exact Lib.bytesWorld_below _ _ _
 ·skip
  obtain⟨g,tp,p,hg,hb⟩:=hM.syn;refine(Any.strconv_ParseInt_10_at64_syntax_var Tryz.laysSyn ⟨⟨l⟩⟩ hl hp tp p w (IT hw hg hb)).mono fun e w' h2=>?_;obtain⟨N,he,_,_,hbl⟩:=h2;exact⟨_,he,hbad (fun n e=>by rw[hp]at e;cases e) _ _ _,hbl⟩
 ·skip
  obtain⟨g,tp,p,hg,hb⟩:=hM.rng;refine(Tryz.strconv_ParseInt_10_at64_range_var ⟨⟨l⟩⟩ hl hp tp p w (IT hw hg hb)).mono fun e w' h2=>?_;obtain⟨N,he,_,_,hbl⟩:=h2;exact⟨_,he,hbad (fun n e=>by rw[hp]at e;cases e) _ _ _,hbl⟩
theorem dR(n:Int)(M:Mem)(R:VP)(hM:bW M)(h0 : -9223372036854775807<=n)(h1:n<=9223372036854775807)(h:R (str (Lib.itoa n)) M):ar prog 154 [.int .i64 n] M R:=by
 refine fnS func154 rfl ntmps154 results154 ?_;simp(disch:=omega);refine yo n _ _ hM (by omega) h1 ?_;simp(disch:=omega);exact ad h
end Go.Proofs.YtapimhjbilkfpaaGreatDoor
namespace Go.Proofs.YtapimhjbilkfpaaGreatDoor
open List
def kC(a b:Nat)(c:Nat->Nat):Nat->Nat:=fun k=>if c k=b then a else c k
def Cd(n p q:Nat)(f:Nat->Nat):Prop:=(∀ i,i+p<n->f i=f (i+p))/\∀ i,i+q<n->f i=f (i+q)
def jV(n p q:Nat)(c:Nat->Nat):Prop:=∀ f,Cd n p q f->∀ k l,k<n->l<n->c k=c l->f k=f l
def fB(n:Nat)(c:Nat->Nat):Prop:=∀ k,k<n->c k<n
theorem vt{a b:Nat}{c:Nat->Nat}{k l:Nat}(h:c k=c l):kC a b c k=kC a b c l:=by unfold kC;rw[h]
theorem CB{a b:Nat}{c:Nat->Nat}{x y:Nat}(h:(c x=a/\c y=b)\/(c x=b/\c y=a)):kC a b c x=kC a b c y:=by
 unfold kC;rcases h with ⟨h1,h2⟩|⟨h1,h2⟩
 ·rw[h1,h2,if_pos rfl];split
  ·rfl
  ·rfl
 ·rw[h1,h2,if_pos rfl];split
  ·rfl
  ·rfl
theorem C9{n p q a b:Nat}{c:Nat->Nat}{x y:Nat}(hg:jV n p q c)(hx:x<n)(hy:y<n)(h:(c x=a/\c y=b)\/(c x=b/\c y=a))(he:∀ f,Cd n p q f->f x=f y):jV n p q (kC a b c):=by
 intro f hf k l hk hl hkl;have hxy:=he f hf;have hba:∀ k l,k<n->l<n->c k=b->c l=a->f k=f l:=fun k l hk hl h1 h2=>by
  rcases h with ⟨q1,q2⟩|⟨q1,q2⟩
  ·rw[hg f hf k y hk hy (h1.trans q2.symm),hg f hf l x hl hx (h2.trans q1.symm),hxy]
  ·rw[hg f hf k x hk hx (h1.trans q1.symm),hg f hf l y hl hy (h2.trans q2.symm),hxy]
 unfold kC at hkl;by_cases h1:c k=b
 ·by_cases h2:c l=b
  ·exact hg f hf k l hk hl (h1.trans h2.symm)
  ·rw[if_pos h1,if_neg h2]at hkl;exact hba k l hk hl h1 hkl.symm
 ·by_cases h2:c l=b
  ·rw[if_neg h1,if_pos h2]at hkl;exact(hba l k hl hk h2 hkl).symm
  ·rw[if_neg h1,if_neg h2]at hkl;exact hg f hf k l hk hl hkl
theorem qH{n a b:Nat}{c:Nat->Nat}(h:fB n c)(ha:a<n):fB n (kC a b c):=by
 intro k hk;unfold kC;split
 ·exact ha
 ·exact h k hk
theorem xR(n p q:Nat):jV n p q id:=fun f _ k l _ _ h=>by
 have h:k=l:=h;rw[h]
def stI(s:Nat)(c:Nat->Nat)(i:Nat):Nat->Nat:=kC (min (c i) (c (i-s))) (max (c i) (c (i-s))) c
def foI(s:Nat)(c:Nat->Nat):Nat->Nat->Nat
 | 0=>c
 | t+1=>stI s (foI s c t) (s+t)
def lO(n p q:Nat):Nat->Nat:=foI q (foI p id (n-p)) (n-q)
theorem H7{s:Nat}{c:Nat->Nat}{k l:Nat}(h:c k=c l):∀ t,foI s c t k=foI s c t l
 | 0=>h
 | t+1=>by unfold foI stI;exact vt (H7 h t)
theorem OE(x y:Nat):(x=min x y/\y=max x y)\/(x=max x y/\y=min x y):=by omega
theorem yu{s:Nat}{c:Nat->Nat}:∀ t j,j<t->foI s c t (s+j)=foI s c t j
 | 0,j,h=>by omega
 | t+1,j,h=>by
  unfold foI stI;by_cases e:j=t
  ·subst e;refine CB ?_;rw[Nat.add_sub_cancel_left];exact OE _ _
  ·exact vt (yu t j (by omega))
theorem tR{n p q s:Nat}{c:Nat->Nat}(hg:jV n p q c)(hb:fB n c)(hs:s=p\/s=q):∀ t,s+t<=n->jV n p q (foI s c t)/\fB n (foI s c t)
 | 0,_=>⟨hg,hb⟩
 | t+1,h=>by
  obtain⟨h1,h2⟩:=tR hg hb hs t (by omega);unfold foI stI;rw[Nat.add_sub_cancel_left];refine⟨C9 (x:=s+t) (y:=t) h1 (by omega) (by omega) (OE _ _) (fun f hf=>?_),qH h2 ?_⟩
  ·rcases hs with rfl|rfl
   ·rw[Nat.add_comm];exact(hf.1 t (by omega)).symm
   ·rw[Nat.add_comm];exact(hf.2 t (by omega)).symm
  ·have:=h2 t (by omega);have:=h2 (s+t) (by omega);omega
theorem K4(n p q:Nat):Cd n p q (lO n p q)/\jV n p q (lO n p q)/\fB n (lO n p q):=by
 have h1:jV n p q (foI p id (n-p))/\fB n (foI p id (n-p)):=by
  by_cases hp:p<=n
  ·exact tR (xR n p q) (fun k hk=>hk) (.inl rfl) _ (by omega)
  ·rw[show n-p=0 by omega];exact⟨xR n p q,fun k hk=>hk⟩
 have h2:jV n p q (lO n p q)/\fB n (lO n p q):=by
  unfold lO;by_cases hq:q<=n
  ·exact tR h1.1 h1.2 (.inr rfl) _ (by omega)
  ·rw[show n-q=0 by omega];exact h1
 refine⟨⟨fun i hi=>?_,fun i hi=>?_⟩,h2⟩
 ·unfold lO;refine H7 ?_ _;have:=yu (s:=p) (c:=id) (n-p) i (by omega);rw[Nat.add_comm i p];exact this.symm
 ·unfold lO;have:=yu (s:=q) (c:=foI p id (n-p)) (n-q) i (by omega);rw[Nat.add_comm i q];exact this.symm
theorem QJ{n p q:Nat}{c d:Nat->Nat}(hc:Cd n p q c)(gc:jV n p q c)(hd:Cd n p q d)(gd:jV n p q d){k l:Nat}(hk:k<n)(hl:l<n):(c k=c l)↔(d k=d l):=
 ⟨fun h=>gc d hd k l hk hl h,fun h=>gd c hc k l hk hl h⟩
def frs(c:Nat->Nat)(i:Nat):Nat:=((range i).find? fun k=>c k==c i).getD i
theorem nQ(c:Nat->Nat)(i:Nat):frs c i<=i/\c (frs c i)=c i/\∀ k,k<frs c i->c k≠c i:=by
 unfold frs;cases h:(range i).find? (fun k=>c k==c i) with
 | none=>
  rw[find?_eq_none]at h;refine⟨lRf _,rfl,fun k hk e=>?_⟩;have:=h k (List.mem_range.2 hk);rw[e]at this;simp at this
 | some j=>
  rw[find?_range_eq_some]at h;obtain⟨h1,h2,h3⟩:=h;refine⟨Nat.le_of_lt (List.mem_range.1 h2),eq_of_beq h1,fun k hk e=>?_⟩;have:=h3 k hk;rw[e]at this;simp at this
theorem AD{c:Nat->Nat}{i j:Nat}(h1:j<=i)(h2:c j=c i)(h3:∀ k,k<j->c k≠c i):frs c i=j:=by
 obtain⟨q1,q2,q3⟩:=nQ c i;rcases Nat.lt_trichotomy (frs c i) j with h|h|h
 ·exact absurd q2 (h3 _ h)
 ·exact h
 ·exact absurd h2 (q3 _ h)
theorem Sy{n:Nat}{c d:Nat->Nat}(h:∀ k l,k<n->l<n->((c k=c l)↔(d k=d l))){i:Nat}(hi:i<n):frs c i=frs d i:=by
 obtain⟨q1,q2,q3⟩:=nQ d i;exact AD q1 ((h _ _ (by omega) hi).2 q2) (fun k hk e=>q3 k hk ((h k i (by omega) hi).1 e))
def dK(c:Nat->Nat)(i:Nat):Nat:=((range i).filter fun k=>frs c k==k).length
def lab(c:Nat->Nat)(i:Nat):Nat:=dK c (frs c i)
theorem pr(c:Nat->Nat)(i:Nat):dK c (i+1)=dK c i+if frs c i=i then 1 else 0:=by
 unfold dK;rw[range_succ,filter_append,lAp]
 congr 1
 by_cases h:frs c i=i
 ·simp[h]
 ·simp[h]
theorem Hd{n:Nat}{c d:Nat->Nat}(h:∀ i,i<n->frs c i=frs d i){i:Nat}(hi:i<=n):dK c i=dK d i:=by
 unfold dK
 congr 1
 refine filter_congr fun k hk=>?_;rw[h k (by have:=List.mem_range.1 hk;omega)]
theorem R0{n:Nat}{c d:Nat->Nat}(h:∀ i,i<n->frs c i=frs d i){i:Nat}(hi:i<n):lab c i=lab d i:=by
 unfold lab;rw[h i hi];exact Hd h (by have:=(nQ d i).1;omega)
theorem pd(c:Nat->Nat){i:Nat}:∀ {j},i<=j->dK c i<=dK c j
 | 0,h=>by
        have:i=0:=by omega
        subst this;exact lRf _
 | j+1,h=>by
  by_cases e:i=j+1
  ·subst e;exact lRf _
  ·have:=pd c (i:=i) (j:=j) (by omega);rw[pr];omega
theorem EZ{c:Nat->Nat}{i:Nat}(h:frs c i=i):lab c i=dK c i:=by unfold lab;rw[h]
theorem Ln{c:Nat->Nat}{i k:Nat}(hk:k<i)(h:c k=c i):lab c i=lab c k:=by
 unfold lab;have:frs c i=frs c k:=by
  obtain⟨q1,q2,q3⟩:=nQ c k;exact AD (by omega) (q2.trans h) (fun j hj e=>q3 j hj (e.trans h.symm))
 rw[this]
theorem Jb(c:Nat->Nat){i j:Nat}(h:i<j):lab c i<dK c j:=by
 unfold lab;obtain⟨q1,q2,q3⟩:=nQ c i;have e:frs c (frs c i)=frs c i:=AD (lRf _) rfl (fun k hk e=>q3 k hk (e.trans q2));have h1:=pr c (frs c i);rw[if_pos e]at h1;have h2:=pd c (i:=frs c i+1) (j:=j) (by omega);omega
def gj(c:Nat->Nat)(n:Nat):B8:=(range n).map fun i=>ltr (lab c i)
theorem uy(c:Nat->Nat)(n:Nat):gj c (n+1)=gj c n++[ltr (lab c n)]:=by simp[gj,range_succ]
theorem sk(c:Nat->Nat)(n:Nat):(gj c n).length=n:=by simp[gj]
theorem Pv{n:Nat}{c d:Nat->Nat}(h:∀ i,i<n->frs c i=frs d i):gj c n=gj d n:=by
 unfold gj;refine map_congr_left fun i hi=>?_;rw[R0 h (List.mem_range.1 hi)]
def kG(p q:Nat):Nat:=p+q-Nat.gcd p q-1
def iu(p q:Int):Int:=if (1<=p/\p<=60)/\(1<=q/\q<=60) then (if 60<kG p.toNat q.toNat then 3 else if 5<dK (lO (kG p.toNat q.toNat) p.toNat q.toNat) (kG p.toNat q.toNat) then 3 else 0) else 2
def iU(p q:Int):B8:=if iu p q=0 then gj (lO (kG p.toNat q.toNat) p.toNat q.toNat) (kG p.toNat q.toNat) else []
end Go.Proofs.YtapimhjbilkfpaaGreatDoor
namespace Go.Proofs.YtapimhjbilkfpaaGreatDoor
open Go Go.Proofs.Tryz List
def iC(l:B8)(m:Nat):Bool:=l.all fun u=>decide (u.toNat-97<m)
def okW(n:Nat)(w:B8):Bool:=decide (w.length<=12)&&(isWord w&&iC w n)
def aY(ws:List B8):Bool:=decide (1<=ws.length/\ws.length<=5)&&ws.all (okW ws.length)
theorem Ub{l:B8}{m i:Nat}(hi:i<l.length)(h:¬ l[i].toNat-97<m):iC l m=false:=by
 unfold iC;rw[all_eq_false];exact⟨_,getElem_mem hi,by simpa using h⟩
theorem nH(l:B8)(m:Nat)(M:Mem)(R:VP)(hl:l.length<=1099511627776)(hw:l.all isL=true)(hm:m<=1099511627776)(h:R (.bool (iC l m)) M):ar prog 92 [str l,.int .i64 m] M R:=by
 refine fnS func92 rfl ntmps92 results92 ?_;simp(disch:=omega);refine lupS (rlA [] 4 15) (fun i:Nat=>[(5,.int .i64 i)]) (fun i M'=>M'=M/\i<=l.length/\∀ u∈l.take i,u.toNat-97<m) (fun i=>l.length-i) 0 ⟨rfl,by omega,by simp⟩ ?_
 rintro i M' g ⟨rfl,hi,hp⟩
 by_cases hlt:i<l.length
 ·have hx:l[i]?=some l[i]:=gEl hlt;have hr:=ee (List.all_eq_true.1 hw _ (getElem_mem hlt));by_cases hq:l[i].toNat-97<m
  ·have hq':¬(m:Int)<=(l[i].toNat:Int)-97:=by omega
   simp(disch:=omega)[hq'];refine rndS (i+1) ⟨rfl,by omega,?_⟩;rw[aw l hlt];intro u hu;rcases List.mem_append.1 hu with hu|hu
   ·exact hp u hu
   ·rw[List.mem_singleton.1 hu];exact hq
  ·have hq':(m:Int)<=(l[i].toNat:Int)-97:=by omega
   rw[Ub hlt hq]at h;simp(disch:=omega)[hq'];exact ad h
 ·have hi':i=l.length:=by omega
  subst hi';rw[take_length]at hp;have:iC l m=true:=by unfold iC;rw[all_eq_true];intro u hu;simpa using hp u hu
  rw[this]at h;simp(disch:=omega);exact ad h
theorem fA(v:Value)(ws:List B8)(M:Mem)(R:VP)(hv:Rd M v (strs ws))(hf:cP ws)(hn:ws.length<=1099511627776)(h:R (.bool (aY ws)) M):ar prog 49 [.agg #[v]] M R:=by
 refine fnS func49 rfl ntmps49 results49 ?_;obtain⟨a,c,rfl,ha⟩:=hv.opened;rw[ah]at ha ⊢;simp(disch:=omega);intro b1 hb1;have hs:=(Sub.refl M).put hb1 (.cells true [.slice a ws.length c] 1);unfold aY at h;by_cases h1:ws.length<1
 ·rw[decide_eq_false (by omega:¬(1<=ws.length/\ws.length<=5)),Bool.false_and]at h;have h1':(ws.length:Int)<1:=by omega
  simp(disch:=omega)[h1'];exact ae hs h
 have h1':¬(ws.length:Int)<1:=by omega
 by_cases h5:5<ws.length
 ·rw[decide_eq_false (by omega:¬(1<=ws.length/\ws.length<=5)),Bool.false_and]at h;have h5':(5:Int)<ws.length:=by omega
  simp(disch:=omega)[h1',h5'];exact ae hs h
 have h5':¬(5:Int)<ws.length:=by omega
 rw[decide_eq_true (by omega:1<=ws.length/\ws.length<=5),Bool.true_and]at h;simp(disch:=omega)[h1',h5'];refine lupS (rlA [2,4] 14 31) (fun i:Nat=>[(4,.int .i64 i)]) (fun i M'=>M'=M.put b1 (.cells true [.slice a ws.length c] 1)/\i<=ws.length/\∀ w∈ws.take i,okW ws.length w=true) (fun i=>ws.length-i) 0 ⟨rfl,by omega,by simp⟩ ?_
 rintro i M' g ⟨rfl,hi,hp⟩
 by_cases hlt:i<ws.length
 ·rcases ha with h0|⟨b,o,rfl,ha⟩
  ·omega
  have hx:ws[i]?=some ws[i]:=gEl hlt;have hg0:=ha i hlt;rw[ba,hx]at hg0;have hne:b≠b1:=by rintro rfl;unfold Mem.get? at hg0;rw[hb1]at hg0;cases hg0
  have hg:(M.put b1 (.cells true [.slice (some ⟨b,o,none⟩) ws.length c] 1)).get? b (o+i)=some (str ws[i]):=by
   unfold Mem.get? at hg0 ⊢;rw[ai _ _ hne];exact hg0
  have hwl:=hf _ (getElem_mem hlt);have bad:okW ws.length ws[i]=false->ws.all (okW ws.length)=false:=by
   intro hb;rw[all_eq_false];exact⟨_,getElem_mem hlt,by rw[hb];simp⟩
  by_cases h12:ws[i].length<=12
  ·have h12':¬(12:Int)<ws[i].length:=by omega
   simp(disch:=omega)[hg,h12'];refine bg ws[i] _ _ hwl ?_;cases hiw:isWord ws[i]
   ·rw[bad (by unfold okW;rw[hiw,Bool.false_and,Bool.and_false])]at h;simp(disch:=omega);exact ae hs h
   ·simp(disch:=omega)[hg];refine nH ws[i] ws.length _ _ hwl (aZ hiw) (by omega) ?_;cases hfe:iC ws[i] ws.length
    ·rw[bad (by unfold okW;rw[hfe,Bool.and_false,Bool.and_false])]at h;simp(disch:=omega);exact ae hs h
    ·simp(disch:=omega);refine rndS (i+1) ⟨rfl,by omega,?_⟩;rw[aw ws hlt];intro w hw;rcases List.mem_append.1 hw with hw|hw
     ·exact hp w hw
     ·unfold okW;rw[List.mem_singleton.1 hw,decide_eq_true h12,hiw,hfe];rfl
  ·have h12':(12:Int)<ws[i].length:=by omega
   rw[bad (by unfold okW;rw[decide_eq_false h12,Bool.false_and])]at h;simp(disch:=omega)[hg,h12'];exact ae hs h
 ·have hi':i=ws.length:=by omega
  subst hi';rw[take_length]at hp;rw[List.all_eq_true.2 hp]at h;simp(disch:=omega);exact ae hs h
theorem iV(v:Value)(xs:List Value)(M:Mem)(R:VP)(hv:Rd M v xs)(hn:xs.length<=1099511627776)(h:R (.int .i64 xs.length) M):ar prog 88 [.agg #[v]] M R:=by
 refine fnS func88 rfl ntmps88 results88 ?_;obtain⟨a,c,rfl,ha⟩:=hv.opened;simp(disch:=omega);intro b1 hb1;simp(disch:=omega);exact ae ((Sub.refl M).put hb1 _) h
theorem Ij(v:Value)(xs:List Value)(l:B8)(M:Mem)(R:VP)(hv:Rd M v xs)(hn:xs.length<=1099511627776)(hl:l.length<=1099511627776)(hw:l.all isL=true)(h:R (.bool (iC l xs.length)) M):ar prog 91 [.agg #[v],str l] M R:=by
 refine fnS func91 rfl ntmps91 results91 ?_;obtain⟨a,c,rfl,ha⟩:=hv.opened;simp(disch:=omega);intro b1 hb1;simp(disch:=omega);intro b2 c2 hb2 hc2;have hne:b1≠b2:=by rintro rfl;rw[ag]at hb2;cases hb2
 simp(disch:=omega);have hs1:Sub M (M.put b1 (.cells true [.slice a xs.length c] 1)):=(Sub.refl M).put hb1 _;refine l6 _ _ (av l) (onB fun u=>decide (u.toNat-97<xs.length)) (fun M'=>M' b1=some (.cells true [.slice a xs.length c] 1)/\Rd M' (.slice a xs.length c) xs) _ _ (Rd.new (aS l) (by simp(disch:=omega) at hc2;omega)) ⟨by rw[ai _ _ hne,ag],(hv.put hb1 _).put hb2 _⟩ ?_ ?_ rfl (by rw[aS];omega) ?_
 ·intro N b B ⟨q1,q2⟩ hb;have:b1≠b:=by rintro rfl;rw[hb]at q1;cases q1
  exact⟨by rw[ai _ _ this,q1],q2.put hb _⟩
 ·intro x hx N R' ⟨q1,q2⟩ hR';obtain⟨u,hu,rfl⟩:=vg hx;rw[r8]at hR';have hr:=ee (List.all_eq_true.1 hw _ hu);simp(disch:=omega);refine fnS func141 rfl ntmps141 results141 ?_;simp(disch:=omega);refine drwS ?_;simp(disch:=omega);refine aU (a:=[]) (c:=[]) (ia u _ _ ⟨rfl,rfl⟩) ?_;simp(disch:=omega)[aq q1];refine aU (a:=[]) (c:=[]) (iV _ xs _ _ q2 hn ⟨rfl,rfl⟩) ?_;have e:decide (u.toNat-97<xs.length)=decide ((u.toNat:Int)-97<xs.length):=by rw[decide_eq_decide];omega
  rw[e]at hR';simp(disch:=omega);exact ad hR'
 ·rw[uq];simp(disch:=omega);exact ae (hs1.putN hb2 _) h
theorem mW(n:Int)(M:Mem)(R:VP)(h:R (.bool (decide (1<=n/\n<=5))) M):ar prog 87 [.int .i64 n] M R:=by
 refine fnS func87 rfl ntmps87 results87 ?_;simp(disch:=omega);refine bF _ _ _ _ _ ?_;simp(disch:=omega);exact ad (by simpa using h)
theorem iI(v:Value)(ws:List B8)(M:Mem)(R:VP)(hv:Rd M v (strs ws))(hf:cP ws)(hn:ws.length<=1099511627776)(h:R (.bool (aY ws)) M):ar prog 46 [.agg #[v]] M R:=by
 refine fnS func46 rfl ntmps46 results46 ?_;obtain⟨a,c,rfl,ha⟩:=hv.opened;rw[ah]at ha hv ⊢;simp(disch:=omega);intro b1 hb1;have hs1:Sub M (M.put b1 (.cells true [.slice a ws.length c] 1)):=(Sub.refl M).put hb1 _;simp(disch:=omega);refine iV _ (strs ws) _ _ (hv.put hb1 _) (by rw[ah];omega) ?_;rw[ah];simp(disch:=omega);refine mW _ _ _ ?_;unfold aY at h;by_cases h15:1<=ws.length/\ws.length<=5
 ·rw[decide_eq_true h15,Bool.true_and]at h;have e:decide (1<=(ws.length:Int)/\(ws.length:Int)<=5)=true:=decide_eq_true (by omega);rw[e];simp(disch:=omega);refine lL _ _ (strs ws) (onS (okW ws.length)) (fun M'=>M' b1=some (.cells true [.slice a ws.length c] 1)/\Rd M' (.slice a ws.length c) (strs ws)) _ _ (hv.put hb1 _) ⟨ag _ _ _,hv.put hb1 _⟩ ?_ ?_ rfl (by rw[ah];omega) ?_
  ·intro N b B ⟨q1,q2⟩ hb;have:b1≠b:=by rintro rfl;rw[hb]at q1;cases q1
   exact⟨by rw[ai _ _ this,q1],q2.put hb _⟩
  ·intro x hx N R' ⟨q1,q2⟩ hR';obtain⟨w,hw,rfl⟩:=yA hx;rw[xy]at hR';unfold okW at hR';have hwl:=hf w hw;simp(disch:=omega);refine fnS func90 rfl ntmps90 results90 ?_;simp(disch:=omega);refine fG w _ _ hwl ?_;cases hiw:isWord w
   ·rw[hiw,Bool.false_and,Bool.and_false]at hR';simp(disch:=omega);exact ad hR'
   ·rw[hiw,Bool.true_and]at hR';by_cases h12:w.length<=12
    ·have h12':(w.length:Int)<=12:=by omega
     rw[decide_eq_true h12,Bool.true_and]at hR';simp(disch:=omega)[h12',aq q1];refine Ij _ (strs ws) w _ _ q2 (by rw[ah];omega) hwl (aZ hiw) ?_;rw[ah];simp(disch:=omega);exact ad hR'
    ·have h12':¬(w.length:Int)<=12:=by omega
     rw[decide_eq_false h12,Bool.false_and]at hR';simp(disch:=omega)[h12'];exact ad hR'
  ·rw[zS];simp(disch:=omega);exact ae hs1 h
 ·rw[decide_eq_false h15,Bool.false_and]at h;have e:decide (1<=(ws.length:Int)/\(ws.length:Int)<=5)=false:=decide_eq_false (by omega);rw[e];simp(disch:=omega);exact ae hs1 h
theorem zh(v:Value)(ws:List B8)(M:Mem)(R:VP)(hv:Rd M v (strs ws))(hn:ws.length<=1048576)(h:∀ v' M',Own M v' (strs ws) M'->R v' M'):ar prog 69 [v] M R:=by
 refine fnS func69 rfl ntmps69 results69 ?_;obtain⟨a,c,rfl,ha⟩:=hv.opened;rw[ah]at ha hv ⊢;simp(disch:=omega);intro b1 hb1;simp(disch:=omega);refine lupS (rlA [4] 8 13) (fun i:Nat=>[(4,.int .i64 i)]) (fun i M'=>M'=M.put b1 (.cells true (strs (ws.take i)++replicate (ws.length-i) (str [])) ws.length)/\i<=ws.length) (fun i=>ws.length-i) 0 ⟨by simp,by omega⟩ ?_
 rintro i M' g ⟨rfl,hi⟩
 by_cases hlt:i<ws.length
 ·rcases ha with h0|⟨b,o,rfl,ha⟩
  ·omega
  have hx:ws[i]?=some ws[i]:=gEl hlt;have hg0:=ha i hlt;rw[ba,hx]at hg0;have hne:b≠b1:=by rintro rfl;unfold Mem.get? at hg0;rw[hb1]at hg0;cases hg0
  have hg:∀ B,(M.put b1 B).get? b (o+i)=some (str ws[i]):=by
   intro B;unfold Mem.get? at hg0 ⊢;rw[ai _ _ hne];exact hg0
  simp(disch:=omega)[hg];refine rndS (i+1) ⟨?_,by omega⟩;have e:ws.length-i=(ws.length-(i+1))+1:=by omega
  have:=KO (strs (ws.take i)) (replicate (ws.length-(i+1)) (str [])) (str []) (str ws[i]);rw[ah,lTa,Nat.min_eq_left (by omega)]at this;rw[e,replicate_succ,this,aw ws hlt,<-cK,append_assoc];rfl
 ·have hi':i=ws.length:=by omega
  subst hi';simp(disch:=omega);exact ad (h _ _ (Own.new hb1 (by rw[ah]) (lRf _)))
def gP(ws:List B8):Nat:=(ws.map length).sum
theorem CF(ws:List B8)(w:B8):gP (ws++[w])=gP ws+w.length:=by simp[gP]
theorem BS(ws:List B8)(i:Nat):gP (ws.take i)<=gP ws:=by
 have h1:gP (ws.take i++ws.drop i)=gP (ws.take i)+gP (ws.drop i):=by simp only[gP,map_append,sum_append]
 rw[take_append_drop]at h1;omega
theorem QN{ws:List B8}{w:B8}(h:w∈ws):w.length<=gP ws:=by
 obtain⟨i,hi,rfl⟩:=List.mem_iff_getElem.1 h;have:=BS ws (i+1);rw[aw ws hi,CF]at this;omega
theorem zF(v:Value)(ws:List B8)(left:Nat)(M:Mem)(R:VP)(hv:Rd M v (strs ws))(hn:ws.length<=9223372036854775807)(hw:∀ w∈ws,w.length<=9223372036854775807)(hl:left<=1048576)
  (h1:ws.length+gP ws<=left->R (.int .i64 ((left-(ws.length+gP ws):Nat):Int)) M) (h0:left<ws.length+gP ws->R (.int .i64 (-1)) M):ar prog 59 [v,.int .i64 left] M R:=by
 refine fnS func59 rfl ntmps59 results59 ?_;obtain⟨a,c,rfl,ha⟩:=hv.opened;rw[ah]at ha hv ⊢;by_cases hc:(left:Int)-ws.length<0
 ·simp(disch:=omega)[hc];exact ad (h0 (by omega))
 ·simp(disch:=omega)[hc];refine aP aR (rlA [1,4,5] 12 15) (fun i:Nat=>[(5,.int .i64 i),(1,.int .i64 ((left-ws.length-gP (ws.take i):Nat):Int))]) (fun i M'=>M'=M/\i<=ws.length/\ws.length+gP (ws.take i)<=left) (fun i=>ws.length-i) 0 (by kernel_rfl) (by simp(disch:=omega)[gP];omega) ⟨rfl,by omega,by simp[gP];omega⟩ ?_
  rintro i M' g ⟨rfl,hi,hs⟩
  by_cases hlt:i<ws.length
  ·rcases ha with h0|⟨b,o,rfl,ha⟩
   ·omega
   have hx:ws[i]?=some ws[i]:=gEl hlt;have hg:=ha i hlt;rw[ba,hx]at hg;have hwl:=hw _ (getElem_mem hlt);have hsn:=CF (ws.take i) ws[i];rw[<-aw ws hlt]at hsn;have htk:=BS ws (i+1);obtain⟨p,hp⟩:∃ p,p=left-ws.length-gP (ws.take i):=⟨_,rfl⟩;by_cases hq:(p:Int)-ws[i].length<0
   ·rw[<-hp];simp(disch:=omega)[hg,hq];exact ad (h0 (by omega))
   ·rw[<-hp];simp(disch:=omega)[hg,hq];refine rndA (i+1) ?_ ⟨rfl,by omega,by omega⟩;have:((left-ws.length-gP (ws.take (i+1)):Nat):Int)=(p:Int)-ws[i].length:=by omega
    rw[this];simp(disch:=omega)
  ·have hi':i=ws.length:=by omega
   subst hi';rw[take_length]at hs ⊢;have:left-ws.length-gP ws=left-(ws.length+gP ws):=by omega
   rw[this];simp(disch:=omega);exact ad (h1 hs)
theorem xp(v:Value)(ws:List B8)(left:Nat)(M:Mem)(R:VP)(hv:Rd M v (strs ws))(hn:ws.length<=9223372036854775807)(hw:∀ w∈ws,w.length<=9223372036854775807)(hl:left<=1048576)
  (h1:ws.length+gP ws<=left->R (.int .i64 ((left-(ws.length+gP ws):Nat):Int)) M) (h0:left<ws.length+gP ws->R (.int .i64 (-1)) M):ar prog 31 [.agg #[v],.int .i64 left] M R:=by
 refine fnS func31 rfl ntmps31 results31 ?_;obtain⟨a,c,rfl,ha⟩:=hv.opened;rw[ah]at ha hv ⊢;simp(disch:=omega);intro b1 hb1;have hs1:Sub M (M.put b1 (.cells true [.slice a ws.length c] 1)):=(Sub.refl M).put hb1 _;simp(disch:=omega);refine zF _ ws left _ _ (hv.put hb1 _) hn hw hl ?_ ?_
 ·intro hle;obtain⟨p,hp⟩:∃ p,p=left-(ws.length+gP ws):=⟨_,rfl⟩;have h1:=h1 hle;rw[<-hp]at h1 ⊢;simp(disch:=omega);exact ae hs1 h1
 ·intro hlt;simp(disch:=omega);exact ae hs1 (h0 hlt)
theorem xi(v:Value)(ws:List B8)(M:Mem)(R:VP)(hv:Rd M v (strs ws))(hn:ws.length<=1048576)(h:∀ v' M',Own M v' (strs ws) M'->R (.agg #[v']) M'):ar prog 34 [.agg #[v]] M R:=by
 refine fnS func34 rfl ntmps34 results34 ?_;obtain⟨a,c,rfl,ha⟩:=hv.opened;rw[ah]at ha hv ⊢;simp(disch:=omega);intro b1 hb1;simp(disch:=omega);intro b2 hb2;simp(disch:=omega);intro b3 hb3;have n2:=hb2;have n3:=hb3;rw[aA]at n2;rw[aA,aA]at n3;simp(disch:=omega);refine zh _ ws _ _ (((hv.put hb1 _).put hb2 _).put hb3 _) hn ?_;intro v' M' o;obtain⟨a',c',rfl,_⟩:=o.rd.opened;rw[ah]at o ⊢;have k3:=o.sub _ _ (ag _ _ _);have k2:=o.sub b2 _ ((ai _ _ (Ne.symm n3.1)).trans (ag _ _ _));simp(disch:=omega)[k3];simp only[aj];simp(disch:=omega)[k2];simp only[aj];simp(disch:=omega);have o2:=o.other (b:=b2) ((ai _ _ (Ne.symm n3.1)).trans (ag _ _ _)) (.cells true [.slice a' ws.length c'] 1);have o3:=o2.other (b:=b3) ((ai _ _ n3.1).trans (ag _ _ _)) (.cells true [.slice a' ws.length c'] 1);obtain⟨M'',o4,hs4⟩:=o3.base ((((((Sub.refl M).put hb1 _).put n2.2 _).put n3.2.2 _).put n2.2 _).put n3.2.2 _);exact ae hs4 (h _ _ o4)
theorem lN(l:B8)(u:UInt8):av l++[.int .u8 u.toNat]=av (l++[u]):=by simp[av]
end Go.Proofs.YtapimhjbilkfpaaGreatDoor
