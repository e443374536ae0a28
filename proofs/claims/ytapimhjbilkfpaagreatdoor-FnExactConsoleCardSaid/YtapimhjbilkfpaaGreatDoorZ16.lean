/- Lemmas for FnExactConsole, part 17 of 46. -/
import Derived.Test.YtapimhjbilkfpaaGreatDoorZ01
import Derived.Test.YtapimhjbilkfpaaGreatDoorZ10
import Derived.Test.YtapimhjbilkfpaaGreatDoorZ04
set_option linter.unusedVariables false
set_option linter.unusedSimpArgs false
namespace Go.Proofs.YtapimhjbilkfpaaGreatDoor
open List
namespace Paths
variable {m:Nat} {E:Nat->Nat->Prop}
def P(m:Nat)(E:Nat->Nat->Prop):Nat->Nat->Nat->Prop
 | 0,i,c=>i=c
 | k+1,i,c=>∃ d,d<m/\P m E k i d/\E d c
theorem p_add:∀(b a:Nat) {i d c:Nat},d<m->P m E a i d->P m E b d c->P m E (a+b) i c
 | 0,a,i,d,c,_,h1,h2=>by
  have:d=c:=h2;subst this;exact h1
 | b+1,a,i,d,c,hd,h1,⟨e,he,h2,h3⟩=>⟨e,he,p_add b a hd h1 h2,h3⟩
theorem p_split:∀(b a:Nat) {i c:Nat},c<m->P m E (a+b) i c->∃ d,d<m/\P m E a i d/\P m E b d c
 | 0,a,i,c,hc,h=>⟨c,hc,h,rfl⟩
 | b+1,a,i,c,_,⟨e,he,h2,h3⟩=>by
  obtain⟨d,hd,k1,k2⟩:=p_split b a he h2;exact⟨d,hd,k1,e,he,k2,h3⟩
theorem count_lt(l:List Nat)(p q:Nat->Bool)(h:∀ x,p x=true->q x=true){c:Nat}(hc:c∈l)(h1:q c=true)(h2:p c=false):l.countP p<l.countP q:=by
 induction l with
 | nil=>cases hc
 | cons a l ih=>
  rw[countP_cons,countP_cons];have hm:l.countP p<=l.countP q:=countP_mono_left fun x _ hx=>h x hx;rcases List.mem_cons.1 hc with rfl|hc
  ·rw[h1,h2];simp;omega
  ·have:=ih hc;have ha:=h a;cases hp:p a
   ·cases q a<;>simp<;>omega
   ·rw[ha hp];simp;omega
open Classical in
theorem grown(U:Nat->Nat->Prop)(h0:∃ c,c<m/\U 0 c)(hup:∀ t c,U t c->U (t+1) c)(hg:∀ t,(∀ c,c<m->U t c)\/∃ c,c<m/\U (t+1) c/\¬ U t c):∀ c,c<m->U (m-1) c:=by
 have hcnt:∀ t,t<m->t+1<=(range m).countP (fun c=>decide (U t c)):=by
  intro t
  induction t with
  | zero=>
   intro _;obtain⟨c,hc,h⟩:=h0;have:=countP_pos_iff (p:=fun c=>decide (U 0 c)) (l:=range m);have:=this.2 ⟨c,List.mem_range.2 hc,by simpa using h⟩;omega
  | succ t ih=>
   intro ht;have ih:=ih (by omega);have hmono:∀ x,decide (U t x)=true->decide (U (t+1) x)=true:=by
    intro x hx;rw[decide_eq_true_eq]at hx ⊢;exact hup t x hx
   rcases hg t with hf|⟨c,hc,h1,h2⟩
   ·have:(range m).countP (fun c=>decide (U (t+1) c))=(range m).length:=List.countP_eq_length.2 fun x hx=>by
     rw[decide_eq_true_eq];exact hup t x (hf x (List.mem_range.1 hx))
    rw[length_range]at this;omega
   ·have:=count_lt (range m) (fun c=>decide (U t c)) (fun c=>decide (U (t+1) c)) hmono (List.mem_range.2 hc) (by simpa using h1) (by simpa using h2);omega
 intro c hc;have h1:=hcnt (m-1) (by omega);have h2:=countP_le_length (p:=fun c=>decide (U (m-1) c)) (l:=range m);rw[length_range]at h2;have h3:(range m).countP (fun c=>decide (U (m-1) c))=(range m).length:=by rw[length_range];omega
 have:=List.countP_eq_length.1 h3 c (List.mem_range.2 hc);simpa using this
def Full(m:Nat)(E:Nat->Nat->Prop)(k:Nat):Prop:=∀ i c,i<m->c<m->P m E k i c
theorem full_up{N k i:Nat}(h:Full m E (N+1))(hi:i<m)(hk:∀ c,c<m->P m E k i c):∀ c,c<m->P m E (k+1) i c:=by
 intro c hc;obtain⟨d,hd,_,h3⟩:=h i c hi hc;exact⟨d,hd,hk d hd,h3⟩
theorem full_ups{N k i:Nat}(h:Full m E (N+1))(hi:i<m)(hk:∀ c,c<m->P m E k i c):∀ n c,c<m->P m E (k+n) i c
 | 0,c,hc=>hk c hc
 | n+1,c,hc=>full_up h hi (full_ups h hi hk n) c hc
open Classical in
theorem near{N:Nat}(h:Full m E (N+1)){i c:Nat}(hi:i<m)(hc:c<m):∃ t,t<=m-1/\P m E t i c:=by
 refine grown (m:=m) (fun t c=>∃ s,s<=t/\P m E s i c) ⟨i,hi,0,Nat.le_refl 0,rfl⟩ (fun t c ⟨s,hs,h⟩=>⟨s,by omega,h⟩) ?_ c hc;intro t;by_cases hcl:∃ c,c<m/\(∃ s,s<=t+1/\P m E s i c)/\¬ ∃ s,s<=t/\P m E s i c
 ·exact .inr hcl
 ·left;have hall:∀ n c,c<m->P m E n i c->∃ s,s<=t/\P m E s i c:=by
   intro n
   induction n with
   | zero=>intro c _ h;exact⟨0,Nat.zero_le t,h⟩
   | succ n ih=>
    intro c hc ⟨d,hd,h1,h2⟩;obtain⟨s,hs,h3⟩:=ih d hd h1;refine Classical.byContradiction fun hn=>hcl ⟨c,hc,⟨s+1,by omega,d,hd,h3,h2⟩,hn⟩
  intro c hc;exact hall _ c hc (h i c hi hc)
open Classical in
theorem shorter(hm:1<=m)(h:Full m E (m*m+1)):Full m E (m*m):=by
 obtain⟨s,hs1,hs2,hs⟩:∃ s,1<=s/\s<=m/\P m E s 0 0:=by
  have h00:=h 0 0 (by omega) (by omega);rw[show m*m+1=1+m*m by omega]at h00;obtain⟨d,hd,h1,_⟩:=p_split (m*m) 1 (by omega) h00;obtain⟨t,ht,h2⟩:=near h hd (show 0<m by omega);exact⟨1+t,by omega,by omega,p_add t 1 hd h1 h2⟩
 have hV:∀ c,c<m->P m E (s*(m-1)) 0 c:=by
  refine grown (m:=m) (fun t c=>P m E (s*t) 0 c) ⟨0,by omega,rfl⟩ ?_ ?_
  ·intro t c hc;have:=p_add (s*t) s (show 0<m by omega) hs hc;rw[show s*(t+1)=s+s*t by rw[Nat.mul_succ];omega];exact this
  ·intro t;by_cases hcl:∃ c,c<m/\P m E (s*(t+1)) 0 c/\¬ P m E (s*t) 0 c
   ·exact .inr hcl
   ·left;have hall:∀ n c,c<m->P m E (s*n) 0 c->P m E (s*t) 0 c:=by
     intro n
     induction n with
     | zero=>
      intro c hc h0;have e:0=c:=h0;subst e;clear hcl
      induction t with
      | zero=>exact h0
      | succ t ih=>
       rw[show s*(t+1)=s+s*t by rw[Nat.mul_succ];omega];exact p_add (s*t) s (show 0<m by omega) hs ih
     | succ n ih=>
      intro c hc hn;rw[Nat.mul_succ]at hn;obtain⟨d,hd,h1,h2⟩:=p_split s (s*n) hc hn;have:=p_add s (s*t) hd (ih d hd h1) h2;refine Classical.byContradiction fun hno=>hcl ⟨c,hc,by rw[Nat.mul_succ];exact this,hno⟩
    intro c hc;refine hall (m*m+1) c hc ?_;obtain⟨n,hn⟩:∃ n,s*(m*m+1)=m*m+1+n:=⟨(s-1)*(m*m+1),by
     obtain⟨s',rfl⟩:∃ s',s=s'+1:=⟨s-1,by omega⟩;rw[Nat.add_sub_cancel,Nat.add_mul];omega⟩
    rw[hn];exact full_ups h (by omega) (fun c hc=>h 0 c (by omega) hc) n c hc
 intro i c hi hc;obtain⟨t,ht,h1⟩:=near h hi (show 0<m by omega);have h2:∀ c,c<m->P m E (t+s*(m-1)) i c:=fun c hc=>p_add _ _ (by omega) h1 (hV c hc);have hle:s*(m-1)<=m*(m-1):=Nat.mul_le_mul_right _ hs2;obtain⟨q,rfl⟩:∃ q,m=q+1:=⟨m-1,by omega⟩;rw[Nat.add_sub_cancel]at *;have e:(q+1)*(q+1)=(q+1)*q+(q+1):=Nat.mul_succ _ _;obtain⟨n,hn⟩:∃ n,(q+1)*(q+1)=t+s*q+n:=⟨(q+1)*(q+1)-(t+s*q),by omega⟩;rw[hn];exact full_ups h hi h2 n c hc
end Paths
end Go.Proofs.YtapimhjbilkfpaaGreatDoor
namespace Go.Proofs.YtapimhjbilkfpaaGreatDoor
open Go Go.Proofs.Tryz List
def nw(acc:Nat)(l:List UInt8):Nat:=l.foldl (fun a u=>a ||| 2 ^ (u.toNat-97)) acc
theorem Bj(acc:Nat)(l:List UInt8)(u:UInt8):nw acc (l++[u])=nw acc l ||| 2 ^ (u.toNat-97):=by simp[nw]
theorem wv{m:Nat}:∀(l:List UInt8) (acc:Nat),acc<2 ^ m->(∀ u∈l,u.toNat-97<m)->nw acc l<2 ^ m
 | [],acc,h,_=>h
 | u::l,acc,h,hl=>wv l _ (Nat.or_lt_two_pow h (Nat.pow_lt_pow_right (by omega) (hl u (mem_cons_self ..)))) fun v hv=>hl v (mem_cons_of_mem _ hv)
theorem GA(c:Nat):∀(l:List UInt8) (acc:Nat),(nw acc l).testBit c=true↔acc.testBit c=true\/∃ u∈l,u.toNat-97=c
 | [],acc=>by simp[nw]
 | u::l,acc=>by
  have ih:=GA c l (acc ||| 2 ^ (u.toNat-97));show (nw (acc ||| 2 ^ (u.toNat-97)) l).testBit c=true↔_;rw[ih,Nat.testBit_or,Bool.or_eq_true,Nat.testBit_two_pow,decide_eq_true_eq];constructor
  ·rintro((h|h)|⟨v,hv,h⟩)
   ·exact .inl h
   ·exact .inr ⟨u,mem_cons_self ..,h⟩
   ·exact .inr ⟨v,mem_cons_of_mem _ hv,h⟩
  ·rintro(h|⟨v,hv,h⟩)
   ·exact .inl (.inl h)
   ·rcases List.mem_cons.1 hv with rfl|hv
    ·exact .inl (.inr h)
    ·exact .inr ⟨v,hv,h⟩
def gh(ws:List (List UInt8))(s:Nat):Nat->Nat
 | 0=>0
 | i+1=>if s/2 ^ i%2=1 then nw (gh ws s i) (ws.getD i []) else gh ws s i
theorem jL(ws:List (List UInt8))(s:Nat):gh ws s 0=0:=rfl
theorem jK(ws:List (List UInt8))(s i:Nat):gh ws s (i+1)=if s/2 ^ i%2=1 then nw (gh ws s i) (ws.getD i []) else gh ws s i:=rfl
def tN(ws:List (List UInt8))(s:Nat):Nat:=gh ws s ws.length
def eX(ws:List (List UInt8)):Nat->Nat->Nat
 | 0,s=>s
 | k+1,s=>tN ws (eX ws k s)
def Ed(ws:List (List UInt8))(i c:Nat):Prop:=∃ u∈ws.getD i [],u.toNat-97=c
theorem I9{ws:List (List UInt8)}(hm:aW ws=true){i:Nat}(h:i<ws.length):∀ u∈ws.getD i [],u.toNat-97<ws.length:=by
 have hw:=bL hm (kE h);intro u hu;exact(xx (aV hw.2.1) hw.2.2 u hu).2
theorem nT{ws:List (List UInt8)}(hm:aW ws=true)(s:Nat):∀ i,i<=ws.length->gh ws s i<2 ^ ws.length
 | 0,_=>by rw[jL];exact Nat.two_pow_pos _
 | i+1,h=>by
  have ih:=nT hm s i (by omega);rw[jK];split
  ·exact wv _ _ ih (I9 hm (by omega))
  ·exact ih
theorem xf{ws:List (List UInt8)}(s c:Nat):∀ i,(gh ws s i).testBit c=true↔∃ j,j<i/\s.testBit j=true/\Ed ws j c
 | 0=>by
  rw[jL,Nat.zero_testBit];exact⟨fun h=>(by cases h),fun ⟨j,hj,_⟩=>absurd hj (Nat.not_lt_zero j)⟩
 | i+1=>by
  have ih:=xf (ws:=ws) s c i;have hb:s.testBit i=decide (s/2 ^ i%2=1):=Nat.testBit_eq_decide_div_mod_eq;rw[jK];split
  ·rename_i h1;rw[GA,ih];constructor
   ·rintro(⟨j,h2,h3,h4⟩|h)
    ·exact⟨j,by omega,h3,h4⟩
    ·exact⟨i,by omega,by rw[hb,decide_eq_true h1],h⟩
   ·rintro⟨j,h2,h3,h4⟩
    by_cases hj:j=i
    ·subst hj;exact .inr h4
    ·exact .inl ⟨j,by omega,h3,h4⟩
  ·rename_i h1;rw[ih];constructor
   ·rintro⟨j,h2,h3,h4⟩;exact⟨j,by omega,h3,h4⟩
   ·rintro⟨j,h2,h3,h4⟩
    by_cases hj:j=i
    ·subst hj;rw[hb,decide_eq_true_eq]at h3;exact absurd h3 h1
    ·exact⟨j,by omega,h3,h4⟩
theorem rY{ws:List (List UInt8)}(hm:aW ws=true){i:Nat}(hi:i<ws.length):∀ k,eX ws k (2 ^ i)<2 ^ ws.length
 | 0=>Nat.pow_lt_pow_right (by omega) hi
 | k+1=>nT hm _ _ (Nat.le_refl _)
theorem lg{ws:List (List UInt8)}(hm:aW ws=true){i:Nat}(hi:i<ws.length):∀(k c:Nat),(eX ws k (2 ^ i)).testBit c=true↔Paths.P ws.length (Ed ws) k i c
 | 0,c=>by
  unfold eX Paths.P;rw[Nat.testBit_two_pow,decide_eq_true_eq]
 | k+1,c=>by
  unfold eX Paths.P;unfold tN;rw[xf];constructor
  ·rintro⟨j,h1,h2,h3⟩;exact⟨j,h1,(lg hm hi k j).1 h2,h3⟩
  ·rintro⟨j,h1,h2,h3⟩;exact⟨j,h1,(lg hm hi k j).2 h2,h3⟩
def nc(ws:List (List UInt8))(k:Nat):Bool:=(range ws.length).all fun i=>eX ws k (2 ^ i)==2 ^ ws.length-1
theorem BW{ws:List (List UInt8)}(hm:aW ws=true)(k:Nat):nc ws k=true↔Paths.Full ws.length (Ed ws) k:=by
 unfold nc Paths.Full;rw[all_eq_true];constructor
 ·intro h i c hi hc;have:=h i (List.mem_range.2 hi);rw[beq_iff_eq]at this;rw[<-lg hm hi,this,Nat.testBit_two_pow_sub_one];exact decide_eq_true hc
 ·intro h i hi;have hi:=List.mem_range.1 hi;rw[beq_iff_eq];apply Nat.eq_of_testBit_eq;intro c;rw[Nat.testBit_two_pow_sub_one];by_cases hc:c<ws.length
  ·rw[decide_eq_true hc,lg hm hi];exact h i c hi hc
  ·rw[decide_eq_false hc];exact Nat.testBit_lt_two_pow (Nat.lt_of_lt_of_le (rY hm hi k) (Nat.pow_le_pow_right (by omega) (by omega)))
def iJ(ws:List (List UInt8))(n:Nat):Bool:=(range n).any fun k=>nc ws (k+1)
theorem mW(ws:List (List UInt8))(n:Nat):iJ ws (n+1)=(iJ ws n||nc ws (n+1)):=by simp[iJ,range_succ]
theorem pL{ws:List (List UInt8)}{n m:Nat}(h:n<m)(hh:nc ws (n+1)=true):iJ ws m=true:=by
 unfold iJ;rw[any_eq_true];exact⟨n,List.mem_range.2 h,hh⟩
theorem D1{ws:List (List UInt8)}(hm:aW ws=true):iJ ws (ws.length*ws.length+1)=iJ ws (ws.length*ws.length):=by
 have h15:=aX hm;rw[mW];cases h:nc ws (ws.length*ws.length+1)
 ·rw[Bool.or_false]
 ·have h1:=Paths.shorter h15.1 ((BW hm _).1 h);have h2:=(BW hm _).2 h1;have h3:1<=ws.length*ws.length:=Nat.mul_le_mul h15.1 h15.1;rw[pL (n:=ws.length*ws.length-1) (by omega) (by rw[show ws.length*ws.length-1+1=ws.length*ws.length by omega];exact h2)];rfl
def vC(ws:List (List UInt8)):Bool:=aW ws&&iJ ws (ws.length*ws.length)
theorem wQ{i:Nat}(h:i<=5):2 ^ i<=32:=by
 have:i=0\/i=1\/i=2\/i=3\/i=4\/i=5:=by omega
 rcases this with rfl|rfl|rfl|rfl|rfl|rfl<;>decide
theorem Vh{i:Nat}(h:i<=5):IntKind.i64.wrap (2 ^ (min i IntKind.i64.bits))=((2 ^ i:Nat):Int):=by
 have:i=0\/i=1\/i=2\/i=3\/i=4\/i=5:=by omega
 rcases this with rfl|rfl|rfl|rfl|rfl|rfl<;>decide
theorem Uc{s i:Nat}(h:i<=5):(s:Int).fdiv (2 ^ (min i IntKind.i64.bits))=((s/2 ^ i:Nat):Int):=by
 have e:min i IntKind.i64.bits=i:=by show min i 64=i;omega
 rw[e,Int.fdiv_eq_ediv_of_nonneg _ (by exact Int.le_of_lt (Int.pow_pos (by decide)))]
 push_cast
 rfl
theorem TT{x:Nat}(h:x<32):IntKind.i64.wrap (BitVec.ofInt IntKind.i64.bits (x:Int) &&& BitVec.ofInt IntKind.i64.bits 1).toNat=((x%2:Nat):Int):=by
 have:∀ y:Fin 32,IntKind.i64.wrap (BitVec.ofInt IntKind.i64.bits ((y.val:Nat):Int) &&& BitVec.ofInt IntKind.i64.bits 1).toNat=((y.val%2:Nat):Int):=by decide
 exact this ⟨x,h⟩
theorem XI{x y:Nat}(h:x<32)(h':y<32):IntKind.i64.wrap (BitVec.ofInt IntKind.i64.bits (x:Int) ||| BitVec.ofInt IntKind.i64.bits (y:Int)).toNat=((x ||| y:Nat):Int):=by
 have e:∀ z:Nat,BitVec.ofInt IntKind.i64.bits (z:Int)=BitVec.ofNat 64 z:=fun z=>by
  show BitVec.ofInt 64 (z:Int)=BitVec.ofNat 64 z;exact BitVec.ofInt_natCast 64 z
 have hxy:x ||| y<2 ^ 5:=Nat.or_lt_two_pow (n:=5) h h'
 rw[e,e];show IntKind.i64.wrap ((BitVec.ofNat 64 x ||| BitVec.ofNat 64 y).toNat:Int)=_;rw[BitVec.toNat_or,BitVec.toNat_ofNat,BitVec.toNat_ofNat,Nat.mod_eq_of_lt (by omega),Nat.mod_eq_of_lt (by omega)];exact BE (by omega) (by omega)
def kd(i:Nat):Nat:=2 ^ i
def Kk(s i:Nat):Nat:=s/2 ^ i
def nz(s i:Nat):Nat:=s/2 ^ i%2
def orN(a b:Nat):Nat:=a ||| b
theorem Lb{T:Tab}{t:TypeId}{k:IntKind}{i:Nat}(h:i<=5):cK T .shl t (.int .i64 1) (.int k (i:Int))=.need (0<=(i:Int)) (.int .i64 (kd i:Nat)):=by
 rw[gC,Int.one_mul,Int.toNat_natCast,Vh h];rfl
theorem UX{T:Tab}{t:TypeId}{k:IntKind}{s i:Nat}(h:i<=5):cK T .shr t (.int .i64 (s:Int)) (.int k (i:Int))=.need (0<=(i:Int)) (.int .i64 (Kk s i:Nat)):=by
 rw[sG,Int.toNat_natCast,Uc h];rfl
theorem TP{T:Tab}{t:TypeId}{s i:Nat}(h:Kk s i<32):cK T .and t (.int .i64 (Kk s i:Nat)) (.int .i64 1)=.ok (.int .i64 (nz s i:Nat)):=by
 rw[sk,TT h];rfl
theorem orO{T:Tab}{t:TypeId}{x y:Nat}(h:x<32/\y<32):cK T .or t (.int .i64 (x:Int)) (.int .i64 (y:Int))=.ok (.int .i64 (orN x y:Nat)):=by
 rw[yU,XI h.1 h.2];rfl
theorem Ge(s i:Nat):Kk s i<=s:=Nat.div_le_self _ _
theorem JG{i m:Nat}(h:i<m)(hm:m<=5):kd i<32:=by
 have:=wQ (i:=i+1) (by omega);unfold kd;rw[Nat.pow_succ]at this;omega
theorem Iv(x:Value)(ws:List (List UInt8))(s b1:Nat)(K:Mem)(R:VP)(hv:Rd K x (strs ws))(hm:aW ws=true)(k1:K b1=some (.cells true [x] 1))(hs:s<2 ^ ws.length)(h:R (.int .i64 (tN ws s)) K):ar prog 423 [.int .i64 s,.pointer (some ⟨b1,0,none⟩)] K R:=by
 have h15:=aX hm;have h32:=wQ h15.2;obtain⟨a,c,rfl,ha⟩:=hv.opened;rw[ah]at ha hv k1;rcases ha with h0|⟨b,o,rfl,ha⟩
 ·omega
 refine fnS func423 rfl ntmps423 results423 ?_;simp(disch:=omega)[aj k1];refine aQ aR [4,5,6,8,12,13,14,15,16,17,18,19,20,21,22,23,24,25,26,27,28,29,30,31,32,33,34,35] (fun i:Nat=>[(12,.int .i64 i),(4,.int .i64 (gh ws s i))]) (fun i M'=>M'=K/\i<=ws.length) (fun i=>ws.length-i) 0 (by kernel_rfl) (by simp(disch:=omega)[jL]) ⟨rfl,by omega⟩ ?_
 rintro i M' g ⟨rfl,hi⟩
 by_cases hlt:i<ws.length
 ·have hg:=ha i hlt;rw[bg,getElem?_eq_getElem hlt]at hg;have hst:=nT hm s i hi;have hsn:=jK ws s i;have hgd:ws.getD i []=ws[i]:=by rw[getD_eq_getElem?_getD,getElem?_eq_getElem hlt];rfl
  rw[hgd]at hsn;have hlt2:=I9 hm hlt;rw[hgd]at hlt2;have hwo:=bL hm (getElem_mem hlt);obtain⟨w,hw⟩:∃ w,w=ws[i]:=⟨_,rfl⟩;rw[<-hw]at hg hsn hlt2 hwo;have hba:=Ge s i;have hif:nz s i=1↔s/2 ^ i%2=1:=Iff.rfl;simp(disch:=omega)[-gC,-sG,-sk,-yU,UX,TP,hg];by_cases hbit:nz s i=1
  ·have hb:((nz s i:Int)==1)=true:=by rw[hbit];rfl
   rw[if_pos (hif.1 hbit)]at hsn;generalize gh ws s i=acc at *;simp(disch:=omega)[hb];intro b2 c2 hb2 hc2;simp(disch:=omega);have k2:(M'.put b2 (.cells true (av w) c2)) b2=some (.cells true (av w) c2):=ag _ _ _;refine aQ aR [4,8,25,26,27,28,29,30,31,32,33,34] (fun q:Nat=>[(25,.int .i64 q),(4,.int .i64 (nw acc (w.take q)))]) (fun q M1=>M1=M'.put b2 (.cells true (av w) c2)/\q<=w.length) (fun q=>w.length-q) 0 (by kernel_rfl) (by simp(disch:=omega)[nw]) ⟨rfl,by omega⟩ ?_
   rintro q M1 g1 ⟨rfl,hq⟩
   have hlt3:=wv (m:=ws.length) (w.take q) acc hst fun u hu=>hlt2 u (mem_of_mem_take hu);by_cases hql:q<w.length
   ·have hx:w[q]?=some w[q]:=getElem?_eq_getElem hql;have hlq:=dS (List.all_eq_true.1 (aV hwo.2.1) _ (getElem_mem hql));have hl3:=hlt2 _ (getElem_mem hql);have hsn2:nw acc (w.take (q+1))=orN (nw acc (w.take q)) (kd (w[q].toNat-97)):=by rw[az w hql,Bj];rfl
    have hbn:=JG hl3 h15.2;have e97:((w[q].toNat:Int)-97)=((w[q].toNat-97:Nat):Int):=by omega
    generalize w[q].toNat-97=kk at *;simp(disch:=omega);refine gS _ _ _ ?_;rw[e97];simp(disch:=omega)[-gC,-sG,-sk,-yU,Lb,orO];exact rndA (q+1) (by simp(disch:=omega)[hsn2]) ⟨rfl,by omega⟩
   ·have hq':q=w.length:=by omega
    subst hq';rw[take_length];simp(disch:=omega);exact rndB M' (i+1) ((Sub.refl M').put hb2 _) (by simp(disch:=omega)[hsn]) ⟨rfl,by omega⟩
  ·have hb:((nz s i:Int)==1)=false:=beq_eq_false_iff_ne.2 (by omega);rw[if_neg (fun hh=>hbit (hif.2 hh))]at hsn;simp(disch:=omega)[hb];exact rndA (i+1) (by simp(disch:=omega)[hsn]) ⟨rfl,by omega⟩
 ·have hi':i=ws.length:=by omega
  subst hi';simp(disch:=omega);exact ad h
def kP(ws:List (List UInt8))(k:Nat):List Nat:=(range ws.length).map fun i=>eX ws k (2 ^ i)
theorem bD(ws:List (List UInt8))(k:Nat):(kP ws k).length=ws.length:=by simp[kP]
theorem sY(ws:List (List UInt8))(k:Nat){i:Nat}(h:i<ws.length):(kP ws k)[i]?=some (eX ws k (2 ^ i)):=by simp[kP,h]
def vj(i:Nat):List Nat:=(range i).map kd
theorem yG(i:Nat):vj (i+1)=vj i++[kd i]:=by simp[vj,range_succ]
theorem rf(i:Nat):(vj i).length=i:=by simp[vj]
theorem Bt(ws:List (List UInt8)):vj ws.length=kP ws 0:=rfl
def sc(ws:List (List UInt8))(k i:Nat):List Nat:=(kP ws (k+1)).take i++(kP ws k).drop i
theorem K4(ws:List (List UInt8))(k:Nat):sc ws k 0=kP ws k:=by simp[sc]
theorem Fj(ws:List (List UInt8))(k:Nat){i:Nat}(h:i<=ws.length):(sc ws k i).length=ws.length:=by
 unfold sc;rw[length_append,length_take,length_drop,bD,bD];omega
theorem Oh(ws:List (List UInt8))(k:Nat):sc ws k ws.length=kP ws (k+1):=by
 unfold sc;rw[take_of_length_le (by rw[bD];exact Nat.le_refl _),drop_of_length_le (by rw[bD];exact Nat.le_refl _),append_nil]
theorem Pp(ws:List (List UInt8))(k:Nat){i:Nat}(h:i<ws.length):(sc ws k i)[i]?=some (eX ws k (2 ^ i)):=by
 unfold sc;rw[getElem?_append_right (by rw[length_take];omega),length_take,bD,Nat.min_eq_left (by omega),Nat.sub_self,getElem?_drop,Nat.add_zero,sY ws k h]
theorem Nn(ws:List (List UInt8))(k:Nat){i:Nat}(h:i<ws.length):(sc ws k i).set i (eX ws (k+1) (2 ^ i))=sc ws k (i+1):=by
 have hg:=sY ws (k+1) h;rw[getElem?_eq_getElem (by rw[bD];exact h)]at hg;injection hg with hg
 unfold sc;rw[set_append_right _ _ (by rw[length_take];omega),length_take,bD,Nat.min_eq_left (by omega),Nat.sub_self,drop_eq_getElem_cons (by rw[bD];exact h),set_cons_zero,az (kP ws (k+1)) (by rw[bD];exact h),hg,append_assoc];rfl
theorem IT(l:List Nat)(i n:Nat):(aB l).set i (.int .i64 n)=aB (l.set i n):=by simp[aB,map_set]
def isFull(m:Nat):Value->Bool
 | .int .i64 n=>n==(kd m:Int)-1
 | _=>false
theorem JJ{m x:Nat}:((x:Int)==(kd m:Int)-1)=(x==2 ^ m-1):=by
 have h1:1<=kd m:=Nat.two_pow_pos m;have h2:kd m=2 ^ m:=rfl;rw[Bool.eq_iff_iff,beq_iff_eq,beq_iff_eq];omega
theorem Nw(ws:List (List UInt8))(k:Nat):(aB (kP ws k)).all (isFull ws.length)=nc ws k:=by
 unfold aB kP nc;rw[map_map,all_map]
 congr 1
 funext i
 exact JJ
theorem ti(v:Value)(ws:List (List UInt8))(M:Mem)(R:VP)(hv:Rd M v (strs ws))(hm:aW ws=true)(h:R (.bool (iJ ws (ws.length*ws.length))) M):ar prog 397 [.agg #[v]] M R:=by
 rw[<-D1 hm]at h;have h15:=aX hm;have h32:=wQ h15.2;refine fnS func397 rfl ntmps397 results397 ?_;obtain⟨a,c,rfl,ha⟩:=hv.opened;rw[ah]at ha hv ⊢;have hb32:kd ws.length<=32:=h32;have hb1':1<=kd ws.length:=Nat.two_pow_pos _;simp(disch:=omega);intro b1 hb1;simp(disch:=omega)[-gC,Lb];intro b3 hb3;have n3:=hb3;rw[aF]at n3;have s3:Sub M ((M.put b1 (.cells true [.slice a ws.length c] 1)).put b3 (.cells true [.int .i64 ((kd ws.length:Int)-1)] 1)):=((Sub.refl M).put hb1 _).putN hb3 _;have k1:((M.put b1 (.cells true [.slice a ws.length c] 1)).put b3 (.cells true [.int .i64 ((kd ws.length:Int)-1)] 1)) b1=some (.cells true [.slice a ws.length c] 1):=by rw[ai _ _ (Ne.symm n3.1)];exact ag _ _ _
 have k3:((M.put b1 (.cells true [.slice a ws.length c] 1)).put b3 (.cells true [.int .i64 ((kd ws.length:Int)-1)] 1)) b3=some (.cells true [.int .i64 ((kd ws.length:Int)-1)] 1):=ag _ _ _;have hv3:=hv.sub s3;simp(disch:=omega)[-gC];generalize (M.put b1 (.cells true [.slice a ws.length c] 1)).put b3 (.cells true [.int .i64 ((kd ws.length:Int)-1)] 1)=N at *;refine lupS [5,6,18,19,20,21,22,23,24,25,26] (fun x:Nat×Value=>[(18,.int .i64 x.1),(5,x.2)]) (fun x M'=>x.1<=ws.length/\Own N x.2 (aB (vj x.1)) M') (fun x=>ws.length-x.1) (0,.slice none 0 0) ⟨by omega,Own.nil _⟩ ?_
 rintro⟨i,v⟩ M' g ⟨hi,ho⟩
 simp only at hi ho;by_cases hlt:i<ws.length
 ·have hl0:=rf i;simp(disch:=omega)[-gC,Lb];intro b' hb';simp(disch:=omega);refine aN ho ((Sub.refl _).put hb' _) (by simp(disch:=omega);rfl) rfl rfl (by omega) (by simp(disch:=omega)) (by simp(disch:=omega);rw[aA,hl0];omega) ?_;intro v' M'' N'' ho' hs';simp(disch:=omega);refine rndM M'' (i+1,v') hs' ⟨by simp only;omega,?_⟩;simp only;rw[yG,<-ez];exact ho'
 ·have hi':i=ws.length:=by omega
  subst hi';rw[Bt]at ho;have hsM:=ho.sub;have q1:=hsM _ _ k1;have q3:=hsM _ _ k3;rcases ho with ⟨_,h0,_⟩|⟨b5,c5,rfl,hb5,hc5,rfl⟩
  ·have:=congrArg length h0;rw[aA,bD,length_nil]at this;omega
  rw[aA,bD]at hc5;have hne15:b1≠b5:=by rintro rfl;rw[k1]at hb5;cases hb5
  have hne35:b3≠b5:=by rintro rfl;rw[k3]at hb5;cases hb5
  have hmm:ws.length*ws.length<=25:=Nat.mul_le_mul h15.2 h15.2;obtain⟨mm,hmmq⟩:∃ mm,mm=ws.length*ws.length:=⟨_,rfl⟩;have emm:(ws.length:Int)*ws.length=(mm:Int):=by rw[hmmq];push_cast;rfl
  rw[<-hmmq]at h hmm;have hll:=bD ws 0;simp(disch:=omega)[aj q1,emm,aA,hll];refine lupS [2,7,8,35,36,37,38,39,40,41,42,43,44,45,46,47,48,49,50,51,52,53,54] (fun k:Nat=>[(35,.int .i64 k)]) (fun k M1=>k<=mm+1/\iJ ws k=false/\M1=N.put b5 (.cells true (aB (kP ws k)) c5)) (fun k=>mm+1-k) 0 ⟨by omega,rfl,rfl⟩ ?_
  rintro k M1 g1 ⟨hk,hno,rfl⟩
  by_cases hkl:k<mm+1
  ·simp(disch:=omega);refine lupS [7,8,39,40,41,42,43,44,45,46,47,48,49,50] (fun i:Nat=>[(39,.int .i64 i)]) (fun i M2=>i<=ws.length/\M2=N.put b5 (.cells true (aB (sc ws k i)) c5)) (fun i=>ws.length-i) 0 ⟨by omega,by rw[K4]⟩ ?_
   rintro i M2 g2 ⟨hi2,rfl⟩
   have s5:Sub N (N.put b5 (.cells true (aB (sc ws k i)) c5)):=(Sub.refl N).put hb5 _;have hml:=Fj ws k hi2;by_cases hil:i<ws.length
   ·have hg:(aB (sc ws k i))[i]?=some (.int .i64 (eX ws k (2 ^ i):Nat)):=by rw[bS,Pp ws k hil];rfl
    have hset:=Nn ws k hil;have hilt:=rY hm hil k;have hst:tN ws (eX ws k (2 ^ i))=eX ws (k+1) (2 ^ i):=rfl;simp(disch:=omega)[hg];refine Iv _ ws _ b1 _ _ (hv3.sub s5) hm (s5 _ _ k1) hilt ?_;rw[hst];simp(disch:=omega)[IT,hset,aA,hml];exact rndS (i+1) ⟨by omega,rfl⟩
   ·have hi2':i=ws.length:=by omega
    subst hi2';rw[Oh]at s5 ⊢;have hs:=mW ws k;rw[hno,Bool.false_or]at hs;simp(disch:=omega);refine CT _ _ (aB (kP ws (k+1))) (isFull ws.length) (fun K=>K b3=some (.cells true [.int .i64 ((kd ws.length:Int)-1)] 1)) _ _ (Rd.new (by rw[aA,bD]) hc5) (s5 _ _ k3) ?_ ?_ rfl (by rw[aA,bD];omega) ?_
    ·intro K b' B q hb;have:b3≠b':=by rintro rfl;rw[hb]at q;cases q
     show (K.put b' B) b3=_;rw[ai _ _ this];exact q
    ·intro x hx K R' q hR;obtain⟨n,hn,rfl⟩:=List.mem_map.1 hx;simp(disch:=omega);refine fnS func425 rfl ntmps425 results425 ?_;simp(disch:=omega)[aj q];exact ad hR
    ·rw[Nw];cases hf:nc ws (k+1)
     ·rw[hf]at hs;simp(disch:=omega);exact rndS (k+1) ⟨by omega,hs,rfl⟩
     ·rw[pL hkl hf]at h;simp(disch:=omega);exact ae (s3.trans s5) h
  ·have hk':k=mm+1:=by omega
   rw[hk']at hno;rw[hno]at h;simp(disch:=omega);exact ae (s3.trans ((Sub.refl N).put hb5 _)) h
theorem ui(v:Value)(ws:List (List UInt8))(M:Mem)(R:VP)(hv:Rd M v (strs ws))(hf:df ws)(hn:ws.length<=1099511627776)(h:R (aD (.bool (vC ws)) (kC ws)) M):ar prog 347 [.agg #[v]] M R:=by
 refine fnS func347 rfl ntmps347 results347 ?_;obtain⟨a,c,rfl,ha⟩:=hv.opened;rw[ah]at hv ⊢;simp(disch:=omega);intro b1 hb1;have hs1:Sub M (M.put b1 (.cells true [.slice a ws.length c] 1)):=(Sub.refl M).put hb1 _;have hv1:=hv.put hb1 (.cells true [.slice a ws.length c] 1);simp(disch:=omega);refine ff _ ws _ _ hv1 hf hn ?_;unfold vC kC at h;unfold kC;cases hm:aW ws
 ·rw[hm]at h;simp(disch:=omega);exact ae hs1 h
 ·rw[hm,Bool.true_and,if_pos rfl]at h;simp(disch:=omega);refine ti _ ws _ _ hv1 hm ?_;simp(disch:=omega);exact ae hs1 h
theorem Ji{x:Int}(h:0<=x/\x<=1000):IntKind.u64.wrap x=x:=by
 simp[IntKind.wrap,IntKind.bits,IntKind.signed];omega
def yb(ws:List (List UInt8))(k i:Nat):Bool:=(range i).all fun i=>eX ws k (2 ^ i)==2 ^ ws.length-1
theorem Hz(ws:List (List UInt8))(k i:Nat):yb ws k (i+1)=(yb ws k i&&(eX ws k (2 ^ i)==2 ^ ws.length-1)):=by simp[yb,range_succ]
theorem LZ(ws:List (List UInt8))(k:Nat):yb ws k ws.length=nc ws k:=rfl
theorem L5(ws:List (List UInt8))(k:Nat){i:Nat}(h:i<ws.length):(kP ws k).take (i+1)=(kP ws k).take i++[eX ws k (2 ^ i)]:=by
 have hg:=sY ws k h;rw[getElem?_eq_getElem (by rw[bD];exact h)]at hg;injection hg with hg
 rw[az (kP ws k) (by rw[bD];exact h),hg]
set_option maxHeartbeats 1000000 in
theorem tE(v:Value)(ws:List (List UInt8))(M:Mem)(R:VP)(hv:Rd M v (strs ws))(hf:df ws)(hn:ws.length<=1099511627776)(h:R (aD (.bool (vC ws)) (kC ws)) M):ar prog 290 [.agg #[v]] M R:=by
 refine fnS func290 rfl ntmps290 results290 ?_;obtain⟨a,c,rfl,ha⟩:=hv.opened;rw[ah]at ha hv ⊢;simp(disch:=omega);intro b1 hb1;have hs1:Sub M (M.put b1 (.cells true [.slice a ws.length c] 1)):=(Sub.refl M).put hb1 _;have hv1:=hv.put hb1 (.cells true [.slice a ws.length c] 1);have k1:(M.put b1 (.cells true [.slice a ws.length c] 1)) b1=some (.cells true [.slice a ws.length c] 1):=ag _ _ _;simp(disch:=omega);generalize M.put b1 (.cells true [.slice a ws.length c] 1)=N at *;refine fP _ ws _ _ hv1 hf hn ?_;unfold vC kC at h;cases hm:aW ws
 ·rw[hm]at h;simp(disch:=omega);exact ae hs1 h
 ·rw[hm,Bool.true_and,if_pos rfl]at h;have h15:=aX hm;have h32:=wQ h15.2;have hb32:kd ws.length<=32:=h32;have hb1':1<=kd ws.length:=Nat.two_pow_pos _;rcases ha with h0|⟨b,o,rfl,ha⟩
  ·omega
  have hmm:ws.length*ws.length<=25:=Nat.mul_le_mul h15.2 h15.2;obtain⟨mm,hmmq⟩:∃ mm,mm=ws.length*ws.length:=⟨_,rfl⟩;have emm:(ws.length:Int)*ws.length=(mm:Int):=by rw[hmmq];push_cast;rfl
  rw[<-hmmq]at h hmm;simp(disch:=omega)[aj k1];intro b20 hb20;simp(disch:=omega);refine lupS [5,6,21,22,23,24,25,26,27,28,29,30,31] (fun x:Nat×Value=>[(6,.int .i64 x.1),(5,x.2)]) (fun x M'=>x.1<=ws.length/\Own N x.2 (aB (vj x.1)) M') (fun x=>ws.length-x.1) (0,.slice (some ⟨b20,0,none⟩) 0 0) ⟨by omega,Own.new hb20 rfl (Nat.le_refl 0)⟩ ?_
  rintro⟨i,v⟩ M' g ⟨hi,ho⟩
  simp only at hi ho;by_cases hlt:i<ws.length
  ·have hl0:=rf i;simp(disch:=omega)[-gC,Ji,Lb];intro b' hb';simp(disch:=omega);refine aN ho ((Sub.refl _).put hb' _) (by simp(disch:=omega);rfl) rfl rfl (by omega) (by simp(disch:=omega)) (by simp(disch:=omega);rw[aA,hl0];omega) ?_;intro v' M'' N'' ho' hs';simp(disch:=omega);refine rndM M'' (i+1,v') hs' ⟨by simp only;omega,?_⟩;simp only;rw[yG,<-ez];exact ho'
  ·have hi':i=ws.length:=by omega
   subst hi';rw[Bt]at ho;simp(disch:=omega);refine lupS [2,3,5,7,8,9,10,11,12,13,32,33,34,35,36,37,38,39,40,41,42,43,44,45,46,47,48,49,50,51,52,53,54,55,56,57,58,59,60,61,62,63,64,65,66,67,68,69,70,71,72,73,74,75,76,77,78,79,80,81,82,83,84,85,86,87,88,89,90,91,92,93,94,95] (fun x:Nat×Value=>[(7,.int .i64 x.1),(5,x.2)]) (fun x M1=>x.1<=mm/\iJ ws x.1=false/\Sub N M1/\Rd M1 x.2 (aB (kP ws x.1))) (fun x=>mm-x.1) (0,v) ⟨by simp,rfl,ho.sub,ho.rd⟩ ?_
   rintro⟨k,vn⟩ M1 g1 ⟨hk,hno,sN,rn⟩
   simp only at hk hno rn;by_cases hkl:k<mm
   ·obtain⟨an,cn,rfl,hag⟩:=rn.opened;rw[aA,bD]at hag rn ⊢;rcases hag with h0|⟨bn,on,rfl,hag⟩
    ·omega
    simp(disch:=omega)[emm];intro b39 hb39;simp(disch:=omega);refine aQ aR [8,9,10,11,12,13,40,41,42,43,44,45,46,47,48,49,50,51,52,53,54,55,56,57,58,59,60,61,62,63,64,65,66,67,68,69,70,71,72,73,74,75,76,77,78,79,80,81,82,83,84,85,86,87,88,89,90,91,92,93] (fun x:Nat×Value=>[(10,.int .i64 x.1),(8,x.2),(9,.bool (yb ws (k+1) x.1))]) (fun x M2=>x.1<=ws.length/\Own M1 x.2 (aB ((kP ws (k+1)).take x.1)) M2) (fun x=>ws.length-x.1) (0,.slice (some ⟨b39,0,none⟩) 0 0) (by kernel_rfl) (by simp(disch:=omega)[yb]) ⟨by omega,Own.new hb39 rfl (Nat.le_refl 0)⟩ ?_
    rintro⟨i,v2⟩ M2 g2 ⟨hi2,o2⟩
    simp only at hi2 o2;by_cases hil:i<ws.length
    ·have hgn:=hag i hil;rw[bS,sY ws k hil]at hgn;have hgn2:=aT hgn o2.sub;have hilt:=rY hm hil k;have hst:tN ws (eX ws k (2 ^ i))=eX ws (k+1) (2 ^ i):=rfl;have hal:=Hz ws (k+1) i;have hls:=L5 ws (k+1) hil;have hll:((kP ws (k+1)).take i).length=i:=by rw[length_take,bD];omega
     unfold tN at hst;obtain⟨s,hsq⟩:∃ s,s=eX ws k (2 ^ i):=⟨_,rfl⟩;rw[<-hsq]at hgn2 hilt hst;have l1:=o2.sub _ _ (sN _ _ k1);simp(disch:=omega);refine aQ aR [11,12,13,45,46,47,48,49,50,51,52,53,54,55,56,57,58,59,60,61,62,63,64,65,66,67,68,69,70,71,72,73,74,75,76,77,78,79,80] (fun j:Nat=>[(12,.int .i64 j),(11,.int .i64 (gh ws s j))]) (fun j M3=>M3=M2/\j<=ws.length) (fun j=>ws.length-j) 0 (by kernel_rfl) (by simp(disch:=omega)[jL]) ⟨rfl,by omega⟩ ?_
     rintro j M3 g3 ⟨rfl,hj⟩
     by_cases hjl:j<ws.length
     ·have hgw:=ha j hjl;rw[bg,getElem?_eq_getElem hjl]at hgw;have hgw2:=aT hgw ((hs1.trans sN).trans o2.sub);have hsn:=jK ws s j;have hgd:ws.getD j []=ws[j]:=by rw[getD_eq_getElem?_getD,getElem?_eq_getElem hjl];rfl
      rw[hgd]at hsn;have hlt2:=I9 hm hjl;rw[hgd]at hlt2;have hstl:=nT hm s j hj;have hwo:=bL hm (getElem_mem hjl);obtain⟨w,hw⟩:∃ w,w=ws[j]:=⟨_,rfl⟩;rw[<-hw]at hgw2 hsn hlt2 hwo;have hba:=Ge s j;have hif:nz s j=1↔s/2 ^ j%2=1:=Iff.rfl;have hb2:nz s j<2:=Nat.mod_lt _ (by omega);simp(disch:=omega)[-gC,-sG,-sk,-yU,UX,TP,Ji,hgn2];by_cases hbit:nz s j=1
      ·have hbb:((nz s j:Int)==0)=false:=by rw[hbit];rfl
       rw[if_pos (hif.1 hbit)]at hsn;generalize gh ws s j=acc at *;simp(disch:=omega)[hbb];refine aQ aR [11,13,59,60,61,62,63,64,65,66,67,68,69,70,71,72,73,74,75,76,77,78,79,80] (fun q:Nat=>[(13,.int .i64 q),(11,.int .i64 (nw acc (w.take q)))]) (fun q M4=>M4=M3/\q<=w.length) (fun q=>w.length-q) 0 (by kernel_rfl) (by simp(disch:=omega)[nw]) ⟨rfl,by omega⟩ ?_
       rintro q M4 g4 ⟨rfl,hq⟩
       have hlt3:=wv (m:=ws.length) (w.take q) acc hstl fun u hu=>hlt2 u (mem_of_mem_take hu);by_cases hql:q<w.length
       ·have hx:w[q]?=some w[q]:=getElem?_eq_getElem hql;have hlq:=dS (List.all_eq_true.1 (aV hwo.2.1) _ (getElem_mem hql));have hl3:=hlt2 _ (getElem_mem hql);have hsn2:nw acc (w.take (q+1))=orN (nw acc (w.take q)) (kd (w[q].toNat-97)):=by rw[az w hql,Bj];rfl
        have hbn:=JG hl3 h15.2;have e97:((w[q].toNat:Int)-97)=((w[q].toNat-97:Nat):Int):=by omega
        generalize w[q].toNat-97=kk at *;simp(disch:=omega)[-gC,-sG,-sk,-yU,Lb,orO,Ji,aj l1,hgw2,e97];exact rndA (q+1) (by simp(disch:=omega)[hsn2]) ⟨rfl,by omega⟩
       ·have hq':q=w.length:=by omega
        subst hq';rw[take_length];simp(disch:=omega)[aj l1,hgw2];exact rndA (j+1) (by simp(disch:=omega)[hsn]) ⟨rfl,by omega⟩
      ·have hb0:nz s j=0:=by omega
       have hbb:((nz s j:Int)==0)=true:=by rw[hb0];rfl
       rw[if_neg (fun hh=>hbit (hif.2 hh))]at hsn;simp(disch:=omega)[hbb];exact rndA (j+1) (by simp(disch:=omega)[hsn]) ⟨rfl,by omega⟩
     ·have hj':j=ws.length:=by omega
      subst hj';rw[hst];have hfe:=JJ (m:=ws.length) (x:=eX ws (k+1) (2 ^ i));have hit:=rY hm hil (k+1);rw[<-hfe]at hal;generalize eX ws (k+1) (2 ^ i)=y at *;simp(disch:=omega);intro b83 hb83;simp(disch:=omega);refine aN o2 ((Sub.refl _).put hb83 _) (by simp(disch:=omega);rfl) rfl rfl (by omega) (by simp(disch:=omega)) (by simp(disch:=omega);rw[aA,hll];omega) ?_;intro v5 M5 N5 o5 s5;cases hall:yb ws (k+1) i
      ·rw[hall,Bool.false_and]at hal;simp(disch:=omega);refine rndB M5 (i+1,v5) s5 (by simp(disch:=omega)[hal]) ⟨by simp only;omega,?_⟩;simp only;rw[hls,<-ez];exact o5
      ·rw[hall,Bool.true_and]at hal;simp(disch:=omega)[-gC,Lb,Ji];refine rndB M5 (i+1,v5) s5 (by simp(disch:=omega)[hal]) ⟨by simp only;omega,?_⟩;simp only;rw[hls,<-ez];exact o5
    ·have hi2':i=ws.length:=by omega
     subst hi2';rw[take_of_length_le (by rw[bD];exact Nat.le_refl _)]at o2;rw[LZ];have hs:=mW ws k;rw[hno,Bool.false_or]at hs;cases hfu:nc ws (k+1)
     ·rw[hfu]at hs;simp(disch:=omega);exact rndS (k+1,v2) ⟨by simp only;omega,hs,sN.trans o2.sub,o2.rd⟩
     ·rw[pL hkl hfu]at h;simp(disch:=omega);exact ae ((hs1.trans sN).trans o2.sub) h
   ·have hk':k=mm:=by omega
    rw[hk']at hno;rw[hno]at h;simp(disch:=omega)[emm];exact ae (hs1.trans sN) h
end Go.Proofs.YtapimhjbilkfpaaGreatDoor
