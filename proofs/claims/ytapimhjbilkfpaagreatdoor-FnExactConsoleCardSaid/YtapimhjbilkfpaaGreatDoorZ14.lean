/- Lemmas for FnExactDeskAfter, part 15 of 33. -/
import Derived.Test.YtapimhjbilkfpaaGreatDoorZ08
set_option linter.unusedVariables false
set_option linter.unusedSimpArgs false
namespace Go.Proofs.YtapimhjbilkfpaaGreatDoor
open List
namespace Paths
variable {m:Nat} {E:Nat->Nat->Prop}
def P(m:Nat)(E:Nat->Nat->Prop):Nat->Nat->Nat->Prop
 | 0,i,c=>i=c
 | k+1,i,c=>∃ d,d<m/\P m E k i d/\E d c
theorem p_add:∀(b a:Nat) {i d c:Nat},d<m->P m E a i d->P m E b d c->P m E (a+b) i c
 | 0,a,i,d,c,_,h1,h2=>by
  have:d=c:=h2;subst this;exact h1
 | b+1,a,i,d,c,hd,h1,⟨e,he,h2,h3⟩=>⟨e,he,p_add b a hd h1 h2,h3⟩
theorem p_split:∀(b a:Nat) {i c:Nat},c<m->P m E (a+b) i c->∃ d,d<m/\P m E a i d/\P m E b d c
 | 0,a,i,c,hc,h=>⟨c,hc,h,rfl⟩
 | b+1,a,i,c,_,⟨e,he,h2,h3⟩=>by
  obtain⟨d,hd,k1,k2⟩:=p_split b a he h2;exact⟨d,hd,k1,e,he,k2,h3⟩
theorem count_lt(l:List Nat)(p q:Nat->Bool)(h:∀ x,p x=true->q x=true){c:Nat}(hc:c∈l)(h1:q c=true)(h2:p c=false):l.countP p<l.countP q:=by
 induction l with
 | nil=>cases hc
 | cons a l ih=>
  rw[countP_cons,countP_cons];have hm:l.countP p<=l.countP q:=countP_mono_left fun x _ hx=>h x hx;rcases List.mem_cons.1 hc with rfl|hc
  ·rw[h1,h2];simp;omega
  ·have:=ih hc;have ha:=h a;cases hp:p a
   ·cases q a<;>simp<;>omega
   ·rw[ha hp];simp;omega
open Classical in
theorem grown(U:Nat->Nat->Prop)(h0:∃ c,c<m/\U 0 c)(hup:∀ t c,U t c->U (t+1) c)(hg:∀ t,(∀ c,c<m->U t c)\/∃ c,c<m/\U (t+1) c/\¬ U t c):∀ c,c<m->U (m-1) c:=by
 have hcnt:∀ t,t<m->t+1<=(range m).countP (fun c=>decide (U t c)):=by
  intro t
  induction t with
  | zero=>
   intro _;obtain⟨c,hc,h⟩:=h0;have:=countP_pos_iff (p:=fun c=>decide (U 0 c)) (l:=range m);have:=this.2 ⟨c,List.mem_range.2 hc,by simpa using h⟩;omega
  | succ t ih=>
   intro ht;have ih:=ih (by omega);have hmono:∀ x,decide (U t x)=true->decide (U (t+1) x)=true:=by
    intro x hx;rw[decide_eq_true_eq]at hx ⊢;exact hup t x hx
   rcases hg t with hf|⟨c,hc,h1,h2⟩
   ·have:(range m).countP (fun c=>decide (U (t+1) c))=(range m).length:=List.countP_eq_length.2 fun x hx=>by
     rw[decide_eq_true_eq];exact hup t x (hf x (List.mem_range.1 hx))
    rw[length_range]at this;omega
   ·have:=count_lt (range m) (fun c=>decide (U t c)) (fun c=>decide (U (t+1) c)) hmono (List.mem_range.2 hc) (by simpa using h1) (by simpa using h2);omega
 intro c hc;have h1:=hcnt (m-1) (by omega);have h2:=countP_le_length (p:=fun c=>decide (U (m-1) c)) (l:=range m);rw[length_range]at h2;have h3:(range m).countP (fun c=>decide (U (m-1) c))=(range m).length:=by rw[length_range];omega
 have:=List.countP_eq_length.1 h3 c (List.mem_range.2 hc);simpa using this
def Full(m:Nat)(E:Nat->Nat->Prop)(k:Nat):Prop:=∀ i c,i<m->c<m->P m E k i c
theorem full_up{N k i:Nat}(h:Full m E (N+1))(hi:i<m)(hk:∀ c,c<m->P m E k i c):∀ c,c<m->P m E (k+1) i c:=by
 intro c hc;obtain⟨d,hd,_,h3⟩:=h i c hi hc;exact⟨d,hd,hk d hd,h3⟩
theorem full_ups{N k i:Nat}(h:Full m E (N+1))(hi:i<m)(hk:∀ c,c<m->P m E k i c):∀ n c,c<m->P m E (k+n) i c
 | 0,c,hc=>hk c hc
 | n+1,c,hc=>full_up h hi (full_ups h hi hk n) c hc
open Classical in
theorem near{N:Nat}(h:Full m E (N+1)){i c:Nat}(hi:i<m)(hc:c<m):∃ t,t<=m-1/\P m E t i c:=by
 refine grown (m:=m) (fun t c=>∃ s,s<=t/\P m E s i c) ⟨i,hi,0,lRf 0,rfl⟩ (fun t c ⟨s,hs,h⟩=>⟨s,by omega,h⟩) ?_ c hc;intro t;by_cases hcl:∃ c,c<m/\(∃ s,s<=t+1/\P m E s i c)/\¬ ∃ s,s<=t/\P m E s i c
 ·exact .inr hcl
 ·left;have hall:∀ n c,c<m->P m E n i c->∃ s,s<=t/\P m E s i c:=by
   intro n
   induction n with
   | zero=>intro c _ h;exact⟨0,lZe t,h⟩
   | succ n ih=>
    intro c hc ⟨d,hd,h1,h2⟩;obtain⟨s,hs,h3⟩:=ih d hd h1;refine Classical.byContradiction fun hn=>hcl ⟨c,hc,⟨s+1,by omega,d,hd,h3,h2⟩,hn⟩
  intro c hc;exact hall _ c hc (h i c hi hc)
open Classical in
theorem shorter(hm:1<=m)(h:Full m E (m*m+1)):Full m E (m*m):=by
 obtain⟨s,hs1,hs2,hs⟩:∃ s,1<=s/\s<=m/\P m E s 0 0:=by
  have h00:=h 0 0 (by omega) (by omega);rw[show m*m+1=1+m*m by omega]at h00;obtain⟨d,hd,h1,_⟩:=p_split (m*m) 1 (by omega) h00;obtain⟨t,ht,h2⟩:=near h hd (show 0<m by omega);exact⟨1+t,by omega,by omega,p_add t 1 hd h1 h2⟩
 have hV:∀ c,c<m->P m E (s*(m-1)) 0 c:=by
  refine grown (m:=m) (fun t c=>P m E (s*t) 0 c) ⟨0,by omega,rfl⟩ ?_ ?_
  ·intro t c hc;have:=p_add (s*t) s (show 0<m by omega) hs hc;rw[show s*(t+1)=s+s*t by rw[Nat.mul_succ];omega];exact this
  ·intro t;by_cases hcl:∃ c,c<m/\P m E (s*(t+1)) 0 c/\¬ P m E (s*t) 0 c
   ·exact .inr hcl
   ·left;have hall:∀ n c,c<m->P m E (s*n) 0 c->P m E (s*t) 0 c:=by
     intro n
     induction n with
     | zero=>
      intro c hc h0;have e:0=c:=h0;subst e;clear hcl
      induction t with
      | zero=>exact h0
      | succ t ih=>
       rw[show s*(t+1)=s+s*t by rw[Nat.mul_succ];omega];exact p_add (s*t) s (show 0<m by omega) hs ih
     | succ n ih=>
      intro c hc hn;rw[Nat.mul_succ]at hn;obtain⟨d,hd,h1,h2⟩:=p_split s (s*n) hc hn;have:=p_add s (s*t) hd (ih d hd h1) h2;refine Classical.byContradiction fun hno=>hcl ⟨c,hc,by rw[Nat.mul_succ];exact this,hno⟩
    intro c hc;refine hall (m*m+1) c hc ?_;obtain⟨n,hn⟩:∃ n,s*(m*m+1)=m*m+1+n:=⟨(s-1)*(m*m+1),by
     obtain⟨s',rfl⟩:∃ s',s=s'+1:=⟨s-1,by omega⟩;rw[Nat.add_sub_cancel,Nat.add_mul];omega⟩
    rw[hn];exact full_ups h (by omega) (fun c hc=>h 0 c (by omega) hc) n c hc
 intro i c hi hc;obtain⟨t,ht,h1⟩:=near h hi (show 0<m by omega);have h2:∀ c,c<m->P m E (t+s*(m-1)) i c:=fun c hc=>p_add _ _ (by omega) h1 (hV c hc);have hle:s*(m-1)<=m*(m-1):=Nat.mul_le_mul_right _ hs2;obtain⟨q,rfl⟩:∃ q,m=q+1:=⟨m-1,by omega⟩;rw[Nat.add_sub_cancel]at *;have e:(q+1)*(q+1)=(q+1)*q+(q+1):=Nat.mul_succ _ _;obtain⟨n,hn⟩:∃ n,(q+1)*(q+1)=t+s*q+n:=⟨(q+1)*(q+1)-(t+s*q),by omega⟩;rw[hn];exact full_ups h hi h2 n c hc
end Paths
end Go.Proofs.YtapimhjbilkfpaaGreatDoor
namespace Go.Proofs.YtapimhjbilkfpaaGreatDoor
open Go Go.Proofs.Tryz List
def nM(acc:Nat)(l:B8):Nat:=l.foldl (fun a u=>a ||| 2 ^ (u.toNat-97)) acc
theorem CI(acc:Nat)(l:B8)(u:UInt8):nM acc (l++[u])=nM acc l ||| 2 ^ (u.toNat-97):=by simp[nM]
theorem xV{m:Nat}:∀(l:B8) (acc:Nat),acc<2 ^ m->(∀ u∈l,u.toNat-97<m)->nM acc l<2 ^ m
 | [],acc,h,_=>h
 | u::l,acc,h,hl=>xV l _ (Nat.or_lt_two_pow h (Nat.pow_lt_pow_right (by omega) (hl u (mem_cons_self ..)))) fun v hv=>hl v (mem_cons_of_mem _ hv)
theorem GJ(c:Nat):∀(l:B8) (acc:Nat),(nM acc l).testBit c=true↔acc.testBit c=true\/∃ u∈l,u.toNat-97=c
 | [],acc=>by simp[nM]
 | u::l,acc=>by
  have ih:=GJ c l (acc ||| 2 ^ (u.toNat-97));show (nM (acc ||| 2 ^ (u.toNat-97)) l).testBit c=true↔_;rw[ih,Nat.testBit_or,Bool.or_eq_true,Nat.testBit_two_pow,decide_eq_true_eq];constructor
  ·rintro((h|h)|⟨v,hv,h⟩)
   ·exact .inl h
   ·exact .inr ⟨u,mem_cons_self ..,h⟩
   ·exact .inr ⟨v,mem_cons_of_mem _ hv,h⟩
  ·rintro(h|⟨v,hv,h⟩)
   ·exact .inl (.inl h)
   ·rcases List.mem_cons.1 hv with rfl|hv
    ·exact .inl (.inr h)
    ·exact .inr ⟨v,hv,h⟩
def gJ(ws:List B8)(s:Nat):Nat->Nat
 | 0=>0
 | i+1=>if s/2 ^ i%2=1 then nM (gJ ws s i) (ws.getD i []) else gJ ws s i
theorem kc(ws:List B8)(s:Nat):gJ ws s 0=0:=rfl
theorem jW(ws:List B8)(s i:Nat):gJ ws s (i+1)=if s/2 ^ i%2=1 then nM (gJ ws s i) (ws.getD i []) else gJ ws s i:=rfl
def uF(ws:List B8)(s:Nat):Nat:=gJ ws s ws.length
def fc(ws:List B8):Nat->Nat->Nat
 | 0,s=>s
 | k+1,s=>uF ws (fc ws k s)
def Ed(ws:List B8)(i c:Nat):Prop:=∃ u∈ws.getD i [],u.toNat-97=c
theorem Kv{ws:List B8}(hm:aY ws=true){i:Nat}(h:i<ws.length):∀ u∈ws.getD i [],u.toNat-97<ws.length:=by
 have hw:=bL hm (lz h);intro u hu;exact(yM (aZ hw.2.1) hw.2.2 u hu).2
theorem pA{ws:List B8}(hm:aY ws=true)(s:Nat):∀ i,i<=ws.length->gJ ws s i<2 ^ ws.length
 | 0,_=>by rw[kc];exact Nat.two_pow_pos _
 | i+1,h=>by
  have ih:=pA hm s i (by omega);rw[jW];split
  ·exact xV _ _ ih (Kv hm (by omega))
  ·exact ih
theorem zC{ws:List B8}(s c:Nat):∀ i,(gJ ws s i).testBit c=true↔∃ j,j<i/\s.testBit j=true/\Ed ws j c
 | 0=>by
  rw[kc,Nat.zero_testBit];exact⟨fun h=>(by cases h),fun ⟨j,hj,_⟩=>absurd hj (Nat.not_lt_zero j)⟩
 | i+1=>by
  have ih:=zC (ws:=ws) s c i;have hb:s.testBit i=decide (s/2 ^ i%2=1):=Nat.testBit_eq_decide_div_mod_eq;rw[jW];split
  ·rename_i h1;rw[GJ,ih];constructor
   ·rintro(⟨j,h2,h3,h4⟩|h)
    ·exact⟨j,by omega,h3,h4⟩
    ·exact⟨i,by omega,by rw[hb,decide_eq_true h1],h⟩
   ·rintro⟨j,h2,h3,h4⟩
    by_cases hj:j=i
    ·subst hj;exact .inr h4
    ·exact .inl ⟨j,by omega,h3,h4⟩
  ·rename_i h1;rw[ih];constructor
   ·rintro⟨j,h2,h3,h4⟩;exact⟨j,by omega,h3,h4⟩
   ·rintro⟨j,h2,h3,h4⟩
    by_cases hj:j=i
    ·subst hj;rw[hb,decide_eq_true_eq]at h3;exact absurd h3 h1
    ·exact⟨j,by omega,h3,h4⟩
theorem tE{ws:List B8}(hm:aY ws=true){i:Nat}(hi:i<ws.length):∀ k,fc ws k (2 ^ i)<2 ^ ws.length
 | 0=>Nat.pow_lt_pow_right (by omega) hi
 | k+1=>pA hm _ _ (lRf _)
theorem lI{ws:List B8}(hm:aY ws=true){i:Nat}(hi:i<ws.length):∀(k c:Nat),(fc ws k (2 ^ i)).testBit c=true↔Paths.P ws.length (Ed ws) k i c
 | 0,c=>by
  unfold fc Paths.P;rw[Nat.testBit_two_pow,decide_eq_true_eq]
 | k+1,c=>by
  unfold fc Paths.P;unfold uF;rw[zC];constructor
  ·rintro⟨j,h1,h2,h3⟩;exact⟨j,h1,(lI hm hi k j).1 h2,h3⟩
  ·rintro⟨j,h1,h2,h3⟩;exact⟨j,h1,(lI hm hi k j).2 h2,h3⟩
def nO(ws:List B8)(k:Nat):Bool:=(range ws.length).all fun i=>fc ws k (2 ^ i)==2 ^ ws.length-1
theorem Ch{ws:List B8}(hm:aY ws=true)(k:Nat):nO ws k=true↔Paths.Full ws.length (Ed ws) k:=by
 unfold nO Paths.Full;rw[all_eq_true];constructor
 ·intro h i c hi hc;have:=h i (List.mem_range.2 hi);rw[beq_iff_eq]at this;rw[<-lI hm hi,this,Nat.testBit_two_pow_sub_one];exact decide_eq_true hc
 ·intro h i hi;have hi:=List.mem_range.1 hi;rw[beq_iff_eq];apply Nat.eq_of_testBit_eq;intro c;rw[Nat.testBit_two_pow_sub_one];by_cases hc:c<ws.length
  ·rw[decide_eq_true hc,lI hm hi];exact h i c hi hc
  ·rw[decide_eq_false hc];exact Nat.testBit_lt_two_pow (Nat.lt_of_lt_of_le (tE hm hi k) (Nat.pow_le_pow_right (by omega) (by omega)))
def jG(ws:List B8)(n:Nat):Bool:=(range n).any fun k=>nO ws (k+1)
theorem ow(ws:List B8)(n:Nat):jG ws (n+1)=(jG ws n||nO ws (n+1)):=by simp[jG,range_succ]
theorem qv{ws:List B8}{n m:Nat}(h:n<m)(hh:nO ws (n+1)=true):jG ws m=true:=by
 unfold jG;rw[any_eq_true];exact⟨n,List.mem_range.2 h,hh⟩
theorem Fy{ws:List B8}(hm:aY ws=true):jG ws (ws.length*ws.length+1)=jG ws (ws.length*ws.length):=by
 have h15:=aV hm;rw[ow];cases h:nO ws (ws.length*ws.length+1)
 ·rw[Bool.or_false]
 ·have h1:=Paths.shorter h15.1 ((Ch hm _).1 h);have h2:=(Ch hm _).2 h1;have h3:1<=ws.length*ws.length:=Nat.mul_le_mul h15.1 h15.1;rw[qv (n:=ws.length*ws.length-1) (by omega) (by rw[show ws.length*ws.length-1+1=ws.length*ws.length by omega];exact h2)];rfl
def vO(ws:List B8):Bool:=aY ws&&jG ws (ws.length*ws.length)
theorem xM{i:Nat}(h:i<=5):2 ^ i<=32:=by
 have:i=0\/i=1\/i=2\/i=3\/i=4\/i=5:=by omega
 rcases this with rfl|rfl|rfl|rfl|rfl|rfl<;>decide
theorem Vv{i:Nat}(h:i<=5):IntKind.i64.wrap (2 ^ (min i IntKind.i64.bits))=((2 ^ i:Nat):Int):=by
 have:i=0\/i=1\/i=2\/i=3\/i=4\/i=5:=by omega
 rcases this with rfl|rfl|rfl|rfl|rfl|rfl<;>decide
theorem WB{s i:Nat}(h:i<=5):(s:Int).fdiv (2 ^ (min i IntKind.i64.bits))=((s/2 ^ i:Nat):Int):=by
 have e:min i IntKind.i64.bits=i:=by show min i 64=i;omega
 rw[e,Int.fdiv_eq_ediv_of_nonneg _ (by exact Int.le_of_lt (Int.pow_pos (by decide)))]
 push_cast
 rfl
theorem Xo{x:Nat}(h:x<32):IntKind.i64.wrap (BitVec.ofInt IntKind.i64.bits (x:Int) &&& BitVec.ofInt IntKind.i64.bits 1).toNat=((x%2:Nat):Int):=by
 have:∀ y:Fin 32,IntKind.i64.wrap (BitVec.ofInt IntKind.i64.bits ((y.val:Nat):Int) &&& BitVec.ofInt IntKind.i64.bits 1).toNat=((y.val%2:Nat):Int):=by decide
 exact this ⟨x,h⟩
theorem Zn{x y:Nat}(h:x<32)(h':y<32):IntKind.i64.wrap (BitVec.ofInt IntKind.i64.bits (x:Int) ||| BitVec.ofInt IntKind.i64.bits (y:Int)).toNat=((x ||| y:Nat):Int):=by
 have e:∀ z:Nat,BitVec.ofInt IntKind.i64.bits (z:Int)=BitVec.ofNat 64 z:=fun z=>by
  show BitVec.ofInt 64 (z:Int)=BitVec.ofNat 64 z;exact BitVec.ofInt_natCast 64 z
 have hxy:x ||| y<2 ^ 5:=Nat.or_lt_two_pow (n:=5) h h'
 rw[e,e];show IntKind.i64.wrap ((BitVec.ofNat 64 x ||| BitVec.ofNat 64 y).toNat:Int)=_;rw[BitVec.toNat_or,BitVec.toNat_ofNat,BitVec.toNat_ofNat,Nat.mod_eq_of_lt (by omega),Nat.mod_eq_of_lt (by omega)];exact CV (by omega) (by omega)
def kz(i:Nat):Nat:=2 ^ i
def K6(s i:Nat):Nat:=s/2 ^ i
def mM(s i:Nat):Nat:=s/2 ^ i%2
def orN(a b:Nat):Nat:=a ||| b
theorem NS{T:Tab}{t:TypeId}{k:IntKind}{i:Nat}(h:i<=5):cN T .shl t (.int .i64 1) (.int k (i:Int))=.need (0<=(i:Int)) (.int .i64 (kz i:Nat)):=by
 rw[gV,Int.one_mul,Int.toNat_natCast,Vv h];rfl
theorem Wl{T:Tab}{t:TypeId}{k:IntKind}{s i:Nat}(h:i<=5):cN T .shr t (.int .i64 (s:Int)) (.int k (i:Int))=.need (0<=(i:Int)) (.int .i64 (K6 s i:Nat)):=by
 rw[tH,Int.toNat_natCast,WB h];rfl
theorem Xg{T:Tab}{t:TypeId}{s i:Nat}(h:K6 s i<32):cN T .and t (.int .i64 (K6 s i:Nat)) (.int .i64 1)=.ok (.int .i64 (mM s i:Nat)):=by
 rw[tA,Xo h];rfl
theorem orO{T:Tab}{t:TypeId}{x y:Nat}(h:x<32/\y<32):cN T .or t (.int .i64 (x:Int)) (.int .i64 (y:Int))=.ok (.int .i64 (orN x y:Nat)):=by
 rw[yc,Zn h.1 h.2];rfl
theorem Fv(s i:Nat):K6 s i<=s:=Nat.div_le_self _ _
theorem KD{i m:Nat}(h:i<m)(hm:m<=5):kz i<32:=by
 have:=xM (i:=i+1) (by omega);unfold kz;rw[Nat.pow_succ]at this;omega
theorem IG(x:Value)(ws:List B8)(s b1:Nat)(K:Mem)(R:VP)(hv:Rd K x (strs ws))(hm:aY ws=true)(k1:K b1=some (.cells true [x] 1))(hs:s<2 ^ ws.length)(h:R (.int .i64 (uF ws s)) K):ar prog 423 [.int .i64 s,.pointer (some ⟨b1,0,none⟩)] K R:=by
 have h15:=aV hm;have h32:=xM h15.2;obtain⟨a,c,rfl,ha⟩:=hv.opened;rw[ah]at ha hv k1;rcases ha with h0|⟨b,o,rfl,ha⟩
 ·omega
 refine fnS func423 rfl ntmps423 results423 ?_;simp(disch:=omega)[al k1];refine aP aR (rlA [4,5,6,8] 12 24) (fun i:Nat=>[(12,.int .i64 i),(4,.int .i64 (gJ ws s i))]) (fun i M'=>M'=K/\i<=ws.length) (fun i=>ws.length-i) 0 (by kernel_rfl) (by simp(disch:=omega)[kc]) ⟨rfl,by omega⟩ ?_
 rintro i M' g ⟨rfl,hi⟩
 by_cases hlt:i<ws.length
 ·have hg:=ha i hlt;rw[ba,gEl hlt]at hg;have hst:=pA hm s i hi;have hsn:=jW ws s i;have hgd:ws.getD i []=ws[i]:=by rw[gDe,gEl hlt];rfl
  rw[hgd]at hsn;have hlt2:=Kv hm hlt;rw[hgd]at hlt2;have hwo:=bL hm (getElem_mem hlt);obtain⟨w,hw⟩:∃ w,w=ws[i]:=⟨_,rfl⟩;rw[<-hw]at hg hsn hlt2 hwo;have hba:=Fv s i;have hif:mM s i=1↔s/2 ^ i%2=1:=Iff.rfl;simp(disch:=omega)[-gV,-tH,-tA,-yc,Wl,Xg,hg];by_cases hbit:mM s i=1
  ·have hb:((mM s i:Int)==1)=true:=by rw[hbit];rfl
   rw[if_pos (hif.1 hbit)]at hsn;generalize gJ ws s i=acc at *;simp(disch:=omega)[hb];intro b2 c2 hb2 hc2;simp(disch:=omega);have k2:(M'.put b2 (.cells true (av w) c2)) b2=some (.cells true (av w) c2):=ag _ _ _;refine aP aR (rlA [4,8] 25 10) (fun q:Nat=>[(25,.int .i64 q),(4,.int .i64 (nM acc (w.take q)))]) (fun q M1=>M1=M'.put b2 (.cells true (av w) c2)/\q<=w.length) (fun q=>w.length-q) 0 (by kernel_rfl) (by simp(disch:=omega)[nM]) ⟨rfl,by omega⟩ ?_
   rintro q M1 g1 ⟨rfl,hq⟩
   have hlt3:=xV (m:=ws.length) (w.take q) acc hst fun u hu=>hlt2 u (mem_of_mem_take hu);by_cases hql:q<w.length
   ·have hx:w[q]?=some w[q]:=gEl hql;have hlq:=ee (List.all_eq_true.1 (aZ hwo.2.1) _ (getElem_mem hql));have hl3:=hlt2 _ (getElem_mem hql);have hsn2:nM acc (w.take (q+1))=orN (nM acc (w.take q)) (kz (w[q].toNat-97)):=by rw[aw w hql,CI];rfl
    have hbn:=KD hl3 h15.2;have e97:((w[q].toNat:Int)-97)=((w[q].toNat-97:Nat):Int):=by omega
    generalize w[q].toNat-97=kk at *;simp(disch:=omega);refine ia _ _ _ ?_;rw[e97];simp(disch:=omega)[-gV,-tH,-tA,-yc,NS,orO];exact rndA (q+1) (by simp(disch:=omega)[hsn2]) ⟨rfl,by omega⟩
   ·have hq':q=w.length:=by omega
    subst hq';rw[take_length];simp(disch:=omega);exact rndB M' (i+1) ((Sub.refl M').put hb2 _) (by simp(disch:=omega)[hsn]) ⟨rfl,by omega⟩
  ·have hb:((mM s i:Int)==1)=false:=bNe.2 (by omega);rw[if_neg (fun hh=>hbit (hif.2 hh))]at hsn;simp(disch:=omega)[hb];exact rndA (i+1) (by simp(disch:=omega)[hsn]) ⟨rfl,by omega⟩
 ·have hi':i=ws.length:=by omega
  subst hi';simp(disch:=omega);exact ad h
def lg(ws:List B8)(k:Nat):List Nat:=(range ws.length).map fun i=>fc ws k (2 ^ i)
theorem bG(ws:List B8)(k:Nat):(lg ws k).length=ws.length:=by simp[lg]
theorem sD(ws:List B8)(k:Nat){i:Nat}(h:i<ws.length):(lg ws k)[i]?=some (fc ws k (2 ^ i)):=by simp[lg,h]
def vS(i:Nat):List Nat:=(range i).map kz
theorem zn(i:Nat):vS (i+1)=vS i++[kz i]:=by simp[vS,range_succ]
theorem rO(i:Nat):(vS i).length=i:=by simp[vS]
theorem Ci(ws:List B8):vS ws.length=lg ws 0:=rfl
def rP(ws:List B8)(k i:Nat):List Nat:=(lg ws (k+1)).take i++(lg ws k).drop i
theorem MQ(ws:List B8)(k:Nat):rP ws k 0=lg ws k:=by simp[rP]
theorem GP(ws:List B8)(k:Nat){i:Nat}(h:i<=ws.length):(rP ws k i).length=ws.length:=by
 unfold rP;rw[lAp,lTa,length_drop,bG,bG];omega
theorem PC(ws:List B8)(k:Nat):rP ws k ws.length=lg ws (k+1):=by
 unfold rP;rw[take_of_length_le (by rw[bG];exact lRf _),drop_of_length_le (by rw[bG];exact lRf _),append_nil]
theorem QZ(ws:List B8)(k:Nat){i:Nat}(h:i<ws.length):(rP ws k i)[i]?=some (fc ws k (2 ^ i)):=by
 unfold rP;rw[getElem?_append_right (by rw[lTa];omega),lTa,bG,Nat.min_eq_left (by omega),Nat.sub_self,getElem?_drop,Nat.add_zero,sD ws k h]
theorem Pc(ws:List B8)(k:Nat){i:Nat}(h:i<ws.length):(rP ws k i).set i (fc ws (k+1) (2 ^ i))=rP ws k (i+1):=by
 have hg:=sD ws (k+1) h;rw[gEl (by rw[bG];exact h)]at hg;injection hg with hg
 unfold rP;rw[set_append_right _ _ (by rw[lTa];omega),lTa,bG,Nat.min_eq_left (by omega),Nat.sub_self,drop_eq_getElem_cons (by rw[bG];exact h),set_cons_zero,aw (lg ws (k+1)) (by rw[bG];exact h),hg,append_assoc];rfl
theorem IY(l:List Nat)(i n:Nat):(aD l).set i (.int .i64 n)=aD (l.set i n):=by simp[aD,map_set]
def isFull(m:Nat):Value->Bool
 | .int .i64 n=>n==(kz m:Int)-1
 | _=>false
theorem LV{m x:Nat}:((x:Int)==(kz m:Int)-1)=(x==2 ^ m-1):=by
 have h1:1<=kz m:=Nat.two_pow_pos m;have h2:kz m=2 ^ m:=rfl;rw[Bool.eq_iff_iff,beq_iff_eq,beq_iff_eq];omega
theorem PX(ws:List B8)(k:Nat):(aD (lg ws k)).all (isFull ws.length)=nO ws k:=by
 unfold aD lg nO;rw[map_map,all_map]
 congr 1
 funext i
 exact LV
theorem uB(v:Value)(ws:List B8)(M:Mem)(R:VP)(hv:Rd M v (strs ws))(hm:aY ws=true)(h:R (.bool (jG ws (ws.length*ws.length))) M):ar prog 397 [.agg #[v]] M R:=by
 rw[<-Fy hm]at h;have h15:=aV hm;have h32:=xM h15.2;refine fnS func397 rfl ntmps397 results397 ?_;obtain⟨a,c,rfl,ha⟩:=hv.opened;rw[ah]at ha hv ⊢;have hb32:kz ws.length<=32:=h32;have hb1':1<=kz ws.length:=Nat.two_pow_pos _;simp(disch:=omega);intro b1 hb1;simp(disch:=omega)[-gV,NS];intro b3 hb3;have n3:=hb3;rw[aA]at n3;have s3:Sub M ((M.put b1 (.cells true [.slice a ws.length c] 1)).put b3 (.cells true [.int .i64 ((kz ws.length:Int)-1)] 1)):=((Sub.refl M).put hb1 _).putN hb3 _;have k1:((M.put b1 (.cells true [.slice a ws.length c] 1)).put b3 (.cells true [.int .i64 ((kz ws.length:Int)-1)] 1)) b1=some (.cells true [.slice a ws.length c] 1):=by rw[ai _ _ (Ne.symm n3.1)];exact ag _ _ _
 have k3:((M.put b1 (.cells true [.slice a ws.length c] 1)).put b3 (.cells true [.int .i64 ((kz ws.length:Int)-1)] 1)) b3=some (.cells true [.int .i64 ((kz ws.length:Int)-1)] 1):=ag _ _ _;have hv3:=hv.sub s3;simp(disch:=omega)[-gV];generalize (M.put b1 (.cells true [.slice a ws.length c] 1)).put b3 (.cells true [.int .i64 ((kz ws.length:Int)-1)] 1)=N at *;refine lupS (rlA [5,6] 18 9) (fun x:Nat×Value=>[(18,.int .i64 x.1),(5,x.2)]) (fun x M'=>x.1<=ws.length/\Own N x.2 (aD (vS x.1)) M') (fun x=>ws.length-x.1) (0,.slice none 0 0) ⟨by omega,Own.nil _⟩ ?_
 rintro⟨i,v⟩ M' g ⟨hi,ho⟩
 simp only at hi ho;by_cases hlt:i<ws.length
 ·have hl0:=rO i;simp(disch:=omega)[-gV,NS];intro b' hb';simp(disch:=omega);refine aN ho ((Sub.refl _).put hb' _) (by simp(disch:=omega);rfl) rfl rfl (by omega) (by simp(disch:=omega)) (by simp(disch:=omega);rw[aB,hl0];omega) ?_;intro v' M'' N'' ho' hs';simp(disch:=omega);refine rndM M'' (i+1,v') hs' ⟨by simp only;omega,?_⟩;simp only;rw[zn,<-eF];exact ho'
 ·have hi':i=ws.length:=by omega
  subst hi';rw[Ci]at ho;have hsM:=ho.sub;have q1:=hsM _ _ k1;have q3:=hsM _ _ k3;rcases ho with ⟨_,h0,_⟩|⟨b5,c5,rfl,hb5,hc5,rfl⟩
  ·have:=congrArg length h0;rw[aB,bG,length_nil]at this;omega
  rw[aB,bG]at hc5;have hne15:b1≠b5:=by rintro rfl;rw[k1]at hb5;cases hb5
  have hne35:b3≠b5:=by rintro rfl;rw[k3]at hb5;cases hb5
  have hmm:ws.length*ws.length<=25:=Nat.mul_le_mul h15.2 h15.2;obtain⟨mm,hmmq⟩:∃ mm,mm=ws.length*ws.length:=⟨_,rfl⟩;have emm:(ws.length:Int)*ws.length=(mm:Int):=by rw[hmmq];push_cast;rfl
  rw[<-hmmq]at h hmm;have hll:=bG ws 0;simp(disch:=omega)[al q1,emm,aB,hll];refine lupS (rlA [2,7,8] 35 20) (fun k:Nat=>[(35,.int .i64 k)]) (fun k M1=>k<=mm+1/\jG ws k=false/\M1=N.put b5 (.cells true (aD (lg ws k)) c5)) (fun k=>mm+1-k) 0 ⟨by omega,rfl,rfl⟩ ?_
  rintro k M1 g1 ⟨hk,hno,rfl⟩
  by_cases hkl:k<mm+1
  ·simp(disch:=omega);refine lupS (rlA [7,8] 39 12) (fun i:Nat=>[(39,.int .i64 i)]) (fun i M2=>i<=ws.length/\M2=N.put b5 (.cells true (aD (rP ws k i)) c5)) (fun i=>ws.length-i) 0 ⟨by omega,by rw[MQ]⟩ ?_
   rintro i M2 g2 ⟨hi2,rfl⟩
   have s5:Sub N (N.put b5 (.cells true (aD (rP ws k i)) c5)):=(Sub.refl N).put hb5 _;have hml:=GP ws k hi2;by_cases hil:i<ws.length
   ·have hg:(aD (rP ws k i))[i]?=some (.int .i64 (fc ws k (2 ^ i):Nat)):=by rw[bU,QZ ws k hil];rfl
    have hset:=Pc ws k hil;have hilt:=tE hm hil k;have hst:uF ws (fc ws k (2 ^ i))=fc ws (k+1) (2 ^ i):=rfl;simp(disch:=omega)[hg];refine IG _ ws _ b1 _ _ (hv3.sub s5) hm (s5 _ _ k1) hilt ?_;rw[hst];simp(disch:=omega)[IY,hset,aB,hml];exact rndS (i+1) ⟨by omega,rfl⟩
   ·have hi2':i=ws.length:=by omega
    subst hi2';rw[PC]at s5 ⊢;have hs:=ow ws k;rw[hno,Bool.false_or]at hs;simp(disch:=omega);refine El _ _ (aD (lg ws (k+1))) (isFull ws.length) (fun K=>K b3=some (.cells true [.int .i64 ((kz ws.length:Int)-1)] 1)) _ _ (Rd.new (by rw[aB,bG]) hc5) (s5 _ _ k3) ?_ ?_ rfl (by rw[aB,bG];omega) ?_
    ·intro K b' B q hb;have:b3≠b':=by rintro rfl;rw[hb]at q;cases q
     show (K.put b' B) b3=_;rw[ai _ _ this];exact q
    ·intro x hx K R' q hR;obtain⟨n,hn,rfl⟩:=List.mem_map.1 hx;simp(disch:=omega);refine fnS func425 rfl ntmps425 results425 ?_;simp(disch:=omega)[al q];exact ad hR
    ·rw[PX];cases hf:nO ws (k+1)
     ·rw[hf]at hs;simp(disch:=omega);exact rndS (k+1) ⟨by omega,hs,rfl⟩
     ·rw[qv hkl hf]at h;simp(disch:=omega);exact ae (s3.trans s5) h
  ·have hk':k=mm+1:=by omega
   rw[hk']at hno;rw[hno]at h;simp(disch:=omega);exact ae (s3.trans ((Sub.refl N).put hb5 _)) h
theorem vq(v:Value)(ws:List B8)(M:Mem)(R:VP)(hv:Rd M v (strs ws))(hf:cP ws)(hn:ws.length<=1099511627776)(h:R (aE (.bool (vO ws)) (lu ws)) M):ar prog 347 [.agg #[v]] M R:=by
 refine fnS func347 rfl ntmps347 results347 ?_;obtain⟨a,c,rfl,ha⟩:=hv.opened;rw[ah]at hv ⊢;simp(disch:=omega);intro b1 hb1;have hs1:Sub M (M.put b1 (.cells true [.slice a ws.length c] 1)):=(Sub.refl M).put hb1 _;have hv1:=hv.put hb1 (.cells true [.slice a ws.length c] 1);simp(disch:=omega);refine fy _ ws _ _ hv1 hf hn ?_;unfold vO lu at h;unfold lu;cases hm:aY ws
 ·rw[hm]at h;simp(disch:=omega);exact ae hs1 h
 ·rw[hm,Bool.true_and,if_pos rfl]at h;simp(disch:=omega);refine uB _ ws _ _ hv1 hm ?_;simp(disch:=omega);exact ae hs1 h
theorem KS{x:Int}(h:0<=x/\x<=1000):IntKind.u64.wrap x=x:=by
 simp[IntKind.wrap,IntKind.bits,IntKind.signed];omega
def zG(ws:List B8)(k i:Nat):Bool:=(range i).all fun i=>fc ws k (2 ^ i)==2 ^ ws.length-1
theorem Im(ws:List B8)(k i:Nat):zG ws k (i+1)=(zG ws k i&&(fc ws k (2 ^ i)==2 ^ ws.length-1)):=by simp[zG,range_succ]
theorem L4(ws:List B8)(k:Nat):zG ws k ws.length=nO ws k:=rfl
theorem L8(ws:List B8)(k:Nat){i:Nat}(h:i<ws.length):(lg ws k).take (i+1)=(lg ws k).take i++[fc ws k (2 ^ i)]:=by
 have hg:=sD ws k h;rw[gEl (by rw[bG];exact h)]at hg;injection hg with hg
 rw[aw (lg ws k) (by rw[bG];exact h),hg]
set_option maxHeartbeats 1000000 in
theorem uN(v:Value)(ws:List B8)(M:Mem)(R:VP)(hv:Rd M v (strs ws))(hf:cP ws)(hn:ws.length<=1099511627776)(h:R (aE (.bool (vO ws)) (lu ws)) M):ar prog 290 [.agg #[v]] M R:=by
 refine fnS func290 rfl ntmps290 results290 ?_;obtain⟨a,c,rfl,ha⟩:=hv.opened;rw[ah]at ha hv ⊢;simp(disch:=omega);intro b1 hb1;have hs1:Sub M (M.put b1 (.cells true [.slice a ws.length c] 1)):=(Sub.refl M).put hb1 _;have hv1:=hv.put hb1 (.cells true [.slice a ws.length c] 1);have k1:(M.put b1 (.cells true [.slice a ws.length c] 1)) b1=some (.cells true [.slice a ws.length c] 1):=ag _ _ _;simp(disch:=omega);generalize M.put b1 (.cells true [.slice a ws.length c] 1)=N at *;refine fA _ ws _ _ hv1 hf hn ?_;unfold vO lu at h;cases hm:aY ws
 ·rw[hm]at h;simp(disch:=omega);exact ae hs1 h
 ·rw[hm,Bool.true_and,if_pos rfl]at h;have h15:=aV hm;have h32:=xM h15.2;have hb32:kz ws.length<=32:=h32;have hb1':1<=kz ws.length:=Nat.two_pow_pos _;rcases ha with h0|⟨b,o,rfl,ha⟩
  ·omega
  have hmm:ws.length*ws.length<=25:=Nat.mul_le_mul h15.2 h15.2;obtain⟨mm,hmmq⟩:∃ mm,mm=ws.length*ws.length:=⟨_,rfl⟩;have emm:(ws.length:Int)*ws.length=(mm:Int):=by rw[hmmq];push_cast;rfl
  rw[<-hmmq]at h hmm;simp(disch:=omega)[al k1];intro b20 hb20;simp(disch:=omega);refine lupS (rlA [5,6] 21 11) (fun x:Nat×Value=>[(6,.int .i64 x.1),(5,x.2)]) (fun x M'=>x.1<=ws.length/\Own N x.2 (aD (vS x.1)) M') (fun x=>ws.length-x.1) (0,.slice (some ⟨b20,0,none⟩) 0 0) ⟨by omega,Own.new hb20 rfl (lRf 0)⟩ ?_
  rintro⟨i,v⟩ M' g ⟨hi,ho⟩
  simp only at hi ho;by_cases hlt:i<ws.length
  ·have hl0:=rO i;simp(disch:=omega)[-gV,KS,NS];intro b' hb';simp(disch:=omega);refine aN ho ((Sub.refl _).put hb' _) (by simp(disch:=omega);rfl) rfl rfl (by omega) (by simp(disch:=omega)) (by simp(disch:=omega);rw[aB,hl0];omega) ?_;intro v' M'' N'' ho' hs';simp(disch:=omega);refine rndM M'' (i+1,v') hs' ⟨by simp only;omega,?_⟩;simp only;rw[zn,<-eF];exact ho'
  ·have hi':i=ws.length:=by omega
   subst hi';rw[Ci]at ho;simp(disch:=omega);refine lupS (rlA [2,3,5,7,8,9,10,11,12,13] 32 64) (fun x:Nat×Value=>[(7,.int .i64 x.1),(5,x.2)]) (fun x M1=>x.1<=mm/\jG ws x.1=false/\Sub N M1/\Rd M1 x.2 (aD (lg ws x.1))) (fun x=>mm-x.1) (0,v) ⟨by simp,rfl,ho.sub,ho.rd⟩ ?_
   rintro⟨k,vn⟩ M1 g1 ⟨hk,hno,sN,rn⟩
   simp only at hk hno rn;by_cases hkl:k<mm
   ·obtain⟨an,cn,rfl,hag⟩:=rn.opened;rw[aB,bG]at hag rn ⊢;rcases hag with h0|⟨bn,on,rfl,hag⟩
    ·omega
    simp(disch:=omega)[emm];intro b39 hb39;simp(disch:=omega);refine aP aR (rlA [8,9,10,11,12,13] 40 54) (fun x:Nat×Value=>[(10,.int .i64 x.1),(8,x.2),(9,.bool (zG ws (k+1) x.1))]) (fun x M2=>x.1<=ws.length/\Own M1 x.2 (aD ((lg ws (k+1)).take x.1)) M2) (fun x=>ws.length-x.1) (0,.slice (some ⟨b39,0,none⟩) 0 0) (by kernel_rfl) (by simp(disch:=omega)[zG]) ⟨by omega,Own.new hb39 rfl (lRf 0)⟩ ?_
    rintro⟨i,v2⟩ M2 g2 ⟨hi2,o2⟩
    simp only at hi2 o2;by_cases hil:i<ws.length
    ·have hgn:=hag i hil;rw[bU,sD ws k hil]at hgn;have hgn2:=aX hgn o2.sub;have hilt:=tE hm hil k;have hst:uF ws (fc ws k (2 ^ i))=fc ws (k+1) (2 ^ i):=rfl;have hal:=Im ws (k+1) i;have hls:=L8 ws (k+1) hil;have hll:((lg ws (k+1)).take i).length=i:=by rw[lTa,bG];omega
     unfold uF at hst;obtain⟨s,hsq⟩:∃ s,s=fc ws k (2 ^ i):=⟨_,rfl⟩;rw[<-hsq]at hgn2 hilt hst;have l1:=o2.sub _ _ (sN _ _ k1);simp(disch:=omega);refine aP aR (rlA [11,12,13] 45 36) (fun j:Nat=>[(12,.int .i64 j),(11,.int .i64 (gJ ws s j))]) (fun j M3=>M3=M2/\j<=ws.length) (fun j=>ws.length-j) 0 (by kernel_rfl) (by simp(disch:=omega)[kc]) ⟨rfl,by omega⟩ ?_
     rintro j M3 g3 ⟨rfl,hj⟩
     by_cases hjl:j<ws.length
     ·have hgw:=ha j hjl;rw[ba,gEl hjl]at hgw;have hgw2:=aX hgw ((hs1.trans sN).trans o2.sub);have hsn:=jW ws s j;have hgd:ws.getD j []=ws[j]:=by rw[gDe,gEl hjl];rfl
      rw[hgd]at hsn;have hlt2:=Kv hm hjl;rw[hgd]at hlt2;have hstl:=pA hm s j hj;have hwo:=bL hm (getElem_mem hjl);obtain⟨w,hw⟩:∃ w,w=ws[j]:=⟨_,rfl⟩;rw[<-hw]at hgw2 hsn hlt2 hwo;have hba:=Fv s j;have hif:mM s j=1↔s/2 ^ j%2=1:=Iff.rfl;have hb2:mM s j<2:=Nat.mod_lt _ (by omega);simp(disch:=omega)[-gV,-tH,-tA,-yc,Wl,Xg,KS,hgn2];by_cases hbit:mM s j=1
      ·have hbb:((mM s j:Int)==0)=false:=by rw[hbit];rfl
       rw[if_pos (hif.1 hbit)]at hsn;generalize gJ ws s j=acc at *;simp(disch:=omega)[hbb];refine aP aR (rlA [11,13] 59 22) (fun q:Nat=>[(13,.int .i64 q),(11,.int .i64 (nM acc (w.take q)))]) (fun q M4=>M4=M3/\q<=w.length) (fun q=>w.length-q) 0 (by kernel_rfl) (by simp(disch:=omega)[nM]) ⟨rfl,by omega⟩ ?_
       rintro q M4 g4 ⟨rfl,hq⟩
       have hlt3:=xV (m:=ws.length) (w.take q) acc hstl fun u hu=>hlt2 u (mem_of_mem_take hu);by_cases hql:q<w.length
       ·have hx:w[q]?=some w[q]:=gEl hql;have hlq:=ee (List.all_eq_true.1 (aZ hwo.2.1) _ (getElem_mem hql));have hl3:=hlt2 _ (getElem_mem hql);have hsn2:nM acc (w.take (q+1))=orN (nM acc (w.take q)) (kz (w[q].toNat-97)):=by rw[aw w hql,CI];rfl
        have hbn:=KD hl3 h15.2;have e97:((w[q].toNat:Int)-97)=((w[q].toNat-97:Nat):Int):=by omega
        generalize w[q].toNat-97=kk at *;simp(disch:=omega)[-gV,-tH,-tA,-yc,NS,orO,KS,al l1,hgw2,e97];exact rndA (q+1) (by simp(disch:=omega)[hsn2]) ⟨rfl,by omega⟩
       ·have hq':q=w.length:=by omega
        subst hq';rw[take_length];simp(disch:=omega)[al l1,hgw2];exact rndA (j+1) (by simp(disch:=omega)[hsn]) ⟨rfl,by omega⟩
      ·have hb0:mM s j=0:=by omega
       have hbb:((mM s j:Int)==0)=true:=by rw[hb0];rfl
       rw[if_neg (fun hh=>hbit (hif.2 hh))]at hsn;simp(disch:=omega)[hbb];exact rndA (j+1) (by simp(disch:=omega)[hsn]) ⟨rfl,by omega⟩
     ·have hj':j=ws.length:=by omega
      subst hj';rw[hst];have hfe:=LV (m:=ws.length) (x:=fc ws (k+1) (2 ^ i));have hit:=tE hm hil (k+1);rw[<-hfe]at hal;generalize fc ws (k+1) (2 ^ i)=y at *;simp(disch:=omega);intro b83 hb83;simp(disch:=omega);refine aN o2 ((Sub.refl _).put hb83 _) (by simp(disch:=omega);rfl) rfl rfl (by omega) (by simp(disch:=omega)) (by simp(disch:=omega);rw[aB,hll];omega) ?_;intro v5 M5 N5 o5 s5;cases hall:zG ws (k+1) i
      ·rw[hall,Bool.false_and]at hal;simp(disch:=omega);refine rndB M5 (i+1,v5) s5 (by simp(disch:=omega)[hal]) ⟨by simp only;omega,?_⟩;simp only;rw[hls,<-eF];exact o5
      ·rw[hall,Bool.true_and]at hal;simp(disch:=omega)[-gV,NS,KS];refine rndB M5 (i+1,v5) s5 (by simp(disch:=omega)[hal]) ⟨by simp only;omega,?_⟩;simp only;rw[hls,<-eF];exact o5
    ·have hi2':i=ws.length:=by omega
     subst hi2';rw[take_of_length_le (by rw[bG];exact lRf _)]at o2;rw[L4];have hs:=ow ws k;rw[hno,Bool.false_or]at hs;cases hfu:nO ws (k+1)
     ·rw[hfu]at hs;simp(disch:=omega);exact rndS (k+1,v2) ⟨by simp only;omega,hs,sN.trans o2.sub,o2.rd⟩
     ·rw[qv hkl hfu]at h;simp(disch:=omega);exact ae ((hs1.trans sN).trans o2.sub) h
   ·have hk':k=mm:=by omega
    rw[hk']at hno;rw[hno]at h;simp(disch:=omega)[emm];exact ae (hs1.trans sN) h
def jQ(m:Nat)(w:B8):List Int:=(counts w).take m
def xb(ws:List B8):List (List Int):=ws.map (jQ ws.length)
theorem wi{m:Nat}(h:m<=5)(w:B8):(jQ m w).length=m:=by unfold jQ;rw[lTa,eg];omega
theorem fE(ws:List B8):(xb ws).length=ws.length:=by simp[xb]
theorem EJ(m:Nat)(w:B8):ints (counts w)=ints (jQ m w)++ints ((counts w).drop m):=by rw[FD,jQ,take_append_drop]
theorem E9{ws:List B8}{i:Nat}(h:i<ws.length):(xb ws)[i]'(by rw[fE];exact h)=jQ ws.length ws[i]:=by simp[xb]
theorem Mu{ws:List B8}{i:Nat}(h:i<ws.length):(xb ws).take (i+1)=(xb ws).take i++[jQ ws.length ws[i]]:=by rw[aw (xb ws) (by rw[fE];exact h),E9 h]
theorem OG(m:Nat)(h:m<=5):jQ m []=replicate m 0:=by
 unfold jQ;rw[I5];have:m=0\/m=1\/m=2\/m=3\/m=4\/m=5:=by omega
 rcases this with rfl|rfl|rfl|rfl|rfl|rfl<;>rfl
theorem MS(m:Nat)(l:B8)(u:UInt8)(h:isL u=true):jQ m (l++[u])=(jQ m l).set (u.toNat-97) (cnt l (u.toNat-97)+1):=by
 unfold jQ;rw[mU l u h,take_set]
theorem QF(m:Nat)(l:B8){k:Nat}(hk:k<m)(h5:k<5):(jQ m l)[k]?=some (cnt l k):=by
 unfold jQ;rw[getElem?_take_of_lt hk,qL l h5]
theorem PD(v:Value)(ws:List B8)(i:Nat)(M:Mem)(R:VP)(hv:Rd M v (strs ws))(hm:aY ws=true)(hi:i<ws.length)
  (h:∀ b c M',M b=none->M'=M.put b (.cells true (ints (counts ws[i])) c)->R (.slice (some ⟨b,0,none⟩) ws.length ws.length) M'):ar prog 262 [.agg #[v],.int .i64 i] M R:=by
 refine fnS func262 rfl ntmps262 results262 ?_;obtain⟨a,c,rfl,ha⟩:=hv.opened;have h15:=aV hm;rw[ah]at ha hv ⊢;simp(disch:=omega);intro b1 hb1;have hs1:Sub M (M.put b1 (.cells true [.slice a ws.length c] 1)):=(Sub.refl M).put hb1 _;have k1:(M.put b1 (.cells true [.slice a ws.length c] 1)) b1=some (.cells true [.slice a ws.length c] 1):=ag _ _ _;rcases ha with h0|⟨b,o,rfl,ha⟩
 ·omega
 have hg0:=ha i hi;rw[ba,gEl hi]at hg0;have hg:=aX hg0 hs1;obtain⟨w,hw⟩:∃ w,w=ws[i]:=⟨_,rfl⟩;rw[<-hw]at hg h;have hwo:=bL hm (getElem_mem hi);rw[<-hw]at hwo;simp(disch:=omega);generalize M.put b1 (.cells true [.slice (some ⟨b,o,none⟩) ws.length c] 1)=N at *;refine plyS (ak [0,1,2,3,4,6,7,8,9,10,11] (.one 5 1 (ak [12,13] .fin))) ?_;simp(disch:=omega)[al k1,hg];refine jj w _ _ (by omega) (aZ hwo.2.1) ?_;intro v2 N2 o2;obtain⟨M2,o3,s3⟩:=o2.base hs1;have hs2:=o2.sub;rcases o3 with ⟨_,h0,_⟩|⟨b2,c2,rfl,hb2,hc2,rfl⟩
 ·have:=congrArg length h0;rw[az,eg]at this;simp at this
 rw[az,eg]at hc2 ⊢;simp(disch:=omega);refine⟨hs2,?_⟩;exact ae s3 (h b2 c2 _ hb2 rfl)
theorem mO(v:Value)(ws:List B8)(M:Mem)(R:VP)(hv:Rd M v (strs ws))(hm:aY ws=true)
  (h:∀ v rs N M',cu M rs (xb ws) N->Own N v rs M'->R v M'):ar prog 201 [.agg #[v]] M R:=by
 refine fnS func201 rfl ntmps201 results201 ?_;obtain⟨a,c,rfl,ha⟩:=hv.opened;have h15:=aV hm;rw[ah]at ha hv ⊢;simp(disch:=omega);intro b1 hb1;have hs1:Sub M (M.put b1 (.cells true [.slice a ws.length c] 1)):=(Sub.refl M).put hb1 _;have k1:(M.put b1 (.cells true [.slice a ws.length c] 1)) b1=some (.cells true [.slice a ws.length c] 1):=ag _ _ _;rcases ha with h0|⟨b,o,rfl,ha⟩
 ·omega
 simp(disch:=omega);generalize M.put b1 (.cells true [.slice (some ⟨b,o,none⟩) ws.length c] 1)=N1 at *;intro b0 hb0;simp(disch:=omega);refine lupS (rlA [3,4,5,6] 8 38) (fun x:Nat×List Value×Value=>[(4,.int .i64 x.1),(3,x.2.2)]) (fun x M'=>x.1<=ws.length/\∃ N,cu N1 x.2.1 ((xb ws).take x.1) N/\Own N x.2.2 x.2.1 M') (fun x=>ws.length-x.1) (0,[],.slice (some ⟨b0,0,none⟩) 0 0) ⟨by simp,N1,.nil,Own.new hb0 rfl (lRf 0)⟩ ?_
 rintro⟨i,rs,v3⟩ M' g ⟨hi,N,hr,ho⟩
 simp only at hi hr ho;have hrl:=hr.len;rw[lTa,fE]at hrl;have s1:=hr.sub.trans ho.sub;have k2:=s1 _ _ k1;by_cases hlt:i<ws.length
 ·have hg0:=ha i hlt;rw[ba,gEl hlt]at hg0;have hg:=aX hg0 (hs1.trans s1);have hwo:=bL hm (getElem_mem hlt);have hsn:=Mu hlt;obtain⟨w,hw⟩:∃ w,w=ws[i]:=⟨_,rfl⟩;rw[<-hw]at hg hwo hsn;have hL:=yM (aZ hwo.2.1) hwo.2.2;simp(disch:=omega)[al k2];intro b5 hb5;have hne:b1≠b5:=by rintro rfl;rw[hb5]at k2;cases k2
  have hneb:b≠b5:=by rintro rfl;unfold Mem.get? at hg;rw[hb5]at hg;cases hg
  simp(disch:=omega);refine lupS (rlA [6] 19 23) (fun q:Nat=>[(6,.int .i64 q)]) (fun q M1=>q<=w.length/\M1=M'.put b5 (.cells true (ints (jQ ws.length (w.take q))) ws.length)) (fun q=>w.length-q) 0 ⟨by omega,by rw[take_zero,OG _ h15.2,HF]⟩ ?_
  rintro q M1 g1 ⟨hq,rfl⟩
  have hrw:=wi (m:=ws.length) (by omega) (w.take q);by_cases hql:q<w.length
  ·have hx:w[q]?=some w[q]:=gEl hql;have hLq:=hL _ (getElem_mem hql);have hlq:=List.all_eq_true.1 (aZ hwo.2.1) _ (getElem_mem hql);have hr5:=ee hlq;have hk:((w[q].toNat:Int)-97).toNat=w[q].toNat-97:=by omega
   have hget:=QF ws.length (w.take q) (k:=w[q].toNat-97) hLq.2 (by omega);have hset:=MS ws.length (w.take q) w[q] hlq;rw[<-aw w hql]at hset;have hcl:=Ea (w.take q) (w[q].toNat-97);rw[lTa]at hcl;obtain⟨kk,hkk⟩:∃ kk,kk=w[q].toNat-97:=⟨_,rfl⟩;have hkl:kk<ws.length:=by rw[hkk];exact hLq.2
   rw[<-hkk]at hk hget hset hcl;have hgi:(ints (jQ ws.length (w.take q)))[kk]?=some (.int .i64 (cnt (w.take q) kk)):=by rw[cD,hget];rfl
   simp(disch:=omega)[al k2,hg,hk,hgi,ints_set,hrw];refine rndS (q+1) ⟨by omega,?_⟩;rw[hset]
  ·have hq':q=w.length:=by omega
   subst hq';rw[take_length]at hrw ⊢;have hr2:=hr.more (c:=ws.length) ws.length [] (bA ho.sub hb5) (r:=jQ ws.length w) (by omega);rw[append_nil,hrw]at hr2;have ho2:=ho.push hb5 (.cells true (ints (jQ ws.length w)) ws.length);simp(disch:=omega)[al k2,hg];intro b3 hb3;simp(disch:=omega);refine aN ho2 ((Sub.refl _).put hb3 _) (by simp(disch:=omega);rfl) rfl rfl (by omega) (by simp(disch:=omega)) (by simp(disch:=omega);omega) ?_;intro v4 M4 N4 o4 s4;simp(disch:=omega);refine rndM M4 (i+1,_,v4) s4 ⟨by simp only;omega,_,?_,o4⟩;simp only;rw[hsn];exact hr2
 ·have hi':i=ws.length:=by omega
  subst hi';rw[take_of_length_le (by rw[fE];omega)]at hr;simp(disch:=omega)[al k2];obtain⟨N5,M5,r5,o5,s5⟩:=RL hr ho hs1;exact ae s5 (h v3 rs N5 M5 r5 o5)
def oe(acc:List Nat)(n:Nat)(row:List Nat):List Nat:=zipWith (fun a t=>a+n*t) acc row
def kU(acc:List Nat)(n:Nat)(row:List Nat)(j:Nat):List Nat:=(oe acc n row).take j++acc.drop j
theorem fU{acc row:List Nat}(n:Nat)(h:acc.length=row.length):(oe acc n row).length=acc.length:=by simp[oe,h]
theorem L5{acc row:List Nat}{n j:Nat}(h1:j<acc.length)(h2:j<row.length):(oe acc n row)[j]?=some (acc[j]+n*row[j]):=by
 unfold oe;rw[getElem?_zipWith,gEl h1,gEl h2]
theorem CJ(acc:List Nat)(n:Nat)(row:List Nat):kU acc n row 0=acc:=by simp[kU]
theorem wF{acc row:List Nat}{n j:Nat}(h:acc.length=row.length)(hj:j<=acc.length):(kU acc n row j).length=acc.length:=by
 unfold kU;rw[lAp,lTa,fU n h,length_drop];omega
theorem GI{acc row:List Nat}{n:Nat}(h:acc.length=row.length):kU acc n row acc.length=oe acc n row:=by
 unfold kU;rw[take_of_length_le (by rw[fU n h];exact lRf _),drop_length,append_nil]
theorem HO{acc row:List Nat}{n j:Nat}(h:acc.length=row.length)(hj:j<acc.length):(kU acc n row j)[j]?=some acc[j]:=by
 unfold kU;rw[getElem?_append_right (by rw[lTa];omega),lTa,fU n h,Nat.min_eq_left (by omega),Nat.sub_self,getElem?_drop,Nat.add_zero,gEl hj]
theorem Cr{acc row:List Nat}{n j:Nat}(h:acc.length=row.length)(hj:j<acc.length):(kU acc n row j).set j (acc[j]+n*row[j]'(by omega))=kU acc n row (j+1):=by
 unfold kU;have hl:=fU n h;rw[set_append_right _ _ (by rw[lTa];omega),lTa,hl,Nat.min_eq_left (by omega),Nat.sub_self,drop_eq_getElem_cons hj,set_cons_zero,aw (oe acc n row) (by omega),append_assoc];have hg:=L5 (n:=n) hj (show j<row.length by omega);rw[gEl (by omega)]at hg;injection hg with hg
 rw[hg];rfl
def xl(m:Nat)(w:B8):List Nat:=(sd w).take m
theorem Cz(m:Nat)(w:B8):ints (jQ m w)=aD (xl m w):=by
 unfold jQ xl aD;rw[map_take];show ints ((counts w).take m)=(aD (sd w)).take m;rw[<-G1];unfold ints;rw[map_take]
theorem nG{m:Nat}(h:m<=5)(w:B8):(xl m w).length=m:=by
 unfold xl sd;rw[lTa,length_map,length_range];omega
theorem DO{m:Nat}{w:B8}{x:Nat}(h:x∈xl m w):x<=w.length:=by
 unfold xl sd at h;obtain⟨k,_,rfl⟩:=List.mem_map.1 (mem_of_mem_take h);exact countP_le_length
def dQ(ws:List B8)(v:List Nat):Nat->List Nat
 | 0=>replicate ws.length 0
 | i+1=>oe (dQ ws v i) (v.getD i 0) (xl ws.length (ws.getD i []))
theorem Hh(ws:List B8)(v:List Nat):dQ ws v 0=replicate ws.length 0:=rfl
theorem ku(ws:List B8)(v:List Nat)(i:Nat):dQ ws v (i+1)=oe (dQ ws v i) (v.getD i 0) (xl ws.length (ws.getD i [])):=rfl
theorem gU{ws:List B8}(h:ws.length<=5)(v:List Nat):∀ i,(dQ ws v i).length=ws.length
 | 0=>by simp[dQ]
 | i+1=>by
  have ih:=gU h v i;rw[ku,fU _ (by rw[ih,nG h]),ih]
def du(ws:List B8)(a:Nat):Nat->List Nat
 | 0=>(replicate ws.length 0).set a 1
 | r+1=>dQ ws (du ws a r) ws.length
theorem Cg(ws:List B8)(a:Nat):du ws a 0=(replicate ws.length 0).set a 1:=rfl
theorem vA(ws:List B8)(a r:Nat):du ws a (r+1)=dQ ws (du ws a r) ws.length:=rfl
theorem dL{ws:List B8}(h:ws.length<=5)(a r:Nat):(du ws a r).length=ws.length:=by
 cases r with
 | zero=>simp[du]
 | succ r=>exact gU h _ _
theorem D7{l:List Nat}{n:Nat}(h:∀ x∈l,x<=n):l.sum<=l.length*n:=by
 induction l with
 | nil=>simp
 | cons a l ih=>
  have h1:=h a (mem_cons_self ..);have h2:=ih fun x hx=>h x (mem_cons_of_mem _ hx);rw[sum_cons,length_cons,Nat.succ_mul];omega
theorem Mz{acc row:List Nat}{n x:Nat}(h:x∈oe acc n row):∃ a∈acc,∃ t∈row,x=a+n*t:=by
 unfold oe at h;obtain⟨j,hj,rfl⟩:=List.mem_iff_getElem.1 h;rw[length_zipWith]at hj;refine⟨acc[j],getElem_mem _,row[j],getElem_mem _,?_⟩;simp
theorem oR{ws:List B8}(hw:∀ w∈ws,w.length<=12)(v:List Nat):∀ i,i<=ws.length->i<=v.length->∀ x∈dQ ws v i,x<=12*(v.take i).sum
 | 0,_,_,x,hx=>by
  rw[Hh]at hx;have:=eq_of_mem_replicate hx;omega
 | i+1,h1,h2,x,hx=>by
  rw[ku]at hx;obtain⟨a,ha,t,ht,rfl⟩:=Mz hx;have h3:=oR hw v i (by omega) (by omega) a ha;have h4:=DO ht;have h5:(ws.getD i []).length<=12:=hw _ (lz (by omega));have e:(v.take (i+1)).sum=(v.take i).sum+v.getD i 0:=by
   rw[aw v (by omega),sum_append,sum_singleton,gDe,gEl (by omega)];rfl
  rw[e];have h6:v.getD i 0*t<=v.getD i 0*12:=Nat.mul_le_mul_left _ (by omega);omega
def okS(ws:List B8)(a r:Nat):Bool:=(range r).all fun i=>decide ((du ws a i).sum<=1000000000000000)
def A5(ws:List B8)(a r:Nat):List Nat:=(range r).map fun i=>(du ws a i).sum
theorem ob(ws:List B8)(a r:Nat):okS ws a (r+1)=(okS ws a r&&decide ((du ws a r).sum<=1000000000000000)):=by simp[okS,range_succ]
theorem vd(ws:List B8)(a r:Nat):A5 ws a (r+1)=A5 ws a r++[(du ws a r).sum]:=by simp[A5,range_succ]
theorem oh(ws:List B8)(a r:Nat):(A5 ws a r).length=r:=by simp[A5]
theorem Pq{ws:List B8}{a r k:Nat}(h:r<k)(hb:¬(du ws a r).sum<=1000000000000000):okS ws a k=false:=by
 cases hk:okS ws a k with
 | false=>rfl
 | true=>
  unfold okS at hk;have:=List.all_eq_true.1 hk r (List.mem_range.2 h);rw[decide_eq_true_eq]at this;exact absurd this hb
theorem KK{ws:List B8}(hw:∀ w∈ws,w.length<=12)(h5:ws.length<=5){a r:Nat}(h:okS ws a r=true):∀ x∈du ws a r,x<=12000000000000000:=by
 intro x hx;cases r with
 | zero=>
  rw[Cg]at hx;rcases mem_or_eq_of_mem_set hx with hx|rfl
  ·have:=eq_of_mem_replicate hx;omega
  ·omega
 | succ r=>
  rw[ob,Bool.and_eq_true,decide_eq_true_eq]at h;rw[vA]at hx;have:=oR hw (du ws a r) ws.length (lRf _) (by rw[dL h5];exact lRf _) x hx;rw[take_of_length_le (by rw[dL h5];exact lRf _)]at this;omega
theorem MG{ws:List B8}{a:Nat}(h:a<ws.length)(h5:ws.length<=5):(du ws a 0).sum=1:=by
 rw[Cg];have h1:ws.length=1\/ws.length=2\/ws.length=3\/ws.length=4\/ws.length=5:=by omega
 have h2:a=0\/a=1\/a=2\/a=3\/a=4:=by omega
 rcases h1 with h1|h1|h1|h1|h1<;>rw[h1]at h ⊢<;>rcases h2 with rfl|rfl|rfl|rfl|rfl<;>first|rfl|omega
def fM(ws:List B8)(a k t:Int):Int:=if aY ws then (if (0<=a/\a<=ws.length-1)/\(0<=k/\k<=t) then 0 else 2) else 1
def uO(ws:List B8)(a k:Int):Int:=if fM ws a k 20=0 then (if okS ws a.toNat (k.toNat+1) then 0 else 3) else fM ws a k 20
def jk(ws:List B8)(a k:Int):List Nat:=if fM ws a k 20=0 then (if okS ws a.toNat (k.toNat+1) then A5 ws a.toNat (k.toNat+1) else []) else []
theorem gF{ws:List B8}{a k t:Int}(h:fM ws a k t=0):aY ws=true/\0<=a/\a<ws.length/\0<=k/\k<=t:=by
 unfold fM at h;split at h
 ·rename_i h1;split at h
  ·rename_i h2;exact⟨h1,by omega⟩
  ·cases h
 ·cases h
end Go.Proofs.YtapimhjbilkfpaaGreatDoor
