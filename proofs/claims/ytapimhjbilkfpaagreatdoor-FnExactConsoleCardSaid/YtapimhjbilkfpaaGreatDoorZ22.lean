/- Lemmas for FnExactConsole, part 23 of 46. -/
import Derived.Test.YtapimhjbilkfpaaGreatDoorZ14
import Derived.Test.YtapimhjbilkfpaaGreatDoorZ20
import Derived.Test.YtapimhjbilkfpaaGreatDoorZ21
import Derived.Test.YtapimhjbilkfpaaGreatDoorZ08
import Derived.Test.YtapimhjbilkfpaaGreatDoorZ11
set_option linter.unusedVariables false
set_option linter.unusedSimpArgs false
namespace Go.Proofs.YtapimhjbilkfpaaGreatDoor
open Go List
def nxt(own last:List UInt8)(d:Nat):List UInt8:=dD own d++last
theorem fI(own last:List UInt8)(d:Nat):(nxt own last d).length=d*own.length+last.length:=by unfold nxt;rw[length_append,fu]
theorem FR(own last:List UInt8)(d:Nat):nxt own last (d+1)=own++nxt own last d:=by
 unfold nxt dD;rw[replicate_succ,flatten_cons,append_assoc]
def lpE(w last own:List UInt8)(G:List UInt8->List (List Nat)):Nat->Nat->List (List Nat)
 | 0,_=>[]
 | f+1,d=>if (nxt own last d).length<=w.length then (G (nxt own last d)).map (d :: ·)++lpE w last own G f (d+1) else []
def p9(w own:List UInt8):List (List Nat):=if own=w then [[]] else []
def fX(w:List UInt8):Nat->Nat->List UInt8->List UInt8->List (List Nat)
 | 0,_,_,own=>p9 w own
 | n+1,least,last,own=>p9 w own++lpE w last own (fun x=>fX w n 1 own x) 61 least
def Std(w:List UInt8):Nat->List UInt8->List UInt8->List Nat->Prop
 | _,_,own,[]=>own=w
 | least,last,own,d::ds=>least<=d/\(nxt own last d).length<=w.length/\Std w 1 own (nxt own last d) ds
theorem Ks{w last own:List UInt8}{G:List UInt8->List (List Nat)}(h1:1<=own.length)(hw:w.length<=60){x:List Nat}:∀(f d:Nat),61<=d+f->(x∈lpE w last own G f d↔∃ e ds,x=e::ds/\d<=e/\(nxt own last e).length<=w.length/\ds∈G (nxt own last e))
 | 0,d,hf=>by
  refine⟨fun h=>(by cases h),fun ⟨e,ds,_,he,hn,_⟩=>?_⟩;rw[fI]at hn;have:e*1<=e*own.length:=Nat.mul_le_mul_left e h1;omega
 | f+1,d,hf=>by
  unfold lpE;by_cases hd:(nxt own last d).length<=w.length
  ·rw[if_pos hd,mem_append,Ks h1 hw f (d+1) (by omega),mem_map];constructor
   ·rintro(⟨ds,h2,rfl⟩|⟨e,ds,rfl,h2,h3,h4⟩)
    ·exact⟨d,ds,rfl,Nat.le_refl d,hd,h2⟩
    ·exact⟨e,ds,rfl,by omega,h3,h4⟩
   ·rintro⟨e,ds,rfl,h2,h3,h4⟩
    by_cases hed:e=d
    ·subst hed;exact .inl ⟨ds,h4,rfl⟩
    ·exact .inr ⟨e,ds,rfl,by omega,h3,h4⟩
  ·rw[if_neg hd];refine⟨fun h=>(by cases h),fun ⟨e,ds,_,he,hn,_⟩=>?_⟩;rw[fI]at hn hd;have:d*own.length<=e*own.length:=Nat.mul_le_mul_right _ he;omega
theorem oB{own last:List UInt8}(h1:1<=own.length)(h2:1<=last.length)(d:Nat):1<=(nxt own last d).length:=by rw[fI];omega
theorem sw{w:List UInt8}(hw:w.length<=60):∀(n least:Nat) (last own:List UInt8) (x:List Nat),1<=own.length->1<=last.length->(x∈fX w n least last own↔x.length<=n/\Std w least last own x)
 | 0,least,last,own,x,h1,h2=>by
  unfold fX p9;constructor
  ·intro h;split at h
   ·rename_i he;rw[mem_singleton]at h;subst h;exact⟨Nat.le_refl _,he⟩
   ·cases h
  ·rintro⟨hl,hs⟩
   cases x with
   | nil=>rw[if_pos (show own=w from hs)];exact List.mem_singleton.2 rfl
   | cons a l=>simp at hl
 | n+1,least,last,own,x,h1,h2=>by
  unfold fX;rw[mem_append,Ks h1 hw 61 least (by omega)];constructor
  ·rintro(h|⟨e,ds,rfl,h3,h4,h5⟩)
   ·unfold p9 at h;split at h
    ·rename_i he;rw[mem_singleton]at h;subst h;exact⟨Nat.zero_le _,he⟩
    ·cases h
   ·obtain⟨h6,h7⟩:=(sw hw n 1 own _ ds (oB h1 h2 e) h1).1 h5;exact⟨by rw[length_cons];omega,h3,h4,h7⟩
  ·rintro⟨hl,hs⟩
   cases x with
   | nil=>refine .inl ?_;unfold p9;rw[if_pos (show own=w from hs)];exact List.mem_singleton.2 rfl
   | cons e ds=>
    obtain⟨h3,h4,h5⟩:=hs;rw[length_cons]at hl;exact .inr ⟨e,ds,rfl,h3,h4,(sw hw n 1 own _ ds (oB h1 h2 e) h1).2 ⟨by omega,h5⟩⟩
def dJ:List Nat->List Nat->Int
 | [],[]=>0
 | [],_::_=>-1
 | _::_,[]=>1
 | x::a,y::b=>if x<y then -1 else if y<x then 1 else dJ a b
theorem BG:∀ a,dJ a a=0
 | []=>rfl
 | x::a=>by unfold dJ;rw[if_neg (by omega),if_neg (by omega)];exact BG a
theorem uM:∀ a b,dJ a b = -dJ b a
 | [],[]=>rfl
 | [],_::_=>rfl
 | _::_,[]=>rfl
 | x::a,y::b=>by
  unfold dJ;by_cases h1:x<y
  ·rw[if_pos h1,if_neg (by omega),if_pos h1]
  ·rw[if_neg h1];by_cases h2:y<x
   ·rw[if_pos h2,if_pos h2];rfl
   ·rw[if_neg h2,if_neg h2,if_neg h1];exact uM a b
theorem JY:∀ {a b},dJ a b=0->a=b
 | [],[],_=>rfl
 | [],_::_,h=>by cases h
 | _::_,[],h=>by cases h
 | x::a,y::b,h=>by
  unfold dJ at h;split at h
  ·cases h
  ·split at h
   ·cases h
   ·rw[JY h,show x=y by omega]
theorem qm:∀ {a b c},dJ a b<0->dJ b c<=0->dJ a c<0
 | [],[],_,h,_=>by simp[dJ]at h
 | [],_::_,[],_,h=>by simp[dJ]at h
 | [],_::_,_::_,_,_=>by simp[dJ]
 | _::_,[],_,h,_=>by simp[dJ]at h
 | _::_,_::_,[],_,h=>by simp[dJ]at h
 | x::a,y::b,z::c,h,k=>by
  unfold dJ at h k ⊢;by_cases h1:x<y
  ·by_cases k1:y<z
   ·rw[if_pos (by omega)];omega
   ·rw[if_neg k1]at k;by_cases k2:z<y
    ·rw[if_pos k2]at k;omega
    ·rw[if_pos (by omega)];omega
  ·rw[if_neg h1]at h;by_cases h2:y<x
   ·rw[if_pos h2]at h;omega
   ·rw[if_neg h2]at h;have hxy:x=y:=by omega
    subst hxy;by_cases k1:x<z
    ·rw[if_pos k1];omega
    ·rw[if_neg k1]at k ⊢;by_cases k2:z<x
     ·rw[if_pos k2]at k;omega
     ·rw[if_neg k2]at k ⊢;exact qm h k
def rQ(x y:Nat):Int:=if x<y then -1 else if y<x then 1 else 0
def jJ(x y:List Nat):Bool:=decide ((if rQ x.length y.length=0 then dJ x y else rQ x.length y.length)<0)
theorem iB(x y:List Nat):jJ x y=true↔x.length<y.length\/(x.length=y.length/\dJ x y<0):=by
 unfold jJ rQ;rw[decide_eq_true_eq];rcases Nat.lt_trichotomy x.length y.length with h|h|h
 ·simp[h]
 ·rw[h];simp
 ·have h1:¬ x.length<y.length:=by omega
  have h2:¬ x.length=y.length:=by omega
  simp[h,h1,h2]
def jv(s:Option (List Nat))(x:List Nat):Option (List Nat):=match s with
 | none=>some x
 | some b=>if jJ x b=true then some x else some b
theorem lI:∀(L:List (List Nat)) (b:List Nat),∃ m,L.foldl jv (some b)=some m/\(m=b\/m∈L)/\jJ b m=false/\∀ x∈L,jJ x m=false
 | [],b=>⟨b,rfl,.inl rfl,by
   cases h:jJ b b with
   | false=>rfl
   | true=>rw[iB,BG]at h;omega,by simp⟩
 | y::L,b=>by
  by_cases h:jJ y b=true
  ·obtain⟨m,h1,h2,h3,h4⟩:=lI L y;refine⟨m,by rw[foldl_cons,jv,if_pos h];exact h1,?_,?_,?_⟩
   ·rcases h2 with rfl|h2
    ·exact .inr (mem_cons_self ..)
    ·exact .inr (mem_cons_of_mem _ h2)
   ·cases hb:jJ b m with
    | false=>rfl
    | true=>
     exfalso;rw[iB]at h hb;have:jJ y m=true:=by
      rw[iB];rcases h with h|⟨h,h'⟩<;>rcases hb with hb|⟨hb,hb'⟩
      ·exact .inl (by omega)
      ·exact .inl (by omega)
      ·exact .inl (by omega)
      ·exact .inr ⟨by omega,qm h' (by omega)⟩
     rw[h3]at this;cases this
   ·intro x hx;rcases List.mem_cons.1 hx with rfl|hx
    ·exact h3
    ·exact h4 x hx
  ·obtain⟨m,h1,h2,h3,h4⟩:=lI L b;refine⟨m,by rw[foldl_cons,jv,if_neg h];exact h1,?_,h3,?_⟩
   ·rcases h2 with rfl|h2
    ·exact .inl rfl
    ·exact .inr (mem_cons_of_mem _ h2)
   ·intro x hx;rcases List.mem_cons.1 hx with rfl|hx
    ·cases hb:jJ x m with
     | false=>rfl
     | true=>
      exfalso;apply h;have h3':¬(b.length<m.length\/(b.length=m.length/\dJ b m<0)):=by rw[<-iB,h3];decide
      rw[iB]at hb ⊢;rcases hb with hb|⟨hb,hb'⟩
      ·by_cases hl:m.length<=b.length
       ·exact .inl (by omega)
       ·exact absurd (.inl (by omega)) h3'
      ·by_cases hl:m.length<b.length
       ·exact .inl (by omega)
       ·by_cases he:b.length=m.length
        ·refine .inr ⟨by omega,qm hb' ?_⟩;have:¬ dJ b m<0:=fun hh=>h3' (.inr ⟨he,hh⟩);rw[uM];omega
        ·exact absurd (.inl (by omega)) h3'
    ·exact h4 x hx
def lpG(w last own:List UInt8)(G:List UInt8->Option (List Nat)):Nat->Nat->Option (List Nat)
 | 0,_=>none
 | f+1,d=>if (nxt own last d).length<=w.length then (match G (nxt own last d) with|some ds=>some (d::ds)|none=>lpG w last own G f (d+1)) else none
def dw(w:List UInt8):Nat->Nat->List UInt8->List UInt8->Option (List Nat)
 | 0,_,_,own=>if own=w then some [] else none
 | r+1,least,last,own=>lpG w last own (fun x=>dw w r 1 own x) 61 least
theorem DX{w last own:List UInt8}{G:List UInt8->Option (List Nat)}(h1:1<=own.length)(hw:w.length<=60):∀(f d:Nat),61<=d+f->(∀ y,lpG w last own G f d=some y->∃ e ds,y=e::ds/\d<=e/\(nxt own last e).length<=w.length/\G (nxt own last e)=some ds/\∀ e',d<=e'->e'<e->G (nxt own last e')=none) /\
  (lpG w last own G f d=none->∀ e,d<=e->(nxt own last e).length<=w.length->G (nxt own last e)=none)
 | 0,d,hf=>by
  refine⟨fun y h=>(by cases h),fun _ e he hn=>?_⟩;rw[fI]at hn;have:e*1<=e*own.length:=Nat.mul_le_mul_left e h1;omega
 | f+1,d,hf=>by
  obtain⟨i1,i2⟩:=DX (last:=last) (G:=G) h1 hw f (d+1) (by omega);unfold lpG;by_cases hd:(nxt own last d).length<=w.length
  ·rw[if_pos hd];cases hG:G (nxt own last d) with
   | some ds=>
    refine⟨fun y h=>?_,fun h=>by cases h⟩;injection h with h
    exact⟨d,ds,h.symm,Nat.le_refl d,hd,hG,fun e' h2 h3=>by omega⟩
   | none=>
    simp only;refine⟨fun y h=>?_,fun h e he hn=>?_⟩
    ·obtain⟨e,ds,h2,h3,h4,h5,h6⟩:=i1 y h;refine⟨e,ds,h2,by omega,h4,h5,fun e' h7 h8=>?_⟩;by_cases hed:e'=d
     ·subst hed;exact hG
     ·exact h6 e' (by omega) h8
    ·by_cases hed:e=d
     ·subst hed;exact hG
     ·exact i2 h e (by omega) hn
  ·rw[if_neg hd];refine⟨fun y h=>(by cases h),fun _ e he hn=>?_⟩;rw[fI]at hn hd;have:d*own.length<=e*own.length:=Nat.mul_le_mul_right _ he;omega
theorem jF{w:List UInt8}(hw:w.length<=60):∀(r least:Nat) (last own:List UInt8),1<=own.length->1<=last.length ->
  (∀ y,dw w r least last own=some y->Std w least last own y/\y.length=r/\∀ x,Std w least last own x->x.length=r->0<=dJ x y) /\
  (dw w r least last own=none->∀ x,Std w least last own x->x.length≠r)
 | 0,least,last,own,h1,h2=>by
  unfold dw;constructor
  ·intro y h;split at h
   ·rename_i he;injection h with h
    subst h;refine⟨he,rfl,fun x _ hx=>?_⟩;rw[eq_nil_of_length_eq_zero hx];exact Int.le_refl 0
   ·cases h
  ·intro h x hs hx;rw[eq_nil_of_length_eq_zero hx]at hs;rw[if_pos (show own=w from hs)]at h;cases h
 | r+1,least,last,own,h1,h2=>by
  obtain⟨i1,i2⟩:=DX (last:=last) (G:=fun x=>dw w r 1 own x) h1 hw 61 least (by omega);unfold dw;constructor
  ·intro y h;obtain⟨e,ds,rfl,h3,h4,h5,h6⟩:=i1 y h;obtain⟨j1,j2,j3⟩:=(jF hw r 1 own (nxt own last e) (oB h1 h2 e) h1).1 ds h5;refine⟨⟨h3,h4,j1⟩,by rw[length_cons,j2],fun x hs hx=>?_⟩;cases x with
   | nil=>simp at hx
   | cons a l=>
    obtain⟨k1,k2,k3⟩:=hs;rw[length_cons]at hx;unfold dJ;by_cases ha:a<e
    ·have:=(jF hw r 1 own (nxt own last a) (oB h1 h2 a) h1).2 (h6 a k1 ha) l k3;omega
    ·rw[if_neg ha];by_cases hb:e<a
     ·rw[if_pos hb];omega
     ·rw[if_neg hb];have hae:a=e:=by omega
      subst hae;exact j3 l k3 (by omega)
  ·intro h x hs hx;cases x with
   | nil=>simp at hx
   | cons a l=>
    obtain⟨k1,k2,k3⟩:=hs;rw[length_cons]at hx;exact(jF hw r 1 own (nxt own last a) (oB h1 h2 a) h1).2 (i2 h a k1 k2) l k3 (by omega)
def cntF(w:List UInt8):Nat->Nat->Option (List Nat)
 | 0,_=>none
 | f+1,c=>match dw w c 0 [98] [97] with|some y=>some y|none=>cntF w f (c+1)
theorem uN{w:List UInt8}(hw:w.length<=60):∀(f c:Nat),(∀ y,cntF w f c=some y->Std w 0 [98] [97] y/\c<=y.length/\y.length<c+f/\∀ x,Std w 0 [98] [97] x->c<=x.length->y.length<=x.length/\(x.length=y.length->0<=dJ x y)) /\
  (cntF w f c=none->∀ x,Std w 0 [98] [97] x->c<=x.length->c+f<=x.length)
 | 0,c=>⟨fun y h=>(by cases h),fun _ x _ h=>by omega⟩
 | f+1,c=>by
  obtain⟨i1,i2⟩:=uN hw f (c+1);obtain⟨k1,k2⟩:=jF hw c 0 [98] [97] (by decide) (by decide);unfold cntF;cases h:dw w c 0 [98] [97] with
  | some y=>
   obtain⟨a1,a2,a3⟩:=k1 y h;refine⟨fun z hz=>?_,fun hz=>by cases hz⟩;injection hz with hz
   subst hz;exact⟨a1,by omega,by omega,fun x hs hx=>⟨by omega,fun e=>a3 x hs (by omega)⟩⟩
  | none=>
   simp only;refine⟨fun y hy=>?_,fun hy x hs hx=>?_⟩
   ·obtain⟨b1,b2,b3,b4⟩:=i1 y hy;refine⟨b1,by omega,by omega,fun x hs hx=>?_⟩;have:=k2 h x hs;exact b4 x hs (by omega)
   ·have:=k2 h x hs;have:=i2 hy x hs (by omega);omega
theorem Hy{w:List UInt8}(hw:w.length<=60):(fX w 20 0 [98] [97]).foldl jv none=cntF w 21 0:=by
 have hm:=fun x=>sw hw 20 0 [98] [97] x (by decide) (by decide);obtain⟨k1,k2⟩:=uN hw 21 0;cases hL:fX w 20 0 [98] [97] with
 | nil=>
  cases hc:cntF w 21 0 with
  | none=>rfl
  | some y=>
   obtain⟨a1,a2,a3,_⟩:=k1 y hc;have:=(hm y).2 ⟨by omega,a1⟩;rw[hL]at this;cases this
 | cons b L=>
  rw[hL]at hm;obtain⟨m,h1,h2,h3,h4⟩:=lI L b;have hmm:m∈b::L:=by
   rcases h2 with rfl|h2
   ·exact mem_cons_self ..
   ·exact mem_cons_of_mem _ h2
  have hall:∀ x∈b::L,jJ x m=false:=fun x hx=>by
   rcases List.mem_cons.1 hx with rfl|hx
   ·exact h3
   ·exact h4 x hx
  have e:(b::L).foldl jv none=some m:=h1;rw[e];obtain⟨q1,q2⟩:=(hm m).1 hmm;cases hc:cntF w 21 0 with
  | none=>
   have:=k2 hc m q2 (by omega);omega
  | some y=>
   obtain⟨a1,a2,a3,a4⟩:=k1 y hc;have hy:=hall y ((hm y).2 ⟨by omega,a1⟩);obtain⟨c1,c2⟩:=a4 m q2 (by omega);have hy':¬(y.length<m.length\/(y.length=m.length/\dJ y m<0)):=by rw[<-iB,hy];decide
   have hlen:m.length=y.length:=by
    by_cases h:y.length<m.length
    ·exact absurd (.inl h) hy'
    ·omega
   have h5:=c2 hlen;have h6:¬ dJ y m<0:=fun h=>hy' (.inr ⟨hlen.symm,h⟩);rw[uM y m]at h6;rw[JY (show dJ m y=0 by omega)]
theorem Jf{w:List UInt8}:∀(x:List Nat) (last own:List UInt8),Std w 1 last own x->∃ r,w=own++r
 | [],last,own,h=>⟨[],by rw[append_nil];exact(show own=w from h).symm⟩
 | d::ds,last,own,h=>by
  obtain⟨h1,_,h3⟩:=h;obtain⟨r,hr⟩:=Jf ds own _ h3;obtain⟨e,rfl⟩:∃ e,d=e+1:=⟨d-1,by omega⟩;rw[FR,append_assoc]at hr;exact⟨_,hr⟩
theorem GD{w:List UInt8}(hw:w.length<=60){n:Nat}{last own:List UInt8}(h1:1<=own.length)(h2:1<=last.length)(hp:own.isPrefixOf w=false):fX w n 1 last own=[]:=by
 refine List.eq_nil_iff_forall_not_mem.2 fun x hx=>?_;obtain⟨_,hs⟩:=(sw hw n 1 last own x h1 h2).1 hx;obtain⟨r,rfl⟩:=Jf x last own hs;rw[List.isPrefixOf_iff_prefix.2 (prefix_append own r)]at hp;cases hp
def nI(l:List Nat):List Int:=l.map fun n:Nat=>(n:Int)
theorem dx(l:List Nat):(nI l).length=l.length:=length_map _
theorem wx(l:List Nat)(d:Nat):nI (l++[d])=nI l++[(d:Int)]:=by simp[nI]
theorem G1{w:List UInt8}(hw:w.length<=60):∀(x:List Nat) (least:Nat) (last own:List UInt8),Std w least last own x->jV (nI x) last own=some w
 | [],_,_,own,h=>by show some own=some w;rw[show own=w from h]
 | d::ds,least,last,own,h=>by
  obtain⟨h1,h2,h3⟩:=h;have hl:=fI own last d;show jV ((d:Int)::nI ds) last own=some w;rw[jV,Int.toNat_natCast,if_pos (by omega)];exact G1 hw ds 1 own _ h3
theorem NY{w:List UInt8}(hw:w.length<=60):∀(x:List Nat) (least:Nat) (last own:List UInt8),1<=own.length->1<=last.length->Std w least last own x->∀ i,i<x.length->((if i=0 then least else 1):Nat)<=x.getD i 0/\x.getD i 0<=60
 | [],_,_,own,_,_,_,i,hi=>by simp at hi
 | d::ds,least,last,own,g1,g2,h,i,hi=>by
  obtain⟨h1,h2,h3⟩:=h;have hl:=fI own last d;have:d*1<=d*own.length:=Nat.mul_le_mul_left d g1;cases i with
  | zero=>rw[if_pos rfl];show least<=d/\d<=60;omega
  | succ i=>
   have ih:=NY hw ds 1 own _ (oB g1 g2 d) g1 h3 i (by rw[length_cons]at hi;omega);rw[if_neg (by omega)];show 1<=ds.getD i 0/\ds.getD i 0<=60;refine⟨?_,ih.2⟩;have:=ih.1;split at this<;>omega
theorem Nj{w:List UInt8}(hw:w.length<=60){x:List Nat}(hx:x.length<=20)(h:Std w 0 [98] [97] x):q8 (nI x)=0/\qB (nI x)=w:=by
 have hok:lV (nI x)=true:=by
  refine tu (by rw[dx];exact hx) fun j hj=>?_;rw[dx]at hj;have:=NY hw x 0 [98] [97] (by decide) (by decide) h j hj;rw[xG (z:=((x.getD j 0:Nat):Int)) (by unfold nI;rw[getElem?_map,getElem?_eq_getElem hj,getD_eq_getElem?_getD,getElem?_eq_getElem hj];rfl)];refine decide_eq_true ?_;split<;>rename_i h0
  ·rw[if_pos h0]at this;omega
  ·rw[if_neg h0]at this;omega
 have hF:=G1 hw x 0 [98] [97] h;unfold q8 qB;rw[if_pos hok,if_pos hok,hF];exact⟨rfl,rfl⟩
def qR(w:List UInt8):Int:=if Af w=true then (match cntF w 21 0 with|some _=>0|none=>5) else 1
def jo(w:List UInt8):List Nat:=if Af w=true then (match cntF w 21 0 with|some y=>y|none=>[]) else []
theorem Kb{w:List UInt8}(h:qR w=0):q8 (nI (jo w))=0/\qB (nI (jo w))=w/\(jo w).length<=20:=by
 unfold qR at h;split at h
 ·rename_i h1;have hw:=xB h1;split at h
  ·rename_i y hy;obtain⟨a1,a2,a3,_⟩:=(uN hw 21 0).1 y hy;have e:jo w=y:=by unfold jo;rw[if_pos h1,hy]
   rw[e];obtain⟨b1,b2⟩:=Nj hw (by omega) a1;exact⟨b1,b2,by omega⟩
  ·cases h
 ·cases h
theorem ML(w:List UInt8):(jo w).length<=20:=by
 by_cases h:qR w=0
 ·exact(Kb h).2.2
 ·unfold qR at h;unfold jo;split at h
  ·rename_i h1;rw[if_pos h1];split at h
   ·exact absurd rfl h
   ·exact Nat.zero_le _
  ·rename_i h1;rw[if_neg h1];exact Nat.zero_le _
theorem qN{N:Mem}{v:Value}{xs:List Value}(h:Rd N v xs)(h1:1<=xs.length):dp N v=some xs:=by
 rcases h with ⟨a,c,rfl,rfl⟩|⟨b,o,c,rfl,h,_⟩
 ·simp at h1
 ·exact h
theorem Bw{Mb N:Mem}{v:Value}{xs:List Value}(o:Own Mb v xs N):∃ D:Mem,Rd D v xs/\Sub D N/\∀ i,Mb i≠none->D i=none:=by
 rcases o with ⟨rfl,rfl,rfl⟩|⟨b,c,rfl,hb,hc,rfl⟩
 ·exact⟨dA,.inl ⟨none,0,rfl,rfl⟩,nY _,fun _ _=>rfl⟩
 ·refine⟨dA.put b (.cells true xs c),Rd.new rfl hc,?_,?_⟩
  ·intro i B hi;by_cases e:i=b
   ·subst e;rw[ag]at hi ⊢;exact hi
   ·rw[ai _ _ e]at hi;cases hi
  ·intro i hi;have e:i≠b:=by rintro rfl;exact hi hb
   rw[ai _ _ e];rfl
end Go.Proofs.YtapimhjbilkfpaaGreatDoor
