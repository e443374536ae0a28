/- Lemmas for FnExactDeskAfter, part 19 of 33. -/
import Derived.Test.YtapimhjbilkfpaaGreatDoorZ17
set_option linter.unusedVariables false
set_option linter.unusedSimpArgs false
namespace Go.Proofs.YtapimhjbilkfpaaGreatDoor
open Go Go.Proofs.Tryz List
def nxt(own last:B8)(d:Nat):B8:=dJ own d++last
theorem fY(own last:B8)(d:Nat):(nxt own last d).length=d*own.length+last.length:=by unfold nxt;rw[lAp,fI]
theorem Fs(own last:B8)(d:Nat):nxt own last (d+1)=own++nxt own last d:=by
 unfold nxt dJ;rw[replicate_succ,flatten_cons,append_assoc]
def lpE(w last own:B8)(G:B8->List (List Nat)):Nat->Nat->List (List Nat)
 | 0,_=>[]
 | f+1,d=>if (nxt own last d).length<=w.length then (G (nxt own last d)).map (d :: ·)++lpE w last own G f (d+1) else []
def rl(w own:B8):List (List Nat):=if own=w then [[]] else []
def gM(w:B8):Nat->Nat->B8->B8->List (List Nat)
 | 0,_,_,own=>rl w own
 | n+1,least,last,own=>rl w own++lpE w last own (fun x=>gM w n 1 own x) 61 least
def Std(w:B8):Nat->B8->B8->List Nat->Prop
 | _,_,own,[]=>own=w
 | least,last,own,d::ds=>least<=d/\(nxt own last d).length<=w.length/\Std w 1 own (nxt own last d) ds
theorem KP{w last own:B8}{G:B8->List (List Nat)}(h1:1<=own.length)(hw:w.length<=60){x:List Nat}:∀(f d:Nat),61<=d+f->(x∈lpE w last own G f d↔∃ e ds,x=e::ds/\d<=e/\(nxt own last e).length<=w.length/\ds∈G (nxt own last e))
 | 0,d,hf=>by
  refine⟨fun h=>(by cases h),fun ⟨e,ds,_,he,hn,_⟩=>?_⟩;rw[fY]at hn;have:e*1<=e*own.length:=Nat.mul_le_mul_left e h1;omega
 | f+1,d,hf=>by
  unfold lpE;by_cases hd:(nxt own last d).length<=w.length
  ·rw[if_pos hd,mem_append,KP h1 hw f (d+1) (by omega),mem_map];constructor
   ·rintro(⟨ds,h2,rfl⟩|⟨e,ds,rfl,h2,h3,h4⟩)
    ·exact⟨d,ds,rfl,lRf d,hd,h2⟩
    ·exact⟨e,ds,rfl,by omega,h3,h4⟩
   ·rintro⟨e,ds,rfl,h2,h3,h4⟩
    by_cases hed:e=d
    ·subst hed;exact .inl ⟨ds,h4,rfl⟩
    ·exact .inr ⟨e,ds,rfl,by omega,h3,h4⟩
  ·rw[if_neg hd];refine⟨fun h=>(by cases h),fun ⟨e,ds,_,he,hn,_⟩=>?_⟩;rw[fY]at hn hd;have:d*own.length<=e*own.length:=Nat.mul_le_mul_right _ he;omega
theorem oM{own last:B8}(h1:1<=own.length)(h2:1<=last.length)(d:Nat):1<=(nxt own last d).length:=by rw[fY];omega
theorem tu{w:B8}(hw:w.length<=60):∀(n least:Nat) (last own:B8) (x:List Nat),1<=own.length->1<=last.length->(x∈gM w n least last own↔x.length<=n/\Std w least last own x)
 | 0,least,last,own,x,h1,h2=>by
  unfold gM rl;constructor
  ·intro h;split at h
   ·rename_i he;rw[mem_singleton]at h;subst h;exact⟨lRf _,he⟩
   ·cases h
  ·rintro⟨hl,hs⟩
   cases x with
   | nil=>rw[if_pos (show own=w from hs)];exact List.mem_singleton.2 rfl
   | cons a l=>simp at hl
 | n+1,least,last,own,x,h1,h2=>by
  unfold gM;rw[mem_append,KP h1 hw 61 least (by omega)];constructor
  ·rintro(h|⟨e,ds,rfl,h3,h4,h5⟩)
   ·unfold rl at h;split at h
    ·rename_i he;rw[mem_singleton]at h;subst h;exact⟨lZe _,he⟩
    ·cases h
   ·obtain⟨h6,h7⟩:=(tu hw n 1 own _ ds (oM h1 h2 e) h1).1 h5;exact⟨by rw[length_cons];omega,h3,h4,h7⟩
  ·rintro⟨hl,hs⟩
   cases x with
   | nil=>refine .inl ?_;unfold rl;rw[if_pos (show own=w from hs)];exact List.mem_singleton.2 rfl
   | cons e ds=>
    obtain⟨h3,h4,h5⟩:=hs;rw[length_cons]at hl;exact .inr ⟨e,ds,rfl,h3,h4,(tu hw n 1 own _ ds (oM h1 h2 e) h1).2 ⟨by omega,h5⟩⟩
def dP:List Nat->List Nat->Int
 | [],[]=>0
 | [],_::_=>-1
 | _::_,[]=>1
 | x::a,y::b=>if x<y then -1 else if y<x then 1 else dP a b
theorem BR:∀ a,dP a a=0
 | []=>rfl
 | x::a=>by unfold dP;rw[if_neg (by omega),if_neg (by omega)];exact BR a
theorem uk:∀ a b,dP a b = -dP b a
 | [],[]=>rfl
 | [],_::_=>rfl
 | _::_,[]=>rfl
 | x::a,y::b=>by
  unfold dP;by_cases h1:x<y
  ·rw[if_pos h1,if_neg (by omega),if_pos h1]
  ·rw[if_neg h1];by_cases h2:y<x
   ·rw[if_pos h2,if_pos h2];rfl
   ·rw[if_neg h2,if_neg h2,if_neg h1];exact uk a b
theorem Lj:∀ {a b},dP a b=0->a=b
 | [],[],_=>rfl
 | [],_::_,h=>by cases h
 | _::_,[],h=>by cases h
 | x::a,y::b,h=>by
  unfold dP at h;split at h
  ·cases h
  ·split at h
   ·cases h
   ·rw[Lj h,show x=y by omega]
theorem qO:∀ {a b c},dP a b<0->dP b c<=0->dP a c<0
 | [],[],_,h,_=>by simp[dP]at h
 | [],_::_,[],_,h=>by simp[dP]at h
 | [],_::_,_::_,_,_=>by simp[dP]
 | _::_,[],_,h,_=>by simp[dP]at h
 | _::_,_::_,[],_,h=>by simp[dP]at h
 | x::a,y::b,z::c,h,k=>by
  unfold dP at h k ⊢;by_cases h1:x<y
  ·by_cases k1:y<z
   ·rw[if_pos (by omega)];omega
   ·rw[if_neg k1]at k;by_cases k2:z<y
    ·rw[if_pos k2]at k;omega
    ·rw[if_pos (by omega)];omega
  ·rw[if_neg h1]at h;by_cases h2:y<x
   ·rw[if_pos h2]at h;omega
   ·rw[if_neg h2]at h;have hxy:x=y:=by omega
    subst hxy;by_cases k1:x<z
    ·rw[if_pos k1];omega
    ·rw[if_neg k1]at k ⊢;by_cases k2:z<x
     ·rw[if_pos k2]at k;omega
     ·rw[if_neg k2]at k ⊢;exact qO h k
def rV(x y:Nat):Int:=if x<y then -1 else if y<x then 1 else 0
def kg(x y:List Nat):Bool:=decide ((if rV x.length y.length=0 then dP x y else rV x.length y.length)<0)
theorem iZ(x y:List Nat):kg x y=true↔x.length<y.length\/(x.length=y.length/\dP x y<0):=by
 unfold kg rV;rw[decide_eq_true_eq];rcases Nat.lt_trichotomy x.length y.length with h|h|h
 ·simp[h]
 ·rw[h];simp
 ·have h1:¬ x.length<y.length:=by omega
  have h2:¬ x.length=y.length:=by omega
  simp[h,h1,h2]
def jX(s:Option (List Nat))(x:List Nat):Option (List Nat):=match s with
 | none=>some x
 | some b=>if kg x b=true then some x else some b
theorem lC:∀(L:List (List Nat)) (b:List Nat),∃ m,L.foldl jX (some b)=some m/\(m=b\/m∈L)/\kg b m=false/\∀ x∈L,kg x m=false
 | [],b=>⟨b,rfl,.inl rfl,by
   cases h:kg b b with
   | false=>rfl
   | true=>rw[iZ,BR]at h;omega,by simp⟩
 | y::L,b=>by
  by_cases h:kg y b=true
  ·obtain⟨m,h1,h2,h3,h4⟩:=lC L y;refine⟨m,by rw[foldl_cons,jX,if_pos h];exact h1,?_,?_,?_⟩
   ·rcases h2 with rfl|h2
    ·exact .inr (mem_cons_self ..)
    ·exact .inr (mem_cons_of_mem _ h2)
   ·cases hb:kg b m with
    | false=>rfl
    | true=>
     exfalso;rw[iZ]at h hb;have:kg y m=true:=by
      rw[iZ];rcases h with h|⟨h,h'⟩<;>rcases hb with hb|⟨hb,hb'⟩
      ·exact .inl (by omega)
      ·exact .inl (by omega)
      ·exact .inl (by omega)
      ·exact .inr ⟨by omega,qO h' (by omega)⟩
     rw[h3]at this;cases this
   ·intro x hx;rcases List.mem_cons.1 hx with rfl|hx
    ·exact h3
    ·exact h4 x hx
  ·obtain⟨m,h1,h2,h3,h4⟩:=lC L b;refine⟨m,by rw[foldl_cons,jX,if_neg h];exact h1,?_,h3,?_⟩
   ·rcases h2 with rfl|h2
    ·exact .inl rfl
    ·exact .inr (mem_cons_of_mem _ h2)
   ·intro x hx;rcases List.mem_cons.1 hx with rfl|hx
    ·cases hb:kg x m with
     | false=>rfl
     | true=>
      exfalso;apply h;have h3':¬(b.length<m.length\/(b.length=m.length/\dP b m<0)):=by rw[<-iZ,h3];decide
      rw[iZ]at hb ⊢;rcases hb with hb|⟨hb,hb'⟩
      ·by_cases hl:m.length<=b.length
       ·exact .inl (by omega)
       ·exact absurd (.inl (by omega)) h3'
      ·by_cases hl:m.length<b.length
       ·exact .inl (by omega)
       ·by_cases he:b.length=m.length
        ·refine .inr ⟨by omega,qO hb' ?_⟩;have:¬ dP b m<0:=fun hh=>h3' (.inr ⟨he,hh⟩);rw[uk];omega
        ·exact absurd (.inl (by omega)) h3'
    ·exact h4 x hx
def lpG(w last own:B8)(G:B8->Option (List Nat)):Nat->Nat->Option (List Nat)
 | 0,_=>none
 | f+1,d=>if (nxt own last d).length<=w.length then (match G (nxt own last d) with|some ds=>some (d::ds)|none=>lpG w last own G f (d+1)) else none
def dI(w:B8):Nat->Nat->B8->B8->Option (List Nat)
 | 0,_,_,own=>if own=w then some [] else none
 | r+1,least,last,own=>lpG w last own (fun x=>dI w r 1 own x) 61 least
theorem E8{w last own:B8}{G:B8->Option (List Nat)}(h1:1<=own.length)(hw:w.length<=60):∀(f d:Nat),61<=d+f->(∀ y,lpG w last own G f d=some y->∃ e ds,y=e::ds/\d<=e/\(nxt own last e).length<=w.length/\G (nxt own last e)=some ds/\∀ e',d<=e'->e'<e->G (nxt own last e')=none) /\
  (lpG w last own G f d=none->∀ e,d<=e->(nxt own last e).length<=w.length->G (nxt own last e)=none)
 | 0,d,hf=>by
  refine⟨fun y h=>(by cases h),fun _ e he hn=>?_⟩;rw[fY]at hn;have:e*1<=e*own.length:=Nat.mul_le_mul_left e h1;omega
 | f+1,d,hf=>by
  obtain⟨i1,i2⟩:=E8 (last:=last) (G:=G) h1 hw f (d+1) (by omega);unfold lpG;by_cases hd:(nxt own last d).length<=w.length
  ·rw[if_pos hd];cases hG:G (nxt own last d) with
   | some ds=>
    refine⟨fun y h=>?_,fun h=>by cases h⟩;injection h with h
    exact⟨d,ds,h.symm,lRf d,hd,hG,fun e' h2 h3=>by omega⟩
   | none=>
    simp only;refine⟨fun y h=>?_,fun h e he hn=>?_⟩
    ·obtain⟨e,ds,h2,h3,h4,h5,h6⟩:=i1 y h;refine⟨e,ds,h2,by omega,h4,h5,fun e' h7 h8=>?_⟩;by_cases hed:e'=d
     ·subst hed;exact hG
     ·exact h6 e' (by omega) h8
    ·by_cases hed:e=d
     ·subst hed;exact hG
     ·exact i2 h e (by omega) hn
  ·rw[if_neg hd];refine⟨fun y h=>(by cases h),fun _ e he hn=>?_⟩;rw[fY]at hn hd;have:d*own.length<=e*own.length:=Nat.mul_le_mul_right _ he;omega
theorem ke{w:B8}(hw:w.length<=60):∀(r least:Nat) (last own:B8),1<=own.length->1<=last.length ->
  (∀ y,dI w r least last own=some y->Std w least last own y/\y.length=r/\∀ x,Std w least last own x->x.length=r->0<=dP x y) /\
  (dI w r least last own=none->∀ x,Std w least last own x->x.length≠r)
 | 0,least,last,own,h1,h2=>by
  unfold dI;constructor
  ·intro y h;split at h
   ·rename_i he;injection h with h
    subst h;refine⟨he,rfl,fun x _ hx=>?_⟩;rw[eq_nil_of_length_eq_zero hx];exact Int.le_refl 0
   ·cases h
  ·intro h x hs hx;rw[eq_nil_of_length_eq_zero hx]at hs;rw[if_pos (show own=w from hs)]at h;cases h
 | r+1,least,last,own,h1,h2=>by
  obtain⟨i1,i2⟩:=E8 (last:=last) (G:=fun x=>dI w r 1 own x) h1 hw 61 least (by omega);unfold dI;constructor
  ·intro y h;obtain⟨e,ds,rfl,h3,h4,h5,h6⟩:=i1 y h;obtain⟨j1,j2,j3⟩:=(ke hw r 1 own (nxt own last e) (oM h1 h2 e) h1).1 ds h5;refine⟨⟨h3,h4,j1⟩,by rw[length_cons,j2],fun x hs hx=>?_⟩;cases x with
   | nil=>simp at hx
   | cons a l=>
    obtain⟨k1,k2,k3⟩:=hs;rw[length_cons]at hx;unfold dP;by_cases ha:a<e
    ·have:=(ke hw r 1 own (nxt own last a) (oM h1 h2 a) h1).2 (h6 a k1 ha) l k3;omega
    ·rw[if_neg ha];by_cases hb:e<a
     ·rw[if_pos hb];omega
     ·rw[if_neg hb];have hae:a=e:=by omega
      subst hae;exact j3 l k3 (by omega)
  ·intro h x hs hx;cases x with
   | nil=>simp at hx
   | cons a l=>
    obtain⟨k1,k2,k3⟩:=hs;rw[length_cons]at hx;exact(ke hw r 1 own (nxt own last a) (oM h1 h2 a) h1).2 (i2 h a k1 k2) l k3 (by omega)
def cntF(w:B8):Nat->Nat->Option (List Nat)
 | 0,_=>none
 | f+1,c=>match dI w c 0 [98] [97] with|some y=>some y|none=>cntF w f (c+1)
theorem ud{w:B8}(hw:w.length<=60):∀(f c:Nat),(∀ y,cntF w f c=some y->Std w 0 [98] [97] y/\c<=y.length/\y.length<c+f/\∀ x,Std w 0 [98] [97] x->c<=x.length->y.length<=x.length/\(x.length=y.length->0<=dP x y)) /\
  (cntF w f c=none->∀ x,Std w 0 [98] [97] x->c<=x.length->c+f<=x.length)
 | 0,c=>⟨fun y h=>(by cases h),fun _ x _ h=>by omega⟩
 | f+1,c=>by
  obtain⟨i1,i2⟩:=ud hw f (c+1);obtain⟨k1,k2⟩:=ke hw c 0 [98] [97] (by decide) (by decide);unfold cntF;cases h:dI w c 0 [98] [97] with
  | some y=>
   obtain⟨a1,a2,a3⟩:=k1 y h;refine⟨fun z hz=>?_,fun hz=>by cases hz⟩;injection hz with hz
   subst hz;exact⟨a1,by omega,by omega,fun x hs hx=>⟨by omega,fun e=>a3 x hs (by omega)⟩⟩
  | none=>
   simp only;refine⟨fun y hy=>?_,fun hy x hs hx=>?_⟩
   ·obtain⟨b1,b2,b3,b4⟩:=i1 y hy;refine⟨b1,by omega,by omega,fun x hs hx=>?_⟩;have:=k2 h x hs;exact b4 x hs (by omega)
   ·have:=k2 h x hs;have:=i2 hy x hs (by omega);omega
theorem Jm{w:B8}(hw:w.length<=60):(gM w 20 0 [98] [97]).foldl jX none=cntF w 21 0:=by
 have hm:=fun x=>tu hw 20 0 [98] [97] x (by decide) (by decide);obtain⟨k1,k2⟩:=ud hw 21 0;cases hL:gM w 20 0 [98] [97] with
 | nil=>
  cases hc:cntF w 21 0 with
  | none=>rfl
  | some y=>
   obtain⟨a1,a2,a3,_⟩:=k1 y hc;have:=(hm y).2 ⟨by omega,a1⟩;rw[hL]at this;cases this
 | cons b L=>
  rw[hL]at hm;obtain⟨m,h1,h2,h3,h4⟩:=lC L b;have hmm:m∈b::L:=by
   rcases h2 with rfl|h2
   ·exact mem_cons_self ..
   ·exact mem_cons_of_mem _ h2
  have hall:∀ x∈b::L,kg x m=false:=fun x hx=>by
   rcases List.mem_cons.1 hx with rfl|hx
   ·exact h3
   ·exact h4 x hx
  have e:(b::L).foldl jX none=some m:=h1;rw[e];obtain⟨q1,q2⟩:=(hm m).1 hmm;cases hc:cntF w 21 0 with
  | none=>
   have:=k2 hc m q2 (by omega);omega
  | some y=>
   obtain⟨a1,a2,a3,a4⟩:=k1 y hc;have hy:=hall y ((hm y).2 ⟨by omega,a1⟩);obtain⟨c1,c2⟩:=a4 m q2 (by omega);have hy':¬(y.length<m.length\/(y.length=m.length/\dP y m<0)):=by rw[<-iZ,hy];decide
   have hlen:m.length=y.length:=by
    by_cases h:y.length<m.length
    ·exact absurd (.inl h) hy'
    ·omega
   have h5:=c2 hlen;have h6:¬ dP y m<0:=fun h=>hy' (.inr ⟨hlen.symm,h⟩);rw[uk y m]at h6;rw[Lj (show dP m y=0 by omega)]
theorem LP{w:B8}:∀(x:List Nat) (last own:B8),Std w 1 last own x->∃ r,w=own++r
 | [],last,own,h=>⟨[],by rw[append_nil];exact(show own=w from h).symm⟩
 | d::ds,last,own,h=>by
  obtain⟨h1,_,h3⟩:=h;obtain⟨r,hr⟩:=LP ds own _ h3;obtain⟨e,rfl⟩:∃ e,d=e+1:=⟨d-1,by omega⟩;rw[Fs,append_assoc]at hr;exact⟨_,hr⟩
theorem FC{w:B8}(hw:w.length<=60){n:Nat}{last own:B8}(h1:1<=own.length)(h2:1<=last.length)(hp:own.isPrefixOf w=false):gM w n 1 last own=[]:=by
 refine List.eq_nil_iff_forall_not_mem.2 fun x hx=>?_;obtain⟨_,hs⟩:=(tu hw n 1 last own x h1 h2).1 hx;obtain⟨r,rfl⟩:=LP x last own hs;rw[List.isPrefixOf_iff_prefix.2 (prefix_append own r)]at hp;cases hp
def nI(l:List Nat):List Int:=l.map fun n:Nat=>(n:Int)
theorem dA(l:List Nat):(nI l).length=l.length:=length_map _
theorem xK(l:List Nat)(d:Nat):nI (l++[d])=nI l++[(d:Int)]:=by simp[nI]
theorem GQ{w:B8}(hw:w.length<=60):∀(x:List Nat) (least:Nat) (last own:B8),Std w least last own x->kQ (nI x) last own=some w
 | [],_,_,own,h=>by show some own=some w;rw[show own=w from h]
 | d::ds,least,last,own,h=>by
  obtain⟨h1,h2,h3⟩:=h;have hl:=fY own last d;show kQ ((d:Int)::nI ds) last own=some w;rw[kQ,Int.toNat_natCast,if_pos (by omega)];exact GQ hw ds 1 own _ h3
theorem OO{w:B8}(hw:w.length<=60):∀(x:List Nat) (least:Nat) (last own:B8),1<=own.length->1<=last.length->Std w least last own x->∀ i,i<x.length->((if i=0 then least else 1):Nat)<=x.getD i 0/\x.getD i 0<=60
 | [],_,_,own,_,_,_,i,hi=>by simp at hi
 | d::ds,least,last,own,g1,g2,h,i,hi=>by
  obtain⟨h1,h2,h3⟩:=h;have hl:=fY own last d;have:d*1<=d*own.length:=Nat.mul_le_mul_left d g1;cases i with
  | zero=>rw[if_pos rfl];show least<=d/\d<=60;omega
  | succ i=>
   have ih:=OO hw ds 1 own _ (oM g1 g2 d) g1 h3 i (by rw[length_cons]at hi;omega);rw[if_neg (by omega)];show 1<=ds.getD i 0/\ds.getD i 0<=60;refine⟨?_,ih.2⟩;have:=ih.1;split at this<;>omega
theorem Rj{w:B8}(hw:w.length<=60){x:List Nat}(hx:x.length<=20)(h:Std w 0 [98] [97] x):sK (nI x)=0/\qC (nI x)=w:=by
 have hok:mE (nI x)=true:=by
  refine vv (by rw[dA];exact hx) fun j hj=>?_;rw[dA]at hj;have:=OO hw x 0 [98] [97] (by decide) (by decide) h j hj;rw[xY (z:=((x.getD j 0:Nat):Int)) (by unfold nI;rw[getElem?_map,gEl hj,gDe,gEl hj];rfl)];refine decide_eq_true ?_;split<;>rename_i h0
  ·rw[if_pos h0]at this;omega
  ·rw[if_neg h0]at this;omega
 have hF:=GQ hw x 0 [98] [97] h;unfold sK qC;rw[if_pos hok,if_pos hok,hF];exact⟨rfl,rfl⟩
def rG(w:B8):Int:=if AM w=true then (match cntF w 21 0 with|some _=>0|none=>5) else 1
def jR(w:B8):List Nat:=if AM w=true then (match cntF w 21 0 with|some y=>y|none=>[]) else []
theorem LK{w:B8}(h:rG w=0):sK (nI (jR w))=0/\qC (nI (jR w))=w/\(jR w).length<=20:=by
 unfold rG at h;split at h
 ·rename_i h1;have hw:=Ar h1;split at h
  ·rename_i y hy;obtain⟨a1,a2,a3,_⟩:=(ud hw 21 0).1 y hy;have e:jR w=y:=by unfold jR;rw[if_pos h1,hy]
   rw[e];obtain⟨b1,b2⟩:=Rj hw (by omega) a1;exact⟨b1,b2,by omega⟩
  ·cases h
 ·cases h
theorem Pa(w:B8):(jR w).length<=20:=by
 by_cases h:rG w=0
 ·exact(LK h).2.2
 ·unfold rG at h;unfold jR;split at h
  ·rename_i h1;rw[if_pos h1];split at h
   ·exact absurd rfl h
   ·exact lZe _
  ·rename_i h1;rw[if_neg h1];exact lZe _
theorem rX{N:Mem}{v:Value}{xs:List Value}(h:Rd N v xs)(h1:1<=xs.length):dw N v=some xs:=by
 rcases h with ⟨a,c,rfl,rfl⟩|⟨b,o,c,rfl,h,_⟩
 ·simp at h1
 ·exact h
theorem BZ{Mb N:Mem}{v:Value}{xs:List Value}(o:Own Mb v xs N):∃ D:Mem,Rd D v xs/\Sub D N/\∀ i,Mb i≠none->D i=none:=by
 rcases o with ⟨rfl,rfl,rfl⟩|⟨b,c,rfl,hb,hc,rfl⟩
 ·exact⟨dF,.inl ⟨none,0,rfl,rfl⟩,oL _,fun _ _=>rfl⟩
 ·refine⟨dF.put b (.cells true xs c),Rd.new rfl hc,?_,?_⟩
  ·intro i B hi;by_cases e:i=b
   ·subst e;rw[ag]at hi ⊢;exact hi
   ·rw[ai _ _ e]at hi;cases hi
  ·intro i hi;have e:i≠b:=by rintro rfl;exact hi hb
   rw[ai _ _ e];rfl
end Go.Proofs.YtapimhjbilkfpaaGreatDoor
namespace Go.Proofs.YtapimhjbilkfpaaGreatDoor
open Go Go.Proofs.Tryz Go.RowKit List
theorem Qr(x y:Nat):iP (x:Int) (y:Int)=rV x y:=by
 unfold iP rV;by_cases h1:x<y
 ·rw[if_pos h1,if_pos (by omega)]
 ·rw[if_neg h1,if_neg (by omega)];by_cases h2:y<x
  ·rw[if_pos h2,if_pos (by omega)]
  ·rw[if_neg h2,if_neg (by omega)]
theorem Ta{l:List Nat}{i:Nat}(h:i<l.length):(ints (nI l))[i]?=some (.int .i64 ((l[i]:Nat):Int)):=by
 rw[cD];unfold nI;rw[getElem?_map,gEl h];rfl
theorem np{M N:Mem}{v:Value}{xs:List Value}(h:dw M v=some xs)(hs:Sub M N):dw N v=some xs:=by
 unfold dw at h ⊢;split at h
 ·exact h
 ·rename_i b o n c;have hk:∀ {M N:Mem},M.sub? b o n=some xs->Sub M N->N.sub? b o n=some xs:=by
   intro M N h hs;unfold Mem.sub? at h ⊢;cases hM:M b with
   | none=>rw[hM]at h;cases h
   | some B=>rw[hM]at h;rw[hs _ _ hM];exact h
  exact hk h hs
 ·exact h
 ·cases h
theorem s7(a:Int)(M:Mem)(R:VP)(h:R (.bool false) M):ar prog 421 [.int .i64 a] M R:=by
 refine fnS func421 rfl ntmps421 results421 ?_;simp(disch:=omega);exact ad h
theorem tC(a b:Int)(M:Mem)(R:VP)(h:R (.int .i64 (iP a b)) M):ar prog 394 [.int .i64 a,.int .i64 b] M R:=by
 unfold iP at h;refine fnS func394 rfl ntmps394 results394 ?_;simp(disch:=omega);refine s7 a _ _ ?_;simp(disch:=omega);refine s7 b _ _ ?_;by_cases h1:a<b
 ·rw[if_pos h1]at h;simp(disch:=omega)[h1];exact ad h
 ·rw[if_neg h1]at h;by_cases h2:b<a
  ·rw[if_pos h2]at h;simp(disch:=omega)[h1,h2];exact ad h
  ·rw[if_neg h2]at h;simp(disch:=omega)[h1,h2];exact ad h
theorem xh(v v':Value)(a b:List Nat)(M:Mem)(R:VP)(hv:Rd M v (ints (nI a)))(hv':Rd M v' (ints (nI b)))(hl:a.length<=1000)(hl':b.length<=1000)(h:R (.int .i64 (dP a b)) M):ar prog 343 [v,v'] M R:=by
 obtain⟨a1,c1,rfl,ha⟩:=hv.opened;obtain⟨a2,c2,rfl,hb⟩:=hv'.opened;simp only[az,dA]at ha hb ⊢;refine fnS func343 rfl ntmps343 results343 ?_;simp(disch:=omega);refine lupS (rlA [4,5,6,7,8] 11 20) (fun i:Nat=>[(11,.int .i64 i)]) (fun i M'=>M=M'/\i<=a.length/\i<=b.length/\dP (a.drop i) (b.drop i)=dP a b) (fun i=>a.length-i) 0 ⟨rfl,by omega,by omega,rfl⟩ ?_
 rintro i M' g ⟨rfl,hi,hib,heq⟩
 by_cases hlt:i<a.length
 ·rcases ha with hz|⟨b1,o1,rfl,ha⟩
  ·omega
  have g1:=ha i hlt;rw[Ta hlt]at g1;have d1:a.drop i=a[i]::a.drop (i+1):=drop_eq_getElem_cons hlt;by_cases hltb:i<b.length
  ·rcases hb with hz|⟨b2,o2,rfl,hb⟩
   ·omega
   have g2:=hb i hltb;rw[Ta hltb]at g2;have d2:b.drop i=b[i]::b.drop (i+1):=drop_eq_getElem_cons hltb;rw[d1,d2]at heq;have e:dP (a[i]::a.drop (i+1)) (b[i]::b.drop (i+1))=if a[i]<b[i] then -1 else if b[i]<a[i] then 1 else dP (a.drop (i+1)) (b.drop (i+1)):=rfl
   rw[e]at heq;have hlt2:¬(b.length:Int)<=i:=by omega
   have hlt3:¬ b.length<=i:=by omega
   generalize a[i]=x at *;generalize b[i]=y at *;simp(disch:=omega)[g1,g2,hlt2];refine tC _ _ _ _ ?_;rw[Qr];unfold rV;by_cases h1:x<y
   ·rw[if_pos h1]at heq ⊢;rw[<-heq]at h;simp(disch:=omega);exact ad h
   ·rw[if_neg h1]at heq ⊢;by_cases h2:y<x
    ·rw[if_pos h2]at heq ⊢;rw[<-heq]at h;simp(disch:=omega);exact ad h
    ·rw[if_neg h2]at heq ⊢;simp(disch:=omega);exact rndS (i+1) ⟨rfl,by omega,by omega,heq⟩
  ·have e:b.drop i=[]:=drop_of_length_le (by omega);rw[d1,e]at heq;have e2:dP (a[i]::a.drop (i+1)) []=1:=rfl;rw[e2]at heq;rw[<-heq]at h;have hlt2:(b.length:Int)<=i:=by omega
   have hlt3:b.length<=i:=by omega
   generalize a[i]=x at *;simp(disch:=omega)[g1,hlt2];exact ad h
 ·have hi':i=a.length:=by omega
  subst hi';rw[drop_length]at heq;by_cases hltb:a.length<b.length
  ·have d2:b.drop a.length=b[a.length]::b.drop (a.length+1):=drop_eq_getElem_cons hltb;rw[d2]at heq;rw[<-heq]at h;have h2:R (.int .i64 (-1)) M:=h;have hltI:(a.length:Int)<b.length:=by omega
   simp(disch:=omega)[hltI];exact ad h2
  ·have e:b.drop a.length=[]:=drop_of_length_le (by omega);rw[e]at heq;rw[<-heq]at h;have h2:R (.int .i64 0) M:=h;have hltI:¬(a.length:Int)<b.length:=by omega
   simp(disch:=omega)[hltI];exact ad h2
theorem sj(v:Value)(zs:List Int)(M:Mem)(R:VP)(hv:Rd M v (ints zs))(hnil:zs=[]->v=.slice none 0 0)(hl:zs.length<=1000)(h:∀ v' M',Own M v' (ints zs) M'->R v' M'):ar prog 393 [v] M R:=by
 refine fnS func393 rfl ntmps393 results393 ?_;cases hz:zs with
 | nil=>
  subst hz;rw[hnil rfl];simp(disch:=omega);exact ad (h _ _ (Own.nil _))
 | cons z l=>
  have hne:1<=(ints zs).length:=by rw[az,hz];simp
  have hsrc:=rX hv hne;obtain⟨a,c,rfl,ha⟩:=hv.opened;rw[az]at ha hsrc ⊢;rcases ha with h0|⟨b,o,rfl,ha⟩
  ·rw[az]at hne;omega
  simp(disch:=omega);intro b6 hb6;have o0:=Own.new (M:=M) (xs:=ints []) (n:=0) (c:=0) hb6 rfl (lRf 0);have hs1:=np hsrc ((Sub.refl M).put hb6 (.cells true [] 0));dsimp only;have e0:ints []=[]:=rfl;rw[e0]at o0;generalize M.put b6 (.cells true [] 0)=N at *;generalize Value.slice (some ⟨b6,0,none⟩) 0 0=e at *;simp(disch:=omega);refine aN o0 (Sub.refl _) hs1 rfl rfl (by omega) (Cn zs) (by rw[az];simp only[length_nil];omega) ?_;intro v' M'' N'' o' hs';simp(disch:=omega);exact ae hs' (h _ _ o')
theorem wq(v:Value)(zs:List Int)(M:Mem)(R:VP)(hsrc:dw M v=some (ints zs))(hl:zs.length<=1000)(h:∀ v' M',Own M v' (ints zs) M'->R v' M'):ar prog 404 [v] M R:=by
 refine fnS func404 rfl ntmps404 results404 ?_;simp(disch:=omega);intro b6 hb6;have o0:=Own.new (M:=M) (xs:=ints []) (n:=0) (c:=0) hb6 rfl (lRf 0);have hs1:=np hsrc ((Sub.refl M).put hb6 (.cells true [] 0));dsimp only;have e0:ints []=[]:=rfl;rw[e0]at o0;generalize M.put b6 (.cells true [] 0)=N at *;generalize Value.slice (some ⟨b6,0,none⟩) 0 0=e at *;simp(disch:=omega);refine aN o0 (Sub.refl _) hs1 rfl rfl (by omega) (Cn zs) (by rw[az];simp only[length_nil];omega) ?_;intro v' M'' N'' o' hs';simp(disch:=omega);exact ae hs' (h _ _ o')
def JL(bf bb:Nat)(s:Option (List Nat))(M:Mem):Prop:=M bf=some (.cells true [.bool s.isSome] 1)/\∃ vb D,M bb=some (.cells true [vb] 1)/\Rd D vb (ints (nI (s.getD [])))/\Sub D M/\D bf=none/\D bb=none/\(s.getD []).length<=20
theorem JL.sub{bf bb:Nat}{s:Option (List Nat)}{M N:Mem}(h:JL bf bb s M)(hs:Sub M N):JL bf bb s N:=by
 obtain⟨h1,vb,D,h2,h3,h4,h5,h6,h7⟩:=h;exact⟨hs _ _ h1,vb,D,hs _ _ h2,h3,h4.trans hs,h5,h6,h7⟩
def OL(bf bb:Nat):Nat->Prop:=fun b=>b=bf\/b=bb
theorem zO(bf bb:Nat)(hne:bf≠bb)(s:Option (List Nat))(v:Value)(x:List Nat)(D M:Mem)(R:VP)(hJ:JL bf bb s M)(hv:Rd D v (ints (nI x)))(hD:Sub D M)(hDf:D bf=none)(hDb:D bb=none)(hx:x.length<=20)
  (h:∀ M',JL bf bb (jX s x) M'->dY (OL bf bb) M M'->R (.tuple #[]) M') :
  fq prog (.func (.func 342) #[] #[.pointer (some ⟨bf,0,none⟩),.pointer (some ⟨bb,0,none⟩)]) [v] R M:=by
 obtain⟨j1,vb,Db,j2,j3,j4,j5,j6,j7⟩:=hJ;obtain⟨a,c,hve,_⟩:=hv.opened;rw[az,dA]at hve;subst hve;obtain⟨ab,cb,hve,_⟩:=j3.opened;rw[az,dA]at hve;subst hve;have keep:∀ N',Sub M N'->dY (OL bf bb) M ((N'.put bb (.cells true [.slice a x.length c] 1)).put bf (.cells true [.bool true] 1)):=by
  intro N' hN b B hb hB;rw[ai _ _ (fun e=>hb (.inl e)),ai _ _ (fun e=>hb (.inr e))];exact hN _ _ hB
 have newJ:∀ N':Mem,Sub M N'->JL bf bb (some x) ((N'.put bb (.cells true [.slice a x.length c] 1)).put bf (.cells true [.bool true] 1)):=by
  intro N' hN;refine⟨ag _ _ _,.slice a x.length c,D,?_,hv,?_,hDf,hDb,hx⟩
  ·rw[ai _ _ (Ne.symm hne)];exact ag _ _ _
  ·intro j B hj;have e1:j≠bf:=by rintro rfl;rw[hDf]at hj;cases hj
   have e2:j≠bb:=by rintro rfl;rw[hDb]at hj;cases hj
   rw[ai _ _ e1,ai _ _ e2];exact hN _ _ (hD _ _ hj)
 simp(disch:=omega);refine fnS func342 rfl ntmps342 results342 ?_;cases s with
 | none=>
  have hst:jX none x=some x:=rfl;rw[hst]at h;simp only[Option.isSome]at j1;refine plyS (ak [0,1,2,3,4,5,6,7,8,9,10] (.one 11 1 (ak [12,13,14] .fin))) ?_;simp(disch:=omega)[al j1];simp(disch:=omega)[j1,j2,aj];have j1':(M.put bb (.cells true [.slice a x.length c] 1)) bf=some (.cells true [.bool false] 1):=by rw[ai _ _ hne];exact j1
  try simp(disch:=omega)[j1',aj]
  exact ad (h _ (newJ M (Sub.refl M)) (keep M (Sub.refl M)))
 | some b=>
  simp only[Option.isSome,Option.getD]at j1 j2 j3 j7;have hle:kg x b=decide ((if rV x.length b.length=0 then dP x b else rV x.length b.length)<0):=rfl;have hst:jX (some b) x=if kg x b=true then some x else some b:=rfl
  rw[hst]at h;have rx:=hv.sub hD;have rb:=j3.sub j4;refine plyS (ak [0,1,2,3,4,5,6,7,8,9,10] (.one 11 1 (ak [12,13,14] .fin))) ?_;simp(disch:=omega)[al j1,al j2];refine aU (a:=[]) (c:=[]) (fl _ _ _ _ ⟨rfl,rfl⟩) ?_;rw[Qr];simp(disch:=omega)[al j2];refine aU (a:=[]) (c:=[]) (xh _ _ x b _ _ rx rb (by omega) (by omega) ⟨rfl,rfl⟩) ?_;simp(disch:=omega);intro b7 hb7;have q3:Sub M (M.put b7 (.cells true [.int .i64 (rV x.length b.length),.int .i64 (dP x b)] 2)):=(Sub.refl _).put hb7 _;refine⟨q3,?_⟩;have r7:Rd (M.put b7 (.cells true [.int .i64 (rV x.length b.length),.int .i64 (dP x b)] 2)) (.slice (some ⟨b7,0,none⟩) 2 2) (ints [rV x.length b.length,dP x b]):=Rd.new rfl (lRf 2);generalize M.put b7 (.cells true [.int .i64 (rV x.length b.length),.int .i64 (dP x b)] 2)=N3 at *;simp(disch:=omega);refine aU (a:=[]) (c:=[]) (wa _ _ _ _ _ r7 ⟨rfl,rfl⟩) ?_;have l1:=q3 _ _ j1;have l2:=q3 _ _ j2;generalize (if rV x.length b.length=0 then dP x b else rV x.length b.length)=q at *;cases hd:kg x b
  ·rw[hd]at h hle;have hlt:=of_decide_eq_false hle.symm;simp only[Bool.false_eq_true,if_false]at h;simp(disch:=omega)[hlt];exact ad (h N3 (JL.sub ⟨j1,_,Db,j2,j3,j4,j5,j6,j7⟩ q3) q3.keepO)
  ·rw[hd]at h hle;have hlt:=of_decide_eq_true hle.symm;simp only[if_true]at h;simp(disch:=omega)[hlt];simp(disch:=omega)[l1,l2,aj];have l1':(N3.put bb (.cells true [.slice a x.length c] 1)) bf=some (.cells true [.bool true] 1):=by rw[ai _ _ hne];exact l1
   try simp(disch:=omega)[l1',aj]
   exact ad (h _ (newJ N3 q3) (keep N3 q3))
theorem Nk(w last own:B8)(least:Nat):gM w 0 least last own=rl w own++[]:=by rw[append_nil];rfl
theorem Nx(w last own:B8)(n least:Nat):gM w (n+1) least last own=rl w own++lpE w last own (fun x=>gM w n 1 own x) 61 least:=rfl
set_option maxHeartbeats 2000000 in
theorem qB(w:B8)(hw:w.length<=60)(bf bb:Nat)(hne:bf≠bb)(n:Nat):∀(pre:List Nat) (last own:B8) (s:Option (List Nat)) (v:Value) (D M:Mem) (R:VP),pre.length+n=20->1<=own.length->1<=last.length->own.length<=60->last.length<=60->JL bf bb s M->Rd D v (ints (nI pre))->Sub D M->D bf=none->D bb=none->(pre=[]->v=.slice none 0 0) ->
  (∀ M',JL bf bb (((gM w n (min pre.length 1) last own).map (pre ++ ·)).foldl jX s) M'->dY (OL bf bb) M M'->R (.tuple #[]) M') ->
  ar prog 341 [str w,str last,str own,v,.func (.func 342) #[] #[.pointer (some ⟨bf,0,none⟩),.pointer (some ⟨bb,0,none⟩)]] M R:=by
 induction n with
 | zero=>
  intro pre last own s v D M R hpn ho1 hl1 ho60 hl60 hJ hv hD hDf hDb hnil h;rw[Nk,map_append,foldl_append]at h;obtain⟨a,c,hve,_⟩:=hv.opened;rw[az,dA]at hve;subst hve;have hmI:(if (pre.length:Int)<1 then (pre.length:Int) else 1)=((min pre.length 1:Nat):Int):=by split<;>omega
  have hmI2:(if (1:Int)<pre.length then (1:Int) else pre.length)=((min pre.length 1:Nat):Int):=by split<;>omega
  refine fnS func341 rfl ntmps341 results341 ?_;by_cases hown:own=w
  ·have hone:(rl w own).map (pre ++ ·)=[pre]:=by unfold rl;rw[if_pos hown];simp
   rw[hone]at h;have hownb:(own==w)=true:=by rw[hown];exact beq_self_eq_true _
   simp(disch:=omega)[hownb];refine zO bf bb hne s _ pre D _ _ hJ hv hD hDf hDb (by omega) ?_;intro M1 J1 K1;have hfin:=h M1 J1 K1;simp(disch:=omega)[hmI2];clear hown hownb;refine lupS (rlA [11,12] 23 30) (fun x:Nat=>[(11,.int .i64 ((min pre.length 1:Nat):Int))]) (fun x N=>M1=N) (fun x=>x) 0 rfl ?_
   rintro x N g rfl
   have hmm:min pre.length 1<=1:=Nat.min_le_right _ _;generalize min pre.length 1=m at *;simp(disch:=omega);refine iy own m _ _ ho60 (by omega) ?_;have hxl:(dJ own m).length<=60:=by
    rw[fI];have:=Nat.mul_le_mul hmm ho60;omega
   generalize dJ own m=X at *;by_cases hbig:w.length<X.length+last.length
   ·have hbigI:(w.length:Int)<(X.length:Int)+last.length:=by omega
    simp(disch:=omega)[hbigI];exact ad hfin
   ·have hbigI:¬(w.length:Int)<(X.length:Int)+last.length:=by omega
    have hp20:pre.length=20:=by omega
    simp(disch:=omega)[hbigI,hp20];exact ad hfin
  ·have hone:(rl w own).map (pre ++ ·)=[]:=by unfold rl;rw[if_neg hown];rfl
   rw[hone]at h;have hfin:=h M hJ (dY.refl _ _);have hown':(own==w)=false:=bNe.2 hown;simp(disch:=omega)[hown',hmI2];generalize M=M1 at *;refine lupS (rlA [11,12] 23 30) (fun x:Nat=>[(11,.int .i64 ((min pre.length 1:Nat):Int))]) (fun x N=>M1=N) (fun x=>x) 0 rfl ?_
   rintro x N g rfl
   have hmm:min pre.length 1<=1:=Nat.min_le_right _ _;generalize min pre.length 1=m at *;simp(disch:=omega);refine iy own m _ _ ho60 (by omega) ?_;have hxl:(dJ own m).length<=60:=by
    rw[fI];have:=Nat.mul_le_mul hmm ho60;omega
   generalize dJ own m=X at *;by_cases hbig:w.length<X.length+last.length
   ·have hbigI:(w.length:Int)<(X.length:Int)+last.length:=by omega
    simp(disch:=omega)[hbigI];exact ad hfin
   ·have hbigI:¬(w.length:Int)<(X.length:Int)+last.length:=by omega
    have hp20:pre.length=20:=by omega
    simp(disch:=omega)[hbigI,hp20];exact ad hfin
 | succ n ih=>
  intro pre last own s v D M R hpn ho1 hl1 ho60 hl60 hJ hv hD hDf hDb hnil h;rw[Nx,map_append,foldl_append]at h;obtain⟨a,c,hve,_⟩:=hv.opened;rw[az,dA]at hve;subst hve;have hmI:(if (pre.length:Int)<1 then (pre.length:Int) else 1)=((min pre.length 1:Nat):Int):=by split<;>omega
  have hmI2:(if (1:Int)<pre.length then (1:Int) else pre.length)=((min pre.length 1:Nat):Int):=by split<;>omega
  refine fnS func341 rfl ntmps341 results341 ?_;by_cases hown:own=w
  ·have hone:(rl w own).map (pre ++ ·)=[pre]:=by unfold rl;rw[if_pos hown];simp
   rw[hone]at h;have hownb:(own==w)=true:=by rw[hown];exact beq_self_eq_true _
   simp(disch:=omega)[hownb];refine zO bf bb hne s _ pre D _ _ hJ hv hD hDf hDb (by omega) ?_;intro M1 J1 K1;have hD1:Sub D M1:=fun j B hj=>K1 j B (by rintro(rfl|rfl);exact absurd hj (by rw[hDf];intro q;cases q);exact absurd hj (by rw[hDb];intro q;cases q)) (hD _ _ hj);obtain⟨s1,hs1⟩:∃ s1,s1=[pre].foldl jX s:=⟨_,rfl⟩;have J1:JL bf bb s1 M1:=by rw[hs1];exact J1
   rw[<-hs1]at h;obtain⟨total,hT⟩:∃ total,((lpE w last own (fun y=>gM w n 1 own y) 61 (min pre.length 1)).map (pre ++ ·)).foldl jX s1=total:=⟨_,rfl⟩;rw[hT]at h;have hfin:∀ M',JL bf bb total M'->dY (OL bf bb) M1 M'->R (.tuple #[]) M':=fun M' j k=>h M' j (K1.trans k);simp(disch:=omega)[hmI2];clear hown hownb;refine lupS (rlA [11,12] 23 30) (fun x:Nat×Nat×Option (List Nat)=>[(11,.int .i64 (x.1:Nat))]) (fun x N=>dY (OL bf bb) M1 N/\JL bf bb x.2.2 N/\((lpE w last own (fun y=>gM w n 1 own y) x.2.1 x.1).map (pre ++ ·)).foldl jX x.2.2=total/\x.1+x.2.1=61+min pre.length 1) (fun x=>x.2.1) (min pre.length 1,61,s1) ⟨dY.refl _ _,J1,hT,by simp only;omega⟩ ?_
   rintro⟨d,f,cur⟩ N g ⟨kN,jN,hF,hdf⟩
   simp only at jN hF hdf;have hmm:min pre.length 1<=1:=Nat.min_le_right _ _;have hdN:Sub D N:=fun j B hj=>kN j B (by rintro(rfl|rfl);exact absurd hj (by rw[hDf];intro q;cases q);exact absurd hj (by rw[hDb];intro q;cases q)) (hD1 _ _ hj);have hlen:=fY own last d;have hnx:nxt own last d=dJ own d++last:=rfl;have hrl:=fI own d;simp(disch:=omega);refine iy own d _ _ ho60 (by omega) ?_;rw[hnx]at hlen;have hmulb:d*1<=d*own.length:=Nat.mul_le_mul_left d ho1;have hmulc:d*own.length<=62*60:=Nat.mul_le_mul (by omega) ho60;by_cases hbig:w.length<(dJ own d).length+last.length
   ·have hbigI:(w.length:Int)<((dJ own d).length:Int)+last.length:=by omega
    have hF2:total=cur:=by
     rw[<-hF];cases f with
     | zero=>rfl
     | succ f=>
      unfold lpE;rw[if_neg (by rw[hnx,lAp];omega)];rfl
    rw[hF2]at hfin;generalize dJ own d=X at *;simp(disch:=omega)[hbigI];exact ad (hfin N jN kN)
   ·have hbigI:¬(w.length:Int)<((dJ own d).length:Int)+last.length:=by omega
    have hp20:¬ pre.length=20:=by omega
    have hp20I:¬(pre.length:Int)=20:=by omega
    have hp20b:((pre.length:Int)==20)=false:=bNe.2 hp20I;obtain⟨f,rfl⟩:∃ f',f=f'+1:=⟨f-1,by omega⟩;have hstep:lpE w last own (fun y=>gM w n 1 own y) (f+1) d=(gM w n 1 own (nxt own last d)).map (d :: ·)++lpE w last own (fun y=>gM w n 1 own y) f (d+1):=by
     conv=>lhs;unfold lpE
     rw[if_pos (by rw[hnx,lAp];omega)]
    rw[hstep,map_append,foldl_append,hnx]at hF;have hpre:=FC (w:=w) hw (n:=n) (last:=own) (own:=dJ own d++last) (by rw[lAp];omega) ho1;generalize dJ own d=X at *;simp(disch:=omega)[hbigI,hp20b];refine dG w (X++last) _ _ (by omega) (by rw[lAp];omega) ?_;cases hp:(X++last).isPrefixOf w
    ·rw[hpre hp]at hF;simp(disch:=omega);refine rndS (d+1,f,cur) ⟨kN,jN,hF,by simp only;omega⟩
    ·simp(disch:=omega);refine sj _ (nI pre) _ _ (hv.sub hdN) (fun e=>hnil (by unfold nI at e;exact List.map_eq_nil_iff.1 e)) (by rw[dA];omega) ?_;intro v1 N1 o1;simp(disch:=omega);intro b' hb';simp(disch:=omega);refine aN o1 ((Sub.refl _).put hb' _) (by simp(disch:=omega);rfl) rfl rfl (by omega) (by simp(disch:=omega)) (by simp(disch:=omega)[dA];omega) ?_;intro v2 N2 N3 o2 s3;rw[cv,<-xK]at o2;obtain⟨D2,r1,r2,r3⟩:=BZ o2;have tf:N bf≠none:=by rw[jN.1];intro q;cases q
     have tb:N bb≠none:=by
      obtain⟨_,vb,Db,h2,_⟩:=jN;rw[h2];intro q;cases q
     have sN3:=o2.sub.trans s3;simp(disch:=omega);refine ih (pre++[d]) own (X++last) cur v2 D2 N3 _ (by rw[lAp,length_singleton];omega) (by rw[lAp];omega) ho1 (by rw[lAp];omega) ho60 (jN.sub sN3) r1 (r2.trans s3) (r3 _ tf) (r3 _ tb) (fun e=>by simp at e) ?_;intro N4 j4 k4;have hm1:min (pre++[d]).length 1=1:=by rw[lAp,length_singleton];omega
     rw[hm1]at j4;have hmap:((gM w n 1 own (X++last)).map (d :: ·)).map (pre ++ ·)=(gM w n 1 own (X++last)).map ((pre++[d]) ++ ·):=by
      rw[map_map];refine map_congr_left fun y _=>?_;simp
     rw[hmap]at hF;simp(disch:=omega);refine rndS (d+1,f,_) ⟨kN.trans (sN3.keepO.trans k4),j4,hF,by simp only;omega⟩
  ·have hone:(rl w own).map (pre ++ ·)=[]:=by unfold rl;rw[if_neg hown];rfl
   rw[hone]at h;obtain⟨s1,hs1⟩:∃ s1,s1=s:=⟨_,rfl⟩;have J1:JL bf bb s1 M:=by rw[hs1];exact hJ
   have hD1:=hD;obtain⟨total,hT⟩:∃ total,((lpE w last own (fun y=>gM w n 1 own y) 61 (min pre.length 1)).map (pre ++ ·)).foldl jX s1=total:=⟨_,rfl⟩;rw[hs1]at hT;have hfin:∀ M',JL bf bb total M'->dY (OL bf bb) M M'->R (.tuple #[]) M':=by rw[<-hT];exact h
   rw[<-hs1]at hT;have hown':(own==w)=false:=bNe.2 hown;simp(disch:=omega)[hown',hmI2];generalize M=M1 at *;refine lupS (rlA [11,12] 23 30) (fun x:Nat×Nat×Option (List Nat)=>[(11,.int .i64 (x.1:Nat))]) (fun x N=>dY (OL bf bb) M1 N/\JL bf bb x.2.2 N/\((lpE w last own (fun y=>gM w n 1 own y) x.2.1 x.1).map (pre ++ ·)).foldl jX x.2.2=total/\x.1+x.2.1=61+min pre.length 1) (fun x=>x.2.1) (min pre.length 1,61,s1) ⟨dY.refl _ _,J1,hT,by simp only;omega⟩ ?_
   rintro⟨d,f,cur⟩ N g ⟨kN,jN,hF,hdf⟩
   simp only at jN hF hdf;have hmm:min pre.length 1<=1:=Nat.min_le_right _ _;have hdN:Sub D N:=fun j B hj=>kN j B (by rintro(rfl|rfl);exact absurd hj (by rw[hDf];intro q;cases q);exact absurd hj (by rw[hDb];intro q;cases q)) (hD1 _ _ hj);have hlen:=fY own last d;have hnx:nxt own last d=dJ own d++last:=rfl;have hrl:=fI own d;simp(disch:=omega);refine iy own d _ _ ho60 (by omega) ?_;rw[hnx]at hlen;have hmulb:d*1<=d*own.length:=Nat.mul_le_mul_left d ho1;have hmulc:d*own.length<=62*60:=Nat.mul_le_mul (by omega) ho60;by_cases hbig:w.length<(dJ own d).length+last.length
   ·have hbigI:(w.length:Int)<((dJ own d).length:Int)+last.length:=by omega
    have hF2:total=cur:=by
     rw[<-hF];cases f with
     | zero=>rfl
     | succ f=>
      unfold lpE;rw[if_neg (by rw[hnx,lAp];omega)];rfl
    rw[hF2]at hfin;generalize dJ own d=X at *;simp(disch:=omega)[hbigI];exact ad (hfin N jN kN)
   ·have hbigI:¬(w.length:Int)<((dJ own d).length:Int)+last.length:=by omega
    have hp20:¬ pre.length=20:=by omega
    have hp20I:¬(pre.length:Int)=20:=by omega
    have hp20b:((pre.length:Int)==20)=false:=bNe.2 hp20I;obtain⟨f,rfl⟩:∃ f',f=f'+1:=⟨f-1,by omega⟩;have hstep:lpE w last own (fun y=>gM w n 1 own y) (f+1) d=(gM w n 1 own (nxt own last d)).map (d :: ·)++lpE w last own (fun y=>gM w n 1 own y) f (d+1):=by
     conv=>lhs;unfold lpE
     rw[if_pos (by rw[hnx,lAp];omega)]
    rw[hstep,map_append,foldl_append,hnx]at hF;have hpre:=FC (w:=w) hw (n:=n) (last:=own) (own:=dJ own d++last) (by rw[lAp];omega) ho1;generalize dJ own d=X at *;simp(disch:=omega)[hbigI,hp20b];refine dG w (X++last) _ _ (by omega) (by rw[lAp];omega) ?_;cases hp:(X++last).isPrefixOf w
    ·rw[hpre hp]at hF;simp(disch:=omega);refine rndS (d+1,f,cur) ⟨kN,jN,hF,by simp only;omega⟩
    ·simp(disch:=omega);refine sj _ (nI pre) _ _ (hv.sub hdN) (fun e=>hnil (by unfold nI at e;exact List.map_eq_nil_iff.1 e)) (by rw[dA];omega) ?_;intro v1 N1 o1;simp(disch:=omega);intro b' hb';simp(disch:=omega);refine aN o1 ((Sub.refl _).put hb' _) (by simp(disch:=omega);rfl) rfl rfl (by omega) (by simp(disch:=omega)) (by simp(disch:=omega)[dA];omega) ?_;intro v2 N2 N3 o2 s3;rw[cv,<-xK]at o2;obtain⟨D2,r1,r2,r3⟩:=BZ o2;have tf:N bf≠none:=by rw[jN.1];intro q;cases q
     have tb:N bb≠none:=by
      obtain⟨_,vb,Db,h2,_⟩:=jN;rw[h2];intro q;cases q
     have sN3:=o2.sub.trans s3;simp(disch:=omega);refine ih (pre++[d]) own (X++last) cur v2 D2 N3 _ (by rw[lAp,length_singleton];omega) (by rw[lAp];omega) ho1 (by rw[lAp];omega) ho60 (jN.sub sN3) r1 (r2.trans s3) (r3 _ tf) (r3 _ tb) (fun e=>by simp at e) ?_;intro N4 j4 k4;have hm1:min (pre++[d]).length 1=1:=by rw[lAp,length_singleton];omega
     rw[hm1]at j4;have hmap:((gM w n 1 own (X++last)).map (d :: ·)).map (pre ++ ·)=(gM w n 1 own (X++last)).map ((pre++[d]) ++ ·):=by
      rw[map_map];refine map_congr_left fun y _=>?_;simp
     rw[hmap]at hF;simp(disch:=omega);refine rndS (d+1,f,_) ⟨kN.trans (sN3.keepO.trans k4),j4,hF,by simp only;omega⟩
theorem pI(w:B8)(M:Mem)(R:VP)(hl:w.length<=1099511627776)(h:∀ v M',Sub M M'->Rd M' v (ints (nI (jR w)))->R (.tuple #[v,.int .i64 (rG w)]) M'):ar prog 248 [str w] M R:=by
 unfold jR rG at h;refine fnS func248 rfl ntmps248 results248 ?_;simp(disch:=omega);refine IE w _ _ hl ?_;cases hw:AM w
 ·rw[hw]at h;simp only[Bool.false_eq_true,if_false]at h;simp(disch:=omega);exact ad (h _ M (Sub.refl M) (.inl ⟨none,0,rfl,rfl⟩))
 ·rw[hw]at h;simp only[if_true]at h;have h60:=Ar hw;simp(disch:=omega);intro bb hbb;simp(disch:=omega);intro bf hbf;simp(disch:=omega);have hne:bf≠bb:=by rintro rfl;rw[ag]at hbf;cases hbf
  have hbfM:M bf=none:=by rw[ai _ _ hne]at hbf;exact hbf
  have kb:((M.put bb (.cells true [.slice none 0 0] 1)).put bf (.cells true [.bool false] 1)) bb=some (.cells true [.slice none 0 0] 1):=by rw[ai _ _ (Ne.symm hne)];exact ag _ _ _
  have kf:((M.put bb (.cells true [.slice none 0 0] 1)).put bf (.cells true [.bool false] 1)) bf=some (.cells true [.bool false] 1):=ag _ _ _;have s0:Sub M ((M.put bb (.cells true [.slice none 0 0] 1)).put bf (.cells true [.bool false] 1)):=((Sub.refl M).put hbb _).put hbfM _
  try simp only[aW]
  generalize (M.put bb (.cells true [.slice none 0 0] 1)).put bf (.cells true [.bool false] 1)=M0 at *;have J0:JL bf bb none M0:=⟨kf,_,dF,kb,.inl ⟨none,0,rfl,rfl⟩,oL _,rfl,rfl,lZe _⟩;refine qB w h60 bf bb hne 20 [] [98] [97] none (.slice none 0 0) dF M0 _ rfl (by decide) (by decide) (by decide) (by decide) J0 (.inl ⟨none,0,rfl,rfl⟩) (oL _) rfl rfl (fun _=>rfl) ?_;intro M1 J1 K1;have hmap:(gM w 20 (min ([]:List Nat).length 1) [98] [97]).map (([]:List Nat) ++ ·)=gM w 20 0 [98] [97]:=by simp
  rw[hmap,Jm h60]at J1;obtain⟨j1,vb,D,j2,j3,j4,j5,j6,j7⟩:=J1;have sM:Sub M M1:=fun j B hj=>K1 j B (by rintro(rfl|rfl);exact absurd hj (by rw[hbfM];intro q;cases q);exact absurd hj (by rw[hbb];intro q;cases q)) (s0 _ _ hj);cases hc:cntF w 21 0 with
  | none=>
   rw[hc]at h j1;simp only[Option.isSome]at j1 h;simp(disch:=omega)[al j1];exact ad (h _ M1 sM (.inl ⟨none,0,rfl,rfl⟩))
  | some y=>
   rw[hc]at h j1 j3;simp only[Option.isSome,Option.getD]at j1 h j3;have hf:=h vb M1 sM (j3.sub j4);obtain⟨a,c,hve,_⟩:=j3.opened;rw[az,dA]at hve;subst hve;simp(disch:=omega)[al j1,al j2];exact ad hf
theorem Rq{w last own:B8}{G:B8->Option (List Nat)}{d:Nat}(h:w.length<(nxt own last d).length):∀ f,lpG w last own G f d=none
 | 0=>rfl
 | f+1=>by unfold lpG;rw[if_neg (by omega)]
set_option maxHeartbeats 2000000 in
theorem Ee(w:B8)(hw:w.length<=60)(r:Nat):∀(pre:List Nat) (last own:B8) (v:Value) (M:Mem) (R:VP),pre.length+r<=20->1<=own.length->1<=last.length->own.length<=60->last.length<=60->Rd M v (ints (nI pre))->dw M v=some (ints (nI pre)) ->
  (∀ v' M',Sub M M'->(∀ ds,dI w r (min pre.length 1) last own=some ds->Rd M' v' (ints (nI (pre++ds))))->R (.tuple #[v',.bool (dI w r (min pre.length 1) last own).isSome]) M') ->
  ar prog 365 [str w,v,str last,str own,.int .i64 ((pre.length+r:Nat):Int)] M R:=by
 induction r with
 | zero=>
  intro pre last own v M R hpn ho1 hl1 ho60 hl60 hv hsrc h;obtain⟨a,c,hve,_⟩:=hv.opened;rw[az,dA]at hve;subst hve;unfold dI at h;refine fnS func365 rfl ntmps365 results365 ?_;by_cases hown:own=w
  ·have hownb:(own==w)=true:=by rw[hown];exact beq_self_eq_true _
   rw[if_pos hown]at h;have hf:=h _ M (Sub.refl M) (fun ds hds=>by
    injection hds with hds
    subst hds;rw[append_nil];exact hv)
   simp only[Option.isSome]at hf;simp(disch:=omega)[hownb];exact ad hf
  ·have hownb:(own==w)=false:=bNe.2 hown;rw[if_neg hown]at h;have hf:=h (.slice a pre.length c) M (Sub.refl M) (fun ds hds=>by cases hds);simp only[Option.isSome]at hf;simp(disch:=omega)[hownb];exact ad hf
 | succ r ih=>
  intro pre last own v M R hpn ho1 hl1 ho60 hl60 hv hsrc h;obtain⟨a,c,hve,_⟩:=hv.opened;rw[az,dA]at hve;subst hve;obtain⟨m,hm⟩:∃ m,m=min pre.length 1:=⟨_,rfl⟩;rw[<-hm]at h;have hm1:m<=1:=by omega
  have hmp:m=0↔pre.length=0:=by omega
  have hne:¬(pre.length:Int)=((pre.length+(r+1):Nat):Int):=by omega
  obtain⟨total,hT⟩:∃ total,dI w (r+1) m last own=total:=⟨_,rfl⟩;rw[hT]at h;have hT2:lpG w last own (fun x=>dI w r 1 own x) 61 m=total:=hT;obtain⟨cI,hcI⟩:∃ cI:Int,cI=((pre.length+(r+1):Nat):Int):=⟨_,rfl⟩;rw[<-hcI]at hne ⊢;have hneb:((pre.length:Int)==cI)=false:=bNe.2 hne;refine fnS func365 rfl ntmps365 results365 ?_;simp(disch:=omega)[hneb];refine aP aR (rlA [10,11,12,13,14,15] 25 32) (fun x:Nat×Nat=>[(12,str (nxt own last x.1)),(13,.int .i64 (x.1:Nat))]) (fun x N=>Sub M N/\lpG w last own (fun x=>dI w r 1 own x) x.2 (max x.1 m)=total/\max x.1 m+x.2=61+m/\x.1<=62) (fun x=>63-x.1) (0,61) (by kernel_rfl) (by simp(disch:=omega)[nxt,dJ]) ⟨Sub.refl M,by simp only[Nat.zero_max];exact hT2,by simp only[Nat.zero_max];omega,by simp only;omega⟩ ?_
  rintro⟨d,f⟩ N g ⟨sN,hF,hdf,hd62⟩
  simp only at hF hdf hd62;have hlen:=fY own last d;have hmulb:d*1<=d*own.length:=Nat.mul_le_mul_left d ho1;have hmulc:d*own.length<=62*60:=Nat.mul_le_mul hd62 ho60;have hsucc:=Fs own last d;by_cases hbig:w.length<(nxt own last d).length
  ·have hbigI:¬((nxt own last d).length:Int)<=w.length:=by omega
   have hbign:¬(nxt own last d).length<=w.length:=by omega
   have hnone:total=none:=by
    rw[<-hF];refine Rq ?_ f;rw[fY]at hbig ⊢;have:d*own.length<=(max d m)*own.length:=Nat.mul_le_mul_right _ (Nat.le_max_left _ _);omega
   rw[hnone]at h;have hf:=h (.slice none 0 0) N sN (fun ds hds=>by cases hds);simp only[Option.isSome]at hf;generalize nxt own last d=X at *;simp(disch:=omega)[hbigI];exact ad hf
  ·have hbigI:((nxt own last d).length:Int)<=w.length:=by omega
   have hbign:(nxt own last d).length<=w.length:=by omega
   by_cases hdm:m<=d
   ·have hmax:max d m=d:=Nat.max_eq_left hdm;rw[hmax]at hF hdf;obtain⟨f,rfl⟩:∃ f',f=f'+1:=⟨f-1,by omega⟩;rw[lpG,if_pos hbign]at hF;have hcond:(decide ((0:Int)<d)||decide ((pre.length:Int)=0))=true:=by
     rw[Bool.or_eq_true,decide_eq_true_eq,decide_eq_true_eq];by_cases h0:pre.length=0
     ·exact .inr (by omega)
     ·exact .inl (by omega)
    have hmax2:max (d+1) m=d+1:=Nat.max_eq_left (by omega);have key:∀(hd0:True),True:=fun _=>trivial;generalize hX:nxt own last d=X at *;by_cases hd0:0<d
    ·have hd0I:(0:Int)<d:=by omega
     simp(disch:=omega)[hbigI,hd0];refine wq _ (nI pre) _ _ (np hsrc sN) (by rw[dA];omega) ?_;intro v1 N1 o1;simp(disch:=omega);intro b' hb';simp(disch:=omega);refine aN o1 ((Sub.refl _).put hb' _) (by simp(disch:=omega);rfl) rfl rfl (by omega) (by simp(disch:=omega)) (by simp(disch:=omega)[dA];omega) ?_;intro v2 N2 N3 o2 s3;rw[cv,<-xK]at o2;have rd2:=o2.rd.sub s3;have sr2:=rX rd2 (by rw[az,dA,lAp,length_singleton];omega);have sN3:=sN.trans (o2.sub.trans s3);have hc2:cI=(((pre++[d]).length+r:Nat):Int):=by rw[hcI,lAp,length_singleton];omega
     have hm2:min (pre++[d]).length 1=1:=by rw[lAp,length_singleton];omega
     simp(disch:=omega);rw[hc2];refine ih (pre++[d]) own X v2 N3 _ (by rw[lAp,length_singleton];omega) (by omega) ho1 (by omega) ho60 rd2 sr2 ?_;rw[hm2];intro v3 N4 s4 hres;cases hG:dI w r 1 own X with
     | some ds=>
      rw[hG]at hF;simp only at hF;have r3:=hres ds hG;rw[append_assoc]at r3;have hf:=h v3 N4 (sN3.trans s4) (fun ds' hds=>by
       rw[<-hF]at hds;injection hds with hds
       rw[<-hds];exact r3)
      rw[<-hF]at hf;simp only[Option.isSome]at hf ⊢;simp(disch:=omega);exact ad hf
     | none=>
      rw[hG]at hF;simp only[Option.isSome]at hF ⊢;rw[<-hc2];simp(disch:=omega);refine rndA (d+1,f) (by simp(disch:=omega)[hsucc]) ⟨sN3.trans s4,by simp only[hmax2];exact hF,by simp only[hmax2];omega,by simp only;omega⟩
    ·have hd0I:¬(0:Int)<d:=by omega
     have hp0:pre.length=0:=by omega
     have hp0I:(pre.length:Int)=0:=by omega
     simp(disch:=omega)[hbigI,hd0,hp0];refine wq _ (nI pre) _ _ (by rw[<-hp0];exact np hsrc sN) (by rw[dA];omega) ?_;intro v1 N1 o1;simp(disch:=omega);intro b' hb';simp(disch:=omega);refine aN o1 ((Sub.refl _).put hb' _) (by simp(disch:=omega);rfl) rfl rfl (by omega) (by simp(disch:=omega)) (by simp(disch:=omega)[dA];omega) ?_;intro v2 N2 N3 o2 s3;rw[cv,<-xK]at o2;have rd2:=o2.rd.sub s3;have sr2:=rX rd2 (by rw[az,dA,lAp,length_singleton];omega);have sN3:=sN.trans (o2.sub.trans s3);have hc2:cI=(((pre++[d]).length+r:Nat):Int):=by rw[hcI,lAp,length_singleton];omega
     have hm2:min (pre++[d]).length 1=1:=by rw[lAp,length_singleton];omega
     simp(disch:=omega);rw[hc2];refine ih (pre++[d]) own X v2 N3 _ (by rw[lAp,length_singleton];omega) (by omega) ho1 (by omega) ho60 rd2 sr2 ?_;rw[hm2];intro v3 N4 s4 hres;cases hG:dI w r 1 own X with
     | some ds=>
      rw[hG]at hF;simp only at hF;have r3:=hres ds hG;rw[append_assoc]at r3;have hf:=h v3 N4 (sN3.trans s4) (fun ds' hds=>by
       rw[<-hF]at hds;injection hds with hds
       rw[<-hds];exact r3)
      rw[<-hF]at hf;simp only[Option.isSome]at hf ⊢;simp(disch:=omega);exact ad hf
     | none=>
      rw[hG]at hF;simp only[Option.isSome]at hF ⊢;rw[<-hc2];simp(disch:=omega);refine rndA (d+1,f) (by simp(disch:=omega)[hsucc]) ⟨sN3.trans s4,by simp only[];exact hF,by simp only[];omega,by simp only;omega⟩
   ·have hd0:d=0:=by omega
    have hm1':m=1:=by omega
    subst hd0;rw[hm1',Nat.zero_max]at hF hdf;have hp0:¬ pre.length=0:=by omega
    have hp0I:¬(pre.length:Int)=0:=by omega
    have hp0b:((pre.length:Int)==0)=false:=bNe.2 hp0I;generalize hX:nxt own last 0=X at *;simp(disch:=omega)[hbigI,hp0b];refine rndA (0+1,f) (by simp(disch:=omega)[hsucc]) ⟨sN,by simp only[hm1'];exact hF,by simp only[hm1'];omega,by simp only;omega⟩
theorem pD(w:B8)(M:Mem)(R:VP)(hl:w.length<=1099511627776)(h:∀ v M',Sub M M'->Rd M' v (ints (nI (jR w)))->R (.tuple #[v,.int .i64 (rG w)]) M'):ar prog 287 [str w] M R:=by
 unfold jR rG at h;refine fnS func287 rfl ntmps287 results287 ?_;simp(disch:=omega);refine JK w _ _ hl ?_;cases hw:AM w
 ·rw[hw]at h;simp only[Bool.false_eq_true,if_false]at h;simp(disch:=omega);exact ad (h _ M (Sub.refl M) (.inl ⟨none,0,rfl,rfl⟩))
 ·rw[hw]at h;simp only[if_true]at h;have h60:=Ar hw;simp(disch:=omega);refine lupS (rlA [2,3,4,5,6] 10 13) (fun x:Nat×Nat=>[(4,.int .i64 (x.1:Nat))]) (fun x N=>Sub M N/\cntF w x.2 x.1=cntF w 21 0/\x.1+x.2=21) (fun x=>x.2) (0,21) ⟨Sub.refl M,rfl,rfl⟩ ?_
  rintro⟨c,f⟩ N g ⟨sN,hF,hcf⟩
  simp only at hF hcf;cases f with
  | zero=>
   have hc:¬(c:Int)<=20:=by omega
   have hc':¬ c<=20:=by omega
   rw[<-hF]at h;have hf:=h (.slice none 0 0) N sN (.inl ⟨none,0,rfl,rfl⟩);simp only[cntF]at hf;simp(disch:=omega)[hc];exact ad hf
  | succ f=>
   have hc:(c:Int)<=20:=by omega
   have hc':c<=20:=by omega
   have hst:cntF w (f+1) c=match dI w c 0 [98] [97] with|some y=>some y|none=>cntF w f (c+1):=rfl
   rw[hst]at hF;simp(disch:=omega)[hc];intro b hb;simp(disch:=omega);have s1:=(Sub.refl N).put hb (.cells true [] 0);have sr:dw (N.put b (.cells true [] 0)) (.slice (some ⟨b,0,none⟩) 0 0)=some (ints (nI [])):=by
    show Mem.sub? _ b 0 0=_;unfold Mem.sub?;rw[ag];rfl
   have hcI:(c:Int)=((([]:List Nat).length+c:Nat):Int):=by simp
   rw[hcI];refine Ee w h60 c [] [98] [97] _ _ _ (by simp only[length_nil];omega) (by decide) (by decide) (by decide) (by decide) (.inl ⟨_,_,rfl,rfl⟩) sr ?_;rw[<-hcI];intro v1 N1 s2 hres;have sA:=sN.trans (s1.trans s2);cases hG:dI w c (min ([]:List Nat).length 1) [98] [97] with
   | some y=>
    have hG':dI w c 0 [98] [97]=some y:=hG;rw[hG']at hF;simp only at hF;rw[<-hF]at h;have hf:=h v1 N1 sA (hres y hG);simp only[Option.isSome]at hf ⊢;simp(disch:=omega);exact ad hf
   | none=>
    have hG':dI w c 0 [98] [97]=none:=hG;rw[hG']at hF;simp only[Option.isSome]at hF ⊢;simp(disch:=omega);refine rndS (c+1,f) ⟨sA,hF,by simp only;omega⟩
end Go.Proofs.YtapimhjbilkfpaaGreatDoor
