/- Lemmas for FnExactConsole, part 25 of 46. -/
import Derived.Test.YtapimhjbilkfpaaGreatDoorZ11
import Derived.Test.YtapimhjbilkfpaaGreatDoorZ20
import Derived.Test.YtapimhjbilkfpaaGreatDoorZ04
set_option linter.unusedVariables false
set_option linter.unusedSimpArgs false
namespace Go.Proofs.YtapimhjbilkfpaaGreatDoor
open List
theorem yy{a b c d:List UInt8}(h:a.length=b.length):(a++c<b++d)↔(a<b\/(a=b/\c<d)):=by
 induction a generalizing b with
 | nil=>
  cases b with
  | nil=>simp
  | cons y b=>simp at h
 | cons x a ih=>
  cases b with
  | nil=>simp at h
  | cons y b=>
   simp only[length_cons,Nat.add_right_cancel_iff]at h;have ih:=ih h;clear h;rw[cons_append,cons_append,cons_lt_cons_iff,cons_lt_cons_iff,ih];constructor
   ·rintro(h|⟨rfl,h|⟨rfl,h⟩⟩)
    ·exact .inl (.inl h)
    ·exact .inl (.inr ⟨rfl,h⟩)
    ·exact .inr ⟨rfl,h⟩
   ·rintro((h0|⟨rfl,h0⟩)|⟨h0,h2⟩)
    ·exact .inl h0
    ·exact .inr ⟨rfl,.inl h0⟩
    ·injection h0 with h3 h4
     subst h3;subst h4;exact .inr ⟨rfl,.inr ⟨rfl,h2⟩⟩
def KC(w:List UInt8):Bool:=(range (w.length-1)).all fun k=>decide (w<w.drop (k+1)++w.take (k+1))
def tO(w:List UInt8):Bool:=(range (w.length-1)).all fun k=>decide (w<w.drop (k+1))
theorem Je{w:List UInt8}{k:Nat}(hk:k<=w.length):(w<w.drop k)↔w.take (w.length-k)<w.drop k:=by
 have h1:w=w.take (w.length-k)++w.drop (w.length-k):=(take_append_drop _ _).symm;have hl:(w.take (w.length-k)).length=(w.drop k).length:=by rw[length_take,length_drop];omega
 have h2:=yy (c:=w.drop (w.length-k)) (d:=[]) hl;rw[append_nil,take_append_drop]at h2;rw[h2];exact⟨fun h=>h.elim id fun h=>absurd h.2 (not_lt_nil _),.inl⟩
theorem Gd{w:List UInt8}{k:Nat}(hk:k<=w.length):(w<w.drop k++w.take k)↔(w.take (w.length-k)<w.drop k\/(w.take (w.length-k)=w.drop k/\w.drop (w.length-k)<w.take k)):=by
 have hl:(w.take (w.length-k)).length=(w.drop k).length:=by rw[length_take,length_drop];omega
 have h2:=yy (c:=w.drop (w.length-k)) (d:=w.take k) hl;rw[take_append_drop]at h2;exact h2
theorem O5(w:List UInt8):KC w=tO w:=by
 rw[Bool.eq_iff_iff];unfold KC tO;rw[all_eq_true,all_eq_true];constructor
 ·intro h k hk;have hk':=List.mem_range.1 hk;have h1:=of_decide_eq_true (h k hk);refine decide_eq_true ?_;rw[Je (by omega)];rcases(Gd (by omega)).1 h1 with h1|⟨h1,h2⟩
  ·exact h1
  ·exfalso;obtain⟨j,hj⟩:∃ j,w.length-(k+1)=j+1:=⟨w.length-(k+1)-1,by omega⟩;have h3:=of_decide_eq_true (h j (List.mem_range.2 (by omega)));rw[hj]at h1 h2;have h4:w.take (k+1)++w.drop (k+1)<w.drop (j+1)++w.take (j+1):=by rw[take_append_drop];exact h3
   rcases(yy (by rw[length_take,length_drop];omega)).1 h4 with h5|⟨h5,h6⟩
   ·exact List.lt_asymm h2 h5
   ·rw[h1]at h6;exact List.lt_irrefl _ h6
 ·intro h k hk;have hk':=List.mem_range.1 hk;have h1:=of_decide_eq_true (h k hk);rw[Je (by omega)]at h1;exact decide_eq_true ((Gd (by omega)).2 (.inl h1))
def bY(w:List UInt8):Nat->Nat
 | 0=>0
 | m+1=>if tO (w.take (m+1)) then m+1 else bY w m
theorem qf(w:List UInt8):∀ m,bY w m<=m
 | 0=>Nat.le_refl _
 | m+1=>by
  unfold bY;split
  ·exact Nat.le_refl _
  ·exact Nat.le_trans (qf w m) (Nat.le_succ _)
theorem vu{w:List UInt8}(h:1<=w.length):bY w 1=1:=by
 cases w with
 | nil=>simp at h
 | cons u w=>rfl
theorem gT{w:List UInt8}(h:1<=w.length):∀ m,1<=m->1<=bY w m
 | 0,hm=>by omega
 | m+1,_=>by
  by_cases e:m=0
  ·subst e;rw[vu h];exact Nat.le_refl _
  ·unfold bY;split
   ·omega
   ·exact gT h m (by omega)
def sU:Nat->List UInt8->List (List UInt8)
 | 0,_=>[]
 | f+1,w=>if w=[] then [] else w.take (bY w w.length)::sU f (w.drop (bY w w.length))
theorem Gs:∀(f:Nat) (w:List UInt8),(sU f w).length<=f
 | 0,_=>Nat.le_refl _
 | f+1,w=>by
  unfold sU;split
  ·exact Nat.zero_le _
  ·rw[length_cons];have:=Gs f (w.drop (bY w w.length));omega
theorem BH:∀(f g:Nat) (w:List UInt8),w.length<=f->w.length<=g->sU f w=sU g w
 | 0,g,w,hf,_=>by
  have:w=[]:=eq_nil_of_length_eq_zero (by omega);subst this;cases g<;>rfl
 | f+1,0,w,_,hg=>by
  have:w=[]:=eq_nil_of_length_eq_zero (by omega);subst this;rfl
 | f+1,g+1,w,hf,hg=>by
  unfold sU;by_cases h:w=[]
  ·rw[if_pos h,if_pos h]
  ·rw[if_neg h,if_neg h];have h1:1<=w.length:=List.length_pos_iff.2 h;have hb:=gT h1 w.length h1;rw[BH f g _ (by rw[length_drop];omega) (by rw[length_drop];omega)]
def kI(w:List UInt8):List (List UInt8):=sU w.length w
theorem BB{w:List UInt8}(h:w≠[]):kI w=w.take (bY w w.length)::kI (w.drop (bY w w.length)):=by
 have h1:1<=w.length:=List.length_pos_iff.2 h;have hb:=gT h1 w.length h1;obtain⟨n,hn⟩:∃ n,w.length=n+1:=⟨w.length-1,by omega⟩;have e:sU (n+1) w=w.take (bY w w.length)::sU n (w.drop (bY w w.length)):=by rw[sU,if_neg h]
 have e2:sU w.length w=sU (n+1) w:=by rw[<-hn]
 have e3:=BH n (w.drop (bY w w.length)).length (w.drop (bY w w.length)) (by rw[length_drop];omega) (Nat.le_refl _);unfold kI;rw[e2,e,e3]
theorem Fx:kI []=[]:=rfl
def ltF(w:List UInt8):Nat->List UInt8×Nat
 | 0=>(w,0)
 | k+1=>if w.drop k++w.take k<(ltF w k).1 then (w.drop k++w.take k,k) else ltF w k
theorem JN(w:List UInt8):ltF w 1=(w,0):=by
 unfold ltF;rw[if_neg]
 ·rfl
 ·rw[drop_zero,take_zero,append_nil];exact List.lt_irrefl _
theorem qG(w:List UInt8):∀ n,(ltF w n).1.length=w.length/\(ltF w n).2<=n
 | 0=>⟨rfl,Nat.le_refl _⟩
 | n+1=>by
  obtain⟨h1,h2⟩:=qG w n;unfold ltF;split
  ·refine⟨?_,Nat.le_succ _⟩;simp only[length_append,length_drop,length_take];omega
  ·exact⟨h1,by omega⟩
def lr(w:List UInt8)(p a n:Nat):Bool:=(range n).all fun t=>w.getD (a+t) 0==w.getD (a+t+p) 0
theorem oL(w:List UInt8)(p a n:Nat):lr w p a (n+1)=(lr w p a n&&(w.getD (a+n) 0==w.getD (a+n+p) 0)):=by simp[lr,range_succ]
def lpB(w:List UInt8)(i p:Nat):Bool:=lr w p (i-p) (min i (w.length-p)-(i-p))
theorem J3{w:List UInt8}{i p:Nat}(h:w.length<=p):lpB w i p=true:=by
 unfold lpB;rw[show min i (w.length-p)-(i-p)=0 by omega];rfl
def lpF(w:List UInt8)(i:Nat):Nat:=((range (w.length+1)).find? fun q=>lpB w i (q+1)).getD 0+1
theorem ni{w:List UInt8}{i p:Nat}(h1:1<=p)(h2:p<=w.length+1)(h3:lpB w i p=true)(h4:∀ q,1<=q->q<p->lpB w i q=false):lpF w i=p:=by
 unfold lpF;have:(range (w.length+1)).find? (fun q=>lpB w i (q+1))=some (p-1):=by
  rw[find?_range_eq_some];refine⟨by rw[show p-1+1=p by omega];exact h3,List.mem_range.2 (by omega),fun j hj=>?_⟩;rw[h4 (j+1) (by omega) (by omega)];rfl
 rw[this];simp only[Option.getD_some];omega
def gY(w:List UInt8)(n:Nat):List Int:=((range n).filter fun i=>lpF w (i+1)==cB w).map fun (i:Nat)=>((i+1:Nat):Int)
theorem zf(w:List UInt8)(n:Nat):gY w (n+1)=gY w n++if lpF w (n+1)==cB w then [((n+1:Nat):Int)] else []:=by
 unfold gY;rw[range_succ,filter_append,map_append]
 congr 1
 cases h:(lpF w (n+1)==cB w)<;>simp[h]
theorem uh(w:List UInt8)(n:Nat):(gY w n).length<=n:=by
 unfold gY;rw[length_map];exact Nat.le_trans (length_filter_le _ _) (by rw[length_range];exact Nat.le_refl _)
def ij(w:List UInt8):List Int:=((cy w).map fun p=>(w.length:Int)-p).reverse
theorem F6(w:List UInt8):ca w=true↔∀ j,j<w.length->w.getD j 0=w.getD (w.length-1-j) 0:=by
 unfold ca;rw[beq_iff_eq];constructor
 ·intro h j hj;have h1:w.reverse.getD j 0=w.getD (w.length-1-j) 0:=by
   rw[getD_eq_getElem?_getD,getElem?_reverse hj,<-getD_eq_getElem?_getD]
  rw[<-h1,<-h]
 ·intro h;refine ext_getElem? fun j=>?_;by_cases hj:j<w.length
  ·rw[getElem?_reverse hj];have h1:=h j hj;rw[getD_eq_getElem?_getD,getD_eq_getElem?_getD,getElem?_eq_getElem hj,getElem?_eq_getElem (by omega)]at h1;rw[getElem?_eq_getElem hj,getElem?_eq_getElem (by omega)];simpa using h1
  ·rw[getElem?_eq_none (by omega),getElem?_eq_none (by rw[length_reverse];omega)]
theorem KG{w:List UInt8}{n:Nat}(hn:w.length<=2*n+1)(h:∀ j,j<n->w.getD j 0=w.getD (w.length-1-j) 0):ca w=true:=by
 rw[F6];intro j hj;by_cases h1:j<n
 ·exact h j h1
 ·by_cases h2:w.length-1-j<n
  ·have:=h (w.length-1-j) h2;rw[show w.length-1-(w.length-1-j)=j by omega]at this;exact this.symm
  ·rw[show w.length-1-j=j by omega]
theorem PK{w:List UInt8}{j:Nat}(hj:j<w.length)(h:w.getD j 0≠w.getD (w.length-1-j) 0):ca w=false:=by
 cases hp:ca w
 ·rfl
 ·exact absurd ((F6 w).1 hp j hj) h
theorem sL(u:UInt8):ca [u]=true:=by simp[ca]
def jZ(P:List UInt8->Bool)(w:List UInt8):Nat->List UInt8×Nat
 | 0=>([],0)
 | n+1=>match (range (w.length-n)).find? fun i=>P (seg w i (n+1)) with
  | some i=>(seg w i (n+1),i)
  | none=>jZ P w n
theorem mK{P:List UInt8->Bool}{w:List UInt8}{n i:Nat}(hi:i<w.length-n)(h:P (seg w i (n+1))=true)(h0:∀ j,j<i->P (seg w j (n+1))=false):jZ P w (n+1)=(seg w i (n+1),i):=by
 unfold jZ;have:(range (w.length-n)).find? (fun i=>P (seg w i (n+1)))=some i:=by
  rw[find?_range_eq_some];exact⟨h,List.mem_range.2 hi,fun j hj=>by rw[h0 j hj];rfl⟩
 rw[this]
theorem wC{P:List UInt8->Bool}{w:List UInt8}{n:Nat}(h0:∀ j,j<w.length-n->P (seg w j (n+1))=false):jZ P w (n+1)=jZ P w n:=by
 conv=>lhs;unfold jZ
 have:(range (w.length-n)).find? (fun i=>P (seg w i (n+1)))=none:=by
  rw[find?_eq_none];intro j hj;rw[h0 j (List.mem_range.1 hj)];simp
 rw[this]
theorem rN(P:List UInt8->Bool)(w:List UInt8):∀ n,n<=w.length->(jZ P w n).1.length<=n/\(jZ P w n).2<=w.length
 | 0,_=>⟨Nat.le_refl _,Nat.zero_le _⟩
 | n+1,h=>by
  obtain⟨h1,h2⟩:=rN P w n (by omega);unfold jZ;split
  ·rename_i i hi;have:=List.mem_range.1 (mem_of_find?_eq_some hi);exact⟨by rw[ef (by omega)];exact Nat.le_refl _,by simp only;omega⟩
  ·exact⟨by omega,h2⟩
def kW(u:List UInt8):Bool:=cB u==u.length
theorem rK(w:List UInt8):seg w 0 1=w.take 1:=mn w 1
theorem Hk{w:List UInt8}(h:1<=w.length):∃ u,w.take 1=[u]:=by
 cases w with
 | nil=>simp at h
 | cons u w=>exact⟨u,rfl⟩
theorem GR(u:UInt8):kW [u]=true:=by
 unfold kW;rw[Kh (w:=[u]) (p:=1) (Nat.le_refl _) (Nat.le_refl _) (Hg [u]) (fun q h1 h2=>by omega)];rfl
theorem Gu{P:List UInt8->Bool}{w:List UInt8}(hP:∀ u,P [u]=true)(h:1<=w.length):jZ P w 1=(w.take 1,0):=by
 have:=mK (P:=P) (w:=w) (n:=0) (i:=0) (by omega) (by
  obtain⟨u,hu⟩:=Hk h;rw[rK w,hu];exact hP u) (fun j hj=>by omega)
 rw[this,rK w]
def uQ(w:List UInt8)(b n:Nat):Bool:=(range n).all fun i=>!(seg w (i+1) b==w.take b)
def CY(w:List UInt8)(b:Nat):Bool:=uQ w b (w.length-b-1)
theorem yw(w:List UInt8)(b n:Nat):uQ w b (n+1)=(uQ w b n && !(seg w (n+1) b==w.take b)):=by simp[uQ,range_succ]
theorem Og{w:List UInt8}{b i n:Nat}(h:i<n)(hc:(seg w (i+1) b==w.take b)=true):uQ w b n=false:=by
 unfold uQ;rw[all_eq_false];exact⟨i,List.mem_range.2 h,by rw[hc];simp⟩
def sZ(w:List UInt8)(b:Nat):Bool:=(w.drop (w.length-b)==w.take b)&&CY w b
def mL(w:List UInt8)(n:Nat):Bool:=(range n).any fun b=>sZ w (b+1)
def AD(w:List UInt8):Bool:=decide (w.length<=1)||mL w (w.length-1)
def qH:Nat->List UInt8->Bool
 | 0,_=>true
 | f+1,w=>decide (w.length<=1)||(range (w.length-1)).any fun b=>sZ w (b+1)&&qH f (w.take (b+1))
theorem yr:∀(f g:Nat) (w:List UInt8),w.length<=f->w.length<=g->qH f w=qH g w
 | 0,g,w,hf,_=>by
  have:w=[]:=eq_nil_of_length_eq_zero (by omega);subst this;cases g<;>rfl
 | f+1,0,w,_,hg=>by
  have:w=[]:=eq_nil_of_length_eq_zero (by omega);subst this;rfl
 | f+1,g+1,w,hf,hg=>by
  unfold qH
  congr 1
  rw[Bool.eq_iff_iff,any_eq_true,any_eq_true];have e:∀ b,b<w.length-1->qH f (w.take (b+1))=qH g (w.take (b+1)):=fun b hb=>
   yr f g _ (by rw[length_take];omega) (by rw[length_take];omega)
  constructor
  ·rintro⟨b,hb,h⟩
   exact⟨b,hb,by rw[<-e b (List.mem_range.1 hb)];exact h⟩
  ·rintro⟨b,hb,h⟩
   exact⟨b,hb,by rw[e b (List.mem_range.1 hb)];exact h⟩
def fB(w:List UInt8):Bool:=qH w.length w
def py(w:List UInt8)(n:Nat):Bool:=(range n).any fun b=>sZ w (b+1)&&fB (w.take (b+1))
theorem Fk(w:List UInt8):fB w=(decide (w.length<=1)||py w (w.length-1)):=by
 unfold fB py;cases hn:w.length with
 | zero=>rfl
 | succ n=>
  unfold qH;rw[hn]
  congr 1
  rw[Bool.eq_iff_iff,any_eq_true,any_eq_true];have e:∀ b,b<n+1-1->qH n (w.take (b+1))=fB (w.take (b+1)):=fun b hb=>
   yr n _ _ (by rw[length_take];omega) (Nat.le_refl _)
  constructor
  ·rintro⟨b,hb,h⟩
   exact⟨b,hb,by rw[<-e b (List.mem_range.1 hb)];exact h⟩
  ·rintro⟨b,hb,h⟩
   exact⟨b,hb,by rw[e b (List.mem_range.1 hb)];exact h⟩
theorem w8(w:List UInt8)(n:Nat):mL w (n+1)=(mL w n||sZ w (n+1)):=by simp[mL,range_succ]
theorem xe(w:List UInt8)(n:Nat):py w (n+1)=(py w n||(sZ w (n+1)&&fB (w.take (n+1)))):=by simp[py,range_succ]
theorem KN{w:List UInt8}{b n:Nat}(hb:b<n)(h:sZ w (b+1)=true):mL w n=true:=by
 unfold mL;rw[any_eq_true];exact⟨b,List.mem_range.2 hb,h⟩
theorem Mp{w:List UInt8}{b n:Nat}(hb:b<n)(h:sZ w (b+1)=true)(h2:fB (w.take (b+1))=true):py w n=true:=by
 unfold py;rw[any_eq_true];exact⟨b,List.mem_range.2 hb,by rw[h,h2];rfl⟩
def qC(w:List UInt8)(n:Nat):List (List UInt8):=((range n).filter fun b=>sZ w (b+1)).map fun b=>w.take (b+1)
theorem tx(w:List UInt8)(n:Nat):qC w (n+1)=qC w n++if sZ w (n+1) then [w.take (n+1)] else []:=by
 unfold qC;rw[range_succ,filter_append,map_append]
 congr 1
 cases h:sZ w (n+1)<;>simp[h]
theorem xb(w:List UInt8)(n:Nat):(qC w n).length<=n:=by
 unfold qC;rw[length_map];exact Nat.le_trans (length_filter_le _ _) (by rw[length_range];exact Nat.le_refl _)
theorem MV(w:List UInt8)(n:Nat):(qC w n).any fB=py w n:=by
 induction n with
 | zero=>rfl
 | succ n ih=>
  rw[tx,any_append,ih,xe];cases h:sZ w (n+1)<;>simp
theorem Ij(w:List UInt8)(n:Nat):(0<(qC w n).length)↔mL w n=true:=by
 induction n with
 | zero=>simp[qC,mL]
 | succ n ih=>
  rw[tx,length_append,w8,Bool.or_eq_true,<-ih];cases h:sZ w (n+1)<;>simp
theorem Ov{w:List UInt8}{n:Nat}:∀ u∈qC w n,∃ b,b<n/\u=w.take (b+1):=by
 intro u hu;obtain⟨b,hb,rfl⟩:=List.mem_map.1 hu;exact⟨b,List.mem_range.1 (List.mem_filter.1 hb).1,rfl⟩
end Go.Proofs.YtapimhjbilkfpaaGreatDoor
namespace Go.Proofs.YtapimhjbilkfpaaGreatDoor
open Go Go.Proofs.Tryz List
def iL(l:List Int)(i:Nat):List Int:=(range l.length).map fun j=>if j<i\/l.length-i<=j then l.getD (l.length-1-j) 0 else l.getD j 0
theorem fm(l:List Int)(i:Nat):(iL l i).length=l.length:=by simp[iL]
theorem iA(l:List Int)(i:Nat){j:Nat}(hj:j<l.length):(iL l i)[j]?=some (if j<i\/l.length-i<=j then l.getD (l.length-1-j) 0 else l.getD j 0):=by
 unfold iL;rw[getElem?_map,getElem?_range hj];rfl
theorem Il(l:List Int):iL l 0=l:=by
 apply ext_getElem?;intro j;by_cases hj:j<l.length
 ·rw[iA l 0 hj,if_neg (by omega),getD_eq_getElem?_getD,getElem?_eq_getElem hj];rfl
 ·rw[getElem?_eq_none (by rw[fm];omega),getElem?_eq_none (by omega)]
theorem KB{l:List Int}{i:Nat}(h:l.length<=2*i+1):iL l i=l.reverse:=by
 apply ext_getElem?;intro j;by_cases hj:j<l.length
 ·rw[iA l i hj,getElem?_reverse hj];have hk:l.length-1-j<l.length:=by omega
  rw[getElem?_eq_getElem hk];by_cases hc:j<i\/l.length-i<=j
  ·rw[if_pos hc,getD_eq_getElem?_getD,getElem?_eq_getElem hk];rfl
  ·rw[if_neg hc,getD_eq_getElem?_getD,getElem?_eq_getElem hj];have e:l.length-1-j=j:=by omega
   simp only[e,Option.getD_some]
 ·rw[getElem?_eq_none (by rw[fm];omega),getElem?_eq_none (by rw[length_reverse];omega)]
theorem IM{l:List Int}{i:Nat}(h:2*i+1<l.length):((iL l i).set i (l.getD (l.length-1-i) 0)).set (l.length-1-i) (l.getD i 0)=iL l (i+1):=by
 apply ext_getElem?;intro j;by_cases hj:j<l.length
 ·rw[getElem?_set,getElem?_set,iA l i hj,iA l (i+1) hj];have hlen:=fm l i;by_cases e1:l.length-1-i=j
  ·rw[if_pos e1,if_pos (by rw[length_set];omega),if_pos (by omega)]
   congr 2
   omega
  ·rw[if_neg e1];by_cases e2:i=j
   ·rw[if_pos e2,if_pos (by omega),if_pos (by omega),e2]
   ·rw[if_neg e2]
    congr 1
    by_cases hc:j<i\/l.length-i<=j
    ·rw[if_pos hc,if_pos (by omega)]
    ·rw[if_neg hc,if_neg (by omega)]
 ·rw[getElem?_eq_none (by rw[length_set,length_set,fm];omega),getElem?_eq_none (by rw[fm];omega)]
theorem rI{l:List Int}{j:Nat}(hj:j<l.length):(ints l)[j]?=some (.int .i64 (l.getD j 0)):=by
 rw[cJ,getElem?_eq_getElem hj,getD_eq_getElem?_getD,getElem?_eq_getElem hj];rfl
theorem zP(b c:Nat)(l:List Int)(M:Mem)(R:VP)(hM:M b=some (.cells true (ints l) c))(hl:l.length<=1000000)(h:R (.tuple #[]) (M.put b (.cells true (ints l.reverse) c))):ar prog 328 [.slice (some ⟨b,0,none⟩) l.length c] M R:=by
 refine fnS func328 rfl ntmps328 results328 ?_;simp(disch:=omega);refine lupS [2,3,7,8,9,10,11,12,13,14,15,16,17,18,19,20,21,22,23,24,25,26,27] (fun i:Nat=>[(2,.int .i64 i),(3,.int .i64 ((l.length:Int)-1-i))]) (fun i M'=>2*i<=l.length+1/\M'=M.put b (.cells true (ints (iL l i)) c)) (fun i=>l.length+1-i) 0 ⟨by omega,?_⟩ ?_
 ·rw[Il]
  funext i
  by_cases e:i=b
  ·subst e;rw[ag,hM]
  ·rw[ai _ _ e]
 rintro i M' g ⟨hi,rfl⟩
 have hk:(M.put b (.cells true (ints (iL l i)) c)) b=some (.cells true (ints (iL l i)) c):=ag _ _ _;by_cases hlt:2*i+1<l.length
 ·have hc:(i:Int)<(l.length:Int)-1-i:=by omega
  obtain⟨q,hq⟩:∃ q:Nat,q=l.length-1-i:=⟨_,rfl⟩;have hqi:(l.length:Int)-1-i=q:=by omega
  have hst:=IM hlt;rw[<-hq]at hst;have h1:=rI (l:=iL l i) (j:=i) (by rw[fm];omega);have h2:=rI (l:=iL l i) (j:=q) (by rw[fm];omega);have e1:(iL l i).getD i 0=l.getD i 0:=by
   rw[getD_eq_getElem?_getD,iA l i (by omega),if_neg (by omega)];rfl
  have e2:(iL l i).getD q 0=l.getD q 0:=by
   rw[getD_eq_getElem?_getD,iA l i (by omega),if_neg (by omega)];rfl
  rw[e1]at h1;rw[e2]at h2;have hsl:=fm l i;rw[hqi];generalize l.getD i 0=u at *;generalize l.getD q 0=w at *;have hnx:(l.length:Int)-1-((i:Int)+1)=(q:Int)-1:=by omega
  rw[hqi]at hc;simp(disch:=omega)[hc];refine plyS (ak [0,1,2,3,4,5,6,7,8,9,10,11,12] (.one 13 2 (ak [14] (.one 15 2 .fin)))) ?_;simp(disch:=omega)[aj hk,h1,h2,al,ints_set,ay];exact rndA (i+1) (by simp(disch:=omega);omega) ⟨by omega,by simp only[a7,hst]⟩
 ·have hc:¬(i:Int)<(l.length:Int)-1-i:=by omega
  rw[KB (by omega)];simp(disch:=omega)[hc];exact ad h
theorem Ad(M:Mem)(R:VP)(h:R (.tuple #[]) M):ar prog 328 [.slice none 0 0] M R:=by
 refine fnS func328 rfl ntmps328 results328 ?_;simp(disch:=omega);refine lupS [2,3,7,8,9,10,11,12,13,14,15,16,17,18,19,20,21,22,23,24,25,26,27] (fun i:Nat=>[(2,.int .i64 0),(3,.int .i64 (-1))]) (fun i M'=>M=M') (fun i=>0) 0 rfl ?_
 rintro i N' g rfl
 simp(disch:=omega);exact ad h
theorem ky{w:List UInt8}(h:1<=w.length):(cy w)[0]?=some ((cB w:Nat):Int)/\1<=(cy w).length/\cB w<=w.length:=by
 have h1:(cy w).head?=((range w.length).find? fun q=>hp w (q+1)).map fun (p:Nat)=>((p+1:Nat):Int):=by
  unfold cy jx;rw[head?_map,head?_filter]
 cases hf:(range w.length).find? (fun q=>hp w (q+1)) with
 | none=>
  rw[find?_eq_none]at hf;have:=hf (w.length-1) (List.mem_range.2 (by omega));rw[show w.length-1+1=w.length by omega,Hg]at this;exact absurd rfl this
 | some q=>
  have hq:=List.mem_range.1 (mem_of_find?_eq_some hf);have e:cB w=q+1:=by unfold cB;rw[hf];rfl
  rw[hf]at h1;rw[e];cases hL:cy w with
  | nil=>rw[hL]at h1;cases h1
  | cons z l=>
   rw[hL]at h1;exact⟨h1,by simp,by omega⟩
theorem FT(w:List UInt8):(cy w).length<=w.length:=tW w w.length
theorem J7{w:List UInt8}{z:Int}(h:z∈cy w):1<=z/\z<=w.length:=by
 unfold cy jx at h;obtain⟨q,hq,rfl⟩:=List.mem_map.1 h;rw[mem_filter,mem_range]at hq;omega
theorem gj{w:List UInt8}(h:cg w=0):isWord w=true/\w≠[]/\1<=w.length/\w.length<=60:=by
 unfold cg at h;split at h
 ·rename_i hw;split at h
  ·cases h
  ·rename_i h0;exact⟨hw,h0,List.length_pos_iff.2 h0,au hw⟩
 ·cases h
theorem db(w:List UInt8)(M:Mem)(R:VP)(hl:w.length<=60)(h:∀ v M',Own M v (ints (cy w)) M'->R v M'):ar prog 271 [str w] M R:=by
 refine fnS func271 rfl ntmps271 results271 ?_;simp(disch:=omega);intro b0 hb0;simp(disch:=omega);refine lupS [3,4,6,7,8,9,10,11,12,13,14,15,16,17,18,19,20,21,22,23,24,25] (fun x:Nat×Value=>[(4,.int .i64 (x.1:Nat)),(3,x.2)]) (fun x N=>1<=x.1/\x.1<=w.length+1/\Own M x.2 (ints (jx w (x.1-1))) N) (fun x=>w.length+1-x.1) (1,.slice (some ⟨b0,0,none⟩) 0 0) ⟨by simp only;omega,by simp only;omega,Own.new hb0 rfl (Nat.le_refl 0)⟩ ?_
 rintro⟨p,v⟩ N g ⟨hp1,hp2,ho⟩
 simp only at hp1 hp2 ho;have hpl:=tW w (p-1);by_cases hlt:p<=w.length
 ·have hltI:(p:Int)<=(w.length:Nat):=by omega
  have hs:=xK w (p-1);rw[show p-1+1=p by omega]at hs;have e:(w.length:Int)-p=((w.length-p:Nat):Int):=by omega
  have hpd:hp w p=(w.drop p==w.take (w.length-p)):=rfl;generalize jx w (p-1)=L at *;simp(disch:=omega)[hltI];refine drwS ?_;cases hpb:hp w p
  ·rw[hpb,if_neg (by decide),append_nil]at hs;rw[hpb]at hpd;have hpe:¬ w.drop p=w.take (w.length-p):=by rw[<-beq_iff_eq,<-hpd];decide
   simp(disch:=omega)[e,hpd.symm];refine rndS (p+1,v) ⟨by simp only;omega,by simp only;omega,?_⟩;simp only[Nat.add_sub_cancel];rw[hs];exact ho
  ·rw[hpb,if_pos rfl]at hs;rw[hpb]at hpd;have hpe:w.drop p=w.take (w.length-p):=eq_of_beq hpd.symm;simp(disch:=omega)[e,hpe];intro b' hb';simp(disch:=omega);refine aN ho ((Sub.refl _).put hb' _) (by simp(disch:=omega);rfl) rfl rfl (by omega) (by simp(disch:=omega)) (by simp(disch:=omega);omega) ?_;intro v' M'' N'' ho' hs';simp(disch:=omega);refine rndM M'' (p+1,v') hs' ⟨by simp only;omega,by simp only;omega,?_⟩;simp only[Nat.add_sub_cancel];rw[hs,<-cw];exact ho'
 ·have hltI:¬(p:Int)<=(w.length:Nat):=by omega
  have hpE:p-1=w.length:=by omega
  rw[hpE]at ho;simp(disch:=omega)[hltI];exact ad (h v N ho)
theorem yS(w:List UInt8)(M:Mem)(R:VP)(hl:w.length<=1099511627776)(h:Lst (aJ w) (ints (if isWord w then cy w else [])) M R):ar prog 285 [str w] M R:=by
 unfold aJ at h;refine fnS func285 rfl ntmps285 results285 ?_;simp(disch:=omega);refine ba w _ _ hl ?_;cases hw:isWord w
 ·rw[hw]at h;simp(disch:=omega);exact ad (h _ _ (Own.nil M))
 ·rw[hw,if_pos rfl,if_pos rfl]at h;simp(disch:=omega);refine db w _ _ (au hw) ?_;intro v N o;simp(disch:=omega);exact ad (h _ _ o)
theorem gr(w:List UInt8)(M:Mem)(R:VP)(hl:w.length<=1099511627776)(h:R (.int .i64 (cg w)) M):ar prog 269 [str w] M R:=by
 unfold cg at h;refine fnS func269 rfl ntmps269 results269 ?_;simp(disch:=omega);refine ba w _ _ hl ?_;cases hw:isWord w
 ·rw[hw]at h;simp(disch:=omega);exact ad h
 ·rw[hw,if_pos rfl]at h;by_cases h0:w=[]
  ·rw[if_pos h0]at h;subst h0;simp(disch:=omega);exact ad h
  ·rw[if_neg h0]at h;have he:(w==[])=false:=jn h0;have he2:w.isEmpty=false:=by cases w with
    | nil=>exact absurd rfl h0
    | cons a l=>rfl
   simp(disch:=omega)[he];exact ad h
theorem Ck(w:List UInt8)(M:Mem)(R:VP)(hl:w.length<=60)(h1:1<=w.length)(h:∀ M',Sub M M'->R (str (eh w)) M'):ar prog 270 [str w] M R:=by
 unfold eh at h;refine fnS func270 rfl ntmps270 results270 ?_;simp(disch:=omega);refine db w _ _ hl ?_;intro v N o;obtain⟨p1,p2,p3⟩:=ky h1;have p0:1<=cB w:=by unfold cB;omega
 obtain⟨a,c,rfl,ha⟩:=o.rd.opened;rw[ay]at ha ⊢;rcases ha with h0|⟨b,o',rfl,ha⟩
 ·omega
 have hg:=ha 0 (by omega);rw[cJ,p1,Option.map_some,Nat.add_zero]at hg;have sN:=o.sub;clear ha o;generalize cB w=p at *;generalize (cy w).length=n at *;have e:((w.length:Int).tmod (p:Int)=0)↔w.length%p=0:=by
  rw[Int.tmod_eq_emod_of_nonneg (by omega)];omega
 have hp0:¬(p:Int)=0:=by omega
 by_cases hd:w.length%p=0
 ·have hd':=e.2 hd;rw[if_pos hd]at h;simp(disch:=omega)[hg,hd'];exact ad (h _ sN)
 ·have hd':¬(w.length:Int).tmod (p:Int)=0:=fun q=>hd (e.1 q);rw[if_neg hd]at h;simp(disch:=omega)[hg];exact ad (h _ sN)
theorem FU(w:List UInt8)(M:Mem)(R:VP)(hl:w.length<=1099511627776)(h:∀ M',Sub M M'->R (.tuple #[str (l0 w),.int .i64 (pa w),.int .i64 (cg w)]) M'):ar prog 183 [str w] M R:=by
 unfold l0 pa at h;refine fnS func183 rfl ntmps183 results183 ?_;simp(disch:=omega);refine gr w _ _ hl ?_;by_cases hc:cg w=0
 ·rw[if_pos hc,if_pos hc,hc]at h;obtain⟨hw,h0,h1,h60⟩:=gj hc;rw[hc];simp(disch:=omega);refine Ck w _ _ h60 h1 ?_;intro M1 s1;have hr1:1<=(eh w).length/\(eh w).length<=60:=by
   obtain⟨p1,p2,p3⟩:=ky h1;have p0:1<=cB w:=by unfold cB;omega
   unfold eh;split
   ·rw[length_take];omega
   ·omega
  have hr0:¬((eh w).length:Int)=0:=by omega
  have ed:((w.length:Int).tdiv ((eh w).length:Int))=((w.length/(eh w).length:Nat):Int):=by
   rw[Int.tdiv_eq_ediv_of_nonneg (by omega)];rfl
  have eb:(w.length/(eh w).length)<=60:=Nat.le_trans (Nat.div_le_self _ _) h60;generalize eh w=r at *;generalize w.length/r.length=q at *;have hrn:¬ r=[]:=by intro e;rw[e]at hr1;simp at hr1
  simp(disch:=omega);refine drwS ?_;simp(disch:=omega)[hrn,ed];exact ad (h _ s1)
 ·rw[if_neg hc,if_neg hc]at h;generalize cg w=c at *;simp(disch:=omega);exact ad (h _ (Sub.refl _))
def pf(w:List UInt8)(i:Nat):List Int:=(((cy w).drop ((cy w).length-i)).map fun p=>(w.length:Int)-p).reverse
theorem H6(w:List UInt8):pf w 0=[]:=by unfold pf;rw[Nat.sub_zero,drop_length];rfl
theorem KH(w:List UInt8):pf w (cy w).length=ij w:=by unfold pf ij;rw[Nat.sub_self,drop_zero]
theorem IW{w:List UInt8}{i:Nat}(h:i<(cy w).length):pf w (i+1)=pf w i++[(w.length:Int)-(cy w).getD ((cy w).length-1-i) 0]:=by
 unfold pf;have hj:(cy w).length-(i+1)<(cy w).length:=by omega
 rw[drop_eq_getElem_cons hj,map_cons,reverse_cons,show (cy w).length-(i+1)+1=(cy w).length-i by omega]
 congr 2
 rw[getD_eq_getElem?_getD,getElem?_eq_getElem (by omega)];simp only[Option.getD_some]
 congr 2
 omega
theorem Mu{w:List UInt8}{i:Nat}(h:i<=(cy w).length):(pf w i).length=i:=by
 unfold pf;rw[length_reverse,length_map,length_drop];omega
def wi(w:List UInt8)(i:Nat):List Int:=((cy w).take i).map (fun p=>(w.length:Int)-p)++(cy w).drop i
theorem Ly(w:List UInt8):wi w 0=cy w:=by simp[wi]
theorem MJ(w:List UInt8):(wi w (cy w).length).reverse=ij w:=by unfold wi ij;rw[take_length,drop_length,append_nil]
theorem Pc(w:List UInt8)(i:Nat):(wi w i).length=(cy w).length:=by
 unfold wi;rw[length_append,length_map,length_take,length_drop];omega
theorem Qx{w:List UInt8}{i:Nat}(h:i<(cy w).length):(wi w i).getD i 0=(cy w).getD i 0:=by
 unfold wi;have hl:(((cy w).take i).map fun p=>(w.length:Int)-p).length=i:=by rw[length_map,length_take];omega
 rw[getD_eq_getElem?_getD,getElem?_append_right (by omega),hl,getElem?_drop,Nat.sub_self,Nat.add_zero,<-getD_eq_getElem?_getD]
theorem Od{w:List UInt8}{i:Nat}(h:i<(cy w).length):(wi w i).set i ((w.length:Int)-(cy w).getD i 0)=wi w (i+1):=by
 unfold wi;have hl:(((cy w).take i).map fun p=>(w.length:Int)-p).length=i:=by rw[length_map,length_take];omega
 rw[az _ h,map_append,drop_eq_getElem_cons h,set_append_right _ _ (by omega),hl,Nat.sub_self,set_cons_zero,append_assoc]
 congr 2
 rw[getD_eq_getElem?_getD,getElem?_eq_getElem h];rfl
theorem ya(w:List UInt8)(M:Mem)(R:VP)(hl:w.length<=1099511627776)(h:∀ v M',Sub M M'->Rd M' v (ints (if isWord w then ij w else []))->R (aD v (aJ w)) M'):ar prog 284 [str w] M R:=by
 unfold aD aJ at h;refine fnS func284 rfl ntmps284 results284 ?_;simp(disch:=omega);refine ba w _ _ hl ?_;cases hw:isWord w
 ·rw[hw]at h;simp(disch:=omega);exact ad (h _ _ (Sub.refl M) (.inl ⟨none,0,rfl,rfl⟩))
 ·rw[hw,if_pos rfl,if_pos rfl]at h;have h60:=au hw;simp(disch:=omega);refine db w _ _ h60 ?_;intro v N o;have hpl:=FT w;have hpin:=fun z (hz:z∈cy w)=>J7 hz;have hst:=fun i (hi:i<(cy w).length)=>IW hi;have hle:=fun i (hi:i<=(cy w).length)=>Mu hi;have hz0:=H6 w;have hza:=KH w;obtain⟨a,c,rfl,ha⟩:=o.rd.opened;have sN:=o.sub;rw[ay]at ha ⊢;clear o;generalize hB:pf w=B at *;clear hB;generalize hP:cy w=P at *;simp(disch:=omega);intro b0 hb0;simp(disch:=omega);refine lupS [5,6,16,17,18,19,20,21,22,23,24,25,26,27,28,29] (fun x:Nat×Value=>[(6,.int .i64 ((P.length:Int)-1-(x.1:Nat))),(5,x.2)]) (fun x N'=>x.1<=P.length/\Own N x.2 (ints (B x.1)) N') (fun x=>P.length-x.1) (0,.slice (some ⟨b0,0,none⟩) 0 0) ⟨Nat.zero_le _,by simp only;rw[hz0];exact Own.new hb0 rfl (Nat.le_refl 0)⟩ ?_
  rintro⟨i,vo⟩ N' g ⟨hi,oo⟩
  simp only at hi oo;have hbl:=hle i hi;by_cases hlt:i<P.length
  ·rcases ha with h0|⟨b,o',rfl,ha⟩
   ·omega
   obtain⟨q,hq⟩:∃ q:Nat,q=P.length-1-i:=⟨_,rfl⟩;have hqI:(P.length:Int)-1-i=q:=by omega
   have hnx:(P.length:Int)-1-((i:Int)+1)=(q:Int)-1:=by omega
   have hs:=hst i hlt;rw[<-hq]at hs;have hg:=ha q (by omega);rw[rI (by omega)]at hg;have hg:=aT hg oo.sub;have hin:=hpin (P.getD q 0) (by rw[getD_eq_getElem?_getD,getElem?_eq_getElem (by omega)];exact getElem_mem _);have hqp:(0:Int)<=q:=by omega
   rw[hqI];generalize P.getD q 0=z at *;simp(disch:=omega)[hg,hqp];intro b' hb';simp(disch:=omega);refine aN oo ((Sub.refl _).put hb' _) (by simp(disch:=omega);rfl) rfl rfl (by omega) (by simp(disch:=omega)) (by simp(disch:=omega);omega) ?_;intro v' M'' N'' o'' s'';rw[cw,<-hs]at o'';simp(disch:=omega);exact rndB M'' (i+1,v') s'' (by simp(disch:=omega)[hnx]) ⟨by simp only;omega,o''⟩
  ·have hiE:i=P.length:=by omega
   subst hiE;rw[hza]at oo;have hneg:¬(0:Int)<=(P.length:Int)-1-(P.length:Nat):=by omega
   simp(disch:=omega);exact ad (h _ _ (sN.trans oo.sub) oo.rd)
theorem yg(w:List UInt8)(M:Mem)(R:VP)(hl:w.length<=1099511627776)(h:∀ v M',Sub M M'->Rd M' v (ints (if isWord w then ij w else []))->R (aD v (aJ w)) M'):ar prog 234 [str w] M R:=by
 unfold aD at h;refine fnS func234 rfl ntmps234 results234 ?_;simp(disch:=omega);refine nN w _ _ hl ?_;intro v N o;cases hw:isWord w
 ·have hc:aJ w=1:=by unfold aJ;rw[hw];rfl
  rw[hw,hc]at h;rw[hw,if_neg (by decide)]at o;rw[hc];simp(disch:=omega);exact ad (h _ _ o.sub (.inl ⟨none,0,rfl,rfl⟩))
 ·have hc:aJ w=0:=by unfold aJ;rw[hw];rfl
  rw[hw,if_pos rfl,hc]at h;rw[hw,if_pos rfl]at o;rw[hc];have h60:=au hw;have hpl:=FT w;have hpin:=fun z (hz:z∈cy w)=>J7 hz;have hS0:=Ly w;have hSa:=MJ w;have hSl:=Pc w;have hSat:=fun i (hi:i<(cy w).length)=>Qx hi;have hSst:=fun i (hi:i<(cy w).length)=>Od hi;have sN:=o.sub;generalize hB:wi w=S at *;clear hB;generalize hP:cy w=P at *;rcases o with ⟨rfl,e0,rfl⟩|⟨b,c,rfl,hb,hbc,rfl⟩
  ·have hP0:P=[]:=by
    cases P with
    | nil=>rfl
    | cons z l=>cases e0
   rw[hP0]at hSa;simp only[length_nil]at hSa;have hbz:ij w=[]:=by
    rw[<-hSa];have:=hSl 0;rw[hP0]at this;rw[eq_nil_of_length_eq_zero this];rfl
   rw[hbz]at h;simp(disch:=omega);refine lupS [6,7,18,19,20,21,22,23,24,25,26,27,28,29,30] (fun i:Nat=>[(18,.int .i64 i)]) (fun i N'=>N=N'/\i=0) (fun i=>0) 0 ⟨rfl,rfl⟩ ?_
   rintro i N' g ⟨rfl,rfl⟩
   simp(disch:=omega);refine Ad _ _ ?_;simp(disch:=omega);exact ad (h _ _ (Sub.refl _) (.inl ⟨none,0,rfl,rfl⟩))
  ·rw[ay]at hbc ⊢;simp(disch:=omega);refine lupS [6,7,18,19,20,21,22,23,24,25,26,27,28,29,30] (fun i:Nat=>[(18,.int .i64 i)]) (fun i N'=>i<=P.length/\N'=M.put b (.cells true (ints (S i)) c)) (fun i=>P.length-i) 0 ⟨Nat.zero_le _,by rw[hS0]⟩ ?_
   rintro i N' g ⟨hi,rfl⟩
   have hk:(M.put b (.cells true (ints (S i)) c)) b=some (.cells true (ints (S i)) c):=ag _ _ _;by_cases hlt:i<P.length
   ·have hsl:=hSl i;have h1:=rI (l:=S i) (j:=i) (by omega);rw[hSat i hlt]at h1;have hset:=hSst i hlt;have hin:=hpin (P.getD i 0) (by rw[getD_eq_getElem?_getD,getElem?_eq_getElem hlt];exact getElem_mem _);generalize P.getD i 0=z at *;simp(disch:=omega)[aj hk,h1];refine bV w _ _ hl ?_;simp(disch:=omega)[al,ints_set,hset,hsl];exact rndS (i+1) ⟨by omega,by simp only[a7]⟩
   ·have hiE:i=P.length:=by omega
    subst hiE;have hsl:=hSl P.length;generalize S P.length=L at *;rw[<-hsl]at hbc ⊢;simp(disch:=omega);refine zP b c L _ _ hk (by omega) ?_;rw[a7,hSa];have hbl:(ij w).length=L.length:=by rw[<-hSa,length_reverse]
    rw[<-hbl]at hbc ⊢;have o9:=Own.new (M:=M) (xs:=ints (ij w)) (n:=(ij w).length) (c:=c) hb (ay _) hbc;simp(disch:=omega);exact ad (h _ _ o9.sub o9.rd)
end Go.Proofs.YtapimhjbilkfpaaGreatDoor
