/- Lemmas for FnExactConsole, part 25 of 46. -/
import Derived.Test.YtapimhjbilkfpaaGreatDoorZ11
import Derived.Test.YtapimhjbilkfpaaGreatDoorZ20
import Derived.Test.YtapimhjbilkfpaaGreatDoorZ04
set_option linter.unusedVariables false
set_option linter.unusedSimpArgs false
namespace Go.Proofs.YtapimhjbilkfpaaGreatDoor
open List
theorem xt{a b c d:List UInt8}(h:a.length=b.length):(a++c<b++d)↔(a<b\/(a=b/\c<d)):=by
 induction a generalizing b with
 | nil=>
  cases b with
  | nil=>simp
  | cons y b=>simp at h
 | cons x a ih=>
  cases b with
  | nil=>simp at h
  | cons y b=>
   simp only[length_cons,Nat.add_right_cancel_iff]at h;have ih:=ih h;clear h;rw[cons_append,cons_append,cons_lt_cons_iff,cons_lt_cons_iff,ih];constructor
   ·rintro(h|⟨rfl,h|⟨rfl,h⟩⟩)
    ·exact .inl (.inl h)
    ·exact .inl (.inr ⟨rfl,h⟩)
    ·exact .inr ⟨rfl,h⟩
   ·rintro((h0|⟨rfl,h0⟩)|⟨h0,h2⟩)
    ·exact .inl h0
    ·exact .inr ⟨rfl,.inl h0⟩
    ·injection h0 with h3 h4
     subst h3;subst h4;exact .inr ⟨rfl,.inr ⟨rfl,h2⟩⟩
def LD(w:List UInt8):Bool:=(range (w.length-1)).all fun k=>decide (w<w.drop (k+1)++w.take (k+1))
def uq(w:List UInt8):Bool:=(range (w.length-1)).all fun k=>decide (w<w.drop (k+1))
theorem Kd{w:List UInt8}{k:Nat}(hk:k<=w.length):(w<w.drop k)↔w.take (w.length-k)<w.drop k:=by
 have h1:w=w.take (w.length-k)++w.drop (w.length-k):=(take_append_drop _ _).symm;have hl:(w.take (w.length-k)).length=(w.drop k).length:=by rw[length_take,length_drop];omega
 have h2:=xt (c:=w.drop (w.length-k)) (d:=[]) hl;rw[append_nil,take_append_drop]at h2;rw[h2];exact⟨fun h=>h.elim id fun h=>absurd h.2 (not_lt_nil _),.inl⟩
theorem ES{w:List UInt8}{k:Nat}(hk:k<=w.length):(w<w.drop k++w.take k)↔(w.take (w.length-k)<w.drop k\/(w.take (w.length-k)=w.drop k/\w.drop (w.length-k)<w.take k)):=by
 have hl:(w.take (w.length-k)).length=(w.drop k).length:=by rw[length_take,length_drop];omega
 have h2:=xt (c:=w.drop (w.length-k)) (d:=w.take k) hl;rw[take_append_drop]at h2;exact h2
theorem NR(w:List UInt8):LD w=uq w:=by
 rw[Bool.eq_iff_iff];unfold LD uq;rw[all_eq_true,all_eq_true];constructor
 ·intro h k hk;have hk':=List.mem_range.1 hk;have h1:=of_decide_eq_true (h k hk);refine decide_eq_true ?_;rw[Kd (by omega)];rcases(ES (by omega)).1 h1 with h1|⟨h1,h2⟩
  ·exact h1
  ·exfalso;obtain⟨j,hj⟩:∃ j,w.length-(k+1)=j+1:=⟨w.length-(k+1)-1,by omega⟩;have h3:=of_decide_eq_true (h j (List.mem_range.2 (by omega)));rw[hj]at h1 h2;have h4:w.take (k+1)++w.drop (k+1)<w.drop (j+1)++w.take (j+1):=by rw[take_append_drop];exact h3
   rcases(xt (by rw[length_take,length_drop];omega)).1 h4 with h5|⟨h5,h6⟩
   ·exact List.lt_asymm h2 h5
   ·rw[h1]at h6;exact List.lt_irrefl _ h6
 ·intro h k hk;have hk':=List.mem_range.1 hk;have h1:=of_decide_eq_true (h k hk);rw[Kd (by omega)]at h1;exact decide_eq_true ((ES (by omega)).2 (.inl h1))
def bX(w:List UInt8):Nat->Nat
 | 0=>0
 | m+1=>if uq (w.take (m+1)) then m+1 else bX w m
theorem pS(w:List UInt8):∀ m,bX w m<=m
 | 0=>Nat.le_refl _
 | m+1=>by
  unfold bX;split
  ·exact Nat.le_refl _
  ·exact Nat.le_trans (pS w m) (Nat.le_succ _)
theorem uZ{w:List UInt8}(h:1<=w.length):bX w 1=1:=by
 cases w with
 | nil=>simp at h
 | cons u w=>rfl
theorem gZ{w:List UInt8}(h:1<=w.length):∀ m,1<=m->1<=bX w m
 | 0,hm=>by omega
 | m+1,_=>by
  by_cases e:m=0
  ·subst e;rw[uZ h];exact Nat.le_refl _
  ·unfold bX;split
   ·omega
   ·exact gZ h m (by omega)
def rE:Nat->List UInt8->List (List UInt8)
 | 0,_=>[]
 | f+1,w=>if w=[] then [] else w.take (bX w w.length)::rE f (w.drop (bX w w.length))
theorem E9:∀(f:Nat) (w:List UInt8),(rE f w).length<=f
 | 0,_=>Nat.le_refl _
 | f+1,w=>by
  unfold rE;split
  ·exact Nat.zero_le _
  ·rw[length_cons];have:=E9 f (w.drop (bX w w.length));omega
theorem A3:∀(f g:Nat) (w:List UInt8),w.length<=f->w.length<=g->rE f w=rE g w
 | 0,g,w,hf,_=>by
  have:w=[]:=eq_nil_of_length_eq_zero (by omega);subst this;cases g<;>rfl
 | f+1,0,w,_,hg=>by
  have:w=[]:=eq_nil_of_length_eq_zero (by omega);subst this;rfl
 | f+1,g+1,w,hf,hg=>by
  unfold rE;by_cases h:w=[]
  ·rw[if_pos h,if_pos h]
  ·rw[if_neg h,if_neg h];have h1:1<=w.length:=List.length_pos_iff.2 h;have hb:=gZ h1 w.length h1;rw[A3 f g _ (by rw[length_drop];omega) (by rw[length_drop];omega)]
def kF(w:List UInt8):List (List UInt8):=rE w.length w
theorem Be{w:List UInt8}(h:w≠[]):kF w=w.take (bX w w.length)::kF (w.drop (bX w w.length)):=by
 have h1:1<=w.length:=List.length_pos_iff.2 h;have hb:=gZ h1 w.length h1;obtain⟨n,hn⟩:∃ n,w.length=n+1:=⟨w.length-1,by omega⟩;have e:rE (n+1) w=w.take (bX w w.length)::rE n (w.drop (bX w w.length)):=by rw[rE,if_neg h]
 have e2:rE w.length w=rE (n+1) w:=by rw[<-hn]
 have e3:=A3 n (w.drop (bX w w.length)).length (w.drop (bX w w.length)) (by rw[length_drop];omega) (Nat.le_refl _);unfold kF;rw[e2,e,e3]
theorem ET:kF []=[]:=rfl
def ltF(w:List UInt8):Nat->List UInt8×Nat
 | 0=>(w,0)
 | k+1=>if w.drop k++w.take k<(ltF w k).1 then (w.drop k++w.take k,k) else ltF w k
theorem JJ(w:List UInt8):ltF w 1=(w,0):=by
 unfold ltF;rw[if_neg]
 ·rfl
 ·rw[drop_zero,take_zero,append_nil];exact List.lt_irrefl _
theorem rI(w:List UInt8):∀ n,(ltF w n).1.length=w.length/\(ltF w n).2<=n
 | 0=>⟨rfl,Nat.le_refl _⟩
 | n+1=>by
  obtain⟨h1,h2⟩:=rI w n;unfold ltF;split
  ·refine⟨?_,Nat.le_succ _⟩;simp only[length_append,length_drop,length_take];omega
  ·exact⟨h1,by omega⟩
def ll(w:List UInt8)(p a n:Nat):Bool:=(range n).all fun t=>w.getD (a+t) 0==w.getD (a+t+p) 0
theorem nX(w:List UInt8)(p a n:Nat):ll w p a (n+1)=(ll w p a n&&(w.getD (a+n) 0==w.getD (a+n+p) 0)):=by simp[ll,range_succ]
def lpB(w:List UInt8)(i p:Nat):Bool:=ll w p (i-p) (min i (w.length-p)-(i-p))
theorem Kr{w:List UInt8}{i p:Nat}(h:w.length<=p):lpB w i p=true:=by
 unfold lpB;rw[show min i (w.length-p)-(i-p)=0 by omega];rfl
def lpF(w:List UInt8)(i:Nat):Nat:=((range (w.length+1)).find? fun q=>lpB w i (q+1)).getD 0+1
theorem nk{w:List UInt8}{i p:Nat}(h1:1<=p)(h2:p<=w.length+1)(h3:lpB w i p=true)(h4:∀ q,1<=q->q<p->lpB w i q=false):lpF w i=p:=by
 unfold lpF;have:(range (w.length+1)).find? (fun q=>lpB w i (q+1))=some (p-1):=by
  rw[find?_range_eq_some];refine⟨by rw[show p-1+1=p by omega];exact h3,List.mem_range.2 (by omega),fun j hj=>?_⟩;rw[h4 (j+1) (by omega) (by omega)];rfl
 rw[this];simp only[Option.getD_some];omega
def gV(w:List UInt8)(n:Nat):List Int:=((range n).filter fun i=>lpF w (i+1)==cA w).map fun (i:Nat)=>((i+1:Nat):Int)
theorem xF(w:List UInt8)(n:Nat):gV w (n+1)=gV w n++if lpF w (n+1)==cA w then [((n+1:Nat):Int)] else []:=by
 unfold gV;rw[range_succ,filter_append,map_append]
 congr 1
 cases h:(lpF w (n+1)==cA w)<;>simp[h]
theorem tu(w:List UInt8)(n:Nat):(gV w n).length<=n:=by
 unfold gV;rw[length_map];exact Nat.le_trans (length_filter_le _ _) (by rw[length_range];exact Nat.le_refl _)
def ig(w:List UInt8):List Int:=((cy w).map fun p=>(w.length:Int)-p).reverse
theorem GK(w:List UInt8):ca w=true↔∀ j,j<w.length->w.getD j 0=w.getD (w.length-1-j) 0:=by
 unfold ca;rw[beq_iff_eq];constructor
 ·intro h j hj;have h1:w.reverse.getD j 0=w.getD (w.length-1-j) 0:=by
   rw[getD_eq_getElem?_getD,getElem?_reverse hj,<-getD_eq_getElem?_getD]
  rw[<-h1,<-h]
 ·intro h;refine ext_getElem? fun j=>?_;by_cases hj:j<w.length
  ·rw[getElem?_reverse hj];have h1:=h j hj;rw[getD_eq_getElem?_getD,getD_eq_getElem?_getD,getElem?_eq_getElem hj,getElem?_eq_getElem (by omega)]at h1;rw[getElem?_eq_getElem hj,getElem?_eq_getElem (by omega)];simpa using h1
  ·rw[getElem?_eq_none (by omega),getElem?_eq_none (by rw[length_reverse];omega)]
theorem Mw{w:List UInt8}{n:Nat}(hn:w.length<=2*n+1)(h:∀ j,j<n->w.getD j 0=w.getD (w.length-1-j) 0):ca w=true:=by
 rw[GK];intro j hj;by_cases h1:j<n
 ·exact h j h1
 ·by_cases h2:w.length-1-j<n
  ·have:=h (w.length-1-j) h2;rw[show w.length-1-(w.length-1-j)=j by omega]at this;exact this.symm
  ·rw[show w.length-1-j=j by omega]
theorem NM{w:List UInt8}{j:Nat}(hj:j<w.length)(h:w.getD j 0≠w.getD (w.length-1-j) 0):ca w=false:=by
 cases hp:ca w
 ·rfl
 ·exact absurd ((GK w).1 hp j hj) h
theorem rN(u:UInt8):ca [u]=true:=by simp[ca]
def jY(P:List UInt8->Bool)(w:List UInt8):Nat->List UInt8×Nat
 | 0=>([],0)
 | n+1=>match (range (w.length-n)).find? fun i=>P (seg w i (n+1)) with
  | some i=>(seg w i (n+1),i)
  | none=>jY P w n
theorem nf{P:List UInt8->Bool}{w:List UInt8}{n i:Nat}(hi:i<w.length-n)(h:P (seg w i (n+1))=true)(h0:∀ j,j<i->P (seg w j (n+1))=false):jY P w (n+1)=(seg w i (n+1),i):=by
 unfold jY;have:(range (w.length-n)).find? (fun i=>P (seg w i (n+1)))=some i:=by
  rw[find?_range_eq_some];exact⟨h,List.mem_range.2 hi,fun j hj=>by rw[h0 j hj];rfl⟩
 rw[this]
theorem wW{P:List UInt8->Bool}{w:List UInt8}{n:Nat}(h0:∀ j,j<w.length-n->P (seg w j (n+1))=false):jY P w (n+1)=jY P w n:=by
 conv=>lhs;unfold jY
 have:(range (w.length-n)).find? (fun i=>P (seg w i (n+1)))=none:=by
  rw[find?_eq_none];intro j hj;rw[h0 j (List.mem_range.1 hj)];simp
 rw[this]
theorem qU(P:List UInt8->Bool)(w:List UInt8):∀ n,n<=w.length->(jY P w n).1.length<=n/\(jY P w n).2<=w.length
 | 0,_=>⟨Nat.le_refl _,Nat.zero_le _⟩
 | n+1,h=>by
  obtain⟨h1,h2⟩:=qU P w n (by omega);unfold jY;split
  ·rename_i i hi;have:=List.mem_range.1 (mem_of_find?_eq_some hi);exact⟨by rw[ek (by omega)];exact Nat.le_refl _,by simp only;omega⟩
  ·exact⟨by omega,h2⟩
def kG(u:List UInt8):Bool:=cA u==u.length
theorem rW(w:List UInt8):seg w 0 1=w.take 1:=nJ w 1
theorem Hw{w:List UInt8}(h:1<=w.length):∃ u,w.take 1=[u]:=by
 cases w with
 | nil=>simp at h
 | cons u w=>exact⟨u,rfl⟩
theorem GU(u:UInt8):kG [u]=true:=by
 unfold kG;rw[Js (w:=[u]) (p:=1) (Nat.le_refl _) (Nat.le_refl _) (IG [u]) (fun q h1 h2=>by omega)];rfl
theorem GP{P:List UInt8->Bool}{w:List UInt8}(hP:∀ u,P [u]=true)(h:1<=w.length):jY P w 1=(w.take 1,0):=by
 have:=nf (P:=P) (w:=w) (n:=0) (i:=0) (by omega) (by
  obtain⟨u,hu⟩:=Hw h;rw[rW w,hu];exact hP u) (fun j hj=>by omega)
 rw[this,rW w]
def uQ(w:List UInt8)(b n:Nat):Bool:=(range n).all fun i=>!(seg w (i+1) b==w.take b)
def DO(w:List UInt8)(b:Nat):Bool:=uQ w b (w.length-b-1)
theorem yZ(w:List UInt8)(b n:Nat):uQ w b (n+1)=(uQ w b n && !(seg w (n+1) b==w.take b)):=by simp[uQ,range_succ]
theorem NY{w:List UInt8}{b i n:Nat}(h:i<n)(hc:(seg w (i+1) b==w.take b)=true):uQ w b n=false:=by
 unfold uQ;rw[all_eq_false];exact⟨i,List.mem_range.2 h,by rw[hc];simp⟩
def rf(w:List UInt8)(b:Nat):Bool:=(w.drop (w.length-b)==w.take b)&&DO w b
def ny(w:List UInt8)(n:Nat):Bool:=(range n).any fun b=>rf w (b+1)
def Ay(w:List UInt8):Bool:=decide (w.length<=1)||ny w (w.length-1)
def sS:Nat->List UInt8->Bool
 | 0,_=>true
 | f+1,w=>decide (w.length<=1)||(range (w.length-1)).any fun b=>rf w (b+1)&&sS f (w.take (b+1))
theorem xe:∀(f g:Nat) (w:List UInt8),w.length<=f->w.length<=g->sS f w=sS g w
 | 0,g,w,hf,_=>by
  have:w=[]:=eq_nil_of_length_eq_zero (by omega);subst this;cases g<;>rfl
 | f+1,0,w,_,hg=>by
  have:w=[]:=eq_nil_of_length_eq_zero (by omega);subst this;rfl
 | f+1,g+1,w,hf,hg=>by
  unfold sS
  congr 1
  rw[Bool.eq_iff_iff,any_eq_true,any_eq_true];have e:∀ b,b<w.length-1->sS f (w.take (b+1))=sS g (w.take (b+1)):=fun b hb=>
   xe f g _ (by rw[length_take];omega) (by rw[length_take];omega)
  constructor
  ·rintro⟨b,hb,h⟩
   exact⟨b,hb,by rw[<-e b (List.mem_range.1 hb)];exact h⟩
  ·rintro⟨b,hb,h⟩
   exact⟨b,hb,by rw[e b (List.mem_range.1 hb)];exact h⟩
def fw(w:List UInt8):Bool:=sS w.length w
def px(w:List UInt8)(n:Nat):Bool:=(range n).any fun b=>rf w (b+1)&&fw (w.take (b+1))
theorem GX(w:List UInt8):fw w=(decide (w.length<=1)||px w (w.length-1)):=by
 unfold fw px;cases hn:w.length with
 | zero=>rfl
 | succ n=>
  unfold sS;rw[hn]
  congr 1
  rw[Bool.eq_iff_iff,any_eq_true,any_eq_true];have e:∀ b,b<n+1-1->sS n (w.take (b+1))=fw (w.take (b+1)):=fun b hb=>
   xe n _ _ (by rw[length_take];omega) (Nat.le_refl _)
  constructor
  ·rintro⟨b,hb,h⟩
   exact⟨b,hb,by rw[<-e b (List.mem_range.1 hb)];exact h⟩
  ·rintro⟨b,hb,h⟩
   exact⟨b,hb,by rw[e b (List.mem_range.1 hb)];exact h⟩
theorem x9(w:List UInt8)(n:Nat):ny w (n+1)=(ny w n||rf w (n+1)):=by simp[ny,range_succ]
theorem zd(w:List UInt8)(n:Nat):px w (n+1)=(px w n||(rf w (n+1)&&fw (w.take (n+1)))):=by simp[px,range_succ]
theorem LX{w:List UInt8}{b n:Nat}(hb:b<n)(h:rf w (b+1)=true):ny w n=true:=by
 unfold ny;rw[any_eq_true];exact⟨b,List.mem_range.2 hb,h⟩
theorem KB{w:List UInt8}{b n:Nat}(hb:b<n)(h:rf w (b+1)=true)(h2:fw (w.take (b+1))=true):px w n=true:=by
 unfold px;rw[any_eq_true];exact⟨b,List.mem_range.2 hb,by rw[h,h2];rfl⟩
def pL(w:List UInt8)(n:Nat):List (List UInt8):=((range n).filter fun b=>rf w (b+1)).map fun b=>w.take (b+1)
theorem uK(w:List UInt8)(n:Nat):pL w (n+1)=pL w n++if rf w (n+1) then [w.take (n+1)] else []:=by
 unfold pL;rw[range_succ,filter_append,map_append]
 congr 1
 cases h:rf w (n+1)<;>simp[h]
theorem xn(w:List UInt8)(n:Nat):(pL w n).length<=n:=by
 unfold pL;rw[length_map];exact Nat.le_trans (length_filter_le _ _) (by rw[length_range];exact Nat.le_refl _)
theorem Ol(w:List UInt8)(n:Nat):(pL w n).any fw=px w n:=by
 induction n with
 | zero=>rfl
 | succ n ih=>
  rw[uK,any_append,ih,zd];cases h:rf w (n+1)<;>simp
theorem IN(w:List UInt8)(n:Nat):(0<(pL w n).length)↔ny w n=true:=by
 induction n with
 | zero=>simp[pL,ny]
 | succ n ih=>
  rw[uK,length_append,x9,Bool.or_eq_true,<-ih];cases h:rf w (n+1)<;>simp
theorem Nf{w:List UInt8}{n:Nat}:∀ u∈pL w n,∃ b,b<n/\u=w.take (b+1):=by
 intro u hu;obtain⟨b,hb,rfl⟩:=List.mem_map.1 hu;exact⟨b,List.mem_range.1 (List.mem_filter.1 hb).1,rfl⟩
end Go.Proofs.YtapimhjbilkfpaaGreatDoor
namespace Go.Proofs.YtapimhjbilkfpaaGreatDoor
open Go Go.Proofs.Tryz List
def iN(l:List Int)(i:Nat):List Int:=(range l.length).map fun j=>if j<i\/l.length-i<=j then l.getD (l.length-1-j) 0 else l.getD j 0
theorem fu(l:List Int)(i:Nat):(iN l i).length=l.length:=by simp[iN]
theorem iB(l:List Int)(i:Nat){j:Nat}(hj:j<l.length):(iN l i)[j]?=some (if j<i\/l.length-i<=j then l.getD (l.length-1-j) 0 else l.getD j 0):=by
 unfold iN;rw[getElem?_map,getElem?_range hj];rfl
theorem IH(l:List Int):iN l 0=l:=by
 apply ext_getElem?;intro j;by_cases hj:j<l.length
 ·rw[iB l 0 hj,if_neg (by omega),getD_eq_getElem?_getD,getElem?_eq_getElem hj];rfl
 ·rw[getElem?_eq_none (by rw[fu];omega),getElem?_eq_none (by omega)]
theorem KH{l:List Int}{i:Nat}(h:l.length<=2*i+1):iN l i=l.reverse:=by
 apply ext_getElem?;intro j;by_cases hj:j<l.length
 ·rw[iB l i hj,getElem?_reverse hj];have hk:l.length-1-j<l.length:=by omega
  rw[getElem?_eq_getElem hk];by_cases hc:j<i\/l.length-i<=j
  ·rw[if_pos hc,getD_eq_getElem?_getD,getElem?_eq_getElem hk];rfl
  ·rw[if_neg hc,getD_eq_getElem?_getD,getElem?_eq_getElem hj];have e:l.length-1-j=j:=by omega
   simp only[e,Option.getD_some]
 ·rw[getElem?_eq_none (by rw[fu];omega),getElem?_eq_none (by rw[length_reverse];omega)]
theorem Hu{l:List Int}{i:Nat}(h:2*i+1<l.length):((iN l i).set i (l.getD (l.length-1-i) 0)).set (l.length-1-i) (l.getD i 0)=iN l (i+1):=by
 apply ext_getElem?;intro j;by_cases hj:j<l.length
 ·rw[getElem?_set,getElem?_set,iB l i hj,iB l (i+1) hj];have hlen:=fu l i;by_cases e1:l.length-1-i=j
  ·rw[if_pos e1,if_pos (by rw[length_set];omega),if_pos (by omega)]
   congr 2
   omega
  ·rw[if_neg e1];by_cases e2:i=j
   ·rw[if_pos e2,if_pos (by omega),if_pos (by omega),e2]
   ·rw[if_neg e2]
    congr 1
    by_cases hc:j<i\/l.length-i<=j
    ·rw[if_pos hc,if_pos (by omega)]
    ·rw[if_neg hc,if_neg (by omega)]
 ·rw[getElem?_eq_none (by rw[length_set,length_set,fu];omega),getElem?_eq_none (by rw[fu];omega)]
theorem rM{l:List Int}{j:Nat}(hj:j<l.length):(ints l)[j]?=some (.int .i64 (l.getD j 0)):=by
 rw[cH,getElem?_eq_getElem hj,getD_eq_getElem?_getD,getElem?_eq_getElem hj];rfl
theorem AD(b c:Nat)(l:List Int)(M:Mem)(R:VP)(hM:M b=some (.cells true (ints l) c))(hl:l.length<=1000000)(h:R (.tuple #[]) (M.put b (.cells true (ints l.reverse) c))):ar prog 328 [.slice (some ⟨b,0,none⟩) l.length c] M R:=by
 refine fnS func328 rfl ntmps328 results328 ?_;simp(disch:=omega);refine lupS [2,3,7,8,9,10,11,12,13,14,15,16,17,18,19,20,21,22,23,24,25,26,27] (fun i:Nat=>[(2,.int .i64 i),(3,.int .i64 ((l.length:Int)-1-i))]) (fun i M'=>2*i<=l.length+1/\M'=M.put b (.cells true (ints (iN l i)) c)) (fun i=>l.length+1-i) 0 ⟨by omega,?_⟩ ?_
 ·rw[IH]
  funext i
  by_cases e:i=b
  ·subst e;rw[ag,hM]
  ·rw[ai _ _ e]
 rintro i M' g ⟨hi,rfl⟩
 have hk:(M.put b (.cells true (ints (iN l i)) c)) b=some (.cells true (ints (iN l i)) c):=ag _ _ _;by_cases hlt:2*i+1<l.length
 ·have hc:(i:Int)<(l.length:Int)-1-i:=by omega
  obtain⟨q,hq⟩:∃ q:Nat,q=l.length-1-i:=⟨_,rfl⟩;have hqi:(l.length:Int)-1-i=q:=by omega
  have hst:=Hu hlt;rw[<-hq]at hst;have h1:=rM (l:=iN l i) (j:=i) (by rw[fu];omega);have h2:=rM (l:=iN l i) (j:=q) (by rw[fu];omega);have e1:(iN l i).getD i 0=l.getD i 0:=by
   rw[getD_eq_getElem?_getD,iB l i (by omega),if_neg (by omega)];rfl
  have e2:(iN l i).getD q 0=l.getD q 0:=by
   rw[getD_eq_getElem?_getD,iB l i (by omega),if_neg (by omega)];rfl
  rw[e1]at h1;rw[e2]at h2;have hsl:=fu l i;rw[hqi];generalize l.getD i 0=u at *;generalize l.getD q 0=w at *;have hnx:(l.length:Int)-1-((i:Int)+1)=(q:Int)-1:=by omega
  rw[hqi]at hc;simp(disch:=omega)[hc];refine plyS (ak [0,1,2,3,4,5,6,7,8,9,10,11,12] (.one 13 2 (ak [14] (.one 15 2 .fin)))) ?_;simp(disch:=omega)[aj hk,h1,h2,al,ints_set,ay];exact rndA (i+1) (by simp(disch:=omega);omega) ⟨by omega,by simp only[a8,hst]⟩
 ·have hc:¬(i:Int)<(l.length:Int)-1-i:=by omega
  rw[KH (by omega)];simp(disch:=omega)[hc];exact ad h
theorem zX(M:Mem)(R:VP)(h:R (.tuple #[]) M):ar prog 328 [.slice none 0 0] M R:=by
 refine fnS func328 rfl ntmps328 results328 ?_;simp(disch:=omega);refine lupS [2,3,7,8,9,10,11,12,13,14,15,16,17,18,19,20,21,22,23,24,25,26,27] (fun i:Nat=>[(2,.int .i64 0),(3,.int .i64 (-1))]) (fun i M'=>M=M') (fun i=>0) 0 rfl ?_
 rintro i N' g rfl
 simp(disch:=omega);exact ad h
theorem kV{w:List UInt8}(h:1<=w.length):(cy w)[0]?=some ((cA w:Nat):Int)/\1<=(cy w).length/\cA w<=w.length:=by
 have h1:(cy w).head?=((range w.length).find? fun q=>hp w (q+1)).map fun (p:Nat)=>((p+1:Nat):Int):=by
  unfold cy jL;rw[head?_map,head?_filter]
 cases hf:(range w.length).find? (fun q=>hp w (q+1)) with
 | none=>
  rw[find?_eq_none]at hf;have:=hf (w.length-1) (List.mem_range.2 (by omega));rw[show w.length-1+1=w.length by omega,IG]at this;exact absurd rfl this
 | some q=>
  have hq:=List.mem_range.1 (mem_of_find?_eq_some hf);have e:cA w=q+1:=by unfold cA;rw[hf];rfl
  rw[hf]at h1;rw[e];cases hL:cy w with
  | nil=>rw[hL]at h1;cases h1
  | cons z l=>
   rw[hL]at h1;exact⟨h1,by simp,by omega⟩
theorem Eu(w:List UInt8):(cy w).length<=w.length:=tO w w.length
theorem Jn{w:List UInt8}{z:Int}(h:z∈cy w):1<=z/\z<=w.length:=by
 unfold cy jL at h;obtain⟨q,hq,rfl⟩:=List.mem_map.1 h;rw[mem_filter,mem_range]at hq;omega
theorem fZ{w:List UInt8}(h:cf w=0):isWord w=true/\w≠[]/\1<=w.length/\w.length<=60:=by
 unfold cf at h;split at h
 ·rename_i hw;split at h
  ·cases h
  ·rename_i h0;exact⟨hw,h0,List.length_pos_iff.2 h0,au hw⟩
 ·cases h
theorem dc(w:List UInt8)(M:Mem)(R:VP)(hl:w.length<=60)(h:∀ v M',Own M v (ints (cy w)) M'->R v M'):ar prog 271 [str w] M R:=by
 refine fnS func271 rfl ntmps271 results271 ?_;simp(disch:=omega);intro b0 hb0;simp(disch:=omega);refine lupS [3,4,6,7,8,9,10,11,12,13,14,15,16,17,18,19,20,21,22,23,24,25] (fun x:Nat×Value=>[(4,.int .i64 (x.1:Nat)),(3,x.2)]) (fun x N=>1<=x.1/\x.1<=w.length+1/\Own M x.2 (ints (jL w (x.1-1))) N) (fun x=>w.length+1-x.1) (1,.slice (some ⟨b0,0,none⟩) 0 0) ⟨by simp only;omega,by simp only;omega,Own.new hb0 rfl (Nat.le_refl 0)⟩ ?_
 rintro⟨p,v⟩ N g ⟨hp1,hp2,ho⟩
 simp only at hp1 hp2 ho;have hpl:=tO w (p-1);by_cases hlt:p<=w.length
 ·have hltI:(p:Int)<=(w.length:Nat):=by omega
  have hs:=zg w (p-1);rw[show p-1+1=p by omega]at hs;have e:(w.length:Int)-p=((w.length-p:Nat):Int):=by omega
  have hpd:hp w p=(w.drop p==w.take (w.length-p)):=rfl;generalize jL w (p-1)=L at *;simp(disch:=omega)[hltI];refine drwS ?_;cases hpb:hp w p
  ·rw[hpb,if_neg (by decide),append_nil]at hs;rw[hpb]at hpd;have hpe:¬ w.drop p=w.take (w.length-p):=by rw[<-beq_iff_eq,<-hpd];decide
   simp(disch:=omega)[e,hpd.symm];refine rndS (p+1,v) ⟨by simp only;omega,by simp only;omega,?_⟩;simp only[Nat.add_sub_cancel];rw[hs];exact ho
  ·rw[hpb,if_pos rfl]at hs;rw[hpb]at hpd;have hpe:w.drop p=w.take (w.length-p):=eq_of_beq hpd.symm;simp(disch:=omega)[e,hpe];intro b' hb';simp(disch:=omega);refine aN ho ((Sub.refl _).put hb' _) (by simp(disch:=omega);rfl) rfl rfl (by omega) (by simp(disch:=omega)) (by simp(disch:=omega);omega) ?_;intro v' M'' N'' ho' hs';simp(disch:=omega);refine rndM M'' (p+1,v') hs' ⟨by simp only;omega,by simp only;omega,?_⟩;simp only[Nat.add_sub_cancel];rw[hs,<-cw];exact ho'
 ·have hltI:¬(p:Int)<=(w.length:Nat):=by omega
  have hpE:p-1=w.length:=by omega
  rw[hpE]at ho;simp(disch:=omega)[hltI];exact ad (h v N ho)
theorem zq(w:List UInt8)(M:Mem)(R:VP)(hl:w.length<=1099511627776)(h:Lst (aJ w) (ints (if isWord w then cy w else [])) M R):ar prog 285 [str w] M R:=by
 unfold aJ at h;refine fnS func285 rfl ntmps285 results285 ?_;simp(disch:=omega);refine ba w _ _ hl ?_;cases hw:isWord w
 ·rw[hw]at h;simp(disch:=omega);exact ad (h _ _ (Own.nil M))
 ·rw[hw,if_pos rfl,if_pos rfl]at h;simp(disch:=omega);refine dc w _ _ (au hw) ?_;intro v N o;simp(disch:=omega);exact ad (h _ _ o)
theorem gz(w:List UInt8)(M:Mem)(R:VP)(hl:w.length<=1099511627776)(h:R (.int .i64 (cf w)) M):ar prog 269 [str w] M R:=by
 unfold cf at h;refine fnS func269 rfl ntmps269 results269 ?_;simp(disch:=omega);refine ba w _ _ hl ?_;cases hw:isWord w
 ·rw[hw]at h;simp(disch:=omega);exact ad h
 ·rw[hw,if_pos rfl]at h;by_cases h0:w=[]
  ·rw[if_pos h0]at h;subst h0;simp(disch:=omega);exact ad h
  ·rw[if_neg h0]at h;have he:(w==[])=false:=jg h0;have he2:w.isEmpty=false:=by cases w with
    | nil=>exact absurd rfl h0
    | cons a l=>rfl
   simp(disch:=omega)[he];exact ad h
theorem Dr(w:List UInt8)(M:Mem)(R:VP)(hl:w.length<=60)(h1:1<=w.length)(h:∀ M',Sub M M'->R (str (ee w)) M'):ar prog 270 [str w] M R:=by
 unfold ee at h;refine fnS func270 rfl ntmps270 results270 ?_;simp(disch:=omega);refine dc w _ _ hl ?_;intro v N o;obtain⟨p1,p2,p3⟩:=kV h1;have p0:1<=cA w:=by unfold cA;omega
 obtain⟨a,c,rfl,ha⟩:=o.rd.opened;rw[ay]at ha ⊢;rcases ha with h0|⟨b,o',rfl,ha⟩
 ·omega
 have hg:=ha 0 (by omega);rw[cH,p1,Option.map_some,Nat.add_zero]at hg;have sN:=o.sub;clear ha o;generalize cA w=p at *;generalize (cy w).length=n at *;have e:((w.length:Int).tmod (p:Int)=0)↔w.length%p=0:=by
  rw[Int.tmod_eq_emod_of_nonneg (by omega)];omega
 have hp0:¬(p:Int)=0:=by omega
 by_cases hd:w.length%p=0
 ·have hd':=e.2 hd;rw[if_pos hd]at h;simp(disch:=omega)[hg,hd'];exact ad (h _ sN)
 ·have hd':¬(w.length:Int).tmod (p:Int)=0:=fun q=>hd (e.1 q);rw[if_neg hd]at h;simp(disch:=omega)[hg];exact ad (h _ sN)
theorem GQ(w:List UInt8)(M:Mem)(R:VP)(hl:w.length<=1099511627776)(h:∀ M',Sub M M'->R (.tuple #[str (lO w),.int .i64 (ph w),.int .i64 (cf w)]) M'):ar prog 183 [str w] M R:=by
 unfold lO ph at h;refine fnS func183 rfl ntmps183 results183 ?_;simp(disch:=omega);refine gz w _ _ hl ?_;by_cases hc:cf w=0
 ·rw[if_pos hc,if_pos hc,hc]at h;obtain⟨hw,h0,h1,h60⟩:=fZ hc;rw[hc];simp(disch:=omega);refine Dr w _ _ h60 h1 ?_;intro M1 s1;have hr1:1<=(ee w).length/\(ee w).length<=60:=by
   obtain⟨p1,p2,p3⟩:=kV h1;have p0:1<=cA w:=by unfold cA;omega
   unfold ee;split
   ·rw[length_take];omega
   ·omega
  have hr0:¬((ee w).length:Int)=0:=by omega
  have ed:((w.length:Int).tdiv ((ee w).length:Int))=((w.length/(ee w).length:Nat):Int):=by
   rw[Int.tdiv_eq_ediv_of_nonneg (by omega)];rfl
  have eb:(w.length/(ee w).length)<=60:=Nat.le_trans (Nat.div_le_self _ _) h60;generalize ee w=r at *;generalize w.length/r.length=q at *;have hrn:¬ r=[]:=by intro e;rw[e]at hr1;simp at hr1
  simp(disch:=omega);refine drwS ?_;simp(disch:=omega)[hrn,ed];exact ad (h _ s1)
 ·rw[if_neg hc,if_neg hc]at h;generalize cf w=c at *;simp(disch:=omega);exact ad (h _ (Sub.refl _))
def pj(w:List UInt8)(i:Nat):List Int:=(((cy w).drop ((cy w).length-i)).map fun p=>(w.length:Int)-p).reverse
theorem II(w:List UInt8):pj w 0=[]:=by unfold pj;rw[Nat.sub_zero,drop_length];rfl
theorem Lh(w:List UInt8):pj w (cy w).length=ig w:=by unfold pj ig;rw[Nat.sub_self,drop_zero]
theorem Iq{w:List UInt8}{i:Nat}(h:i<(cy w).length):pj w (i+1)=pj w i++[(w.length:Int)-(cy w).getD ((cy w).length-1-i) 0]:=by
 unfold pj;have hj:(cy w).length-(i+1)<(cy w).length:=by omega
 rw[drop_eq_getElem_cons hj,map_cons,reverse_cons,show (cy w).length-(i+1)+1=(cy w).length-i by omega]
 congr 2
 rw[getD_eq_getElem?_getD,getElem?_eq_getElem (by omega)];simp only[Option.getD_some]
 congr 2
 omega
theorem LM{w:List UInt8}{i:Nat}(h:i<=(cy w).length):(pj w i).length=i:=by
 unfold pj;rw[length_reverse,length_map,length_drop];omega
def wk(w:List UInt8)(i:Nat):List Int:=((cy w).take i).map (fun p=>(w.length:Int)-p)++(cy w).drop i
theorem LH(w:List UInt8):wk w 0=cy w:=by simp[wk]
theorem NT(w:List UInt8):(wk w (cy w).length).reverse=ig w:=by unfold wk ig;rw[take_length,drop_length,append_nil]
theorem Ov(w:List UInt8)(i:Nat):(wk w i).length=(cy w).length:=by
 unfold wk;rw[length_append,length_map,length_take,length_drop];omega
theorem Q2{w:List UInt8}{i:Nat}(h:i<(cy w).length):(wk w i).getD i 0=(cy w).getD i 0:=by
 unfold wk;have hl:(((cy w).take i).map fun p=>(w.length:Int)-p).length=i:=by rw[length_map,length_take];omega
 rw[getD_eq_getElem?_getD,getElem?_append_right (by omega),hl,getElem?_drop,Nat.sub_self,Nat.add_zero,<-getD_eq_getElem?_getD]
theorem OA{w:List UInt8}{i:Nat}(h:i<(cy w).length):(wk w i).set i ((w.length:Int)-(cy w).getD i 0)=wk w (i+1):=by
 unfold wk;have hl:(((cy w).take i).map fun p=>(w.length:Int)-p).length=i:=by rw[length_map,length_take];omega
 rw[az _ h,map_append,drop_eq_getElem_cons h,set_append_right _ _ (by omega),hl,Nat.sub_self,set_cons_zero,append_assoc]
 congr 2
 rw[getD_eq_getElem?_getD,getElem?_eq_getElem h];rfl
theorem yu(w:List UInt8)(M:Mem)(R:VP)(hl:w.length<=1099511627776)(h:∀ v M',Sub M M'->Rd M' v (ints (if isWord w then ig w else []))->R (aD v (aJ w)) M'):ar prog 284 [str w] M R:=by
 unfold aD aJ at h;refine fnS func284 rfl ntmps284 results284 ?_;simp(disch:=omega);refine ba w _ _ hl ?_;cases hw:isWord w
 ·rw[hw]at h;simp(disch:=omega);exact ad (h _ _ (Sub.refl M) (.inl ⟨none,0,rfl,rfl⟩))
 ·rw[hw,if_pos rfl,if_pos rfl]at h;have h60:=au hw;simp(disch:=omega);refine dc w _ _ h60 ?_;intro v N o;have hpl:=Eu w;have hpin:=fun z (hz:z∈cy w)=>Jn hz;have hst:=fun i (hi:i<(cy w).length)=>Iq hi;have hle:=fun i (hi:i<=(cy w).length)=>LM hi;have hz0:=II w;have hza:=Lh w;obtain⟨a,c,rfl,ha⟩:=o.rd.opened;have sN:=o.sub;rw[ay]at ha ⊢;clear o;generalize hB:pj w=B at *;clear hB;generalize hP:cy w=P at *;simp(disch:=omega);intro b0 hb0;simp(disch:=omega);refine lupS [5,6,16,17,18,19,20,21,22,23,24,25,26,27,28,29] (fun x:Nat×Value=>[(6,.int .i64 ((P.length:Int)-1-(x.1:Nat))),(5,x.2)]) (fun x N'=>x.1<=P.length/\Own N x.2 (ints (B x.1)) N') (fun x=>P.length-x.1) (0,.slice (some ⟨b0,0,none⟩) 0 0) ⟨Nat.zero_le _,by simp only;rw[hz0];exact Own.new hb0 rfl (Nat.le_refl 0)⟩ ?_
  rintro⟨i,vo⟩ N' g ⟨hi,oo⟩
  simp only at hi oo;have hbl:=hle i hi;by_cases hlt:i<P.length
  ·rcases ha with h0|⟨b,o',rfl,ha⟩
   ·omega
   obtain⟨q,hq⟩:∃ q:Nat,q=P.length-1-i:=⟨_,rfl⟩;have hqI:(P.length:Int)-1-i=q:=by omega
   have hnx:(P.length:Int)-1-((i:Int)+1)=(q:Int)-1:=by omega
   have hs:=hst i hlt;rw[<-hq]at hs;have hg:=ha q (by omega);rw[rM (by omega)]at hg;have hg:=aT hg oo.sub;have hin:=hpin (P.getD q 0) (by rw[getD_eq_getElem?_getD,getElem?_eq_getElem (by omega)];exact getElem_mem _);have hqp:(0:Int)<=q:=by omega
   rw[hqI];generalize P.getD q 0=z at *;simp(disch:=omega)[hg,hqp];intro b' hb';simp(disch:=omega);refine aN oo ((Sub.refl _).put hb' _) (by simp(disch:=omega);rfl) rfl rfl (by omega) (by simp(disch:=omega)) (by simp(disch:=omega);omega) ?_;intro v' M'' N'' o'' s'';rw[cw,<-hs]at o'';simp(disch:=omega);exact rndB M'' (i+1,v') s'' (by simp(disch:=omega)[hnx]) ⟨by simp only;omega,o''⟩
  ·have hiE:i=P.length:=by omega
   subst hiE;rw[hza]at oo;have hneg:¬(0:Int)<=(P.length:Int)-1-(P.length:Nat):=by omega
   simp(disch:=omega);exact ad (h _ _ (sN.trans oo.sub) oo.rd)
theorem yQ(w:List UInt8)(M:Mem)(R:VP)(hl:w.length<=1099511627776)(h:∀ v M',Sub M M'->Rd M' v (ints (if isWord w then ig w else []))->R (aD v (aJ w)) M'):ar prog 234 [str w] M R:=by
 unfold aD at h;refine fnS func234 rfl ntmps234 results234 ?_;simp(disch:=omega);refine mq w _ _ hl ?_;intro v N o;cases hw:isWord w
 ·have hc:aJ w=1:=by unfold aJ;rw[hw];rfl
  rw[hw,hc]at h;rw[hw,if_neg (by decide)]at o;rw[hc];simp(disch:=omega);exact ad (h _ _ o.sub (.inl ⟨none,0,rfl,rfl⟩))
 ·have hc:aJ w=0:=by unfold aJ;rw[hw];rfl
  rw[hw,if_pos rfl,hc]at h;rw[hw,if_pos rfl]at o;rw[hc];have h60:=au hw;have hpl:=Eu w;have hpin:=fun z (hz:z∈cy w)=>Jn hz;have hS0:=LH w;have hSa:=NT w;have hSl:=Ov w;have hSat:=fun i (hi:i<(cy w).length)=>Q2 hi;have hSst:=fun i (hi:i<(cy w).length)=>OA hi;have sN:=o.sub;generalize hB:wk w=S at *;clear hB;generalize hP:cy w=P at *;rcases o with ⟨rfl,e0,rfl⟩|⟨b,c,rfl,hb,hbc,rfl⟩
  ·have hP0:P=[]:=by
    cases P with
    | nil=>rfl
    | cons z l=>cases e0
   rw[hP0]at hSa;simp only[length_nil]at hSa;have hbz:ig w=[]:=by
    rw[<-hSa];have:=hSl 0;rw[hP0]at this;rw[eq_nil_of_length_eq_zero this];rfl
   rw[hbz]at h;simp(disch:=omega);refine lupS [6,7,18,19,20,21,22,23,24,25,26,27,28,29,30] (fun i:Nat=>[(18,.int .i64 i)]) (fun i N'=>N=N'/\i=0) (fun i=>0) 0 ⟨rfl,rfl⟩ ?_
   rintro i N' g ⟨rfl,rfl⟩
   simp(disch:=omega);refine zX _ _ ?_;simp(disch:=omega);exact ad (h _ _ (Sub.refl _) (.inl ⟨none,0,rfl,rfl⟩))
  ·rw[ay]at hbc ⊢;simp(disch:=omega);refine lupS [6,7,18,19,20,21,22,23,24,25,26,27,28,29,30] (fun i:Nat=>[(18,.int .i64 i)]) (fun i N'=>i<=P.length/\N'=M.put b (.cells true (ints (S i)) c)) (fun i=>P.length-i) 0 ⟨Nat.zero_le _,by rw[hS0]⟩ ?_
   rintro i N' g ⟨hi,rfl⟩
   have hk:(M.put b (.cells true (ints (S i)) c)) b=some (.cells true (ints (S i)) c):=ag _ _ _;by_cases hlt:i<P.length
   ·have hsl:=hSl i;have h1:=rM (l:=S i) (j:=i) (by omega);rw[hSat i hlt]at h1;have hset:=hSst i hlt;have hin:=hpin (P.getD i 0) (by rw[getD_eq_getElem?_getD,getElem?_eq_getElem hlt];exact getElem_mem _);generalize P.getD i 0=z at *;simp(disch:=omega)[aj hk,h1];refine bV w _ _ hl ?_;simp(disch:=omega)[al,ints_set,hset,hsl];exact rndS (i+1) ⟨by omega,by simp only[a8]⟩
   ·have hiE:i=P.length:=by omega
    subst hiE;have hsl:=hSl P.length;generalize S P.length=L at *;rw[<-hsl]at hbc ⊢;simp(disch:=omega);refine AD b c L _ _ hk (by omega) ?_;rw[a8,hSa];have hbl:(ig w).length=L.length:=by rw[<-hSa,length_reverse]
    rw[<-hbl]at hbc ⊢;have o9:=Own.new (M:=M) (xs:=ints (ig w)) (n:=(ig w).length) (c:=c) hb (ay _) hbc;simp(disch:=omega);exact ad (h _ _ o9.sub o9.rd)
end Go.Proofs.YtapimhjbilkfpaaGreatDoor
