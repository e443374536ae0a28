/- Lemmas for FnExactDeskAfter, part 20 of 33. -/
import Derived.Test.YtapimhjbilkfpaaGreatDoorZ17
set_option linter.unusedVariables false
set_option linter.unusedSimpArgs false
namespace Go.Proofs.YtapimhjbilkfpaaGreatDoor
open List
theorem yj{a b c d:B8}(h:a.length=b.length):(a++c<b++d)↔(a<b\/(a=b/\c<d)):=by
 induction a generalizing b with
 | nil=>
  cases b with
  | nil=>simp
  | cons y b=>simp at h
 | cons x a ih=>
  cases b with
  | nil=>simp at h
  | cons y b=>
   simp only[length_cons,Nat.add_right_cancel_iff]at h;have ih:=ih h;clear h;rw[cons_append,cons_append,cons_lt_cons_iff,cons_lt_cons_iff,ih];constructor
   ·rintro(h|⟨rfl,h|⟨rfl,h⟩⟩)
    ·exact .inl (.inl h)
    ·exact .inl (.inr ⟨rfl,h⟩)
    ·exact .inr ⟨rfl,h⟩
   ·rintro((h0|⟨rfl,h0⟩)|⟨h0,h2⟩)
    ·exact .inl h0
    ·exact .inr ⟨rfl,.inl h0⟩
    ·injection h0 with h3 h4
     subst h3;subst h4;exact .inr ⟨rfl,.inr ⟨rfl,h2⟩⟩
def Od(w:B8):Bool:=(range (w.length-1)).all fun k=>decide (w<w.drop (k+1)++w.take (k+1))
def uY(w:B8):Bool:=(range (w.length-1)).all fun k=>decide (w<w.drop (k+1))
theorem K7{w:B8}{k:Nat}(hk:k<=w.length):(w<w.drop k)↔w.take (w.length-k)<w.drop k:=by
 have h1:w=w.take (w.length-k)++w.drop (w.length-k):=(take_append_drop _ _).symm;have hl:(w.take (w.length-k)).length=(w.drop k).length:=by rw[lTa,length_drop];omega
 have h2:=yj (c:=w.drop (w.length-k)) (d:=[]) hl;rw[append_nil,take_append_drop]at h2;rw[h2];exact⟨fun h=>h.elim id fun h=>absurd h.2 (not_lt_nil _),.inl⟩
theorem G0{w:B8}{k:Nat}(hk:k<=w.length):(w<w.drop k++w.take k)↔(w.take (w.length-k)<w.drop k\/(w.take (w.length-k)=w.drop k/\w.drop (w.length-k)<w.take k)):=by
 have hl:(w.take (w.length-k)).length=(w.drop k).length:=by rw[lTa,length_drop];omega
 have h2:=yj (c:=w.drop (w.length-k)) (d:=w.take k) hl;rw[take_append_drop]at h2;exact h2
theorem QT(w:B8):Od w=uY w:=by
 rw[Bool.eq_iff_iff];unfold Od uY;rw[all_eq_true,all_eq_true];constructor
 ·intro h k hk;have hk':=List.mem_range.1 hk;have h1:=of_decide_eq_true (h k hk);refine decide_eq_true ?_;rw[K7 (by omega)];rcases(G0 (by omega)).1 h1 with h1|⟨h1,h2⟩
  ·exact h1
  ·exfalso;obtain⟨j,hj⟩:∃ j,w.length-(k+1)=j+1:=⟨w.length-(k+1)-1,by omega⟩;have h3:=of_decide_eq_true (h j (List.mem_range.2 (by omega)));rw[hj]at h1 h2;have h4:w.take (k+1)++w.drop (k+1)<w.drop (j+1)++w.take (j+1):=by rw[take_append_drop];exact h3
   rcases(yj (by rw[lTa,length_drop];omega)).1 h4 with h5|⟨h5,h6⟩
   ·exact List.lt_asymm h2 h5
   ·rw[h1]at h6;exact List.lt_irrefl _ h6
 ·intro h k hk;have hk':=List.mem_range.1 hk;have h1:=of_decide_eq_true (h k hk);rw[K7 (by omega)]at h1;exact decide_eq_true ((G0 (by omega)).2 (.inl h1))
def ca(w:B8):Nat->Nat
 | 0=>0
 | m+1=>if uY (w.take (m+1)) then m+1 else ca w m
theorem qw(w:B8):∀ m,ca w m<=m
 | 0=>lRf _
 | m+1=>by
  unfold ca;split
  ·exact lRf _
  ·exact Nat.le_trans (qw w m) (Nat.le_succ _)
theorem wD{w:B8}(h:1<=w.length):ca w 1=1:=by
 cases w with
 | nil=>simp at h
 | cons u w=>rfl
theorem ik{w:B8}(h:1<=w.length):∀ m,1<=m->1<=ca w m
 | 0,hm=>by omega
 | m+1,_=>by
  by_cases e:m=0
  ·subst e;rw[wD h];exact lRf _
  ·unfold ca;split
   ·omega
   ·exact ik h m (by omega)
def rJ:Nat->B8->List B8
 | 0,_=>[]
 | f+1,w=>if w=[] then [] else w.take (ca w w.length)::rJ f (w.drop (ca w w.length))
theorem HT:∀(f:Nat) (w:B8),(rJ f w).length<=f
 | 0,_=>lRf _
 | f+1,w=>by
  unfold rJ;split
  ·exact lZe _
  ·rw[length_cons];have:=HT f (w.drop (ca w w.length));omega
theorem CU:∀(f g:Nat) (w:B8),w.length<=f->w.length<=g->rJ f w=rJ g w
 | 0,g,w,hf,_=>by
  have:w=[]:=eq_nil_of_length_eq_zero (by omega);subst this;cases g<;>rfl
 | f+1,0,w,_,hg=>by
  have:w=[]:=eq_nil_of_length_eq_zero (by omega);subst this;rfl
 | f+1,g+1,w,hf,hg=>by
  unfold rJ;by_cases h:w=[]
  ·rw[if_pos h,if_pos h]
  ·rw[if_neg h,if_neg h];have h1:1<=w.length:=List.length_pos_iff.2 h;have hb:=ik h1 w.length h1;rw[CU f g _ (by rw[length_drop];omega) (by rw[length_drop];omega)]
def ld(w:B8):List B8:=rJ w.length w
theorem BN{w:B8}(h:w≠[]):ld w=w.take (ca w w.length)::ld (w.drop (ca w w.length)):=by
 have h1:1<=w.length:=List.length_pos_iff.2 h;have hb:=ik h1 w.length h1;obtain⟨n,hn⟩:∃ n,w.length=n+1:=⟨w.length-1,by omega⟩;have e:rJ (n+1) w=w.take (ca w w.length)::rJ n (w.drop (ca w w.length)):=by rw[rJ,if_neg h]
 have e2:rJ w.length w=rJ (n+1) w:=by rw[<-hn]
 have e3:=CU n (w.drop (ca w w.length)).length (w.drop (ca w w.length)) (by rw[length_drop];omega) (lRf _);unfold ld;rw[e2,e,e3]
theorem HW:ld []=[]:=rfl
def ltF(w:B8):Nat->B8×Nat
 | 0=>(w,0)
 | k+1=>if w.drop k++w.take k<(ltF w k).1 then (w.drop k++w.take k,k) else ltF w k
theorem KT(w:B8):ltF w 1=(w,0):=by
 unfold ltF;rw[if_neg]
 ·rfl
 ·rw[drop_zero,take_zero,append_nil];exact List.lt_irrefl _
theorem tj(w:B8):∀ n,(ltF w n).1.length=w.length/\(ltF w n).2<=n
 | 0=>⟨rfl,lRf _⟩
 | n+1=>by
  obtain⟨h1,h2⟩:=tj w n;unfold ltF;split
  ·refine⟨?_,Nat.le_succ _⟩;simp only[lAp,length_drop,lTa];omega
  ·exact⟨h1,by omega⟩
def lQ(w:B8)(p a n:Nat):Bool:=(range n).all fun t=>w.getD (a+t) 0==w.getD (a+t+p) 0
theorem pq(w:B8)(p a n:Nat):lQ w p a (n+1)=(lQ w p a n&&(w.getD (a+n) 0==w.getD (a+n+p) 0)):=by simp[lQ,range_succ]
def lpB(w:B8)(i p:Nat):Bool:=lQ w p (i-p) (min i (w.length-p)-(i-p))
theorem LQ{w:B8}{i p:Nat}(h:w.length<=p):lpB w i p=true:=by
 unfold lpB;rw[show min i (w.length-p)-(i-p)=0 by omega];rfl
def lpF(w:B8)(i:Nat):Nat:=((range (w.length+1)).find? fun q=>lpB w i (q+1)).getD 0+1
theorem nz{w:B8}{i p:Nat}(h1:1<=p)(h2:p<=w.length+1)(h3:lpB w i p=true)(h4:∀ q,1<=q->q<p->lpB w i q=false):lpF w i=p:=by
 unfold lpF;have:(range (w.length+1)).find? (fun q=>lpB w i (q+1))=some (p-1):=by
  rw[find?_range_eq_some];refine⟨by rw[show p-1+1=p by omega];exact h3,List.mem_range.2 (by omega),fun j hj=>?_⟩;rw[h4 (j+1) (by omega) (by omega)];rfl
 rw[this];simp only[Option.getD_some];omega
def ie(w:B8)(n:Nat):List Int:=((range n).filter fun i=>lpF w (i+1)==cE w).map fun (i:Nat)=>((i+1:Nat):Int)
theorem yF(w:B8)(n:Nat):ie w (n+1)=ie w n++if lpF w (n+1)==cE w then [((n+1:Nat):Int)] else []:=by
 unfold ie;rw[range_succ,filter_append,map_append]
 congr 1
 cases h:(lpF w (n+1)==cE w)<;>simp[h]
theorem u0(w:B8)(n:Nat):(ie w n).length<=n:=by
 unfold ie;rw[length_map];exact Nat.le_trans (length_filter_le _ _) (by rw[length_range];exact lRf _)
def iJ(w:B8):List Int:=((cC w).map fun p=>(w.length:Int)-p).reverse
theorem Hb(w:B8):ch w=true↔∀ j,j<w.length->w.getD j 0=w.getD (w.length-1-j) 0:=by
 unfold ch;rw[beq_iff_eq];constructor
 ·intro h j hj;have h1:w.reverse.getD j 0=w.getD (w.length-1-j) 0:=by
   rw[gDe,getElem?_reverse hj,<-gDe]
  rw[<-h1,<-h]
 ·intro h;refine ext_getElem? fun j=>?_;by_cases hj:j<w.length
  ·rw[getElem?_reverse hj];have h1:=h j hj;rw[gDe,gDe,gEl hj,gEl (by omega)]at h1;rw[gEl hj,gEl (by omega)];simpa using h1
  ·rw[getElem?_eq_none (by omega),getElem?_eq_none (by rw[length_reverse];omega)]
theorem No{w:B8}{n:Nat}(hn:w.length<=2*n+1)(h:∀ j,j<n->w.getD j 0=w.getD (w.length-1-j) 0):ch w=true:=by
 rw[Hb];intro j hj;by_cases h1:j<n
 ·exact h j h1
 ·by_cases h2:w.length-1-j<n
  ·have:=h (w.length-1-j) h2;rw[show w.length-1-(w.length-1-j)=j by omega]at this;exact this.symm
  ·rw[show w.length-1-j=j by omega]
theorem Om{w:B8}{j:Nat}(hj:j<w.length)(h:w.getD j 0≠w.getD (w.length-1-j) 0):ch w=false:=by
 cases hp:ch w
 ·rfl
 ·exact absurd ((Hb w).1 hp j hj) h
theorem sH(u:UInt8):ch [u]=true:=by simp[ch]
def kI(P:B8->Bool)(w:B8):Nat->B8×Nat
 | 0=>([],0)
 | n+1=>match (range (w.length-n)).find? fun i=>P (seg w i (n+1)) with
  | some i=>(seg w i (n+1),i)
  | none=>kI P w n
theorem oD{P:B8->Bool}{w:B8}{n i:Nat}(hi:i<w.length-n)(h:P (seg w i (n+1))=true)(h0:∀ j,j<i->P (seg w j (n+1))=false):kI P w (n+1)=(seg w i (n+1),i):=by
 unfold kI;have:(range (w.length-n)).find? (fun i=>P (seg w i (n+1)))=some i:=by
  rw[find?_range_eq_some];exact⟨h,List.mem_range.2 hi,fun j hj=>by rw[h0 j hj];rfl⟩
 rw[this]
theorem xv{P:B8->Bool}{w:B8}{n:Nat}(h0:∀ j,j<w.length-n->P (seg w j (n+1))=false):kI P w (n+1)=kI P w n:=by
 conv=>lhs;unfold kI
 have:(range (w.length-n)).find? (fun i=>P (seg w i (n+1)))=none:=by
  rw[find?_eq_none];intro j hj;rw[h0 j (List.mem_range.1 hj)];simp
 rw[this]
theorem ry(P:B8->Bool)(w:B8):∀ n,n<=w.length->(kI P w n).1.length<=n/\(kI P w n).2<=w.length
 | 0,_=>⟨lRf _,lZe _⟩
 | n+1,h=>by
  obtain⟨h1,h2⟩:=ry P w n (by omega);unfold kI;split
  ·rename_i i hi;have:=List.mem_range.1 (mem_of_find?_eq_some hi);exact⟨by rw[eB (by omega)];exact lRf _,by simp only;omega⟩
  ·exact⟨by omega,h2⟩
def lj(u:B8):Bool:=cE u==u.length
theorem se(w:B8):seg w 0 1=w.take 1:=nE w 1
theorem Kx{w:B8}(h:1<=w.length):∃ u,w.take 1=[u]:=by
 cases w with
 | nil=>simp at h
 | cons u w=>exact⟨u,rfl⟩
theorem GX(u:UInt8):lj [u]=true:=by
 unfold lj;rw[LX (w:=[u]) (p:=1) (lRf _) (lRf _) (ID [u]) (fun q h1 h2=>by omega)];rfl
theorem Hi{P:B8->Bool}{w:B8}(hP:∀ u,P [u]=true)(h:1<=w.length):kI P w 1=(w.take 1,0):=by
 have:=oD (P:=P) (w:=w) (n:=0) (i:=0) (by omega) (by
  obtain⟨u,hu⟩:=Kx h;rw[se w,hu];exact hP u) (fun j hj=>by omega)
 rw[this,se w]
def vX(w:B8)(b n:Nat):Bool:=(range n).all fun i=>!(seg w (i+1) b==w.take b)
def D9(w:B8)(b:Nat):Bool:=vX w b (w.length-b-1)
theorem zi(w:B8)(b n:Nat):vX w b (n+1)=(vX w b n && !(seg w (n+1) b==w.take b)):=by simp[vX,range_succ]
theorem PI{w:B8}{b i n:Nat}(h:i<n)(hc:(seg w (i+1) b==w.take b)=true):vX w b n=false:=by
 unfold vX;rw[all_eq_false];exact⟨i,List.mem_range.2 h,by rw[hc];simp⟩
def rC(w:B8)(b:Nat):Bool:=(w.drop (w.length-b)==w.take b)&&D9 w b
def oa(w:B8)(n:Nat):Bool:=(range n).any fun b=>rC w (b+1)
def Bj(w:B8):Bool:=decide (w.length<=1)||oa w (w.length-1)
def sV:Nat->B8->Bool
 | 0,_=>true
 | f+1,w=>decide (w.length<=1)||(range (w.length-1)).any fun b=>rC w (b+1)&&sV f (w.take (b+1))
theorem zB:∀(f g:Nat) (w:B8),w.length<=f->w.length<=g->sV f w=sV g w
 | 0,g,w,hf,_=>by
  have:w=[]:=eq_nil_of_length_eq_zero (by omega);subst this;cases g<;>rfl
 | f+1,0,w,_,hg=>by
  have:w=[]:=eq_nil_of_length_eq_zero (by omega);subst this;rfl
 | f+1,g+1,w,hf,hg=>by
  unfold sV
  congr 1
  rw[Bool.eq_iff_iff,any_eq_true,any_eq_true];have e:∀ b,b<w.length-1->sV f (w.take (b+1))=sV g (w.take (b+1)):=fun b hb=>
   zB f g _ (by rw[lTa];omega) (by rw[lTa];omega)
  constructor
  ·rintro⟨b,hb,h⟩
   exact⟨b,hb,by rw[<-e b (List.mem_range.1 hb)];exact h⟩
  ·rintro⟨b,hb,h⟩
   exact⟨b,hb,by rw[e b (List.mem_range.1 hb)];exact h⟩
def fF(w:B8):Bool:=sV w.length w
def pL(w:B8)(n:Nat):Bool:=(range n).any fun b=>rC w (b+1)&&fF (w.take (b+1))
theorem H2(w:B8):fF w=(decide (w.length<=1)||pL w (w.length-1)):=by
 unfold fF pL;cases hn:w.length with
 | zero=>rfl
 | succ n=>
  unfold sV;rw[hn]
  congr 1
  rw[Bool.eq_iff_iff,any_eq_true,any_eq_true];have e:∀ b,b<n+1-1->sV n (w.take (b+1))=fF (w.take (b+1)):=fun b hb=>
   zB n _ _ (by rw[lTa];omega) (lRf _)
  constructor
  ·rintro⟨b,hb,h⟩
   exact⟨b,hb,by rw[<-e b (List.mem_range.1 hb)];exact h⟩
  ·rintro⟨b,hb,h⟩
   exact⟨b,hb,by rw[e b (List.mem_range.1 hb)];exact h⟩
theorem zM(w:B8)(n:Nat):oa w (n+1)=(oa w n||rC w (n+1)):=by simp[oa,range_succ]
theorem zf(w:B8)(n:Nat):pL w (n+1)=(pL w n||(rC w (n+1)&&fF (w.take (n+1)))):=by simp[pL,range_succ]
theorem Me{w:B8}{b n:Nat}(hb:b<n)(h:rC w (b+1)=true):oa w n=true:=by
 unfold oa;rw[any_eq_true];exact⟨b,List.mem_range.2 hb,h⟩
theorem MX{w:B8}{b n:Nat}(hb:b<n)(h:rC w (b+1)=true)(h2:fF (w.take (b+1))=true):pL w n=true:=by
 unfold pL;rw[any_eq_true];exact⟨b,List.mem_range.2 hb,by rw[h,h2];rfl⟩
def qU(w:B8)(n:Nat):List B8:=((range n).filter fun b=>rC w (b+1)).map fun b=>w.take (b+1)
theorem uH(w:B8)(n:Nat):qU w (n+1)=qU w n++if rC w (n+1) then [w.take (n+1)] else []:=by
 unfold qU;rw[range_succ,filter_append,map_append]
 congr 1
 cases h:rC w (n+1)<;>simp[h]
theorem AJ(w:B8)(n:Nat):(qU w n).length<=n:=by
 unfold qU;rw[length_map];exact Nat.le_trans (length_filter_le _ _) (by rw[length_range];exact lRf _)
theorem OD(w:B8)(n:Nat):(qU w n).any fF=pL w n:=by
 induction n with
 | zero=>rfl
 | succ n ih=>
  rw[uH,any_append,ih,zf];cases h:rC w (n+1)<;>simp
theorem JP(w:B8)(n:Nat):(0<(qU w n).length)↔oa w n=true:=by
 induction n with
 | zero=>simp[qU,oa]
 | succ n ih=>
  rw[uH,lAp,zM,Bool.or_eq_true,<-ih];cases h:rC w (n+1)<;>simp
theorem QH{w:B8}{n:Nat}:∀ u∈qU w n,∃ b,b<n/\u=w.take (b+1):=by
 intro u hu;obtain⟨b,hb,rfl⟩:=List.mem_map.1 hu;exact⟨b,List.mem_range.1 (List.mem_filter.1 hb).1,rfl⟩
end Go.Proofs.YtapimhjbilkfpaaGreatDoor
namespace Go.Proofs.YtapimhjbilkfpaaGreatDoor
open Go Go.Proofs.Tryz List
def jE(l:List Int)(i:Nat):List Int:=(range l.length).map fun j=>if j<i\/l.length-i<=j then l.getD (l.length-1-j) 0 else l.getD j 0
theorem fH(l:List Int)(i:Nat):(jE l i).length=l.length:=by simp[jE]
theorem iX(l:List Int)(i:Nat){j:Nat}(hj:j<l.length):(jE l i)[j]?=some (if j<i\/l.length-i<=j then l.getD (l.length-1-j) 0 else l.getD j 0):=by
 unfold jE;rw[getElem?_map,getElem?_range hj];rfl
theorem Jo(l:List Int):jE l 0=l:=by
 apply ext_getElem?;intro j;by_cases hj:j<l.length
 ·rw[iX l 0 hj,if_neg (by omega),gDe,gEl hj];rfl
 ·rw[getElem?_eq_none (by rw[fH];omega),getElem?_eq_none (by omega)]
theorem Mg{l:List Int}{i:Nat}(h:l.length<=2*i+1):jE l i=l.reverse:=by
 apply ext_getElem?;intro j;by_cases hj:j<l.length
 ·rw[iX l i hj,getElem?_reverse hj];have hk:l.length-1-j<l.length:=by omega
  rw[gEl hk];by_cases hc:j<i\/l.length-i<=j
  ·rw[if_pos hc,gDe,gEl hk];rfl
  ·rw[if_neg hc,gDe,gEl hj];have e:l.length-1-j=j:=by omega
   simp only[e,Option.getD_some]
 ·rw[getElem?_eq_none (by rw[fH];omega),getElem?_eq_none (by rw[length_reverse];omega)]
theorem IQ{l:List Int}{i:Nat}(h:2*i+1<l.length):((jE l i).set i (l.getD (l.length-1-i) 0)).set (l.length-1-i) (l.getD i 0)=jE l (i+1):=by
 apply ext_getElem?;intro j;by_cases hj:j<l.length
 ·rw[getElem?_set,getElem?_set,iX l i hj,iX l (i+1) hj];have hlen:=fH l i;by_cases e1:l.length-1-i=j
  ·rw[if_pos e1,if_pos (by rw[length_set];omega),if_pos (by omega)]
   congr 2
   omega
  ·rw[if_neg e1];by_cases e2:i=j
   ·rw[if_pos e2,if_pos (by omega),if_pos (by omega),e2]
   ·rw[if_neg e2]
    congr 1
    by_cases hc:j<i\/l.length-i<=j
    ·rw[if_pos hc,if_pos (by omega)]
    ·rw[if_neg hc,if_neg (by omega)]
 ·rw[getElem?_eq_none (by rw[length_set,length_set,fH];omega),getElem?_eq_none (by rw[fH];omega)]
theorem tX{l:List Int}{j:Nat}(hj:j<l.length):(ints l)[j]?=some (.int .i64 (l.getD j 0)):=by
 rw[cD,gEl hj,gDe,gEl hj];rfl
theorem Bn(b c:Nat)(l:List Int)(M:Mem)(R:VP)(hM:M b=some (.cells true (ints l) c))(hl:l.length<=1000000)(h:R (.tuple #[]) (M.put b (.cells true (ints l.reverse) c))):ar prog 328 [.slice (some ⟨b,0,none⟩) l.length c] M R:=by
 refine fnS func328 rfl ntmps328 results328 ?_;simp(disch:=omega);refine lupS (rlA [2,3] 7 21) (fun i:Nat=>[(2,.int .i64 i),(3,.int .i64 ((l.length:Int)-1-i))]) (fun i M'=>2*i<=l.length+1/\M'=M.put b (.cells true (ints (jE l i)) c)) (fun i=>l.length+1-i) 0 ⟨by omega,?_⟩ ?_
 ·rw[Jo]
  funext i
  by_cases e:i=b
  ·subst e;rw[ag,hM]
  ·rw[ai _ _ e]
 rintro i M' g ⟨hi,rfl⟩
 have hk:(M.put b (.cells true (ints (jE l i)) c)) b=some (.cells true (ints (jE l i)) c):=ag _ _ _;by_cases hlt:2*i+1<l.length
 ·have hc:(i:Int)<(l.length:Int)-1-i:=by omega
  obtain⟨q,hq⟩:∃ q:Nat,q=l.length-1-i:=⟨_,rfl⟩;have hqi:(l.length:Int)-1-i=q:=by omega
  have hst:=IQ hlt;rw[<-hq]at hst;have h1:=tX (l:=jE l i) (j:=i) (by rw[fH];omega);have h2:=tX (l:=jE l i) (j:=q) (by rw[fH];omega);have e1:(jE l i).getD i 0=l.getD i 0:=by
   rw[gDe,iX l i (by omega),if_neg (by omega)];rfl
  have e2:(jE l i).getD q 0=l.getD q 0:=by
   rw[gDe,iX l i (by omega),if_neg (by omega)];rfl
  rw[e1]at h1;rw[e2]at h2;have hsl:=fH l i;rw[hqi];generalize l.getD i 0=u at *;generalize l.getD q 0=w at *;have hnx:(l.length:Int)-1-((i:Int)+1)=(q:Int)-1:=by omega
  rw[hqi]at hc;simp(disch:=omega)[hc];refine plyS (ak [0,1,2,3,4,5,6,7,8,9,10,11,12] (.one 13 2 (ak [14] (.one 15 2 .fin)))) ?_;simp(disch:=omega)[al hk,h1,h2,aj,ints_set,az];exact rndA (i+1) (by simp(disch:=omega);omega) ⟨by omega,by simp only[aW,hst]⟩
 ·have hc:¬(i:Int)<(l.length:Int)-1-i:=by omega
  rw[Mg (by omega)];simp(disch:=omega)[hc];exact ad h
theorem A7(M:Mem)(R:VP)(h:R (.tuple #[]) M):ar prog 328 [.slice none 0 0] M R:=by
 refine fnS func328 rfl ntmps328 results328 ?_;simp(disch:=omega);refine lupS (rlA [2,3] 7 21) (fun i:Nat=>[(2,.int .i64 0),(3,.int .i64 (-1))]) (fun i M'=>M=M') (fun i=>0) 0 rfl ?_
 rintro i N' g rfl
 simp(disch:=omega);exact ad h
theorem lq{w:B8}(h:1<=w.length):(cC w)[0]?=some ((cE w:Nat):Int)/\1<=(cC w).length/\cE w<=w.length:=by
 have h1:(cC w).head?=((range w.length).find? fun q=>hp w (q+1)).map fun (p:Nat)=>((p+1:Nat):Int):=by
  unfold cC kd;rw[head?_map,head?_filter]
 cases hf:(range w.length).find? (fun q=>hp w (q+1)) with
 | none=>
  rw[find?_eq_none]at hf;have:=hf (w.length-1) (List.mem_range.2 (by omega));rw[show w.length-1+1=w.length by omega,ID]at this;exact absurd rfl this
 | some q=>
  have hq:=List.mem_range.1 (mem_of_find?_eq_some hf);have e:cE w=q+1:=by unfold cE;rw[hf];rfl
  rw[hf]at h1;rw[e];cases hL:cC w with
  | nil=>rw[hL]at h1;cases h1
  | cons z l=>
   rw[hL]at h1;exact⟨h1,by simp,by omega⟩
theorem F0(w:B8):(cC w).length<=w.length:=uz w w.length
theorem K8{w:B8}{z:Int}(h:z∈cC w):1<=z/\z<=w.length:=by
 unfold cC kd at h;obtain⟨q,hq,rfl⟩:=List.mem_map.1 h;rw[mem_filter,mem_range]at hq;omega
theorem gz{w:B8}(h:ck w=0):isWord w=true/\w≠[]/\1<=w.length/\w.length<=60:=by
 unfold ck at h;split at h
 ·rename_i hw;split at h
  ·cases h
  ·rename_i h0;exact⟨hw,h0,List.length_pos_iff.2 h0,au hw⟩
 ·cases h
theorem dk(w:B8)(M:Mem)(R:VP)(hl:w.length<=60)(h:∀ v M',Own M v (ints (cC w)) M'->R v M'):ar prog 271 [str w] M R:=by
 refine fnS func271 rfl ntmps271 results271 ?_;simp(disch:=omega);intro b0 hb0;simp(disch:=omega);refine lupS (rlA [3,4] 6 20) (fun x:Nat×Value=>[(4,.int .i64 (x.1:Nat)),(3,x.2)]) (fun x N=>1<=x.1/\x.1<=w.length+1/\Own M x.2 (ints (kd w (x.1-1))) N) (fun x=>w.length+1-x.1) (1,.slice (some ⟨b0,0,none⟩) 0 0) ⟨by simp only;omega,by simp only;omega,Own.new hb0 rfl (lRf 0)⟩ ?_
 rintro⟨p,v⟩ N g ⟨hp1,hp2,ho⟩
 simp only at hp1 hp2 ho;have hpl:=uz w (p-1);by_cases hlt:p<=w.length
 ·have hltI:(p:Int)<=(w.length:Nat):=by omega
  have hs:=Ae w (p-1);rw[show p-1+1=p by omega]at hs;have e:(w.length:Int)-p=((w.length-p:Nat):Int):=by omega
  have hpd:hp w p=(w.drop p==w.take (w.length-p)):=rfl;generalize kd w (p-1)=L at *;simp(disch:=omega)[hltI];refine drwS ?_;cases hpb:hp w p
  ·rw[hpb,if_neg (by decide),append_nil]at hs;rw[hpb]at hpd;have hpe:¬ w.drop p=w.take (w.length-p):=by rw[<-beq_iff_eq,<-hpd];decide
   simp(disch:=omega)[e,hpd.symm];refine rndS (p+1,v) ⟨by simp only;omega,by simp only;omega,?_⟩;simp only[Nat.add_sub_cancel];rw[hs];exact ho
  ·rw[hpb,if_pos rfl]at hs;rw[hpb]at hpd;have hpe:w.drop p=w.take (w.length-p):=eq_of_beq hpd.symm;simp(disch:=omega)[e,hpe];intro b' hb';simp(disch:=omega);refine aN ho ((Sub.refl _).put hb' _) (by simp(disch:=omega);rfl) rfl rfl (by omega) (by simp(disch:=omega)) (by simp(disch:=omega);omega) ?_;intro v' M'' N'' ho' hs';simp(disch:=omega);refine rndM M'' (p+1,v') hs' ⟨by simp only;omega,by simp only;omega,?_⟩;simp only[Nat.add_sub_cancel];rw[hs,<-cv];exact ho'
 ·have hltI:¬(p:Int)<=(w.length:Nat):=by omega
  have hpE:p-1=w.length:=by omega
  rw[hpE]at ho;simp(disch:=omega)[hltI];exact ad (h v N ho)
theorem yR(w:B8)(M:Mem)(R:VP)(hl:w.length<=1099511627776)(h:Lst (aJ w) (ints (if isWord w then cC w else [])) M R):ar prog 285 [str w] M R:=by
 unfold aJ at h;refine fnS func285 rfl ntmps285 results285 ?_;simp(disch:=omega);refine bg w _ _ hl ?_;cases hw:isWord w
 ·rw[hw]at h;simp(disch:=omega);exact ad (h _ _ (Own.nil M))
 ·rw[hw,if_pos rfl,if_pos rfl]at h;simp(disch:=omega);refine dk w _ _ (au hw) ?_;intro v N o;simp(disch:=omega);exact ad (h _ _ o)
theorem hU(w:B8)(M:Mem)(R:VP)(hl:w.length<=1099511627776)(h:R (.int .i64 (ck w)) M):ar prog 269 [str w] M R:=by
 unfold ck at h;refine fnS func269 rfl ntmps269 results269 ?_;simp(disch:=omega);refine bg w _ _ hl ?_;cases hw:isWord w
 ·rw[hw]at h;simp(disch:=omega);exact ad h
 ·rw[hw,if_pos rfl]at h;by_cases h0:w=[]
  ·rw[if_pos h0]at h;subst h0;simp(disch:=omega);exact ad h
  ·rw[if_neg h0]at h;have he:(w==[])=false:=jv h0;have he2:w.isEmpty=false:=by cases w with
    | nil=>exact absurd rfl h0
    | cons a l=>rfl
   simp(disch:=omega)[he];exact ad h
theorem D5(w:B8)(M:Mem)(R:VP)(hl:w.length<=60)(h1:1<=w.length)(h:∀ M',Sub M M'->R (str (eo w)) M'):ar prog 270 [str w] M R:=by
 unfold eo at h;refine fnS func270 rfl ntmps270 results270 ?_;simp(disch:=omega);refine dk w _ _ hl ?_;intro v N o;obtain⟨p1,p2,p3⟩:=lq h1;have p0:1<=cE w:=by unfold cE;omega
 obtain⟨a,c,rfl,ha⟩:=o.rd.opened;rw[az]at ha ⊢;rcases ha with h0|⟨b,o',rfl,ha⟩
 ·omega
 have hg:=ha 0 (by omega);rw[cD,p1,Option.map_some,Nat.add_zero]at hg;have sN:=o.sub;clear ha o;generalize cE w=p at *;generalize (cC w).length=n at *;have e:((w.length:Int).tmod (p:Int)=0)↔w.length%p=0:=by
  rw[Int.tmod_eq_emod_of_nonneg (by omega)];omega
 have hp0:¬(p:Int)=0:=by omega
 by_cases hd:w.length%p=0
 ·have hd':=e.2 hd;rw[if_pos hd]at h;simp(disch:=omega)[hg,hd'];exact ad (h _ sN)
 ·have hd':¬(w.length:Int).tmod (p:Int)=0:=fun q=>hd (e.1 q);rw[if_neg hd]at h;simp(disch:=omega)[hg];exact ad (h _ sN)
theorem Hf(w:B8)(M:Mem)(R:VP)(hl:w.length<=1099511627776)(h:∀ M',Sub M M'->R (.tuple #[str (mh w),.int .i64 (pU w),.int .i64 (ck w)]) M'):ar prog 183 [str w] M R:=by
 unfold mh pU at h;refine fnS func183 rfl ntmps183 results183 ?_;simp(disch:=omega);refine hU w _ _ hl ?_;by_cases hc:ck w=0
 ·rw[if_pos hc,if_pos hc,hc]at h;obtain⟨hw,h0,h1,h60⟩:=gz hc;rw[hc];simp(disch:=omega);refine D5 w _ _ h60 h1 ?_;intro M1 s1;have hr1:1<=(eo w).length/\(eo w).length<=60:=by
   obtain⟨p1,p2,p3⟩:=lq h1;have p0:1<=cE w:=by unfold cE;omega
   unfold eo;split
   ·rw[lTa];omega
   ·omega
  have hr0:¬((eo w).length:Int)=0:=by omega
  have ed:((w.length:Int).tdiv ((eo w).length:Int))=((w.length/(eo w).length:Nat):Int):=by
   rw[Int.tdiv_eq_ediv_of_nonneg (by omega)];rfl
  have eb:(w.length/(eo w).length)<=60:=Nat.le_trans (Nat.div_le_self _ _) h60;generalize eo w=r at *;generalize w.length/r.length=q at *;have hrn:¬ r=[]:=by intro e;rw[e]at hr1;simp at hr1
  simp(disch:=omega);refine drwS ?_;simp(disch:=omega)[hrn,ed];exact ad (h _ s1)
 ·rw[if_neg hc,if_neg hc]at h;generalize ck w=c at *;simp(disch:=omega);exact ad (h _ (Sub.refl _))
def qh(w:B8)(i:Nat):List Int:=(((cC w).drop ((cC w).length-i)).map fun p=>(w.length:Int)-p).reverse
theorem Kh(w:B8):qh w 0=[]:=by unfold qh;rw[Nat.sub_zero,drop_length];rfl
theorem MT(w:B8):qh w (cC w).length=iJ w:=by unfold qh iJ;rw[Nat.sub_self,drop_zero]
theorem Kz{w:B8}{i:Nat}(h:i<(cC w).length):qh w (i+1)=qh w i++[(w.length:Int)-(cC w).getD ((cC w).length-1-i) 0]:=by
 unfold qh;have hj:(cC w).length-(i+1)<(cC w).length:=by omega
 rw[drop_eq_getElem_cons hj,map_cons,reverse_cons,show (cC w).length-(i+1)+1=(cC w).length-i by omega]
 congr 2
 rw[gDe,gEl (by omega)];simp only[Option.getD_some]
 congr 2
 omega
theorem Oc{w:B8}{i:Nat}(h:i<=(cC w).length):(qh w i).length=i:=by
 unfold qh;rw[length_reverse,length_map,length_drop];omega
def xn(w:B8)(i:Nat):List Int:=((cC w).take i).map (fun p=>(w.length:Int)-p)++(cC w).drop i
theorem MP(w:B8):xn w 0=cC w:=by simp[xn]
theorem Rb(w:B8):(xn w (cC w).length).reverse=iJ w:=by unfold xn iJ;rw[take_length,drop_length,append_nil]
theorem OF(w:B8)(i:Nat):(xn w i).length=(cC w).length:=by
 unfold xn;rw[lAp,length_map,lTa,length_drop];omega
theorem RT{w:B8}{i:Nat}(h:i<(cC w).length):(xn w i).getD i 0=(cC w).getD i 0:=by
 unfold xn;have hl:(((cC w).take i).map fun p=>(w.length:Int)-p).length=i:=by rw[length_map,lTa];omega
 rw[gDe,getElem?_append_right (by omega),hl,getElem?_drop,Nat.sub_self,Nat.add_zero,<-gDe]
theorem QO{w:B8}{i:Nat}(h:i<(cC w).length):(xn w i).set i ((w.length:Int)-(cC w).getD i 0)=xn w (i+1):=by
 unfold xn;have hl:(((cC w).take i).map fun p=>(w.length:Int)-p).length=i:=by rw[length_map,lTa];omega
 rw[aw _ h,map_append,drop_eq_getElem_cons h,set_append_right _ _ (by omega),hl,Nat.sub_self,set_cons_zero,append_assoc]
 congr 2
 rw[gDe,gEl h];rfl
theorem yP(w:B8)(M:Mem)(R:VP)(hl:w.length<=1099511627776)(h:∀ v M',Sub M M'->Rd M' v (ints (if isWord w then iJ w else []))->R (aE v (aJ w)) M'):ar prog 284 [str w] M R:=by
 unfold aE aJ at h;refine fnS func284 rfl ntmps284 results284 ?_;simp(disch:=omega);refine bg w _ _ hl ?_;cases hw:isWord w
 ·rw[hw]at h;simp(disch:=omega);exact ad (h _ _ (Sub.refl M) (.inl ⟨none,0,rfl,rfl⟩))
 ·rw[hw,if_pos rfl,if_pos rfl]at h;have h60:=au hw;simp(disch:=omega);refine dk w _ _ h60 ?_;intro v N o;have hpl:=F0 w;have hpin:=fun z (hz:z∈cC w)=>K8 hz;have hst:=fun i (hi:i<(cC w).length)=>Kz hi;have hle:=fun i (hi:i<=(cC w).length)=>Oc hi;have hz0:=Kh w;have hza:=MT w;obtain⟨a,c,rfl,ha⟩:=o.rd.opened;have sN:=o.sub;rw[az]at ha ⊢;clear o;generalize hB:qh w=B at *;clear hB;generalize hP:cC w=P at *;simp(disch:=omega);intro b0 hb0;simp(disch:=omega);refine lupS (rlA [5,6] 16 14) (fun x:Nat×Value=>[(6,.int .i64 ((P.length:Int)-1-(x.1:Nat))),(5,x.2)]) (fun x N'=>x.1<=P.length/\Own N x.2 (ints (B x.1)) N') (fun x=>P.length-x.1) (0,.slice (some ⟨b0,0,none⟩) 0 0) ⟨lZe _,by simp only;rw[hz0];exact Own.new hb0 rfl (lRf 0)⟩ ?_
  rintro⟨i,vo⟩ N' g ⟨hi,oo⟩
  simp only at hi oo;have hbl:=hle i hi;by_cases hlt:i<P.length
  ·rcases ha with h0|⟨b,o',rfl,ha⟩
   ·omega
   obtain⟨q,hq⟩:∃ q:Nat,q=P.length-1-i:=⟨_,rfl⟩;have hqI:(P.length:Int)-1-i=q:=by omega
   have hnx:(P.length:Int)-1-((i:Int)+1)=(q:Int)-1:=by omega
   have hs:=hst i hlt;rw[<-hq]at hs;have hg:=ha q (by omega);rw[tX (by omega)]at hg;have hg:=aX hg oo.sub;have hin:=hpin (P.getD q 0) (by rw[gDe,gEl (by omega)];exact getElem_mem _);have hqp:(0:Int)<=q:=by omega
   rw[hqI];generalize P.getD q 0=z at *;simp(disch:=omega)[hg,hqp];intro b' hb';simp(disch:=omega);refine aN oo ((Sub.refl _).put hb' _) (by simp(disch:=omega);rfl) rfl rfl (by omega) (by simp(disch:=omega)) (by simp(disch:=omega);omega) ?_;intro v' M'' N'' o'' s'';rw[cv,<-hs]at o'';simp(disch:=omega);exact rndB M'' (i+1,v') s'' (by simp(disch:=omega)[hnx]) ⟨by simp only;omega,o''⟩
  ·have hiE:i=P.length:=by omega
   subst hiE;rw[hza]at oo;have hneg:¬(0:Int)<=(P.length:Int)-1-(P.length:Nat):=by omega
   simp(disch:=omega);exact ad (h _ _ (sN.trans oo.sub) oo.rd)
theorem Al(w:B8)(M:Mem)(R:VP)(hl:w.length<=1099511627776)(h:∀ v M',Sub M M'->Rd M' v (ints (if isWord w then iJ w else []))->R (aE v (aJ w)) M'):ar prog 234 [str w] M R:=by
 unfold aE at h;refine fnS func234 rfl ntmps234 results234 ?_;simp(disch:=omega);refine mX w _ _ hl ?_;intro v N o;cases hw:isWord w
 ·have hc:aJ w=1:=by unfold aJ;rw[hw];rfl
  rw[hw,hc]at h;rw[hw,if_neg (by decide)]at o;rw[hc];simp(disch:=omega);exact ad (h _ _ o.sub (.inl ⟨none,0,rfl,rfl⟩))
 ·have hc:aJ w=0:=by unfold aJ;rw[hw];rfl
  rw[hw,if_pos rfl,hc]at h;rw[hw,if_pos rfl]at o;rw[hc];have h60:=au hw;have hpl:=F0 w;have hpin:=fun z (hz:z∈cC w)=>K8 hz;have hS0:=MP w;have hSa:=Rb w;have hSl:=OF w;have hSat:=fun i (hi:i<(cC w).length)=>RT hi;have hSst:=fun i (hi:i<(cC w).length)=>QO hi;have sN:=o.sub;generalize hB:xn w=S at *;clear hB;generalize hP:cC w=P at *;rcases o with ⟨rfl,e0,rfl⟩|⟨b,c,rfl,hb,hbc,rfl⟩
  ·have hP0:P=[]:=by
    cases P with
    | nil=>rfl
    | cons z l=>cases e0
   rw[hP0]at hSa;simp only[length_nil]at hSa;have hbz:iJ w=[]:=by
    rw[<-hSa];have:=hSl 0;rw[hP0]at this;rw[eq_nil_of_length_eq_zero this];rfl
   rw[hbz]at h;simp(disch:=omega);refine lupS (rlA [6,7] 18 13) (fun i:Nat=>[(18,.int .i64 i)]) (fun i N'=>N=N'/\i=0) (fun i=>0) 0 ⟨rfl,rfl⟩ ?_
   rintro i N' g ⟨rfl,rfl⟩
   simp(disch:=omega);refine A7 _ _ ?_;simp(disch:=omega);exact ad (h _ _ (Sub.refl _) (.inl ⟨none,0,rfl,rfl⟩))
  ·rw[az]at hbc ⊢;simp(disch:=omega);refine lupS (rlA [6,7] 18 13) (fun i:Nat=>[(18,.int .i64 i)]) (fun i N'=>i<=P.length/\N'=M.put b (.cells true (ints (S i)) c)) (fun i=>P.length-i) 0 ⟨lZe _,by rw[hS0]⟩ ?_
   rintro i N' g ⟨hi,rfl⟩
   have hk:(M.put b (.cells true (ints (S i)) c)) b=some (.cells true (ints (S i)) c):=ag _ _ _;by_cases hlt:i<P.length
   ·have hsl:=hSl i;have h1:=tX (l:=S i) (j:=i) (by omega);rw[hSat i hlt]at h1;have hset:=hSst i hlt;have hin:=hpin (P.getD i 0) (by rw[gDe,gEl hlt];exact getElem_mem _);generalize P.getD i 0=z at *;simp(disch:=omega)[al hk,h1];refine bY w _ _ hl ?_;simp(disch:=omega)[aj,ints_set,hset,hsl];exact rndS (i+1) ⟨by omega,by simp only[aW]⟩
   ·have hiE:i=P.length:=by omega
    subst hiE;have hsl:=hSl P.length;generalize S P.length=L at *;rw[<-hsl]at hbc ⊢;simp(disch:=omega);refine Bn b c L _ _ hk (by omega) ?_;rw[aW,hSa];have hbl:(iJ w).length=L.length:=by rw[<-hSa,length_reverse]
    rw[<-hbl]at hbc ⊢;have o9:=Own.new (M:=M) (xs:=ints (iJ w)) (n:=(iJ w).length) (c:=c) hb (az _) hbc;simp(disch:=omega);exact ad (h _ _ o9.sub o9.rd)
theorem kF:∀ a b:B8,Op.bytesLess a b=true↔a<b
 | [],[]=>by
  have e:Op.bytesLess [] []=false:=rfl;rw[e];exact⟨fun h=>by (cases h),fun h=>absurd h (List.lt_irrefl _)⟩
 | [],b::y=>by
  have e:Op.bytesLess [] (b::y)=true:=rfl;rw[e];exact⟨fun _=>nil_lt_cons b y,fun _=>rfl⟩
 | a::x,[]=>by
  have e:Op.bytesLess (a::x) []=false:=rfl;rw[e];exact⟨fun h=>by (cases h),fun h=>absurd h (not_lt_nil _)⟩
 | a::x,b::y=>by
  have e:Op.bytesLess (a::x) (b::y)=(decide (a<b)||(a==b&&Op.bytesLess x y)):=rfl;rw[e,Bool.or_eq_true,Bool.and_eq_true,decide_eq_true_eq,beq_iff_eq,cons_lt_cons_iff,kF x y]
theorem Tf{a b:B8}:Op.bytesLess a b=false↔b<=a:=by
 rw[<-List.not_lt,<-kF];cases Op.bytesLess a b<;>simp
abbrev fw(l:List B8):Prop:=l.Pairwise (· < ·)
theorem lW:∀ {a b:List B8},fw a->fw b->(∀ x,x∈a↔x∈b)->a=b
 | [],[],_,_,_=>rfl
 | [],y::b,_,_,h=>absurd ((h y).2 mem_cons_self) (by simp)
 | x::a,[],_,_,h=>absurd ((h x).1 mem_cons_self) (by simp)
 | x::a,y::b,ha,hb,h=>by
  unfold fw at ha hb;rw[pairwise_cons]at ha hb;have hxy:x=y:=by
   have h1:=(h x).1 mem_cons_self;have h2:=(h y).2 mem_cons_self;rcases List.mem_cons.1 h1 with e|e
   ·exact e
   ·rcases List.mem_cons.1 h2 with e2|e2
    ·exact e2.symm
    ·exact absurd (List.lt_trans (hb.1 x e) (ha.1 y e2)) (List.lt_irrefl _)
  subst hxy
  congr 1
  refine lW ha.2 hb.2 fun z=>?_;constructor
  ·intro hz;rcases List.mem_cons.1 ((h z).1 (mem_cons_of_mem _ hz)) with e|e
   ·exact absurd (e▸ha.1 z hz) (List.lt_irrefl _)
   ·exact e
  ·intro hz;rcases List.mem_cons.1 ((h z).2 (mem_cons_of_mem _ hz)) with e|e
   ·exact absurd (e▸hb.1 z hz) (List.lt_irrefl _)
   ·exact e
theorem lt_of_le_ne{a b:B8}(h:a<=b)(hn:a≠b):a<b:=by
 by_cases hl:a<b
 ·exact hl
 ·exact absurd (List.le_antisymm h (List.not_lt.1 hl)) hn
theorem sL{zs:List B8}(hs:zs.Pairwise (·<=·)):∀ m,m<=zs.length->fw (Lib.compactUpTo zs.toArray m)
 | 0,_=>by simp[Lib.compactUpTo,fw]
 | m+1,hm=>by
  rw[Lib.compactUpTo_succ];unfold fw;rw[pairwise_append];refine⟨sL hs m (by omega),by split<;>simp,?_⟩;intro x hx y hy;cases hk:Lib.keeps zs.toArray m with
  | false=>rw[hk]at hy;simp at hy
  | true=>
   rw[hk,if_pos rfl,mem_singleton]at hy;subst hy;obtain⟨j,hj,rfl⟩:=(yV _ _ _).1 hx;have hg:∀ i,(hi:i<zs.length)->zs.toArray[i]! = zs[i]:=fun i hi=>by rw[getElem!_pos _ i (by simpa using hi)];simp
   rw[hg j (by omega),hg m (by omega)];have hle:∀ i k,(hk:k<zs.length)->(hi:i<=k)->zs[i]'(by omega)<=zs[k]:=fun i k hk hi=>by
    rcases Nat.lt_or_eq_of_le hi with h|h
    ·exact List.pairwise_iff_getElem.1 hs i k (by omega) hk h
    ·subst h;exact List.le_refl _
   have h1:=hle j (m-1) (by omega) (by omega);have h2:=hle (m-1) m (by omega) (by omega);simp only[Lib.keeps,decide_eq_true_eq]at hk;rcases hk with h0|hne
   ·omega
   ·rw[hg m (by omega),hg (m-1) (by omega)]at hne;exact lt_of_le_ne (List.le_trans h1 h2) fun e=>hne (List.le_antisymm (e▸h1) h2)
theorem qE(zs:List B8):fw (srt zs):=by
 unfold srt Lib.compact;refine sL ?_ _ (lRf _);have:=pairwise_mergeSort (le:=fun x y:B8=>decide (x<=y)) (fun a b c h1 h2=>decide_eq_true (List.le_trans (of_decide_eq_true h1) (of_decide_eq_true h2))) (fun a b=>by
  rcases List.le_total a b with h|h
  ·rw[decide_eq_true h];rfl
  ·rw[decide_eq_true h,Bool.or_true]) zs
 exact this.imp fun h=>of_decide_eq_true h
def jF(L:List B8)(w:B8):Nat->Nat
 | 0=>0
 | n+1=>if Op.bytesLess w (L.getD n []) then jF L w n else n+1
theorem Dw(L:List B8)(w:B8):∀ n,jF L w n<=n
 | 0=>lRf 0
 | n+1=>by
  unfold jF;have:=Dw L w n;split<;>omega
theorem As(L:List B8)(w:B8):∀ n i,jF L w n<=i->i<n->w<L.getD i []
 | 0,i,_,h=>by omega
 | n+1,i,h1,h2=>by
  unfold jF at h1;by_cases hb:Op.bytesLess w (L.getD n [])=true
  ·rw[if_pos hb]at h1;by_cases e:i=n
   ·subst e;exact(kF _ _).1 hb
   ·exact As L w n i h1 (by omega)
  ·rw[if_neg hb]at h1;omega
theorem yQ(L:List B8)(w:B8):∀ n,jF L w n≠0->L.getD (jF L w n-1) []<=w
 | 0,h=>absurd rfl h
 | n+1,h=>by
  unfold jF at h ⊢;by_cases hb:Op.bytesLess w (L.getD n [])=true
  ·rw[if_pos hb]at h ⊢;exact yQ L w n h
  ·rw[if_neg hb,Nat.add_sub_cancel];exact Tf.1 (by simpa using hb)
def mI(L:List B8)(w:B8):List B8:=
 if jF L w L.length≠0/\L.getD (jF L w L.length-1) []=w then L else L.take (jF L w L.length)++w::L.drop (jF L w L.length)
theorem oS{L:List B8}{i:Nat}(h:i<L.length):L.getD i []=L[i]:=by rw[gDe,gEl h];rfl
theorem PU{L:List B8}{w x:B8}:x∈mI L w↔x∈L\/x=w:=by
 unfold mI;have hle:=Dw L w L.length;generalize jF L w L.length=n at *;split
 ·rename_i h;refine⟨.inl,fun hx=>?_⟩;rcases hx with hx|hx
  ·exact hx
  ·rw[hx,<-h.2,oS (by omega)];exact getElem_mem _
 ·rw[mem_append,mem_cons];constructor
  ·rintro(h|h|h)
   ·exact .inl (mem_of_mem_take h)
   ·exact .inr h
   ·exact .inl (mem_of_mem_drop h)
  ·rintro(h|h)
   ·rw[<-take_append_drop n L,mem_append]at h;exact h.imp_right .inr
   ·exact .inr (.inl h)
theorem FZ{L:List B8}{w:B8}(h:fw L):fw (mI L w):=by
 unfold mI;have hle:=Dw L w L.length;have hab:=As L w L.length;have hbe:=yQ L w L.length;generalize jF L w L.length=n at *;split
 ·exact h
 ·rename_i hn;unfold fw at h ⊢;rw[pairwise_append,pairwise_cons];have hlt:∀ x∈L.take n,x<w:=by
   intro x hx;obtain⟨i,hi,rfl⟩:=List.mem_iff_getElem.1 hx;rw[lTa]at hi;rw[getElem_take];have hb:=hbe (by omega);rw[oS (show n-1<L.length by omega)]at hb hn;have hlast:L[n-1]'(by omega)<w:=lt_of_le_ne hb (fun e=>hn ⟨by omega,e⟩);by_cases e:i=n-1
   ·subst e;exact hlast
   ·exact List.lt_trans (List.pairwise_iff_getElem.1 h i (n-1) (by omega) (by omega) (by omega)) hlast
  have hgt:∀ x∈L.drop n,w<x:=by
   intro x hx;obtain⟨i,hi,rfl⟩:=List.mem_iff_getElem.1 hx;rw[length_drop]at hi;rw[getElem_drop];have:=hab (n+i) (by omega) (by omega);rw[oS (by omega)]at this;exact this
  refine⟨h.sublist (take_sublist _ _),⟨hgt,h.sublist (drop_sublist _ _)⟩,?_⟩;intro x hx y hy;rcases List.mem_cons.1 hy with e|e
  ·rw[e];exact hlt x hx
  ·exact List.lt_trans (hlt x hx) (hgt y e)
theorem Oy(L:List B8)(w:B8):(mI L w).length<=L.length+1:=by
 unfold mI;split
 ·omega
 ·rw[lAp,length_cons,lTa,length_drop];omega
def eY(L:List B8):List B8->List B8
 | []=>L
 | w::l=>eY (mI L w) l
theorem vZ(l:List B8)(w:B8):∀ L,eY L (l++[w])=mI (eY L l) w:=by
 induction l with
 | nil=>intro L;rfl
 | cons a l ih=>intro L;exact ih (mI L a)
theorem p7:∀(l L:List B8),fw L->fw (eY L l)
 | [],L,h=>h
 | w::l,L,h=>p7 l _ (FZ h)
theorem x9:∀(l L:List B8) (x:B8),x∈eY L l↔x∈L\/x∈l
 | [],L,x=>by simp[eY]
 | w::l,L,x=>by
  show x∈eY (mI L w) l↔_;rw[x9 l,PU,mem_cons,or_assoc]
theorem Aa:∀(l L:List B8),(eY L l).length<=L.length+l.length
 | [],L=>lRf _
 | w::l,L=>by
  have h1:=Aa l (mI L w);have h2:=Oy L w;show (eY (mI L w) l).length<=_;rw[length_cons];omega
theorem II(l:List B8):eY [] l=srt l:=
 lW (p7 l [] List.Pairwise.nil) (qE l) fun x=>by rw[x9,oJ];simp
def wN(w:B8):Int:=if ck w=0 then ((w.length/Nat.gcd w.length (cE w):Nat):Int) else 0
def wU(w:B8):Int:=if ck w=0 then ((cE w/Nat.gcd w.length (cE w):Nat):Int) else 0
theorem xH(a b:Nat):(a:Int).tdiv (b:Int)=((a/b:Nat):Int):=by
 rw[Int.tdiv_eq_ediv_of_nonneg (by omega)];rfl
theorem Ik(a b:Nat)(M:Mem)(R:VP)(ha:a<=1000000)(hb:1<=b)(hb':b<=1000000)(h:R (.tuple #[.int .i64 ((a/Nat.gcd a b:Nat):Int),.int .i64 ((b/Nat.gcd a b:Nat):Int)]) M):ar prog 316 [.int .i64 a,.int .i64 b] M R:=by
 refine fnS func316 rfl ntmps316 results316 ?_;simp(disch:=omega);refine lG a b _ _ (by omega) (by omega) ?_;have hg:1<=Nat.gcd a b:=Nat.gcd_pos_of_pos_right _ (by omega);have q1:a/Nat.gcd a b<=a:=Nat.div_le_self _ _;have q2:b/Nat.gcd a b<=b:=Nat.div_le_self _ _;have e1:=xH a (Nat.gcd a b);have e2:=xH b (Nat.gcd a b);generalize Nat.gcd a b=g at *;have hg0:¬(g:Int)=0:=by omega
 generalize a/g=x at *;generalize b/g=y at *;simp(disch:=omega);refine drwS ?_;simp(disch:=omega)[e1,e2];exact ad h
theorem xf(w:B8)(M:Mem)(R:VP)(hl:w.length<=1099511627776)(h:∀ M',Sub M M'->R (.tuple #[.int .i64 (wN w),.int .i64 (wU w),.int .i64 (ck w)]) M'):ar prog 230 [str w] M R:=by
 unfold wN wU at h;refine fnS func230 rfl ntmps230 results230 ?_;simp(disch:=omega);refine fm w _ _ hl ?_;intro M1 s1;by_cases hc:ck w=0
 ·rw[if_pos hc,if_pos hc,hc]at h;obtain⟨hw,h0,h1,h60⟩:=gz hc;rw[hc];simp(disch:=omega);refine bY w _ _ hl ?_;simp(disch:=omega);refine j0 w _ _ h60 h1 ?_;intro p1 p2;generalize cE w=p at *;simp(disch:=omega);refine Ik w.length p _ _ (by omega) p1 (by omega) ?_;generalize w.length/Nat.gcd w.length p=x at *;generalize p/Nat.gcd w.length p=y at *;simp(disch:=omega);exact ad (h _ s1)
 ·rw[if_neg hc,if_neg hc]at h;generalize ck w=c at *;simp(disch:=omega);exact ad (h _ s1)
theorem wM(w:B8)(M:Mem)(R:VP)(hl:w.length<=1099511627776)(h:∀ M',Sub M M'->R (.tuple #[.int .i64 (wN w),.int .i64 (wU w),.int .i64 (ck w)]) M'):ar prog 184 [str w] M R:=by
 unfold wN wU at h;refine fnS func184 rfl ntmps184 results184 ?_;simp(disch:=omega);refine hU w _ _ hl ?_;by_cases hc:ck w=0
 ·rw[if_pos hc,if_pos hc,hc]at h;obtain⟨hw,h0,h1,h60⟩:=gz hc;rw[hc];simp(disch:=omega);refine plyS (ak [0,1,2] (.one 3 1 (ak [4,5,6,7] .fin))) ?_;simp(disch:=omega);refine dk w _ _ h60 ?_;intro v N o;obtain⟨p1,p2,p3⟩:=lq h1;have p0:1<=cE w:=by unfold cE;omega
  obtain⟨a,c,rfl,ha⟩:=o.rd.opened;rw[az]at ha ⊢;rcases ha with hz|⟨b,o',rfl,ha⟩
  ·omega
  have hg:=ha 0 (by omega);rw[cD,p1,Option.map_some,Nat.add_zero]at hg;have sN:=o.sub;clear ha o;generalize cE w=p at *;generalize (cC w).length=n at *;simp(disch:=omega)[hg];refine⟨sN,?_⟩;refine nW w.length p _ _ (by omega) (by omega) ?_;have hgp:1<=Nat.gcd w.length p:=Nat.gcd_pos_of_pos_right _ (by omega);have q1:w.length/Nat.gcd w.length p<=w.length:=Nat.div_le_self _ _;have q2:p/Nat.gcd w.length p<=p:=Nat.div_le_self _ _;have e1:=xH w.length (Nat.gcd w.length p);have e2:=xH p (Nat.gcd w.length p);generalize Nat.gcd w.length p=g at *;have hg0:¬(g:Int)=0:=by omega
  generalize w.length/g=x at *;generalize p/g=y at *;simp(disch:=omega);refine drwS ?_;simp(disch:=omega)[e1,e2];exact ad (h _ sN)
 ·rw[if_neg hc,if_neg hc]at h;generalize ck w=c at *;simp(disch:=omega);exact ad (h _ (Sub.refl _))
theorem OW{a b:B8}(h:¬ a<b):Op.bytesLess a b=false:=by
 cases hq:Op.bytesLess a b
 ·rfl
 ·exact absurd ((kF a b).1 hq) h
theorem tY(w:B8)(M:Mem)(R:VP)(hl:w.length<=60)(h:R (.tuple #[str (ltF w w.length).1,.int .i64 (ltF w w.length).2]) M):ar prog 331 [str w] M R:=by
 refine fnS func331 rfl ntmps331 results331 ?_;simp(disch:=omega);refine aP aR (rlA [4,5,6,7] 11 16) (fun k:Nat=>[(11,.int .i64 k),(4,str (ltF w k).1),(5,.int .i64 (ltF w k).2)]) (fun k M'=>M=M'/\k<=w.length) (fun k=>w.length-k) 0 (by kernel_rfl) (by simp(disch:=omega);exact⟨rfl,rfl⟩) ⟨rfl,lZe _⟩ ?_
 rintro k M' g ⟨rfl,hk⟩
 obtain⟨t1,t2⟩:=tj w k;by_cases hlt:k<w.length
 ·have hs:ltF w (k+1)=if w.drop k++w.take k<(ltF w k).1 then (w.drop k++w.take k,k) else ltF w k:=rfl
  have hol:(w.drop k++w.take k).length=w.length:=by rw[lAp,length_drop,lTa];omega
  generalize ltF w k=X at *;simp(disch:=omega);refine drwS ?_;simp(disch:=omega);by_cases hc:w.drop k++w.take k<X.1
  ·rw[if_pos hc]at hs;have hb:=(kF _ _).2 hc;simp(disch:=omega)[hb];exact rndA (k+1) (by simp(disch:=omega)[hs]) ⟨rfl,by omega⟩
  ·rw[if_neg hc]at hs;have hb:=OW hc;simp(disch:=omega)[hb];exact rndA (k+1) (by simp(disch:=omega)[hs]) ⟨rfl,by omega⟩
 ·have hkE:k=w.length:=by omega
  subst hkE;simp(disch:=omega);exact ad h
theorem Bb(w:B8)(M:Mem)(R:VP)(hl:w.length<=60)(h:R (.tuple #[str (ltF w w.length).1,.int .i64 (ltF w w.length).2]) M):ar prog 272 [str w] M R:=by
 refine fnS func272 rfl ntmps272 results272 ?_;simp(disch:=omega);refine aP aR (rlA [4,5,6,7] 9 14) (fun k:Nat=>[(6,.int .i64 k),(4,str (ltF w k).1),(5,.int .i64 (ltF w k).2)]) (fun k M'=>M=M'/\1<=k/\k<=w.length+1/\(w.length<k->k=1)) (fun k=>w.length+1-k) 1 (by kernel_rfl) (by rw[KT];simp(disch:=omega)) ⟨rfl,lRf _,by omega,fun _=>rfl⟩ ?_
 rintro k M' g ⟨rfl,hk1,hk,hk3⟩
 obtain⟨t1,t2⟩:=tj w k;by_cases hlt:k<w.length
 ·have hs:ltF w (k+1)=if w.drop k++w.take k<(ltF w k).1 then (w.drop k++w.take k,k) else ltF w k:=rfl
  have hol:(w.drop k++w.take k).length=w.length:=by rw[lAp,length_drop,lTa];omega
  generalize ltF w k=X at *;simp(disch:=omega);refine mS w k _ _ (by omega) (by omega) ?_;simp(disch:=omega);by_cases hc:w.drop k++w.take k<X.1
  ·rw[if_pos hc]at hs;have hb:=(kF _ _).2 hc;simp(disch:=omega)[hb];exact rndA (k+1) (by simp(disch:=omega)[hs]) ⟨rfl,by omega,by omega,by omega⟩
  ·rw[if_neg hc]at hs;have hb:=OW hc;simp(disch:=omega)[hb];exact rndA (k+1) (by simp(disch:=omega)[hs]) ⟨rfl,by omega,by omega,by omega⟩
 ·have he:ltF w k=ltF w w.length:=by
   by_cases hkE:k=w.length
   ·rw[hkE]
   ·have hk1:=hk3 (by omega);have hw0:w.length=0:=by omega
    rw[hk1,hw0,KT];rfl
  rw[he];simp(disch:=omega);exact ad h
theorem vl(w:B8)(M:Mem)(R:VP)(hl:w.length<=1099511627776)(h:∀ M',Sub M M'->R (.tuple #[str (if isWord w then (ltF w w.length).1 else []),.int .i64 (if isWord w then (((ltF w w.length).2:Nat):Int) else 0),.int .i64 (aJ w)]) M'):ar prog 238 [str w] M R:=by
 unfold aJ at h;refine fnS func238 rfl ntmps238 results238 ?_;simp(disch:=omega);intro b1 hb1;simp(disch:=omega);have hs1:Sub M (M.put b1 (.cells true [str w] 1)):=(Sub.refl _).put hb1 _;refine bt _ _ [w] true (fun _=>True) _ _ (Rd.new rfl (lRf 1)) (gg hl) (by simp) trivial bV (bI _) ?_;rw[db];cases hw:isWord w
 ·rw[hw]at h;simp(disch:=omega);exact ad (h _ hs1)
 ·rw[hw,if_pos rfl,if_pos rfl,if_pos rfl]at h;have h60:=au hw;simp(disch:=omega);refine tY w _ _ h60 ?_;generalize ltF w w.length=X at *;simp(disch:=omega);exact ad (h _ hs1)
theorem vM(w:B8)(M:Mem)(R:VP)(hl:w.length<=1099511627776)(h:∀ M',Sub M M'->R (.tuple #[str (if isWord w then (ltF w w.length).1 else []),.int .i64 (if isWord w then (((ltF w w.length).2:Nat):Int) else 0),.int .i64 (aJ w)]) M'):ar prog 185 [str w] M R:=by
 unfold aJ at h;refine fnS func185 rfl ntmps185 results185 ?_;simp(disch:=omega);refine bg w _ _ hl ?_;cases hw:isWord w
 ·rw[hw]at h;simp(disch:=omega);exact ad (h _ (Sub.refl _))
 ·rw[hw,if_pos rfl,if_pos rfl,if_pos rfl]at h;have h60:=au hw;simp(disch:=omega);refine Bb w _ _ h60 ?_;generalize ltF w w.length=X at *;simp(disch:=omega);exact ad (h _ (Sub.refl _))
end Go.Proofs.YtapimhjbilkfpaaGreatDoor
