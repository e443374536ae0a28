/- Lemmas for FnExactDeskAfter, part 14 of 33. -/
import Derived.Test.YtapimhjbilkfpaaGreatDoorZ12
set_option linter.unusedVariables false
set_option linter.unusedSimpArgs false
namespace Go.Proofs.YtapimhjbilkfpaaGreatDoor
open Go Go.Proofs.Tryz List
def dY(O:Nat->Prop)(M M':Mem):Prop:=∀ b B,¬ O b->M b=some B->M' b=some B
theorem dY.refl(O:Nat->Prop)(M:Mem):dY O M M:=fun _ _ _ h=>h
theorem dY.trans{O:Nat->Prop}{A B C:Mem}(h:dY O A B)(k:dY O B C):dY O A C:=fun b x ho hx=>k b x ho (h b x ho hx)
theorem Sub.keepO{O:Nat->Prop}{A B:Mem}(h:Sub A B):dY O A B:=fun b x _ hx=>h b x hx
set_option maxHeartbeats 1000000 in
theorem mT{S:Type}(w:B8)(hl:w.length<=60)(step:S->bC×Nat->S×Bool)(fv:Value)(hfl:bH fv=true)(O:Nat->Prop)(J:S->Mem->Prop)(hO:∀ s M b,J s M->O b->M b≠none)(hst:∀ s,ng (J s))
  (ht:∀ s V t M R,eE V->J s M->(∀ M',J (step s (V,t)).1 M'->dY O M M'->R (.bool (step s (V,t)).2) M')->fq prog fv [.agg (strs V).toArray,.int .i64 (t:Nat)] R M) :
  ∀(p:B8) (V:bC) (t:Nat) (s:S) (M:Mem) (R:VP),p.all isV=true->p.length<=8->eE V->t<=w.length->J s M->(∀ M',J (bT step s (cH w p V t)).1 M'->dY O M M'->R (.bool (bT step s (cH w p V t)).2) M')->ar prog 319 [str w,str p,.agg (strs V).toArray,.int .i64 t,fv] M R
 | [],V,t,s,M,R,hp,hp8,hV,htl,hG,h=>by
  unfold cH at h;rw[zd]at h;refine fnS func319 rfl ntmps319 results319 ?_;have h3:=cZ hV.1;have h3':=hV.1;simp(disch:=omega);intro b7 hb7;simp(disch:=omega)[h3,h3'];refine ht s V t _ _ hV (hst s _ _ _ hG hb7) ?_;intro M' hJ hk;simp(disch:=omega);exact ad (h _ hJ (((Sub.refl M).put hb7 _).keepO.trans hk))
 | c::p,V,t,s,M,R,hp,hp8,hV,htl,hG,h=>by
  rw[all_cons,Bool.and_eq_true]at hp;have hc:=di hp.1;refine fnS func319 rfl ntmps319 results319 ?_;have h3:=cZ hV.1;have h3':=hV.1;have hk:((c.toNat:Int)-65).toNat=aF c:=by unfold aF;omega
  have hk3:aF c<3:=by unfold aF;omega
  have hgv:=px hV.1 hk3;have hsm:=la hV (aF c);have hold:=zD (w:=w) (p:=p) (V:=V) (t:=t) (c:=c);have hnew:=zY (w:=w) (p:=p) (V:=V) (t:=t) (c:=c);rw[length_cons]at hp8;obtain⟨own,hown⟩:∃ own,own=V.getD (aF c) []:=⟨_,rfl⟩;rw[<-hown]at hgv hsm hold hnew;obtain⟨k,hkk⟩:∃ k,k=aF c:=⟨_,rfl⟩;rw[<-hkk]at hk hk3 hgv hnew hown;simp(disch:=omega);intro b7 hb7;have hG7:=hst s _ _ (.cells true (strs V) 3) hG hb7;have hs7:dY O M (M.put b7 (.cells true (strs V) 3)):=((Sub.refl M).put hb7 (.cells true (strs V) 3)).keepO;have k7:(M.put b7 (.cells true (strs V) 3)) b7=some (.cells true (strs V) 3):=ag _ _ _;have ho7:¬ O b7:=fun ho=>hO s M b7 hG ho hb7;simp(disch:=omega)[h3',hk,hgv];by_cases h0:own=[]
  ·rw[hnew h0]at h;subst h0;simp(disch:=omega);generalize M.put b7 (.cells true (strs V) 3)=N at *;refine lupS (rlA [10,13,14] 48 20) (fun x:Nat×S=>[(13,.int .i64 (((t+x.1:Nat):Int)+1))]) (fun x M'=>t+x.1<=w.length/\bT step s (j8 w p V k t x.1)=(x.2,false)/\J x.2 M'/\dY O N M') (fun x=>w.length-x.1) (0,s) ⟨by simp only;omega,rfl,hG7,dY.refl _ _⟩ ?_
   rintro⟨n,s'⟩ M' g ⟨hn,hno,hJ,hK⟩
   simp only at hn hno hJ hK;have hsucc:=Am w p V k t n;have k7':=hK _ _ ho7 k7;by_cases hlt:t+n<w.length
   ·simp(disch:=omega)[aq k7',h3,h3'];intro b14 hb14;simp(disch:=omega)[h3'];refine⟨dB V,?_⟩;have hJ14:=hst s' _ _ (.cells true (strs (V.set k ((w.drop t).take (n+1)))) 3) hJ hb14;have hV':eE (V.set k ((w.drop t).take (n+1))):=oY hV (by rw[lTa];omega);have h4:=cZ hV'.1;have hseg:drop t (take ((t:Int)+n+1).toNat w)=(w.drop t).take (n+1):=by
     rw[show ((t:Int)+n+1).toNat=t+(n+1) by omega,drop_take,show t+(n+1)-t=n+1 by omega]
    have e2:((t:Int)+n+1)=((t+(n+1):Nat):Int):=by omega
    refine plyS (ak [0,1,2,3,4,5] (.one 6 2 .fin)) ?_;simp(disch:=omega)[ix,hk,hseg,h4];rw[e2];refine mT w hl step fv hfl O J hO hst ht p (V.set k ((w.drop t).take (n+1))) (t+(n+1)) s' _ _ hp.2 (by omega) hV' (by omega) hJ14 ?_;intro M2 hJ2 hK2;have hK3:dY O N M2:=(hK.trans ((Sub.refl M').put hb14 _).keepO).trans hK2;have happ:bT step s (j8 w p V k t (n+1))=bT step s' (cH w p (V.set k ((w.drop t).take (n+1))) (t+(n+1))):=by
     rw[hsucc,tk (by rw[hno]),hno]
    generalize hq:bT step s' (cH w p (V.set k ((w.drop t).take (n+1))) (t+(n+1)))=out at *;obtain⟨s2,bo⟩:=out;simp only at hJ2;cases bo with
    | false=>
     simp(disch:=omega);exact rndS (n+1,s2) ⟨by simp only;omega,happ,hJ2,hK3⟩
    | true=>
     have hall:bT step s (j8 w p V k t (w.length-t))=(s2,true):=by
      obtain⟨d,hd⟩:∃ d,w.length-t=(n+1)+d:=⟨w.length-t-(n+1),by omega⟩;have hsp:j8 w p V k t (n+1+d)=j8 w p V k t (n+1)++(range d).flatMap (fun i=>cH w p (V.set k ((w.drop t).take (n+1+i+1))) (t+(n+1+i+1))):=by
       unfold j8;rw[range_add,flatMap_append,flatMap_map]
      rw[hd,hsp,uJ (by rw[happ]),happ]
     rw[hall]at h;simp(disch:=omega);exact ad (h _ hJ2 (hs7.trans hK3))
   ·have hn':n=w.length-t:=by omega
    rw[<-hn',hno]at h;simp(disch:=omega);exact ad (h _ hJ (hs7.trans hK))
  ·have he:own.isEmpty=false:=by cases own with
    | nil=>exact absurd rfl h0
    | cons a l=>rfl
   rw[hold h0]at h;simp(disch:=omega)[he];refine plyS (ak [0,1,2,3] (.one 4 1 (ak [5,6,7,8,9,10,11,12,13,14] (.one 15 2 (ak [16,17] .fin))))) ?_;simp(disch:=omega);refine dG _ _ _ _ (by rw[length_drop];omega) (by omega) ?_;cases hpre:own.isPrefixOf (w.drop t)
   ·rw[hpre]at h;simp(disch:=omega);exact ad (h _ hG7 hs7)
   ·rw[hpre,if_pos rfl]at h;have hle:=eK hpre;rw[length_drop]at hle;have e1:((t:Int)+own.length)=((t+own.length:Nat):Int):=by push_cast;rfl
    simp(disch:=omega)[aq k7,h3,h3'];rw[e1];refine mT w hl step fv hfl O J hO hst ht p V (t+own.length) s _ _ hp.2 (by omega) hV (by omega) hG7 ?_;intro M2 hJ2 hK2;simp(disch:=omega);exact ad (h _ hJ2 (hs7.trans hK2))
end Go.Proofs.YtapimhjbilkfpaaGreatDoor
namespace Go.Proofs.YtapimhjbilkfpaaGreatDoor
open Go.Proofs.Tryz List
def fP(p:B8)(V:bC):B8:=p.flatMap fun c=>V.getD (aF c) []
theorem Hm(V:bC):fP [] V=[]:=rfl
theorem cL(c:UInt8)(p:B8)(V:bC):fP (c::p) V=V.getD (aF c) []++fP p V:=by simp[fP]
def occ(p:B8)(k:Nat):Prop:=∃ c∈p,aF c=k
theorem DT(k:Nat):¬ occ [] k:=by rintro⟨c,hc,_⟩;cases hc
theorem cY(c:UInt8)(p:B8)(k:Nat):occ (c::p) k↔aF c=k\/occ p k:=by
 unfold occ;simp
structure qS(p:B8)(V V':bC):Prop where
 len:V'.length=V.length
 old:∀ k,V.getD k []≠[]->V'.getD k []=V.getD k []
 new:∀ k,V.getD k []=[]->(V'.getD k []≠[]↔occ p k)
theorem yp{V V':bC}(hl:V'.length=V.length)(h:∀ k,V'.getD k []=V.getD k []):V'=V:=by
 refine ext_getElem hl fun i h1 h2=>?_;have:=h i;rw[gDe,gDe,gEl h1,gEl h2]at this;exact this
theorem y5(V:bC){k:Nat}(hk:k<V.length)(x:B8)(j:Nat):(V.set k x).getD j []=if j=k then x else V.getD j []:=by
 rw[gDe,gDe,getElem?_set];by_cases h:j=k
 ·subst h;simp[hk]
 ·rw[if_neg (Ne.symm h),if_neg h]
theorem Gx{V V':bC}:qS [] V V'↔V'=V:=by
 constructor
 ·intro h;refine yp h.len fun k=>?_;by_cases hk:V.getD k []=[]
  ·rw[hk];have:=h.new k hk;by_cases hv:V'.getD k []=[]
   ·exact hv
   ·exact absurd (this.1 hv) (DT k)
  ·exact h.old k hk
 ·rintro rfl
  exact⟨rfl,fun _ _=>rfl,fun k hk=>⟨fun h=>absurd hk h,fun h=>absurd h (DT k)⟩⟩
theorem zN{c:UInt8}{p:B8}{V V':bC}{x:B8}(hk:aF c<V.length)(h0:V.getD (aF c) []=[])(hx:x≠[]):qS p (V.set (aF c) x) V'↔qS (c::p) V V'/\V'.getD (aF c) []=x:=by
 have hg:=y5 V hk x;constructor
 ·intro h;have hkk:V'.getD (aF c) []=x:=by
   have:=h.old (aF c) (by rw[hg,if_pos rfl];exact hx);rw[this,hg,if_pos rfl]
  refine⟨⟨by rw[h.len,length_set],fun j hj=>?_,fun j hj=>?_⟩,hkk⟩
  ·have hne:j≠aF c:=by rintro rfl;exact hj h0
   have:=h.old j (by rw[hg,if_neg hne];exact hj);rw[this,hg,if_neg hne]
  ·rw[cY];by_cases e:j=aF c
   ·subst e;rw[hkk];exact⟨fun _=>.inl rfl,fun _=>hx⟩
   ·have:=h.new j (by rw[hg,if_neg e];exact hj);rw[this];exact⟨.inr,fun h=>h.resolve_left (Ne.symm e)⟩
 ·rintro⟨h,hkk⟩
  refine⟨by rw[h.len,length_set],fun j hj=>?_,fun j hj=>?_⟩
  ·rw[hg]at hj ⊢;by_cases e:j=aF c
   ·rw[if_pos e,e,hkk]
   ·rw[if_neg e]at hj ⊢;exact h.old j hj
  ·rw[hg]at hj;by_cases e:j=aF c
   ·rw[if_pos e]at hj;exact absurd hj hx
   ·rw[if_neg e]at hj;have:=h.new j hj;rw[cY]at this;rw[this];exact⟨fun h=>h.resolve_left (Ne.symm e),.inr⟩
theorem FG{c:UInt8}{p:B8}{V V':bC}(h0:V.getD (aF c) []≠[]):qS p V V'↔qS (c::p) V V':=by
 constructor
 ·intro h;refine⟨h.len,h.old,fun j hj=>?_⟩;rw[h.new j hj,cY];refine⟨.inr,fun h=>h.resolve_left ?_⟩
  rintro rfl;exact h0 hj
 ·intro h;refine⟨h.len,h.old,fun j hj=>?_⟩;rw[h.new j hj,cY];refine⟨fun h=>h.resolve_left ?_,.inr⟩
  rintro rfl;exact h0 hj
theorem take_prefix{x:B8}{w:B8}(h:x <+: w):w.take x.length=x:=(List.prefix_iff_eq_take.1 h).symm
theorem cT{x y w:B8}:x++y <+: w↔x <+: w/\y <+: w.drop x.length:=by
 constructor
 ·rintro⟨z,rfl⟩
  refine⟨⟨y++z,by rw[append_assoc]⟩,⟨z,?_⟩⟩;rw[append_assoc,drop_left]
 ·rintro⟨⟨z,rfl⟩,⟨u,hu⟩⟩
  rw[drop_left]at hu;exact⟨u,by rw[<-hu,append_assoc]⟩
theorem sQ(w:B8):∀(p:B8) (V:bC) (t:Nat),(∀ c∈p,aF c<V.length)->t<=w.length->∀ V' t',(V',t')∈cH w p V t↔qS p V V'/\t'=t+(fP p V').length/\fP p V' <+: w.drop t
 | [],V,t,_,ht,V',t'=>by
  unfold cH;rw[mem_singleton,Gx,Prod.mk.injEq,Hm];constructor
  ·rintro⟨rfl,rfl⟩;exact⟨rfl,rfl,nil_prefix⟩
  ·rintro⟨rfl,h,_⟩;exact⟨rfl,h⟩
 | c::p,V,t,hp,ht,V',t'=>by
  have hk:=hp c mem_cons_self;have hp':∀ d∈p,aF d<V.length:=fun d hd=>hp d (mem_cons_of_mem _ hd);have hdl:(w.drop t).length=w.length-t:=length_drop;by_cases h0:V.getD (aF c) []=[]
  ·rw[zY h0];unfold j8;rw[mem_flatMap];constructor
   ·rintro⟨n,hn,hm⟩
    have hn:=List.mem_range.1 hn;rw[sQ w p _ _ (by simpa using hp') (by omega)]at hm;obtain⟨h1,h2,h3⟩:=hm;have hxl:((w.drop t).take (n+1)).length=n+1:=by rw[lTa];omega
    have hx:(w.drop t).take (n+1)≠[]:=by intro e;rw[e]at hxl;simp at hxl
    obtain⟨h4,h5⟩:=(zN hk h0 hx).1 h1;refine⟨h4,?_,?_⟩
    ·rw[cL,h5,lAp,hxl,h2];omega
    ·rw[cL,h5,cT,hxl,drop_drop];exact⟨List.take_prefix _ _,h3⟩
   ·rintro⟨h1,h2,h3⟩
    rw[cL,cT,drop_drop]at h3;have hx:V'.getD (aF c) []≠[]:=(h1.new _ h0).2 ((cY _ _ _).2 (.inl rfl));have hxt:=take_prefix h3.1;have hle:=h3.1.length_le;have hpos:1<=(V'.getD (aF c) []).length:=by
     cases e:V'.getD (aF c) [] with
     | nil=>exact absurd e hx
     | cons a l=>simp
    rw[cL,lAp]at h2;obtain⟨x,hxe⟩:∃ x,V'.getD (aF c) []=x:=⟨_,rfl⟩;rw[hxe]at hx hxt hle hpos h2 h3;refine⟨x.length-1,List.mem_range.2 (by omega),?_⟩;rw[show x.length-1+1=x.length by omega,hxt,sQ w p _ _ (by simpa using hp') (by omega)];exact⟨(zN hk h0 hx).2 ⟨h1,hxe⟩,by omega,h3.2⟩
  ·rw[zD h0,FG (V':=V') h0 |>.symm,cL];by_cases hq:(V.getD (aF c) []).isPrefixOf (w.drop t)=true
   ·rw[if_pos hq];have hq':=List.isPrefixOf_iff_prefix.1 hq;have hle:=hq'.length_le;rw[sQ w p _ _ hp' (by omega)];constructor
    ·rintro⟨h1,h2,h3⟩
     have:=h1.old _ h0;rw[this,cT,drop_drop];exact⟨h1,by rw[lAp];omega,hq',h3⟩
    ·rintro⟨h1,h2,h3⟩
     have:=h1.old _ h0;rw[this,cT,drop_drop]at h3;rw[this,lAp]at h2;exact⟨h1,by omega,h3.2⟩
   ·rw[if_neg hq];constructor
    ·intro h;cases h
    ·rintro⟨h1,h2,h3⟩
     have:=h1.old _ h0;rw[this,cT]at h3;exact absurd (List.isPrefixOf_iff_prefix.2 h3.1) hq
def cq(V:bC):List Nat:=V.map length
theorem gT(V:bC)(k:Nat):(cq V).getD k 0=(V.getD k []).length:=by
 unfold cq;rw[gDe,gDe,getElem?_map];cases V[k]?<;>rfl
def lexLt:List Nat->List Nat->Bool
 | _,[]=>false
 | [],_::_=>true
 | a::l,b::m=>decide (a<b)||(a==b&&lexLt l m)
theorem xQ:∀ l,lexLt l l=false
 | []=>rfl
 | a::l=>by simp[lexLt,xQ l]
theorem lex_trans:∀(a b c:List Nat),lexLt a b=true->lexLt b c=true->lexLt a c=true
 | _,_,[],_,h=>by cases ‹List Nat›<;>simp[lexLt]at h
 | _,[],_::_,h,_=>by cases ‹List Nat›<;>simp[lexLt]at h
 | [],_::_,_::_,_,_=>rfl
 | a::l,b::m,c::n,h,k=>by
  simp only[lexLt,Bool.or_eq_true,Bool.and_eq_true,decide_eq_true_eq,beq_iff_eq]at h k ⊢;rcases h with h|⟨rfl,h⟩
  ·rcases k with k|⟨rfl,k⟩
   ·exact .inl (by omega)
   ·exact .inl h
  ·rcases k with k|⟨rfl,k⟩
   ·exact .inl k
   ·exact .inr ⟨rfl,lex_trans l m n h k⟩
theorem BX:∀(a b:List Nat),a.length=b.length->lexLt a b=false->lexLt b a=false->a=b
 | [],[],_,_,_=>rfl
 | [],_::_,h,_,_=>by simp at h
 | _::_,[],h,_,_=>by simp at h
 | a::l,b::m,hl,h,k=>by
  simp only[lexLt,Bool.or_eq_false_iff,decide_eq_false_iff_not]at h k;have e:a=b:=by omega
  subst e;simp at h k hl;rw[BX l m hl h k]
theorem Qw:∀(a c:List Nat),lexLt a c=true->∀ b,lexLt a b=true\/lexLt b c=true
 | _,[],h,_=>by cases ‹List Nat›<;>simp[lexLt]at h
 | [],_::_,_,[]=>.inr rfl
 | [],_::_,_,_::_=>.inl rfl
 | _::_,_::_,_,[]=>.inr rfl
 | x::l,z::n,h,y::m=>by
  simp only[lexLt,Bool.or_eq_true,Bool.and_eq_true,decide_eq_true_eq,beq_iff_eq]at h ⊢;by_cases h1:x<y
  ·exact .inl (.inl h1)
  by_cases h2:y<z
  ·exact .inr (.inl h2)
  have e1:x=y:=by omega
  have e2:y=z:=by omega
  have h3:=Qw l n (h.resolve_left (by omega)).2 m;rcases h3 with h3|h3
  ·exact .inl (.inr ⟨e1,h3⟩)
  ·exact .inr (.inr ⟨e2,h3⟩)
theorem K9(l a b:List Nat):lexLt (l++a) (l++b)=lexLt a b:=by
 induction l with
 | nil=>rfl
 | cons x l ih=>simp[lexLt,ih]
def ltT(x y:bC×Nat):Bool:=decide (x.2<y.2)||(x.2==y.2&&lexLt (cq x.1) (cq y.1))
theorem NW{x y z:bC×Nat}(h:ltT x y=true)(k:ltT y z=true):ltT x z=true:=by
 unfold ltT at *;simp only[Bool.or_eq_true,Bool.and_eq_true,decide_eq_true_eq,beq_iff_eq]at h k ⊢;rcases h with h|⟨h1,h2⟩
 ·rcases k with k|⟨k1,k2⟩<;>exact .inl (by omega)
 ·rcases k with k|⟨k1,k2⟩
  ·exact .inl (by omega)
  ·exact .inr ⟨by omega,lex_trans _ _ _ h2 k2⟩
theorem Uj{x z:bC×Nat}(h:ltT x z=true)(y:bC×Nat):ltT x y=true\/ltT y z=true:=by
 unfold ltT at *;simp only[Bool.or_eq_true,Bool.and_eq_true,decide_eq_true_eq,beq_iff_eq]at h ⊢;by_cases h1:x.2<y.2
 ·exact .inl (.inl h1)
 by_cases h2:y.2<z.2
 ·exact .inr (.inl h2)
 have e1:x.2=y.2:=by omega
 have e2:y.2=z.2:=by omega
 rcases Qw _ _ (h.resolve_left (by omega)).2 (cq y.1) with h3|h3
 ·exact .inl (.inr ⟨e1,h3⟩)
 ·exact .inr (.inr ⟨e2,h3⟩)
theorem RF(x:bC×Nat):ltT x x=false:=by unfold ltT;simp[xQ]
def cW(s:Nat×bC)(x:bC×Nat):(Nat×bC)×Bool:=(if s.1=0\/ltT x (s.2,s.1)=true then (x.2,x.1) else s,false)
theorem Pl(s:Nat×bC)(x:bC×Nat):(cW s x).2=false:=rfl
def fJ(l:List (bC×Nat)):Nat×bC:=(bT cW (0,V0) l).1
theorem zX:∀(l:List (bC×Nat)) (s:Nat×bC),(∀ x∈l,1<=x.2)->(bT cW s l).2=false /\
  ((
   s.1=0/\l=[]/\(bT cW s l).1=s)\/(1<=(bT cW s l).1.1/\(((bT cW s l).1.2,(bT cW s l).1.1)∈l\/(s.1≠0/\(bT cW s l).1=s)) /\
   (s.1≠0->ltT (s.2,s.1) ((bT cW s l).1.2,(bT cW s l).1.1)=false)/\∀ x∈l,ltT x ((bT cW s l).1.2,(bT cW s l).1.1)=false))
 | [],s,_=>by
  rw[mY];refine⟨rfl,?_⟩;by_cases h:s.1=0
  ·exact .inl ⟨h,rfl,rfl⟩
  ·exact .inr ⟨by simp only;omega,.inr ⟨h,rfl⟩,fun _=>RF _,fun x hx=>by cases hx⟩
 | x::l,s,hl=>by
  have hx:=hl x mem_cons_self;have hl':∀ y∈l,1<=y.2:=fun y hy=>hl y (mem_cons_of_mem _ hy);have e:bT cW s (x::l)=bT cW (cW s x).1 l:=by
   conv=>lhs;unfold bT
   rw[Pl];rfl
  rw[e];obtain⟨h1,h2⟩:=zX l (cW s x).1 hl';refine⟨h1,?_⟩;by_cases hb:s.1=0\/ltT x (s.2,s.1)=true
  ·have es:(cW s x).1=(x.2,x.1):=by unfold cW;rw[if_pos hb]
   rw[es]at h2 ⊢;generalize (bT cW (x.2,x.1) l).1=r at *;rcases h2 with ⟨h3,_,_⟩|⟨h3,h4,h5,h6⟩
   ·simp only at h3;omega
   refine .inr ⟨h3,.inl ?_,?_,?_⟩
   ·rcases h4 with h4|⟨_,h4⟩
    ·exact mem_cons_of_mem _ h4
    ·rw[h4];exact mem_cons_self
   ·intro hs;have hxs:=hb.resolve_left hs;have:=h5 (by simp only;omega);cases hc:ltT (s.2,s.1) (r.2,r.1) with
    | false=>rfl
    | true=>rw[NW hxs hc]at this;cases this
   ·intro y hy;rcases List.mem_cons.1 hy with rfl|hy
    ·exact h5 (by simp only;omega)
    ·exact h6 y hy
  ·have es:(cW s x).1=s:=by unfold cW;rw[if_neg hb]
   have hs0:s.1≠0:=fun h=>hb (.inl h);have hxs:ltT x (s.2,s.1)=false:=by
    cases hc:ltT x (s.2,s.1) with
    | false=>rfl
    | true=>exact absurd (.inr hc) hb
   rw[es]at h2 ⊢;generalize (bT cW s l).1=r at *;rcases h2 with ⟨h3,_,_⟩|⟨h3,h4,h5,h6⟩
   ·exact absurd h3 hs0
   refine .inr ⟨h3,?_,h5,?_⟩
   ·rcases h4 with h4|h4
    ·exact .inl (mem_cons_of_mem _ h4)
    ·exact .inr h4
   ·intro y hy;rcases List.mem_cons.1 hy with rfl|hy
    ·cases hc:ltT y (r.2,r.1) with
     | false=>rfl
     | true=>
      rcases Uj hc (s.2,s.1) with h|h
      ·rw[hxs]at h;cases h
      ·rw[h5 hs0]at h;cases h
    ·exact h6 y hy
def gvS(w:B8)(ls:List Nat)(s:Option (bC×Nat))(c:UInt8):Option (bC×Nat):=
 match s with
 | none=>none
 | some (V,t)=>if t+ls.getD (aF c) 0<=w.length/\(V.getD (aF c) []=[]\/V.getD (aF c) []=(w.drop t).take (ls.getD (aF c) 0)) then some (V.set (aF c) ((w.drop t).take (ls.getD (aF c) 0)),t+ls.getD (aF c) 0) else none
def gvF(w:B8)(ls:List Nat)(p:B8)(V:bC)(t:Nat):Option (bC×Nat):=p.foldl (gvS w ls) (some (V,t))
theorem H6(w:B8)(ls:List Nat)(V:bC)(t:Nat)(c:UInt8):gvS w ls (some (V,t)) c=if t+ls.getD (aF c) 0<=w.length/\(V.getD (aF c) []=[]\/V.getD (aF c) []=(w.drop t).take (ls.getD (aF c) 0)) then some (V.set (aF c) ((w.drop t).take (ls.getD (aF c) 0)),t+ls.getD (aF c) 0) else none:=rfl
theorem xW(w:B8)(ls:List Nat):∀ p:B8,p.foldl (gvS w ls) none=none
 | []=>rfl
 | _::p=>xW w ls p
theorem Pt(V:bC){k:Nat}(hk:k<V.length):V.set k (V.getD k [])=V:=by
 refine yp (by rw[length_set]) fun j=>?_;rw[y5 V hk];split
 ·rename_i e;rw[e]
 ·rfl
theorem Ku(w:B8)(ls:List Nat):∀(p:B8) (V:bC) (t:Nat),(∀ c∈p,aF c<V.length)->t<=w.length->(∀ k,occ p k->1<=ls.getD k 0)->(∀ k,V.getD k []≠[]->(V.getD k []).length=ls.getD k 0)->∀ V' t',
  gvF w ls p V t=some (V',t')↔qS p V V'/\(∀ k,occ p k->(V'.getD k []).length=ls.getD k 0)/\t'=t+(fP p V').length/\fP p V' <+: w.drop t
 | [],V,t,_,ht,_,_,V',t'=>by
  unfold gvF;rw[foldl_nil,Option.some.injEq,Prod.mk.injEq,Gx,Hm];constructor
  ·rintro⟨rfl,rfl⟩;exact⟨rfl,fun k hk=>absurd hk (DT k),rfl,nil_prefix⟩
  ·rintro⟨rfl,_,h,_⟩;exact⟨rfl,h.symm⟩
 | c::p,V,t,hp,ht,hls,hV,V',t'=>by
  have hk:=hp c mem_cons_self;have hp':∀ d∈p,aF d<V.length:=fun d hd=>hp d (mem_cons_of_mem _ hd);have hls':∀ k,occ p k->1<=ls.getD k 0:=fun k hk=>hls k ((cY _ _ _).2 (.inr hk));have hl1:=hls (aF c) ((cY _ _ _).2 (.inl rfl));have hdl:(w.drop t).length=w.length-t:=length_drop;have e:gvF w ls (c::p) V t=p.foldl (gvS w ls) (gvS w ls (some (V,t)) c):=rfl;rw[e,H6];have hb:=hV (aF c);obtain⟨l,hl⟩:∃ l,l=ls.getD (aF c) 0:=⟨_,rfl⟩;rw[<-hl]at hl1 hb ⊢;by_cases hle:t+l<=w.length
  ·have hxl:((w.drop t).take l).length=l:=by rw[lTa];omega
   by_cases h0:V.getD (aF c) []=[]
   ·rw[if_pos ⟨hle,.inl h0⟩];have hx:(w.drop t).take l≠[]:=by intro e;rw[e]at hxl;simp at hxl;omega
    have ih:=Ku w ls p (V.set (aF c) ((w.drop t).take l)) (t+l) (by simpa using hp') hle hls' (by
     intro j hj;rw[y5 V hk]at hj ⊢;by_cases ej:j=aF c
     ·rw[if_pos ej,hxl,ej,hl]
     ·rw[if_neg ej]at hj ⊢;exact hV j hj) V' t'
    unfold gvF at ih;rw[ih,zN hk h0 hx,cL,cT];constructor
    ·rintro⟨⟨h1,h2⟩,h3,h4,h5⟩
     rw[h2,hxl,drop_drop];refine⟨h1,fun j hj=>?_,by rw[lAp,hxl];omega,List.take_prefix _ _,h5⟩;rcases(cY _ _ _).1 hj with rfl|hj
     ·rw[h2,hxl,hl]
     ·exact h3 j hj
    ·rintro⟨h1,h2,h3,h4,h5⟩
     have h6:=h2 _ ((cY _ _ _).2 (.inl rfl));rw[<-hl]at h6;have h7:V'.getD (aF c) []=(w.drop t).take l:=by rw[<-h6];exact(take_prefix h4).symm
     rw[lAp,h6]at h3;rw[h6,drop_drop]at h5;exact⟨⟨h1,h7⟩,fun j hj=>h2 j ((cY _ _ _).2 (.inr hj)),by omega,h5⟩
   ·have hbl:=hb h0;by_cases hq:V.getD (aF c) []=(w.drop t).take l
    ·rw[if_pos ⟨hle,.inr hq⟩,<-hq,Pt V hk];have ih:=Ku w ls p V (t+l) hp' hle hls' hV V' t';unfold gvF at ih;rw[ih,FG h0,cL,cT];constructor
     ·rintro⟨h1,h3,h4,h5⟩
      have h6:=h1.old _ h0;rw[h6,hbl,drop_drop];refine⟨h1,fun j hj=>?_,by rw[lAp,hbl];omega,by rw[hq];exact List.take_prefix _ _,h5⟩;rcases(cY _ _ _).1 hj with rfl|hj
      ·rw[h6,hbl,hl]
      ·exact h3 j hj
     ·rintro⟨h1,h2,h3,h4,h5⟩
      have h6:=h1.old _ h0;rw[h6,lAp,hbl]at h3;rw[h6,hbl,drop_drop]at h5;exact⟨h1,fun j hj=>h2 j ((cY _ _ _).2 (.inr hj)),by omega,h5⟩
    ·rw[if_neg (by rintro⟨_,h|h⟩;exact h0 h;exact hq h),xW];constructor
     ·intro h;cases h
     ·rintro⟨h1,h2,h3,h4⟩
      have h6:=h1.old _ h0;rw[cL,cT,h6]at h4;have:=take_prefix h4.1;rw[hbl]at this;exact absurd this.symm hq
  ·rw[if_neg (by rintro⟨h,_⟩;exact hle h),xW];constructor
   ·intro h;cases h
   ·rintro⟨h1,h2,h3,h4⟩
    rw[cL,cT]at h4;have h5:=h4.1.length_le;rw[h2 _ ((cY _ _ _).2 (.inl rfl)),<-hl]at h5;omega
def gf(p:B8)(k:Nat):Nat:=p.countP fun c=>aF c==k
def ir(p:B8)(ls:List Nat):Nat:=(p.map fun c=>ls.getD (aF c) 0).sum
theorem Co{p:B8}{k:Nat}:gf p k=0↔¬ occ p k:=by
 unfold gf occ;rw[countP_eq_zero];constructor
 ·rintro h ⟨c,hc,e⟩;exact h c hc (by simpa using e)
 ·intro h c hc e;exact h ⟨c,hc,by simpa using e⟩
def l8(w p:B8):Nat->List Nat->Option bC
 | 0,ls=>match gvF w ls p V0 0 with
  | some (V,t)=>if t=w.length then some V else none
  | none=>none
 | d+1,ls=>if gf p ls.length=0 then l8 w p d (ls++[0]) else (range ((w.length-ir p ls)/gf p ls.length)).findSome? fun n=>l8 w p d (ls++[n+1])
theorem find_range{A:Type}(f:Nat->Option A):∀ m,match (range m).findSome? f with
  | some a=>∃ n,n<m/\f n=some a/\∀ i,i<n->f i=none
  | none=>∀ i,i<m->f i=none
 | 0=>fun i hi=>by omega
 | m+1=>by
  have ih:=find_range f m;rw[range_succ,findSome?_append];cases h:(range m).findSome? f with
  | some a=>
   rw[h]at ih;obtain⟨n,h1,h2,h3⟩:=ih;exact⟨n,by omega,h2,h3⟩
  | none=>
   rw[h]at ih;have e:findSome? f [m]=f m:=by cases hf:f m<;>simp[findSome?,hf]
   rw[Option.none_or,e];cases hf:f m with
   | some a=>exact⟨m,by omega,hf,ih⟩
   | none=>
    intro i hi;by_cases him:i=m
    ·rw[him,hf]
    ·exact ih i (by omega)
structure Fit(p w:B8)(V:bC):Prop where
 goes:qS p V0 V
 word:fP p V=w
theorem ue(k:Nat):V0.getD k []=[]:=by
 rw[gDe];cases h:V0[k]? with
 | none=>rfl
 | some x=>
  have:=mem_of_getElem? h;unfold V0 at this;simp at this;rw[this];rfl
theorem Fit.on{p w:B8}{V:bC}(h:Fit p w V)(k:Nat):1<=(cq V).getD k 0↔occ p k:=by
 rw[gT,<-h.goes.new k (ue k)];cases V.getD k []<;>simp
theorem Fit.len{p w:B8}{V:bC}(h:Fit p w V):V.length=3:=h.goes.len
theorem fb(V:bC):(cq V).length=V.length:=length_map _
theorem Fa{a b:List Nat}(h:a <+: b){k:Nat}(hk:k<a.length):b.getD k 0=a.getD k 0:=by
 obtain⟨z,rfl⟩:=h;rw[gDe,gDe,getElem?_append_left hk]
theorem Hp{a b:List Nat}(h:a <+: b)(hl:a.length<b.length):a++[b.getD a.length 0] <+: b:=by
 obtain⟨z,rfl⟩:=h;cases z with
 | nil=>simp at hl
 | cons x z=>
  refine⟨z,?_⟩;rw[gDe,getElem?_append_right (lRf _),Nat.sub_self];simp
theorem Gt{ls:List Nat}{V:bC}(h:ls <+: cq V)(n:Nat)(hn:n=(cq V).getD ls.length 0):∀ p:B8,ir p ls+n*gf p ls.length<=(fP p V).length
 | []=>by simp[ir,gf]
 | c::p=>by
  have ih:=Gt h n hn p;have e1:ir (c::p) ls=ls.getD (aF c) 0+ir p ls:=by simp[ir]
  have e2:gf (c::p) ls.length=gf p ls.length+if aF c=ls.length then 1 else 0:=by simp[gf,countP_cons]
  have e3:=gT V (aF c);rw[e1,e2,cL,lAp,<-e3,Nat.mul_add];by_cases h1:aF c<ls.length
  ·rw[Fa h h1,if_neg (by omega)];omega
  ·have e4:ls.getD (aF c) 0=0:=by rw[gDe,getElem?_eq_none (by omega)];rfl
   rw[e4];by_cases h2:aF c=ls.length
   ·rw[if_pos h2,h2,<-hn];omega
   ·rw[if_neg h2];omega
def O5(w p:B8)(ls:List Nat):Option bC->Prop
 | some V=>Fit p w V/\ls <+: cq V/\∀ V2,Fit p w V2->ls <+: cq V2->lexLt (cq V2) (cq V)=false
 | none=>∀ V2,Fit p w V2->ls <+: cq V2->False
theorem D4(w p:B8)(hp:∀ c∈p,aF c<3):∀(d:Nat) (ls:List Nat),ls.length+d=3->(∀ k,k<ls.length->(1<=ls.getD k 0↔occ p k))->O5 w p ls (l8 w p d ls)
 | 0,ls,hl,hls=>by
  have hls0:∀ k,occ p k->1<=ls.getD k 0:=by
   intro k hk;obtain⟨c,hc,rfl⟩:=hk;exact(hls _ (by have:=hp c hc;omega)).2 ⟨c,hc,rfl⟩
  have key:=Ku w ls p V0 0 hp (lZe _) hls0 (fun k hk=>absurd (ue k) hk);have key2:∀ V2,Fit p w V2->ls <+: cq V2->gvF w ls p V0 0=some (V2,w.length):=by
   intro V2 hf hpre;have hl2:ls.length=(cq V2).length:=by rw[fb,hf.len];omega
   have e:=hpre.eq_of_length hl2;rw[key];refine⟨hf.goes,fun k hk=>?_,?_,?_⟩
   ·rw[e,gT]
   ·rw[hf.word];omega
   ·rw[hf.word];exact prefix_rfl
  unfold l8;cases hg:gvF w ls p V0 0 with
  | none=>
   intro V2 hf hpre;rw[key2 V2 hf hpre]at hg;cases hg
  | some x=>
   obtain⟨V,t⟩:=x;simp only;by_cases ht:t=w.length
   ·rw[if_pos ht];obtain⟨h1,h2,h3,h4⟩:=(key V t).1 hg;rw[drop_zero]at h4;have hw:fP p V=w:=h4.eq_of_length (by omega);have hf:Fit p w V:=⟨h1,hw⟩;have e:ls=cq V:=by
     refine ext_getElem (by rw[fb,hf.len];omega) fun k a b=>?_;have h5:=h2 k;have h6:=hf.on k;have h7:=hls k a;rw[<-gT]at h5;rw[gDe,gEl b]at h5 h6;rw[gDe,gEl a]at h5 h7;simp only[Option.getD_some]at h5 h6 h7;by_cases ho:occ p k
     ·exact(h5 ho).symm
     ·have a1:¬ 1<=ls[k]:=fun hh=>ho (h7.1 hh);have a2:¬ 1<=(cq V)[k]:=fun hh=>ho (h6.1 hh);omega
    refine⟨hf,by rw[e];exact prefix_rfl,fun V2 hf2 hpre=>?_⟩;have:gvF w ls p V0 0=some (V2,w.length):=key2 V2 hf2 hpre;rw[hg,Option.some.injEq,Prod.mk.injEq]at this;rw[this.1];exact xQ _
   ·rw[if_neg ht];intro V2 hf hpre;rw[key2 V2 hf hpre,Option.some.injEq,Prod.mk.injEq]at hg;exact ht hg.2.symm
 | d+1,ls,hl,hls=>by
  have hmore:∀ n,(1<=n↔occ p ls.length)->∀ k,k<(ls++[n]).length->(1<=(ls++[n]).getD k 0↔occ p k):=by
   intro n hn k hk;rw[lAp,length_singleton]at hk;by_cases e:k=ls.length
   ·subst e;rw[gDe,getElem?_append_right (lRf _),Nat.sub_self];exact hn
   ·rw[gDe,getElem?_append_left (by omega),<-gDe];exact hls k (by omega)
  have hpm:∀ V2,Fit p w V2->ls <+: cq V2->ls++[(cq V2).getD ls.length 0] <+: cq V2:=fun V2 hf hpre=>Hp hpre (by rw[fb,hf.len];omega);have hless:∀(n:Nat) (V2:bC),ls++[n] <+: cq V2->ls <+: cq V2:=fun n V2 h=>(prefix_append ls [n]).trans h;unfold l8;by_cases hc:gf p ls.length=0
  ·rw[if_pos hc];have hno:=Co.1 hc;have ih:=D4 w p hp d (ls++[0]) (by rw[lAp,length_singleton];omega) (hmore 0 ⟨fun h=>by omega,fun h=>absurd h hno⟩);have h0:∀ V2,Fit p w V2->ls <+: cq V2->ls++[0] <+: cq V2:=by
    intro V2 hf hpre;have h1:=hpm V2 hf hpre;have h2:=hf.on ls.length;have:(cq V2).getD ls.length 0=0:=by
     by_cases hh:1<=(cq V2).getD ls.length 0
     ·exact absurd (h2.1 hh) hno
     ·omega
    rw[this]at h1;exact h1
   cases hs:l8 w p d (ls++[0]) with
   | none=>rw[hs]at ih;exact fun V2 hf hpre=>ih V2 hf (h0 V2 hf hpre)
   | some V=>rw[hs]at ih;exact⟨ih.1,hless 0 V ih.2.1,fun V2 hf hpre=>ih.2.2 V2 hf (h0 V2 hf hpre)⟩
  ·rw[if_neg hc];have hocc:occ p ls.length:=by
    by_cases h:occ p ls.length
    ·exact h
    ·exact absurd (Co.2 h) hc
   have hcp:0<gf p ls.length:=Nat.pos_of_ne_zero hc;have ih:∀ n,O5 w p (ls++[n+1]) (l8 w p d (ls++[n+1])):=fun n=>D4 w p hp d (ls++[n+1]) (by rw[lAp,length_singleton];omega) (hmore (n+1) ⟨fun _=>hocc,fun _=>by omega⟩);have hb:∀ V2,Fit p w V2->ls <+: cq V2->∃ n,(cq V2).getD ls.length 0=n+1/\n<(w.length-ir p ls)/gf p ls.length/\ls++[n+1] <+: cq V2:=by
    intro V2 hf hpre;have h1:=hpm V2 hf hpre;have h2:=(hf.on ls.length).2 hocc;have h3:=Gt hpre _ rfl p;rw[hf.word]at h3;generalize (cq V2).getD ls.length 0=n2 at *;obtain⟨n,rfl⟩:∃ n,n2=n+1:=⟨n2-1,by omega⟩;refine⟨n,rfl,?_,h1⟩;have:n+1<=(w.length-ir p ls)/gf p ls.length:=(Nat.le_div_iff_mul_le hcp).2 (by omega);omega
   have hfr:=find_range (fun n=>l8 w p d (ls++[n+1])) ((w.length-ir p ls)/gf p ls.length);cases hs:(range ((w.length-ir p ls)/gf p ls.length)).findSome? (fun n=>l8 w p d (ls++[n+1])) with
   | none=>
    rw[hs]at hfr;intro V2 hf hpre;obtain⟨n,_,h2,h3⟩:=hb V2 hf hpre;have:=ih n;rw[hfr n h2]at this;exact this V2 hf h3
   | some V=>
    rw[hs]at hfr;obtain⟨n,h1,h2,h3⟩:=hfr;have hi:=ih n;rw[h2]at hi;refine⟨hi.1,hless _ V hi.2.1,fun V2 hf hpre=>?_⟩;obtain⟨n2,_,h5,h6⟩:=hb V2 hf hpre;by_cases e1:n2<n
    ·have:=ih n2;rw[h3 n2 e1]at this;exact absurd h6 (fun h=>this V2 hf h)
    ·by_cases e2:n2=n
     ·subst e2;exact hi.2.2 V2 hf h6
     ·obtain⟨z1,hz1⟩:=hi.2.1;obtain⟨z2,hz2⟩:=h6;rw[<-hz1,<-hz2,append_assoc,append_assoc,K9];simp only[cons_append,nil_append,lexLt];rw[decide_eq_false (by omega),Bool.false_or,bNe.2 (by omega),Bool.false_and]
theorem BL{V V2:bC}(hl:cq V=cq V2):∀ p:B8,fP p V=fP p V2->∀ c∈p,V.getD (aF c) []=V2.getD (aF c) []
 | [],_,c,hc=>by cases hc
 | d::p,h,c,hc=>by
  rw[cL,cL]at h;have e:(V.getD (aF d) []).length=(V2.getD (aF d) []).length:=by rw[<-gT,<-gT,hl]
  obtain⟨h1,h2⟩:=append_inj h e;rcases List.mem_cons.1 hc with rfl|hc
  ·exact h1
  ·exact BL hl p h2 c hc
theorem SD{p w:B8}{V V2:bC}(h:Fit p w V)(k:Fit p w V2)(hl:cq V=cq V2):V=V2:=by
 refine yp (by rw[h.len,k.len]) fun j=>?_;by_cases ho:occ p j
 ·obtain⟨c,hc,rfl⟩:=ho;exact BL hl p (by rw[h.word,k.word]) c hc
 ·have h1:=h.goes.new j (ue j);have h2:=k.goes.new j (ue j);have e1:V.getD j []=[]:=by
   by_cases hh:V.getD j []=[]
   ·exact hh
   ·exact absurd (h1.1 hh) ho
  have e2:V2.getD j []=[]:=by
   by_cases hh:V2.getD j []=[]
   ·exact hh
   ·exact absurd (h2.1 hh) ho
  rw[e1,e2]
theorem nu{w p:B8}(hp:∀ c∈p,aF c<3){V:bC}{t:Nat}:(V,t)∈cH w p V0 0↔qS p V0 V/\t=(fP p V).length/\fP p V <+: w:=by
 rw[sQ w p V0 0 hp (lZe _),Nat.zero_add,drop_zero]
theorem uS{w p:B8}(hp:∀ c∈p,aF c<3):eW w p=true↔∃ V,Fit p w V:=by
 have h:=ta w p V0 0 (lZe _);rw[drop_zero]at h;unfold eW;rw[<-h,any_eq_true];constructor
 ·rintro⟨⟨V,t⟩,hm,ht⟩
  obtain⟨h1,h2,h3⟩:=(nu hp).1 hm;simp only[beq_iff_eq]at ht;exact⟨V,h1,h3.eq_of_length (by omega)⟩
 ·rintro⟨V,h1,h2⟩
  exact⟨(V,w.length),(nu hp).2 ⟨h1,by rw[h2],by rw[h2];exact prefix_rfl⟩,by simp⟩
theorem LL{u p:B8}(hp:∀ c∈p,aF c<3)(hp1:p≠[]):((fJ (cH u p V0 0)).1=0/\∀ k,k<=u.length->eW (u.take k) p=false) \/
  (1<=(fJ (cH u p V0 0)).1/\(fJ (cH u p V0 0)).1<=u.length/\eW (u.take (fJ (cH u p V0 0)).1) p=true/\(∀ k,k<(fJ (cH u p V0 0)).1->eW (u.take k) p=false)/\l8 (u.take (fJ (cH u p V0 0)).1) p 3 []=some (fJ (cH u p V0 0)).2):=by
 have h1:∀ x∈cH u p V0 0,1<=x.2:=by
  rintro⟨V,t⟩ hx
  obtain⟨a,b,_⟩:=(nu hp).1 hx;simp only;cases p with
  | nil=>exact absurd rfl hp1
  | cons c p=>
   have:=(a.new (aF c) (ue _)).2 ((cY _ _ _).2 (.inl rfl));rw[b,cL,lAp];cases hq:V.getD (aF c) [] with
   | nil=>exact absurd hq this
   | cons x l=>simp;omega
 have hfit:∀ k,k<=u.length->(eW (u.take k) p=true↔∃ V,(V,k)∈cH u p V0 0):=by
  intro k hk;rw[uS hp];have hl:(u.take k).length=k:=by rw[lTa];omega
  constructor
  ·rintro⟨V,h1,h2⟩
   exact⟨V,(nu hp).2 ⟨h1,by rw[h2,hl],by rw[h2];exact List.take_prefix _ _⟩⟩
  ·rintro⟨V,hm⟩
   obtain⟨h1,h2,h3⟩:=(nu hp).1 hm;exact⟨V,h1,by rw[h2];exact(take_prefix h3).symm⟩
 obtain⟨_,hb⟩:=zX (cH u p V0 0) (0,V0) h1;unfold fJ;generalize (bT cW (0,V0) (cH u p V0 0)).1=s at *;rcases hb with ⟨_,h2,h3⟩|⟨h2,h3,_,h5⟩
 ·left;rw[h3];refine⟨rfl,fun k hk=>?_⟩;cases hf:eW (u.take k) p with
  | false=>rfl
  | true=>
   obtain⟨V,hm⟩:=(hfit k hk).1 hf;rw[h2]at hm;cases hm
 ·right;have hm:=h3.resolve_right (fun h=>h.1 rfl);obtain⟨a,b,c⟩:=(nu hp).1 hm;have hle:s.1<=u.length:=by rw[b];exact c.length_le
  refine⟨h2,hle,(hfit _ hle).2 ⟨_,hm⟩,fun k hk=>?_,?_⟩
  ·cases hf:eW (u.take k) p with
   | false=>rfl
   | true=>
    obtain⟨V,hm2⟩:=(hfit k (by omega)).1 hf;have:=h5 _ hm2;unfold ltT at this;simp only[Bool.or_eq_false_iff,decide_eq_false_iff_not]at this;omega
  ·have hf:Fit p (u.take s.1) s.2:=⟨a,by rw[b];exact(take_prefix c).symm⟩;have ok:=D4 (u.take s.1) p hp 3 [] rfl (fun k hk=>by simp at hk);cases hs:l8 (u.take s.1) p 3 [] with
   | none=>rw[hs]at ok;exact absurd nil_prefix (fun h=>ok _ hf h)
   | some V=>
    rw[hs]at ok;obtain⟨o1,_,o3⟩:=ok;have l1:=o3 _ hf nil_prefix;have hl:(u.take s.1).length=s.1:=by rw[lTa];omega
    have l2:=h5 (V,s.1) ((nu hp).2 ⟨o1.goes,by rw[o1.word,hl],by rw[o1.word];exact List.take_prefix _ _⟩);unfold ltT at l2;simp only[Bool.or_eq_false_iff,beq_self_eq_true,Bool.true_and]at l2;rw[SD o1 hf (BX _ _ (by rw[fb,fb,o1.len,hf.len]) l2.2 l1)]
def iR(w p:B8)(i:Nat):Option (Nat×bC):=if 0<(fJ (cH (w.drop i) p V0 0)).1 then some (i,(fJ (cH (w.drop i) p V0 0)).2) else none
def eu(w p:B8)(n:Nat):Option (Nat×bC):=(range n).findSome? (iR w p)
def jJ(w p:B8):Option (Nat×bC):=eu w p w.length
theorem iS{w p:B8}{n:Nat}(h:eu w p n=none):eu w p (n+1)=iR w p n:=by
 unfold eu at *;rw[range_succ,findSome?_append,h,Option.none_or];cases hf:iR w p n<;>simp[findSome?,hf]
theorem wG{w p:B8}{n m:Nat}{r:Nat×bC}(hn:n<m)(h0:eu w p n=none)(h:iR w p n=some r):eu w p m=some r:=by
 have h1:eu w p (n+1)=some r:=by rw[iS h0,h]
 obtain⟨d,rfl⟩:∃ d,m=n+1+d:=⟨m-n-1,by omega⟩;unfold eu at *;rw[range_add,findSome?_append,h1,Option.some_or]
end Go.Proofs.YtapimhjbilkfpaaGreatDoor
namespace Go.Proofs.YtapimhjbilkfpaaGreatDoor
open Go Go.Proofs.Tryz List
def iP(a b:Int):Int:=if a<b then -1 else if b<a then 1 else 0
def cmpL(a b:List Nat):Int:=if a=b then 0 else if lexLt a b then -1 else 1
theorem MF{pre a b:List Nat}:cmpL (pre++a) (pre++b)=cmpL a b:=by
 unfold cmpL;simp only[K9,append_right_inj]
theorem My{x y:Nat}{a b:List Nat}(h:x≠y):cmpL (x::a) (y::b)=iP x y:=by
 have e:¬(x::a=y::b):=by intro e;injection e with e _;exact h e
 by_cases h1:x<y
 ·simp[cmpL,lexLt,iP,h,h1]
 ·have h2:y<x:=by omega
  simp[cmpL,lexLt,iP,h,h1,h2]
theorem zZ(a:Int)(M:Mem)(R:VP)(h:R (.bool false) M):ar prog 384 [.int .i64 a] M R:=by
 refine fnS func384 rfl ntmps384 results384 ?_;simp(disch:=omega);exact ad h
theorem fl(a b:Int)(M:Mem)(R:VP)(h:R (.int .i64 (iP a b)) M):ar prog 322 [.int .i64 a,.int .i64 b] M R:=by
 unfold iP at h;refine fnS func322 rfl ntmps322 results322 ?_;simp(disch:=omega);refine zZ a _ _ ?_;simp(disch:=omega);refine zZ b _ _ ?_;by_cases h1:a<b
 ·rw[if_pos h1]at h;simp(disch:=omega)[h1];exact ad h
 ·rw[if_neg h1]at h;by_cases h2:b<a
  ·rw[if_pos h2]at h;simp(disch:=omega)[h1,h2];exact ad h
  ·rw[if_neg h2]at h;simp(disch:=omega)[h1,h2];exact ad h
theorem wa(v:Value)(x y:Int)(M:Mem)(R:VP)(hv:Rd M v (ints [x,y]))(h:R (.int .i64 (if x=0 then y else x)) M):ar prog 321 [v] M R:=by
 obtain⟨a,c,rfl,ha⟩:=hv.opened;rcases ha with h0|⟨b,o,rfl,ha⟩
 ·simp at h0
 have g0:=ha 0 (by simp);have g1:=ha 1 (by simp);refine fnS func321 rfl ntmps321 results321 ?_;simp(disch:=omega);refine lupS (rlA [2,5] 8 9) (fun i:Nat=>[(8,.int .i64 i)]) (fun i M'=>M'=M/\(i=0\/(i=1/\x=0)\/(i=2/\x=0/\y=0))) (fun i=>2-i) 0 ⟨rfl,.inl rfl⟩ ?_
 rintro i M' g ⟨rfl,hi⟩
 have e0:(ints [x,y])[0]?=some (.int .i64 x):=rfl;have e1:(ints [x,y])[1]?=some (.int .i64 y):=rfl;rw[e0]at g0;rw[e1]at g1;rw[Nat.add_zero]at g0;rcases hi with rfl|⟨rfl,rfl⟩|⟨rfl,rfl,rfl⟩
 ·by_cases hx:x=0
  ·subst hx;simp(disch:=omega)[g0];exact rndS 1 ⟨rfl,by simp⟩
  ·rw[if_neg hx]at h;simp(disch:=omega)[g0,hx];exact ad h
 ·by_cases hy:y=0
  ·subst hy;simp(disch:=omega)[g1];exact rndS 2 ⟨rfl,by simp⟩
  ·rw[if_pos rfl]at h;simp(disch:=omega)[g1,hy];exact ad h
 ·rw[if_pos rfl]at h;simp(disch:=omega);exact ad h
theorem AK(v v':Value)(a b:List Nat)(M:Mem)(R:VP)(hv:Rd M v (aD a))(hv':Rd M v' (aD b))(hl:a.length=b.length)(hl':a.length<=1000000)(h:R (.int .i64 (cmpL a b)) M):ar prog 323 [v,v'] M R:=by
 obtain⟨a1,c1,rfl,ha⟩:=hv.opened;obtain⟨a2,c2,rfl,hb⟩:=hv'.opened;simp only[aB]at ha hb ⊢;refine fnS func323 rfl ntmps323 results323 ?_;simp(disch:=omega);refine lupS (rlA [4,5,6,7,8] 11 20) (fun i:Nat=>[(11,.int .i64 i)]) (fun i M'=>M'=M/\i<=a.length/\a.take i=b.take i) (fun i=>a.length-i) 0 ⟨rfl,by omega,rfl⟩ ?_
 rintro i M' g ⟨rfl,hi,heq⟩
 by_cases hlt:i<a.length
 ·rcases ha with hz|⟨b1,o1,rfl,ha⟩
  ·omega
  rcases hb with hz|⟨b2,o2,rfl,hb⟩
  ·omega
  have hltb:i<b.length:=by omega
  have g1:=ha i hlt;have g2:=hb i hltb;rw[bU,gEl hlt,Option.map_some]at g1;rw[bU,gEl hltb,Option.map_some]at g2;have t1:=aw a hlt;have t2:=aw b hltb;have d1:a=a.take i++a[i]::a.drop (i+1):=by rw[getElem_cons_drop];exact(take_append_drop _ _).symm
  have d2:b=b.take i++b[i]::b.drop (i+1):=by rw[getElem_cons_drop];exact(take_append_drop _ _).symm
  by_cases hx:a[i]=b[i]
  ·rw[hx]at g1 t1;generalize b[i]=x at *;simp(disch:=omega)[g1,g2];refine fl _ _ _ _ ?_;have e:iP x x=0:=by unfold iP;simp
   rw[e];simp(disch:=omega);exact rndS (i+1) ⟨rfl,by omega,by rw[t1,t2,heq]⟩
  ·have e:cmpL a b=iP a[i] b[i]:=by
    conv=>lhs;rw[d1,d2,heq]
    rw[MF,My hx]
   have e0:iP (a[i]:Nat) (b[i]:Nat)≠0:=by
    unfold iP;split
    ·omega
    ·split<;>omega
   rw[e]at h;generalize a[i]=x at *;generalize b[i]=y at *;simp(disch:=omega)[g1,g2];refine fl _ _ _ _ ?_;generalize iP x y=q at *;simp(disch:=omega);exact ad h
 ·have hi':i=a.length:=by omega
  subst hi';rw[take_length,hl,take_length]at heq;have e:cmpL a b=0:=by unfold cmpL;rw[if_pos heq]
  rw[e]at h;simp(disch:=omega);exact ad h
theorem oC(V:bC)(M:Mem)(R:VP)(hV:eE V)(h:∀ v M',Own M v (aD (cq V)) M'->R v M'):ar prog 324 [.agg (strs V).toArray] M R:=by
 have h3:=cZ hV.1;have h3':=hV.1;refine fnS func324 rfl ntmps324 results324 ?_;simp(disch:=omega);intro b1 hb1;have k1:(M.put b1 (.cells true (strs V) 3)) b1=some (.cells true (strs V) 3):=ag _ _ _;have hs1:Sub M (M.put b1 (.cells true (strs V) 3)):=(Sub.refl M).put hb1 _;simp(disch:=omega)[aq k1,h3,h3'];generalize M.put b1 (.cells true (strs V) 3)=N at *;refine lupS (rlA [3,5] 7 9) (fun x:Nat×Value=>[(7,.int .i64 x.1),(3,x.2)]) (fun x M'=>x.1<=3/\Own N x.2 (aD ((cq V).take x.1)) M') (fun x=>3-x.1) (0,.slice none 0 0) ⟨by omega,by show Own N _ [] N;exact Own.nil N⟩ ?_
 rintro⟨i,v⟩ M' g ⟨hi,ho⟩
 simp only at hi ho;by_cases hlt:i<3
 ·have hgv:=px hV.1 hlt;have hsm:=la hV i;have hll:i<(cq V).length:=by rw[fb];omega
  have htk:=aw (cq V) hll;have he:(cq V)[i]=(V.getD i []).length:=by
   rw[<-gT,gDe,gEl hll];rfl
  rw[he]at htk;generalize V.getD i []=u at *;have htl:((cq V).take i).length<=3:=by rw[lTa];omega
  generalize (cq V).take i=L at *;simp(disch:=omega)[hgv];intro b' hb';simp(disch:=omega);refine aN ho ((Sub.refl _).put hb' _) (by simp(disch:=omega);rfl) rfl rfl (by omega) (by simp(disch:=omega)) (by simp(disch:=omega);rw[aB];omega) ?_;intro v' M'' N'' ho' hs';simp(disch:=omega);refine rndM M'' (i+1,v') hs' ⟨by simp only;omega,?_⟩;simp only;rw[htk,<-eF];exact ho'
 ·have hi':i=3:=by omega
  subst hi';rw[take_of_length_le (by rw[fb];omega)]at ho;obtain⟨M3,o3,s3⟩:=ho.base hs1;simp(disch:=omega);exact ae s3 (h _ _ o3)
def JF(bl bb:Nat)(s:Nat×bC)(M:Mem):Prop:=M bl=some (.cells true [.int .i64 (s.1:Nat)] 1)/\M bb=some (.cells true (strs s.2) 3)/\eE s.2
theorem T6(x:bC×Nat)(s:Nat×bC):decide ((if iP (x.2:Nat) (s.1:Nat)=0 then cmpL (cq x.1) (cq s.2) else iP (x.2:Nat) (s.1:Nat))<0)=ltT x (s.2,s.1):=by
 unfold ltT iP;rcases Nat.lt_trichotomy x.2 s.1 with h|h|h
 ·simp[h]
 ·rw[h];simp only[Int.lt_irrefl,if_false,if_true,Nat.lt_irrefl,decide_false,Bool.false_or,beq_self_eq_true,Bool.true_and];unfold cmpL;by_cases e:cq x.1=cq s.2
  ·rw[if_pos e,e,xQ];rfl
  ·rw[if_neg e];cases hl:lexLt (cq x.1) (cq s.2)<;>simp
 ·have h1:¬ x.2<s.1:=by omega
  have h2:¬ x.2=s.1:=by omega
  simp[h,h1,h2]
theorem uv(bl bb:Nat)(hne:bl≠bb)(s:Nat×bC)(V:bC)(t:Nat)(M:Mem)(R:VP)(hV:eE V)(hJ:JF bl bb s M)
  (h:∀ M',JF bl bb (cW s (V,t)).1 M'->dY (fun b=>b=bl\/b=bb) M M'->R (.bool (cW s (V,t)).2) M') :
  fq prog (.func (.func 320) #[] #[.pointer (some ⟨bl,0,none⟩),.pointer (some ⟨bb,0,none⟩)]) [.agg (strs V).toArray,.int .i64 (t:Nat)] R M:=by
 obtain⟨j1,j2,j3⟩:=hJ;obtain⟨least,best⟩:=s;simp only at j1 j2 j3;have h3:=cZ hV.1;have h3':=hV.1;have b3:=cZ j3.1;have b3':=j3.1;have bd:(strs best).drop 3=[]:=drop_of_length_le (by rw[ah];omega);simp(disch:=omega);refine fnS func320 rfl ntmps320 results320 ?_;simp(disch:=omega);intro b4 hb4;have n1:bl≠b4:=by rintro rfl;rw[hb4]at j1;cases j1
 have n2:bb≠b4:=by rintro rfl;rw[hb4]at j2;cases j2
 have k4:(M.put b4 (.cells true (strs V) 3)) b4=some (.cells true (strs V) 3):=ag _ _ _;have s4:Sub M (M.put b4 (.cells true (strs V) 3)):=(Sub.refl M).put hb4 _;have k1:=s4 _ _ j1;have k2:=s4 _ _ j2;simp(disch:=omega)[h3'];generalize M.put b4 (.cells true (strs V) 3)=N at *;have keep:∀ N',Sub N N'->dY (fun b=>b=bl\/b=bb) M ((N'.put bl (.cells true [.int .i64 (t:Nat)] 1)).put bb (.cells true (strs V) 3)):=by
  intro N' hN b B hb hB;rw[ai _ _ (fun e=>hb (.inr e)),ai _ _ (fun e=>hb (.inl e))];exact hN _ _ (s4 _ _ hB)
 have newJ:∀ N':Mem,JF bl bb (t,V) ((N'.put bl (.cells true [.int .i64 (t:Nat)] 1)).put bb (.cells true (strs V) 3)):=by
  intro N';refine⟨?_,ag _ _ _,hV⟩;rw[ai _ _ hne];exact ag _ _ _
 by_cases h0:least=0
 ·have hst:cW (least,best) (V,t)=((t,V),false):=by unfold cW;rw[if_pos (.inl h0)]
  rw[hst]at h;subst h0;refine plyS (ak [0,1,2,3,4,5,6,8] (.one 7 1 (.one 9 1 (ak [10] (.one 11 1 (ak [12,13,14] .fin)))))) ?_;simp(disch:=omega)[al k1];refine plyS (ak [0] (.alt 1 1 (.one 2 2 (.one 3 2 .fin)) (.one 2 2 (.one 1 1 (.one 3 2 .fin))))) ?_;simp(disch:=omega)[aq k4,h3,h3',b3',k1,k2,aj,jz,bd];refine⟨dB V,?_⟩;exact ad (h _ (newJ N) (keep N (Sub.refl _)))
 ·have hlt:=T6 (V,t) (least,best);have hst:cW (least,best) (V,t)=((if ltT (V,t) (best,least)=true then (t,V) else (least,best)),false):=by
   unfold cW;simp[h0]
  rw[hst]at h;simp only at hlt;have h0':¬(least:Int)=0:=by omega
  refine plyS (ak [0,1,2,3,4,5,6,8] (.one 7 1 (.one 9 1 (ak [10] (.one 11 1 (ak [12,13,14] .fin)))))) ?_;simp(disch:=omega)[al k1];refine aU (a:=[]) (c:=[]) (fl _ _ _ _ ⟨rfl,rfl⟩) ?_;simp(disch:=omega)[aq k2,aq k4,h3,h3',b3,b3'];refine oC V _ _ hV ?_;intro v1 N1 o1;have q1:=o1.sub;simp(disch:=omega);refine⟨q1,?_⟩;refine oC best _ _ j3 ?_;intro v2 N2 o2;have q2:=o2.sub;simp(disch:=omega);refine⟨q2,?_⟩;refine aU (a:=[]) (c:=[]) (AK v1 v2 _ _ _ _ (o1.rd.sub q2) o2.rd (by rw[fb,fb,hV.1,j3.1]) (by rw[fb,hV.1];omega) ⟨rfl,rfl⟩) ?_;simp(disch:=omega);intro b7 hb7;have q3:Sub N2 (N2.put b7 (.cells true [.int .i64 (iP (t:Nat) (least:Nat)),.int .i64 (cmpL (cq V) (cq best))] 2)):=(Sub.refl _).put hb7 _;refine⟨q3,?_⟩;have r7:Rd (N2.put b7 (.cells true [.int .i64 (iP (t:Nat) (least:Nat)),.int .i64 (cmpL (cq V) (cq best))] 2)) (.slice (some ⟨b7,0,none⟩) 2 2) (ints [iP (t:Nat) (least:Nat),cmpL (cq V) (cq best)]):=Rd.new rfl (lRf 2);have sN:=(q1.trans q2).trans q3;generalize N2.put b7 (.cells true [.int .i64 (iP (t:Nat) (least:Nat)),.int .i64 (cmpL (cq V) (cq best))] 2)=N3 at *;simp(disch:=omega);refine aU (a:=[]) (c:=[]) (wa _ _ _ _ _ r7 ⟨rfl,rfl⟩) ?_;have l1:=sN _ _ k1;have l2:=sN _ _ k2;have l4:=sN _ _ k4;generalize (if iP (t:Nat) (least:Nat)=0 then cmpL (cq V) (cq best) else iP (t:Nat) (least:Nat))=q at *;cases hd:ltT (V,t) (best,least)
  ·rw[hd]at h hlt;have hlt:=of_decide_eq_false hlt;simp(disch:=omega)[hlt];refine ad (h N3 ⟨l1,l2,j3⟩ ?_);exact(s4.trans sN).keepO
  ·rw[hd]at h hlt;have hlt:=of_decide_eq_true hlt;simp(disch:=omega)[hlt];refine plyS (ak [0] (.alt 1 1 (.one 2 2 (.one 3 2 .fin)) (.one 2 2 (.one 1 1 (.one 3 2 .fin))))) ?_;simp(disch:=omega)[aq l4,h3,h3',b3',l1,l2,aj,jz,bd];refine⟨dB V,?_⟩;exact ad (h _ (newJ N3) (keep N3 sN))
theorem kY(w p:B8)(M:Mem)(R:VP)(hw:w.length<=1099511627776)(hp:p.length<=1099511627776)(h:R (.int .i64 (if isWord w&&a7 p then 0 else 1)) M):ar prog 318 [str w,str p] M R:=by
 refine fnS func318 rfl ntmps318 results318 ?_;simp(disch:=omega);refine fG w _ _ hw ?_;cases h1:isWord w
 ·rw[h1]at h;simp(disch:=omega);exact ad h
 ·rw[h1]at h;simp(disch:=omega);refine fW p _ _ hp ?_;cases h2:a7 p
  ·rw[h2]at h;simp(disch:=omega);exact ad h
  ·rw[h2]at h;simp(disch:=omega);exact ad h
def jS(V:bC):bC:=V.filter fun u=>!u.isEmpty
def plI(w p:B8):Int:=if isWord w&&a7 p then (match jJ w p with|some x=>(x.1:Int)|none=>0) else 0
def plL(w p:B8):bC:=if isWord w&&a7 p then (match jJ w p with|some x=>jS x.2|none=>[]) else []
def plC(w p:B8):Int:=if isWord w&&a7 p then (match jJ w p with|some _=>0|none=>4) else 1
def Ve(i:Int)(c:Int)(xs:List Value)(M:Mem)(R:VP):Prop:=∀ v M',Own M v xs M'->R (.tuple #[.int .i64 i,v,.int .i64 c]) M'
theorem Sub.delN{M N:Mem}{b:Nat}(h:Sub M N)(hb:M b=none):Sub M (N.del b):=by
 intro i B hi;have hne:i≠b:=by rintro rfl;rw[hb]at hi;cases hi
 simp only[Mem.del,if_neg hne];exact h _ _ hi
theorem EO{M:Mem}{b:Nat}{X:Blk}(h:M b=some X):(M.del b).put b X=M:=by
 funext i
 by_cases e:i=b
 ·subst e;rw[ag,h]
 ·rw[ai _ _ e];simp[Mem.del,e]
theorem rB(ss:List B8):DW prog (.func (.func 326) #[] #[]) ss (fun u=>u.isEmpty):=by
 intro u hu M R h;have h:∀ M',Sub M M'->R (.bool (u.isEmpty)) M':=h;simp(disch:=omega);refine fnS func326 rfl ntmps326 results326 ?_;simp(disch:=omega);exact ad (h _ (Sub.refl _))
theorem wO(w p:B8)(M:Mem)(R:VP)(hw:w.length<=1099511627776)(hp:p.length<=1099511627776)(h:Ve (plI w p) (plC w p) (strs (plL w p)) M R):ar prog 231 [str w,str p] M R:=by
 unfold plI plC plL at h;refine fnS func231 rfl ntmps231 results231 ?_;simp(disch:=omega);refine kY w p _ _ hw hp ?_;cases hb:isWord w&&a7 p
 ·rw[hb]at h;simp(disch:=omega);exact ad (h _ _ (Own.nil M))
 ·rw[hb,if_pos rfl,if_pos rfl,if_pos rfl]at h;rw[Bool.and_eq_true]at hb;have h60:=au hb.1;obtain⟨hp1,hp8,hpv⟩:=bJ hb.2;have hpi:∀ c∈p,aF c<3:=fun c hc=>by
   have:=di (List.all_eq_true.1 hpv c hc);unfold aF;omega
  simp(disch:=omega);refine lupS (rlA [4,5,6,8,9,10] 19 16) (fun i:Nat=>[(19,.int .i64 i)]) (fun i M'=>i<=w.length/\Sub M M'/\eu w p i=none) (fun i=>w.length-i) 0 ⟨by omega,Sub.refl _,rfl⟩ ?_
  rintro i M' g ⟨hi,hs,hno⟩
  by_cases hlt:i<w.length
  ·simp(disch:=omega);intro bl hbl;simp(disch:=omega);intro bb hbb;have hne:bl≠bb:=by rintro rfl;rw[ag]at hbb;cases hbb
   have hbb':M' bb=none:=by rw[ai _ _ (Ne.symm hne)]at hbb;exact hbb
   have hJ:JF bl bb (0,V0) ((M'.put bl (.cells true [.int .i64 0] 1)).put bb (.cells true [str [],str [],str []] 3)):=by
    refine⟨?_,ag _ _ _,ux⟩;rw[ai _ _ hne];exact ag _ _ _
   have hsN:Sub M' ((M'.put bl (.cells true [.int .i64 0] 1)).put bb (.cells true [str [],str [],str []] 3)):=((Sub.refl M').put hbl _).putN hbb _;simp(disch:=omega);generalize (M'.put bl (.cells true [.int .i64 0] 1)).put bb (.cells true [str [],str [],str []] 3)=N at *;refine mT (w.drop i) (by rw[length_drop];omega) cW _ rfl (fun b=>b=bl\/b=bb) (JF bl bb) ?_ ?_ (fun s V t K R' hV hJ' hR=>uv bl bb hne s V t K R' hV hJ' hR) p V0 0 (0,V0) _ _ hpv hp8 ux (by omega) hJ ?_
   ·rintro s K b ⟨q1,q2,_⟩ (rfl|rfl)
    ·rw[q1];intro hh;cases hh
    ·rw[q2];intro hh;cases hh
   ·rintro s K b B ⟨q1,q2,q3⟩ hb
    refine⟨?_,?_,q3⟩
    ·rw[ai _ _ (by rintro rfl;rw[hb]at q1;cases q1)];exact q1
    ·rw[ai _ _ (by rintro rfl;rw[hb]at q2;cases q2)];exact q2
   ·intro N1 hJ1 hk1;have hrun:(bT cW (0,V0) (cH (w.drop i) p V0 0)).1=fJ (cH (w.drop i) p V0 0):=rfl;have hsK:Sub M' N1:=by
     intro b B hB;refine hk1 b B ?_ (hsN _ _ hB)
     rintro(rfl|rfl)
     ·rw[hbl]at hB;cases hB
     ·rw[hbb']at hB;cases hB
    have hbest:=LL (u:=w.drop i) hpi (by intro e;rw[e]at hp1;simp at hp1);have hat:iR w p i=if 0<(fJ (cH (w.drop i) p V0 0)).1 then some (i,(fJ (cH (w.drop i) p V0 0)).2) else none:=rfl
    rw[hrun]at hJ1;generalize fJ (cH (w.drop i) p V0 0)=s at *;obtain⟨j1,j2,j3⟩:=hJ1;obtain⟨least,best⟩:=s;simp only at j1 j2 j3 hat;by_cases h0:0<least
    ·have h0':0<(least:Int):=by omega
     rw[if_pos h0]at hat;have hpl:jJ w p=some (i,best):=wG hlt hno hat;rw[hpl]at h;have hbn:(N1.del bb) bb=none:=by simp[Mem.del]
     have hown:Own (N1.del bb) (.slice (some ⟨bb,0,none⟩) 3 3) (strs best) N1:=.inr ⟨bb,3,by rw[ah,j3.1],hbn,by rw[ah,j3.1];omega,(EO j2).symm⟩;have hsD:Sub M (N1.del bb):=hs.trans (Sub.delN hsK hbb');simp(disch:=omega)[al j1];refine mj _ _ best (fun u=>u.isEmpty) _ _ _ hown (rB best) (by rw[j3.1];omega) ?_;intro v' M2 o2;obtain⟨M3,o3,s3⟩:=o2.base hsD;simp(disch:=omega);exact ae s3 (h _ _ o3)
    ·have h0':¬ 0<(least:Int):=by omega
     rw[if_neg h0]at hat;simp(disch:=omega)[al j1];exact rndM M' (i+1) hsK ⟨by omega,hs,by rw[iS hno,hat]⟩
  ·have hi':i=w.length:=by omega
   subst hi';have e:jJ w p=none:=hno;rw[e]at h;simp(disch:=omega);exact ae hs (h _ _ (Own.nil M))
end Go.Proofs.YtapimhjbilkfpaaGreatDoor
