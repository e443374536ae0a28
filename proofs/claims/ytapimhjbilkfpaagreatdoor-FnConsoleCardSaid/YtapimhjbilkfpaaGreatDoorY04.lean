/- Lemmas, part 5. -/
import Derived.Test.YtapimhjbilkfpaaGreatDoorY03
set_option linter.unusedVariables false
set_option linter.unusedSimpArgs false
set_option maxHeartbeats 8000000
namespace Go.Proofs.YtapimhjbilkfpaaGreatDoor
open Go Go.Proofs.Tryz List
def eB(O:Nat->Prop)(M M':Mem):Prop:=∀ b B,¬ O b->M b=some B->M' b=some B
theorem eB.refl(O:Nat->Prop)(M:Mem):eB O M M:=fun _ _ _ h=>h
theorem eB.trans{O:Nat->Prop}{A B C:Mem}(h:eB O A B)(k:eB O B C):eB O A C:=fun b x ho hx=>k b x ho (h b x ho hx)
theorem Sub.keepO{O:Nat->Prop}{A B:Mem}(h:Sub A B):eB O A B:=fun b x _ hx=>h b x hx
theorem ov{S:Type}(w:B8)(hl:w.length<=60)(step:S->bD×Nat->S×Bool)(fv:Value)(hfl:bE fv=true)(O:Nat->Prop)(J:S->Mem->Prop)(hO:∀ s M b,J s M->O b->M b≠none)(hst:∀ s,oK (J s))
  (ht:∀ s V t M R,fa V->J s M->(∀ M',J (step s (V,t)).1 M'->eB O M M'->R (.bool (step s (V,t)).2) M')->fO prog fv [.agg (strs V).toArray,.int .i64 (t:Nat)] R M) :
  ∀(p:B8) (V:bD) (t:Nat) (s:S) (M:Mem) (R:VP),p.all isV=true->p.length<=8->fa V->t<=w.length->J s M->(∀ M',J (bU step s (cT w p V t)).1 M'->eB O M M'->R (.bool (bU step s (cT w p V t)).2) M')->ar prog 319 [str w,str p,.agg (strs V).toArray,.int .i64 t,fv] M R
 | [],V,t,s,M,R,hp,hp8,hV,htl,hG,h=>by
  unfold cT at h;rw[zv]at h;refine fnS func319 rfl ntmps319 results319 ?_;have h3:=dj hV.1;have h3':=hV.1;refine sS ?_;intro b7 hb7;simp(disch:=omega)[h3,h3'];refine ht s V t _ _ hV (hst s _ _ _ hG hb7) ?_;intro M' hJ hk;refine sS ?_;exact ad (h _ hJ (((Sub.refl M).put hb7 _).keepO.trans hk))
 | c::p,V,t,s,M,R,hp,hp8,hV,htl,hG,h=>by
  rw[all_cons,bAn]at hp;have hc:=dG hp.1;refine fnS func319 rfl ntmps319 results319 ?_;have h3:=dj hV.1;have h3':=hV.1;have hk:((c.toNat:Int)-65).toNat=aI c:=by unfold aI;omega
  have hk3:aI c<3:=by unfold aI;omega
  have hgv:=pj hV.1 hk3;have hsm:=lG hV (aI c);have hold:=AO (w:=w) (p:=p) (V:=V) (t:=t) (c:=c);have hnew:=zA (w:=w) (p:=p) (V:=V) (t:=t) (c:=c);rw[lCo]at hp8;obtain⟨own,hown⟩:∃ own,own=V.getD (aI c) []:=⟨_,rfl⟩;rw[<-hown]at hgv hsm hold hnew;obtain⟨k,hkk⟩:∃ k,k=aI c:=⟨_,rfl⟩;rw[<-hkk]at hk hk3 hgv hnew hown;refine sS ?_;intro b7 hb7;have hG7:=hst s _ _ (.cells true (strs V) 3) hG hb7;have hs7:eB O M (M.put b7 (.cells true (strs V) 3)):=((Sub.refl M).put hb7 (.cells true (strs V) 3)).keepO;have k7:=ae M b7 (.cells true (strs V) 3);have ho7:¬ O b7:=fun ho=>hO s M b7 hG ho hb7;simp(disch:=omega)[h3',hk,hgv];by_cases h0:own=[]
  .rw[hnew h0]at h;subst h0;refine sS ?_;generalize M.put b7 (.cells true (strs V) 3)=N at *;refine lupS (rlA [10,13,14] 48 20) (fun x:Nat×S=>[(13,.int .i64 (((t+x.1:Nat):Int)+1))]) (fun x M'=>t+x.1<=w.length/\bU step s (ke w p V k t x.1)=(x.2,false)/\J x.2 M'/\eB O N M') (fun x=>w.length-x.1) (0,s) ⟨by simp only;omega,rfl,hG7,eB.refl _ _⟩ ?_
   rintro⟨n,s'⟩ M' g ⟨hn,hno,hJ,hK⟩
   simp only at hn hno hJ hK;have hsucc:=AJ w p V k t n;have k7':=hK _ _ ho7 k7;by_cases hlt:t+n<w.length
   .simp(disch:=omega)[aq k7',h3,h3'];intro b14 hb14;simp(disch:=omega)[h3'];refine⟨cJ V,?_⟩;have hJ14:=hst s' _ _ (.cells true (strs (V.set k ((w.drop t).take (n+1)))) 3) hJ hb14;have hV':fa (V.set k ((w.drop t).take (n+1))):=oZ hV (by rw[lTa];omega);have h4:=dj hV'.1;have hseg:drop t (take ((t:Int)+n+1).toNat w)=(w.drop t).take (n+1):=by
     rw[show ((t:Int)+n+1).toNat=t+(n+1) by omega,drop_take,show t+(n+1)-t=n+1 by omega]
    have e2:((t:Int)+n+1)=((t+(n+1):Nat):Int):=by omega
    refine plyS (ai [0,1,2,3,4,5] (.one 6 2 .fin)) ?_;simp(disch:=omega)[iH,hk,hseg,h4];rw[e2];refine ov w hl step fv hfl O J hO hst ht p (V.set k ((w.drop t).take (n+1))) (t+(n+1)) s' _ _ hp.2 (by omega) hV' (by omega) hJ14 ?_;intro M2 hJ2 hK2;have hK3:eB O N M2:=(hK.trans ((Sub.refl M').put hb14 _).keepO).trans hK2;have happ:bU step s (ke w p V k t (n+1))=bU step s' (cT w p (V.set k ((w.drop t).take (n+1))) (t+(n+1))):=by
     rw[hsucc,sY (by rw[hno]),hno]
    generalize hq:bU step s' (cT w p (V.set k ((w.drop t).take (n+1))) (t+(n+1)))=out at *;obtain⟨s2,bo⟩:=out;simp only at hJ2;cases bo with
    | false=>
     refine sS ?_;exact rndS (n+1,s2) ⟨by simp only;omega,happ,hJ2,hK3⟩
    | true=>
     have hall:bU step s (ke w p V k t (w.length-t))=(s2,true):=by
      obtain⟨d,hd⟩:∃ d,w.length-t=(n+1)+d:=⟨w.length-t-(n+1),by omega⟩;have hsp:ke w p V k t (n+1+d)=ke w p V k t (n+1)++(range d).flatMap (fun i=>cT w p (V.set k ((w.drop t).take (n+1+i+1))) (t+(n+1+i+1))):=by
       unfold ke;rw[range_add,flatMap_append,flatMap_map]
      rw[hd,hsp,vz (by rw[happ]),happ]
     rw[hall]at h;refine sS ?_;exact ad (h _ hJ2 (hs7.trans hK3))
   .have hn':n=w.length-t:=by omega
    rw[<-hn',hno]at h;refine sS ?_;exact ad (h _ hJ (hs7.trans hK))
  .have he:own.isEmpty=false:=by cases own with
    | nil=>exact absurd rfl h0
    | cons a l=>rfl
   rw[hold h0]at h;simp(disch:=omega)[he];refine plyS (ai [0,1,2,3] (.one 4 1 (ai [5,6,7,8,9,10,11,12,13,14] (.one 15 2 (ai [16,17] .fin))))) ?_;refine sS ?_;refine dX _ _ _ _ (by rw[lDr];omega) (by omega) ?_;cases hpre:own.isPrefixOf (w.drop t)
   .rw[hpre]at h;refine sS ?_;exact ad (h _ hG7 hs7)
   .rw[hpre,if_pos rfl]at h;have hle:=eV hpre;rw[lDr]at hle;have e1:((t:Int)+own.length)=((t+own.length:Nat):Int):=by push_cast;rfl
    simp(disch:=omega)[aq k7,h3,h3'];rw[e1];refine ov w hl step fv hfl O J hO hst ht p V (t+own.length) s _ _ hp.2 (by omega) hV (by omega) hG7 ?_;intro M2 hJ2 hK2;refine sS ?_;exact ad (h _ hJ2 (hs7.trans hK2))
end Go.Proofs.YtapimhjbilkfpaaGreatDoor
namespace Go.Proofs.YtapimhjbilkfpaaGreatDoor
open Go.Proofs.Tryz List
def gg(p:B8)(V:bD):B8:=p.flatMap fun c=>V.getD (aI c) []
theorem Hb(V:bD):gg [] V=[]:=rfl
theorem cU(c:UInt8)(p:B8)(V:bD):gg (c::p) V=V.getD (aI c) []++gg p V:=by simp[gg]
def occ(p:B8)(k:Nat):Prop:=∃ c∈p,aI c=k
theorem Ey(k:Nat):¬ occ [] k:=by rintro⟨c,hc,_⟩;cases hc
theorem dm(c:UInt8)(p:B8)(k:Nat):occ (c::p) k↔aI c=k\/occ p k:=by
 unfold occ;simp
structure qI(p:B8)(V V':bD):Prop where
 len:V'.length=V.length
 old:∀ k,V.getD k []≠[]->V'.getD k []=V.getD k []
 new:∀ k,V.getD k []=[]->(V'.getD k []≠[]↔occ p k)
theorem yP{V V':bD}(hl:V'.length=V.length)(h:∀ k,V'.getD k []=V.getD k []):V'=V:=by
 refine ext_getElem hl fun i h1 h2=>?_;have:=h i;rw[gDe,gDe,gEl h1,gEl h2]at this;exact this
theorem yR(V:bD){k:Nat}(hk:k<V.length)(x:B8)(j:Nat):(V.set k x).getD j []=if j=k then x else V.getD j []:=by
 rw[gDe,gDe,getElem?_set];by_cases h:j=k
 .subst h;simp[hk]
 .rw[if_neg (Ne.symm h),if_neg h]
theorem Hl{V V':bD}:qI [] V V'↔V'=V:=by
 constructor
 .intro h;refine yP h.len fun k=>?_;by_cases hk:V.getD k []=[]
  .rw[hk];have:=h.new k hk;by_cases hv:V'.getD k []=[]
   .exact hv
   .exact absurd (this.1 hv) (Ey k)
  .exact h.old k hk
 .rintro rfl
  exact⟨rfl,fun _ _=>rfl,fun k hk=>⟨fun h=>absurd hk h,fun h=>absurd h (Ey k)⟩⟩
theorem zg{c:UInt8}{p:B8}{V V':bD}{x:B8}(hk:aI c<V.length)(h0:V.getD (aI c) []=[])(hx:x≠[]):qI p (V.set (aI c) x) V'↔qI (c::p) V V'/\V'.getD (aI c) []=x:=by
 have hg:=yR V hk x;constructor
 .intro h;have hkk:V'.getD (aI c) []=x:=by
   have:=h.old (aI c) (by rw[hg,if_pos rfl];exact hx);rw[this,hg,if_pos rfl]
  refine⟨⟨by rw[h.len,length_set],fun j hj=>?_,fun j hj=>?_⟩,hkk⟩
  .have hne:j≠aI c:=by rintro rfl;exact hj h0
   have:=h.old j (by rw[hg,if_neg hne];exact hj);rw[this,hg,if_neg hne]
  .rw[dm];by_cases e:j=aI c
   .subst e;rw[hkk];exact⟨fun _=>.inl rfl,fun _=>hx⟩
   .have:=h.new j (by rw[hg,if_neg e];exact hj);rw[this];exact⟨.inr,fun h=>h.resolve_left (Ne.symm e)⟩
 .rintro⟨h,hkk⟩
  refine⟨by rw[h.len,length_set],fun j hj=>?_,fun j hj=>?_⟩
  .rw[hg]at hj ⊢;by_cases e:j=aI c
   .rw[if_pos e,e,hkk]
   .rw[if_neg e]at hj ⊢;exact h.old j hj
  .rw[hg]at hj;by_cases e:j=aI c
   .rw[if_pos e]at hj;exact absurd hj hx
   .rw[if_neg e]at hj;have:=h.new j hj;rw[dm]at this;rw[this];exact⟨fun h=>h.resolve_left (Ne.symm e),.inr⟩
theorem H0{c:UInt8}{p:B8}{V V':bD}(h0:V.getD (aI c) []≠[]):qI p V V'↔qI (c::p) V V':=by
 constructor
 .intro h;refine⟨h.len,h.old,fun j hj=>?_⟩;rw[h.new j hj,dm];refine⟨.inr,fun h=>h.resolve_left ?_⟩
  rintro rfl;exact h0 hj
 .intro h;refine⟨h.len,h.old,fun j hj=>?_⟩;rw[h.new j hj,dm];refine⟨fun h=>h.resolve_left ?_,.inr⟩
  rintro rfl;exact h0 hj
theorem take_prefix{x:B8}{w:B8}(h:x <+: w):w.take x.length=x:=(prefix_iff_eq_take.1 h).symm
theorem de{x y w:B8}:x++y <+: w↔x <+: w/\y <+: w.drop x.length:=by
 constructor
 .rintro⟨z,rfl⟩
  refine⟨⟨y++z,by rw[append_assoc]⟩,⟨z,?_⟩⟩;rw[append_assoc,drop_left]
 .rintro⟨⟨z,rfl⟩,⟨u,hu⟩⟩
  rw[drop_left]at hu;exact⟨u,by rw[<-hu,append_assoc]⟩
theorem sa(w:B8):∀(p:B8) (V:bD) (t:Nat),(∀ c∈p,aI c<V.length)->t<=w.length->∀ V' t',(V',t')∈cT w p V t↔qI p V V'/\t'=t+(gg p V').length/\gg p V' <+: w.drop t
 | [],V,t,_,ht,V',t'=>by
  unfold cT;rw[mem_singleton,Hl,Prod.mk.injEq,Hb];constructor
  .rintro⟨rfl,rfl⟩;exact⟨rfl,rfl,nil_prefix⟩
  .rintro⟨rfl,h,_⟩;exact⟨rfl,h⟩
 | c::p,V,t,hp,ht,V',t'=>by
  have hk:=hp c mem_cons_self;have hp':∀ d∈p,aI d<V.length:=fun d hd=>hp d (mem_cons_of_mem _ hd);have hdl:(w.drop t).length=w.length-t:=lDr;by_cases h0:V.getD (aI c) []=[]
  .rw[zA h0];unfold ke;rw[mem_flatMap];constructor
   .rintro⟨n,hn,hm⟩
    have hn:=mem_range.1 hn;rw[sa w p _ _ (by simpa using hp') (by omega)]at hm;obtain⟨h1,h2,h3⟩:=hm;have hxl:((w.drop t).take (n+1)).length=n+1:=by rw[lTa];omega
    have hx:(w.drop t).take (n+1)≠[]:=by intro e;rw[e]at hxl;simp at hxl
    obtain⟨h4,h5⟩:=(zg hk h0 hx).1 h1;refine⟨h4,?_,?_⟩
    .rw[cU,h5,lAp,hxl,h2];omega
    .rw[cU,h5,de,hxl,drop_drop];exact⟨List.take_prefix _ _,h3⟩
   .rintro⟨h1,h2,h3⟩
    rw[cU,de,drop_drop]at h3;have hx:V'.getD (aI c) []≠[]:=(h1.new _ h0).2 ((dm _ _ _).2 (.inl rfl));have hxt:=take_prefix h3.1;have hle:=h3.1.length_le;have hpos:1<=(V'.getD (aI c) []).length:=by
     cases e:V'.getD (aI c) [] with
     | nil=>exact absurd e hx
     | cons a l=>simp
    rw[cU,lAp]at h2;obtain⟨x,hxe⟩:∃ x,V'.getD (aI c) []=x:=⟨_,rfl⟩;rw[hxe]at hx hxt hle hpos h2 h3;refine⟨x.length-1,mem_range.2 (by omega),?_⟩;rw[show x.length-1+1=x.length by omega,hxt,sa w p _ _ (by simpa using hp') (by omega)];exact⟨(zg hk h0 hx).2 ⟨h1,hxe⟩,by omega,h3.2⟩
  .rw[AO h0,H0 (V':=V') h0 |>.symm,cU];by_cases hq:(V.getD (aI c) []).isPrefixOf (w.drop t)=true
   .rw[if_pos hq];have hq':=isPrefixOf_iff_prefix.1 hq;have hle:=hq'.length_le;rw[sa w p _ _ hp' (by omega)];constructor
    .rintro⟨h1,h2,h3⟩
     have:=h1.old _ h0;rw[this,de,drop_drop];exact⟨h1,by rw[lAp];omega,hq',h3⟩
    .rintro⟨h1,h2,h3⟩
     have:=h1.old _ h0;rw[this,de,drop_drop]at h3;rw[this,lAp]at h2;exact⟨h1,by omega,h3.2⟩
   .rw[if_neg hq];constructor
    .intro h;cases h
    .rintro⟨h1,h2,h3⟩
     have:=h1.old _ h0;rw[this,de]at h3;exact absurd (isPrefixOf_iff_prefix.2 h3.1) hq
def cB(V:bD):List Nat:=V.map length
theorem gP(V:bD)(k:Nat):(cB V).getD k 0=(V.getD k []).length:=by
 unfold cB;rw[gDe,gDe,getElem?_map];cases V[k]?<;>rfl
def lexLt:List Nat->List Nat->Bool
 | _,[]=>false
 | [],_::_=>true
 | a::l,b::m=>decide (a<b)||(a==b&&lexLt l m)
theorem xG:∀ l,lexLt l l=false
 | []=>rfl
 | a::l=>by simp[lexLt,xG l]
theorem lex_trans:∀(a b c:List Nat),lexLt a b=true->lexLt b c=true->lexLt a c=true
 | _,_,[],_,h=>by cases ‹List Nat›<;>simp[lexLt]at h
 | _,[],_::_,h,_=>by cases ‹List Nat›<;>simp[lexLt]at h
 | [],_::_,_::_,_,_=>rfl
 | a::l,b::m,c::n,h,k=>by
  simp only[lexLt,Bool.or_eq_true,bAn,dTe,beq_iff_eq]at h k ⊢;rcases h with h|⟨rfl,h⟩
  .rcases k with k|⟨rfl,k⟩
   .exact .inl (by omega)
   .exact .inl h
  .rcases k with k|⟨rfl,k⟩
   .exact .inl k
   .exact .inr ⟨rfl,lex_trans l m n h k⟩
theorem Dp:∀(a b:List Nat),a.length=b.length->lexLt a b=false->lexLt b a=false->a=b
 | [],[],_,_,_=>rfl
 | [],_::_,h,_,_=>by simp at h
 | _::_,[],h,_,_=>by simp at h
 | a::l,b::m,hl,h,k=>by
  simp only[lexLt,Bool.or_eq_false_iff,decide_eq_false_iff_not]at h k;have e:a=b:=by omega
  subst e;simp at h k hl;rw[Dp l m hl h k]
theorem Qy:∀(a c:List Nat),lexLt a c=true->∀ b,lexLt a b=true\/lexLt b c=true
 | _,[],h,_=>by cases ‹List Nat›<;>simp[lexLt]at h
 | [],_::_,_,[]=>.inr rfl
 | [],_::_,_,_::_=>.inl rfl
 | _::_,_::_,_,[]=>.inr rfl
 | x::l,z::n,h,y::m=>by
  simp only[lexLt,Bool.or_eq_true,bAn,dTe,beq_iff_eq]at h ⊢;by_cases h1:x<y
  .exact .inl (.inl h1)
  by_cases h2:y<z
  .exact .inr (.inl h2)
  have e1:x=y:=by omega
  have e2:y=z:=by omega
  have h3:=Qy l n (h.resolve_left (by omega)).2 m;rcases h3 with h3|h3
  .exact .inl (.inr ⟨e1,h3⟩)
  .exact .inr (.inr ⟨e2,h3⟩)
theorem Ms(l a b:List Nat):lexLt (l++a) (l++b)=lexLt a b:=by
 induction l with
 | nil=>rfl
 | cons x l ih=>simp[lexLt,ih]
def ltT(x y:bD×Nat):Bool:=decide (x.2<y.2)||(x.2==y.2&&lexLt (cB x.1) (cB y.1))
theorem Of{x y z:bD×Nat}(h:ltT x y=true)(k:ltT y z=true):ltT x z=true:=by
 unfold ltT at *;simp only[Bool.or_eq_true,bAn,dTe,beq_iff_eq]at h k ⊢;rcases h with h|⟨h1,h2⟩
 .rcases k with k|⟨k1,k2⟩<;>exact .inl (by omega)
 .rcases k with k|⟨k1,k2⟩
  .exact .inl (by omega)
  .exact .inr ⟨by omega,lex_trans _ _ _ h2 k2⟩
theorem T7{x z:bD×Nat}(h:ltT x z=true)(y:bD×Nat):ltT x y=true\/ltT y z=true:=by
 unfold ltT at *;simp only[Bool.or_eq_true,bAn,dTe,beq_iff_eq]at h ⊢;by_cases h1:x.2<y.2
 .exact .inl (.inl h1)
 by_cases h2:y.2<z.2
 .exact .inr (.inl h2)
 have e1:x.2=y.2:=by omega
 have e2:y.2=z.2:=by omega
 rcases Qy _ _ (h.resolve_left (by omega)).2 (cB y.1) with h3|h3
 .exact .inl (.inr ⟨e1,h3⟩)
 .exact .inr (.inr ⟨e2,h3⟩)
theorem SH(x:bD×Nat):ltT x x=false:=by unfold ltT;simp[xG]
def dh(s:Nat×bD)(x:bD×Nat):(Nat×bD)×Bool:=(if s.1=0\/ltT x (s.2,s.1)=true then (x.2,x.1) else s,false)
theorem O3(s:Nat×bD)(x:bD×Nat):(dh s x).2=false:=rfl
def gb(l:List (bD×Nat)):Nat×bD:=(bU dh (0,V0) l).1
theorem yW:∀(l:List (bD×Nat)) (s:Nat×bD),(∀ x∈l,1<=x.2)->(bU dh s l).2=false /\
  ((
   s.1=0/\l=[]/\(bU dh s l).1=s)\/(1<=(bU dh s l).1.1/\(((bU dh s l).1.2,(bU dh s l).1.1)∈l\/(s.1≠0/\(bU dh s l).1=s)) /\
   (s.1≠0->ltT (s.2,s.1) ((bU dh s l).1.2,(bU dh s l).1.1)=false)/\∀ x∈l,ltT x ((bU dh s l).1.2,(bU dh s l).1.1)=false))
 | [],s,_=>by
  rw[nK];refine⟨rfl,?_⟩;by_cases h:s.1=0
  .exact .inl ⟨h,rfl,rfl⟩
  .exact .inr ⟨by simp only;omega,.inr ⟨h,rfl⟩,fun _=>SH _,fun x hx=>by cases hx⟩
 | x::l,s,hl=>by
  have hx:=hl x mem_cons_self;have hl':∀ y∈l,1<=y.2:=fun y hy=>hl y (mem_cons_of_mem _ hy);have e:bU dh s (x::l)=bU dh (dh s x).1 l:=by
   conv=>lhs;unfold bU
   rw[O3];rfl
  rw[e];obtain⟨h1,h2⟩:=yW l (dh s x).1 hl';refine⟨h1,?_⟩;by_cases hb:s.1=0\/ltT x (s.2,s.1)=true
  .have es:(dh s x).1=(x.2,x.1):=by unfold dh;rw[if_pos hb]
   rw[es]at h2 ⊢;generalize (bU dh (x.2,x.1) l).1=r at *;rcases h2 with ⟨h3,_,_⟩|⟨h3,h4,h5,h6⟩
   .simp only at h3;omega
   refine .inr ⟨h3,.inl ?_,?_,?_⟩
   .rcases h4 with h4|⟨_,h4⟩
    .exact mem_cons_of_mem _ h4
    .rw[h4];exact mem_cons_self
   .intro hs;have hxs:=hb.resolve_left hs;have:=h5 (by simp only;omega);cases hc:ltT (s.2,s.1) (r.2,r.1) with
    | false=>rfl
    | true=>rw[Of hxs hc]at this;cases this
   .intro y hy;rcases mem_cons.1 hy with rfl|hy
    .exact h5 (by simp only;omega)
    .exact h6 y hy
  .have es:(dh s x).1=s:=by unfold dh;rw[if_neg hb]
   have hs0:s.1≠0:=fun h=>hb (.inl h);have hxs:ltT x (s.2,s.1)=false:=by
    cases hc:ltT x (s.2,s.1) with
    | false=>rfl
    | true=>exact absurd (.inr hc) hb
   rw[es]at h2 ⊢;generalize (bU dh s l).1=r at *;rcases h2 with ⟨h3,_,_⟩|⟨h3,h4,h5,h6⟩
   .exact absurd h3 hs0
   refine .inr ⟨h3,?_,h5,?_⟩
   .rcases h4 with h4|h4
    .exact .inl (mem_cons_of_mem _ h4)
    .exact .inr h4
   .intro y hy;rcases mem_cons.1 hy with rfl|hy
    .cases hc:ltT y (r.2,r.1) with
     | false=>rfl
     | true=>
      rcases T7 hc (s.2,s.1) with h|h
      .rw[hxs]at h;cases h
      .rw[h5 hs0]at h;cases h
    .exact h6 y hy
def gvS(w:B8)(ls:List Nat)(s:Option (bD×Nat))(c:UInt8):Option (bD×Nat):=
 match s with
 | none=>none
 | some (V,t)=>if t+ls.getD (aI c) 0<=w.length/\(V.getD (aI c) []=[]\/V.getD (aI c) []=(w.drop t).take (ls.getD (aI c) 0)) then some (V.set (aI c) ((w.drop t).take (ls.getD (aI c) 0)),t+ls.getD (aI c) 0) else none
def gvF(w:B8)(ls:List Nat)(p:B8)(V:bD)(t:Nat):Option (bD×Nat):=p.foldl (gvS w ls) (some (V,t))
theorem Ga(w:B8)(ls:List Nat)(V:bD)(t:Nat)(c:UInt8):gvS w ls (some (V,t)) c=if t+ls.getD (aI c) 0<=w.length/\(V.getD (aI c) []=[]\/V.getD (aI c) []=(w.drop t).take (ls.getD (aI c) 0)) then some (V.set (aI c) ((w.drop t).take (ls.getD (aI c) 0)),t+ls.getD (aI c) 0) else none:=rfl
theorem xH(w:B8)(ls:List Nat):∀ p:B8,p.foldl (gvS w ls) none=none
 | []=>rfl
 | _::p=>xH w ls p
theorem Qn(V:bD){k:Nat}(hk:k<V.length):V.set k (V.getD k [])=V:=by
 refine yP (by rw[length_set]) fun j=>?_;rw[yR V hk];split
 .rename_i e;rw[e]
 .rfl
theorem KQ(w:B8)(ls:List Nat):∀(p:B8) (V:bD) (t:Nat),(∀ c∈p,aI c<V.length)->t<=w.length->(∀ k,occ p k->1<=ls.getD k 0)->(∀ k,V.getD k []≠[]->(V.getD k []).length=ls.getD k 0)->∀ V' t',
  gvF w ls p V t=some (V',t')↔qI p V V'/\(∀ k,occ p k->(V'.getD k []).length=ls.getD k 0)/\t'=t+(gg p V').length/\gg p V' <+: w.drop t
 | [],V,t,_,ht,_,_,V',t'=>by
  unfold gvF;rw[foldl_nil,Option.some.injEq,Prod.mk.injEq,Hl,Hb];constructor
  .rintro⟨rfl,rfl⟩;exact⟨rfl,fun k hk=>absurd hk (Ey k),rfl,nil_prefix⟩
  .rintro⟨rfl,_,h,_⟩;exact⟨rfl,h.symm⟩
 | c::p,V,t,hp,ht,hls,hV,V',t'=>by
  have hk:=hp c mem_cons_self;have hp':∀ d∈p,aI d<V.length:=fun d hd=>hp d (mem_cons_of_mem _ hd);have hls':∀ k,occ p k->1<=ls.getD k 0:=fun k hk=>hls k ((dm _ _ _).2 (.inr hk));have hl1:=hls (aI c) ((dm _ _ _).2 (.inl rfl));have hdl:(w.drop t).length=w.length-t:=lDr;have e:gvF w ls (c::p) V t=p.foldl (gvS w ls) (gvS w ls (some (V,t)) c):=rfl;rw[e,Ga];have hb:=hV (aI c);obtain⟨l,hl⟩:∃ l,l=ls.getD (aI c) 0:=⟨_,rfl⟩;rw[<-hl]at hl1 hb ⊢;by_cases hle:t+l<=w.length
  .have hxl:((w.drop t).take l).length=l:=by rw[lTa];omega
   by_cases h0:V.getD (aI c) []=[]
   .rw[if_pos ⟨hle,.inl h0⟩];have hx:(w.drop t).take l≠[]:=by intro e;rw[e]at hxl;simp at hxl;omega
    have ih:=KQ w ls p (V.set (aI c) ((w.drop t).take l)) (t+l) (by simpa using hp') hle hls' (by
     intro j hj;rw[yR V hk]at hj ⊢;by_cases ej:j=aI c
     .rw[if_pos ej,hxl,ej,hl]
     .rw[if_neg ej]at hj ⊢;exact hV j hj) V' t'
    unfold gvF at ih;rw[ih,zg hk h0 hx,cU,de];constructor
    .rintro⟨⟨h1,h2⟩,h3,h4,h5⟩
     rw[h2,hxl,drop_drop];refine⟨h1,fun j hj=>?_,by rw[lAp,hxl];omega,List.take_prefix _ _,h5⟩;rcases(dm _ _ _).1 hj with rfl|hj
     .rw[h2,hxl,hl]
     .exact h3 j hj
    .rintro⟨h1,h2,h3,h4,h5⟩
     have h6:=h2 _ ((dm _ _ _).2 (.inl rfl));rw[<-hl]at h6;have h7:V'.getD (aI c) []=(w.drop t).take l:=by rw[<-h6];exact(take_prefix h4).symm
     rw[lAp,h6]at h3;rw[h6,drop_drop]at h5;exact⟨⟨h1,h7⟩,fun j hj=>h2 j ((dm _ _ _).2 (.inr hj)),by omega,h5⟩
   .have hbl:=hb h0;by_cases hq:V.getD (aI c) []=(w.drop t).take l
    .rw[if_pos ⟨hle,.inr hq⟩,<-hq,Qn V hk];have ih:=KQ w ls p V (t+l) hp' hle hls' hV V' t';unfold gvF at ih;rw[ih,H0 h0,cU,de];constructor
     .rintro⟨h1,h3,h4,h5⟩
      have h6:=h1.old _ h0;rw[h6,hbl,drop_drop];refine⟨h1,fun j hj=>?_,by rw[lAp,hbl];omega,by rw[hq];exact List.take_prefix _ _,h5⟩;rcases(dm _ _ _).1 hj with rfl|hj
      .rw[h6,hbl,hl]
      .exact h3 j hj
     .rintro⟨h1,h2,h3,h4,h5⟩
      have h6:=h1.old _ h0;rw[h6,lAp,hbl]at h3;rw[h6,hbl,drop_drop]at h5;exact⟨h1,fun j hj=>h2 j ((dm _ _ _).2 (.inr hj)),by omega,h5⟩
    .rw[if_neg (by rintro⟨_,h|h⟩;exact h0 h;exact hq h),xH];constructor
     .intro h;cases h
     .rintro⟨h1,h2,h3,h4⟩
      have h6:=h1.old _ h0;rw[cU,de,h6]at h4;have:=take_prefix h4.1;rw[hbl]at this;exact absurd this.symm hq
  .rw[if_neg (by rintro⟨h,_⟩;exact hle h),xH];constructor
   .intro h;cases h
   .rintro⟨h1,h2,h3,h4⟩
    rw[cU,de]at h4;have h5:=h4.1.length_le;rw[h2 _ ((dm _ _ _).2 (.inl rfl)),<-hl]at h5;omega
def gI(p:B8)(k:Nat):Nat:=p.countP fun c=>aI c==k
def iJ(p:B8)(ls:List Nat):Nat:=(p.map fun c=>ls.getD (aI c) 0).sum
theorem Cb{p:B8}{k:Nat}:gI p k=0↔¬ occ p k:=by
 unfold gI occ;rw[countP_eq_zero];constructor
 .rintro h ⟨c,hc,e⟩;exact h c hc (by simpa using e)
 .intro h c hc e;exact h ⟨c,hc,by simpa using e⟩
def mf(w p:B8):Nat->List Nat->Option bD
 | 0,ls=>match gvF w ls p V0 0 with
  | some (V,t)=>if t=w.length then some V else none
  | none=>none
 | d+1,ls=>if gI p ls.length=0 then mf w p d (ls++[0]) else (range ((w.length-iJ p ls)/gI p ls.length)).findSome? fun n=>mf w p d (ls++[n+1])
theorem find_range{A:Type}(f:Nat->Option A):∀ m,match (range m).findSome? f with
  | some a=>∃ n,n<m/\f n=some a/\∀ i,i<n->f i=none
  | none=>∀ i,i<m->f i=none
 | 0=>fun i hi=>by omega
 | m+1=>by
  have ih:=find_range f m;rw[range_succ,findSome?_append];cases h:(range m).findSome? f with
  | some a=>
   rw[h]at ih;obtain⟨n,h1,h2,h3⟩:=ih;exact⟨n,by omega,h2,h3⟩
  | none=>
   rw[h]at ih;have e:findSome? f [m]=f m:=by cases hf:f m<;>simp[findSome?,hf]
   rw[Option.none_or,e];cases hf:f m with
   | some a=>exact⟨m,by omega,hf,ih⟩
   | none=>
    intro i hi;by_cases him:i=m
    .rw[him,hf]
    .exact ih i (by omega)
structure Fit(p w:B8)(V:bD):Prop where
 goes:qI p V0 V
 word:gg p V=w
theorem uF(k:Nat):V0.getD k []=[]:=by
 rw[gDe];cases h:V0[k]? with
 | none=>rfl
 | some x=>
  have:=mem_of_getElem? h;unfold V0 at this;simp at this;rw[this];rfl
theorem Fit.on{p w:B8}{V:bD}(h:Fit p w V)(k:Nat):1<=(cB V).getD k 0↔occ p k:=by
 rw[gP,<-h.goes.new k (uF k)];cases V.getD k []<;>simp
theorem Fit.len{p w:B8}{V:bD}(h:Fit p w V):V.length=3:=h.goes.len
theorem fF(V:bD):(cB V).length=V.length:=length_map _
theorem FG{a b:List Nat}(h:a <+: b){k:Nat}(hk:k<a.length):b.getD k 0=a.getD k 0:=by
 obtain⟨z,rfl⟩:=h;rw[gDe,gDe,getElem?_append_left hk]
theorem FJ{a b:List Nat}(h:a <+: b)(hl:a.length<b.length):a++[b.getD a.length 0] <+: b:=by
 obtain⟨z,rfl⟩:=h;cases z with
 | nil=>simp at hl
 | cons x z=>
  refine⟨z,?_⟩;rw[gDe,getElem?_append_right (lRf _),Nat.sub_self];simp
theorem Hs{ls:List Nat}{V:bD}(h:ls <+: cB V)(n:Nat)(hn:n=(cB V).getD ls.length 0):∀ p:B8,iJ p ls+n*gI p ls.length<=(gg p V).length
 | []=>by simp[iJ,gI]
 | c::p=>by
  have ih:=Hs h n hn p;have e1:iJ (c::p) ls=ls.getD (aI c) 0+iJ p ls:=by simp[iJ]
  have e2:gI (c::p) ls.length=gI p ls.length+if aI c=ls.length then 1 else 0:=by simp[gI,countP_cons]
  have e3:=gP V (aI c);rw[e1,e2,cU,lAp,<-e3,Nat.mul_add];by_cases h1:aI c<ls.length
  .rw[FG h h1,if_neg (by omega)];omega
  .have e4:ls.getD (aI c) 0=0:=by rw[gDe,getElem?_eq_none (by omega)];rfl
   rw[e4];by_cases h2:aI c=ls.length
   .rw[if_pos h2,h2,<-hn];omega
   .rw[if_neg h2];omega
def QC(w p:B8)(ls:List Nat):Option bD->Prop
 | some V=>Fit p w V/\ls <+: cB V/\∀ V2,Fit p w V2->ls <+: cB V2->lexLt (cB V2) (cB V)=false
 | none=>∀ V2,Fit p w V2->ls <+: cB V2->False
theorem EJ(w p:B8)(hp:∀ c∈p,aI c<3):∀(d:Nat) (ls:List Nat),ls.length+d=3->(∀ k,k<ls.length->(1<=ls.getD k 0↔occ p k))->QC w p ls (mf w p d ls)
 | 0,ls,hl,hls=>by
  have hls0:∀ k,occ p k->1<=ls.getD k 0:=by
   intro k hk;obtain⟨c,hc,rfl⟩:=hk;exact(hls _ (by have:=hp c hc;omega)).2 ⟨c,hc,rfl⟩
  have key:=KQ w ls p V0 0 hp (lZe _) hls0 (fun k hk=>absurd (uF k) hk);have key2:∀ V2,Fit p w V2->ls <+: cB V2->gvF w ls p V0 0=some (V2,w.length):=by
   intro V2 hf hpre;have hl2:ls.length=(cB V2).length:=by rw[fF,hf.len];omega
   have e:=hpre.eq_of_length hl2;rw[key];refine⟨hf.goes,fun k hk=>?_,?_,?_⟩
   .rw[e,gP]
   .rw[hf.word];omega
   .rw[hf.word];exact prefix_rfl
  unfold mf;cases hg:gvF w ls p V0 0 with
  | none=>
   intro V2 hf hpre;rw[key2 V2 hf hpre]at hg;cases hg
  | some x=>
   obtain⟨V,t⟩:=x;simp only;by_cases ht:t=w.length
   .rw[if_pos ht];obtain⟨h1,h2,h3,h4⟩:=(key V t).1 hg;rw[drop_zero]at h4;have hw:gg p V=w:=h4.eq_of_length (by omega);have hf:Fit p w V:=⟨h1,hw⟩;have e:ls=cB V:=by
     refine ext_getElem (by rw[fF,hf.len];omega) fun k a b=>?_;have h5:=h2 k;have h6:=hf.on k;have h7:=hls k a;rw[<-gP]at h5;rw[gDe,gEl b]at h5 h6;rw[gDe,gEl a]at h5 h7;simp only[Option.getD_some]at h5 h6 h7;by_cases ho:occ p k
     .exact(h5 ho).symm
     .have a1:¬ 1<=ls[k]:=fun hh=>ho (h7.1 hh);have a2:¬ 1<=(cB V)[k]:=fun hh=>ho (h6.1 hh);omega
    refine⟨hf,by rw[e];exact prefix_rfl,fun V2 hf2 hpre=>?_⟩;have:gvF w ls p V0 0=some (V2,w.length):=key2 V2 hf2 hpre;rw[hg,Option.some.injEq,Prod.mk.injEq]at this;rw[this.1];exact xG _
   .rw[if_neg ht];intro V2 hf hpre;rw[key2 V2 hf hpre,Option.some.injEq,Prod.mk.injEq]at hg;exact ht hg.2.symm
 | d+1,ls,hl,hls=>by
  have hmore:∀ n,(1<=n↔occ p ls.length)->∀ k,k<(ls++[n]).length->(1<=(ls++[n]).getD k 0↔occ p k):=by
   intro n hn k hk;rw[lAp,lSi]at hk;by_cases e:k=ls.length
   .subst e;rw[gDe,getElem?_append_right (lRf _),Nat.sub_self];exact hn
   .rw[gDe,getElem?_append_left (by omega),<-gDe];exact hls k (by omega)
  have hpm:∀ V2,Fit p w V2->ls <+: cB V2->ls++[(cB V2).getD ls.length 0] <+: cB V2:=fun V2 hf hpre=>FJ hpre (by rw[fF,hf.len];omega);have hless:∀(n:Nat) (V2:bD),ls++[n] <+: cB V2->ls <+: cB V2:=fun n V2 h=>(prefix_append ls [n]).trans h;unfold mf;by_cases hc:gI p ls.length=0
  .rw[if_pos hc];have hno:=Cb.1 hc;have ih:=EJ w p hp d (ls++[0]) (by rw[lAp,lSi];omega) (hmore 0 ⟨fun h=>by omega,fun h=>absurd h hno⟩);have h0:∀ V2,Fit p w V2->ls <+: cB V2->ls++[0] <+: cB V2:=by
    intro V2 hf hpre;have h1:=hpm V2 hf hpre;have h2:=hf.on ls.length;have:(cB V2).getD ls.length 0=0:=by
     by_cases hh:1<=(cB V2).getD ls.length 0
     .exact absurd (h2.1 hh) hno
     .omega
    rw[this]at h1;exact h1
   cases hs:mf w p d (ls++[0]) with
   | none=>rw[hs]at ih;exact fun V2 hf hpre=>ih V2 hf (h0 V2 hf hpre)
   | some V=>rw[hs]at ih;exact⟨ih.1,hless 0 V ih.2.1,fun V2 hf hpre=>ih.2.2 V2 hf (h0 V2 hf hpre)⟩
  .rw[if_neg hc];have hocc:occ p ls.length:=by
    by_cases h:occ p ls.length
    .exact h
    .exact absurd (Cb.2 h) hc
   have hcp:0<gI p ls.length:=Nat.pos_of_ne_zero hc;have ih:∀ n,QC w p (ls++[n+1]) (mf w p d (ls++[n+1])):=fun n=>EJ w p hp d (ls++[n+1]) (by rw[lAp,lSi];omega) (hmore (n+1) ⟨fun _=>hocc,fun _=>by omega⟩);have hb:∀ V2,Fit p w V2->ls <+: cB V2->∃ n,(cB V2).getD ls.length 0=n+1/\n<(w.length-iJ p ls)/gI p ls.length/\ls++[n+1] <+: cB V2:=by
    intro V2 hf hpre;have h1:=hpm V2 hf hpre;have h2:=(hf.on ls.length).2 hocc;have h3:=Hs hpre _ rfl p;rw[hf.word]at h3;generalize (cB V2).getD ls.length 0=n2 at *;obtain⟨n,rfl⟩:∃ n,n2=n+1:=⟨n2-1,by omega⟩;refine⟨n,rfl,?_,h1⟩;have:n+1<=(w.length-iJ p ls)/gI p ls.length:=(Nat.le_div_iff_mul_le hcp).2 (by omega);omega
   have hfr:=find_range (fun n=>mf w p d (ls++[n+1])) ((w.length-iJ p ls)/gI p ls.length);cases hs:(range ((w.length-iJ p ls)/gI p ls.length)).findSome? (fun n=>mf w p d (ls++[n+1])) with
   | none=>
    rw[hs]at hfr;intro V2 hf hpre;obtain⟨n,_,h2,h3⟩:=hb V2 hf hpre;have:=ih n;rw[hfr n h2]at this;exact this V2 hf h3
   | some V=>
    rw[hs]at hfr;obtain⟨n,h1,h2,h3⟩:=hfr;have hi:=ih n;rw[h2]at hi;refine⟨hi.1,hless _ V hi.2.1,fun V2 hf hpre=>?_⟩;obtain⟨n2,_,h5,h6⟩:=hb V2 hf hpre;by_cases e1:n2<n
    .have:=ih n2;rw[h3 n2 e1]at this;exact absurd h6 (fun h=>this V2 hf h)
    .by_cases e2:n2=n
     .subst e2;exact hi.2.2 V2 hf h6
     .obtain⟨z1,hz1⟩:=hi.2.1;obtain⟨z2,hz2⟩:=h6;rw[<-hz1,<-hz2,append_assoc,append_assoc,Ms];simp only[cons_append,nil_append,lexLt];rw[dFa (by omega),Bool.false_or,bNe.2 (by omega),Bool.false_and]
theorem C7{V V2:bD}(hl:cB V=cB V2):∀ p:B8,gg p V=gg p V2->∀ c∈p,V.getD (aI c) []=V2.getD (aI c) []
 | [],_,c,hc=>by cases hc
 | d::p,h,c,hc=>by
  rw[cU,cU]at h;have e:(V.getD (aI d) []).length=(V2.getD (aI d) []).length:=by rw[<-gP,<-gP,hl]
  obtain⟨h1,h2⟩:=append_inj h e;rcases mem_cons.1 hc with rfl|hc
  .exact h1
  .exact C7 hl p h2 c hc
theorem S5{p w:B8}{V V2:bD}(h:Fit p w V)(k:Fit p w V2)(hl:cB V=cB V2):V=V2:=by
 refine yP (by rw[h.len,k.len]) fun j=>?_;by_cases ho:occ p j
 .obtain⟨c,hc,rfl⟩:=ho;exact C7 hl p (by rw[h.word,k.word]) c hc
 .have h1:=h.goes.new j (uF j);have h2:=k.goes.new j (uF j);have e1:V.getD j []=[]:=by
   by_cases hh:V.getD j []=[]
   .exact hh
   .exact absurd (h1.1 hh) ho
  have e2:V2.getD j []=[]:=by
   by_cases hh:V2.getD j []=[]
   .exact hh
   .exact absurd (h2.1 hh) ho
  rw[e1,e2]
theorem oh{w p:B8}(hp:∀ c∈p,aI c<3){V:bD}{t:Nat}:(V,t)∈cT w p V0 0↔qI p V0 V/\t=(gg p V).length/\gg p V <+: w:=by
 rw[sa w p V0 0 hp (lZe _),Nat.zero_add,drop_zero]
theorem vg{w p:B8}(hp:∀ c∈p,aI c<3):ft w p=true↔∃ V,Fit p w V:=by
 have h:=sG w p V0 0 (lZe _);rw[drop_zero]at h;unfold ft;rw[<-h,any_eq_true];constructor
 .rintro⟨⟨V,t⟩,hm,ht⟩
  obtain⟨h1,h2,h3⟩:=(oh hp).1 hm;simp only[beq_iff_eq]at ht;exact⟨V,h1,h3.eq_of_length (by omega)⟩
 .rintro⟨V,h1,h2⟩
  exact⟨(V,w.length),(oh hp).2 ⟨h1,by rw[h2],by rw[h2];exact prefix_rfl⟩,by simp⟩
theorem Lw{u p:B8}(hp:∀ c∈p,aI c<3)(hp1:p≠[]):((gb (cT u p V0 0)).1=0/\∀ k,k<=u.length->ft (u.take k) p=false) \/
  (1<=(gb (cT u p V0 0)).1/\(gb (cT u p V0 0)).1<=u.length/\ft (u.take (gb (cT u p V0 0)).1) p=true/\(∀ k,k<(gb (cT u p V0 0)).1->ft (u.take k) p=false)/\mf (u.take (gb (cT u p V0 0)).1) p 3 []=some (gb (cT u p V0 0)).2):=by
 have h1:∀ x∈cT u p V0 0,1<=x.2:=by
  rintro⟨V,t⟩ hx
  obtain⟨a,b,_⟩:=(oh hp).1 hx;simp only;cases p with
  | nil=>exact absurd rfl hp1
  | cons c p=>
   have:=(a.new (aI c) (uF _)).2 ((dm _ _ _).2 (.inl rfl));rw[b,cU,lAp];cases hq:V.getD (aI c) [] with
   | nil=>exact absurd hq this
   | cons x l=>simp;omega
 have hfit:∀ k,k<=u.length->(ft (u.take k) p=true↔∃ V,(V,k)∈cT u p V0 0):=by
  intro k hk;rw[vg hp];have hl:(u.take k).length=k:=by rw[lTa];omega
  constructor
  .rintro⟨V,h1,h2⟩
   exact⟨V,(oh hp).2 ⟨h1,by rw[h2,hl],by rw[h2];exact List.take_prefix _ _⟩⟩
  .rintro⟨V,hm⟩
   obtain⟨h1,h2,h3⟩:=(oh hp).1 hm;exact⟨V,h1,by rw[h2];exact(take_prefix h3).symm⟩
 obtain⟨_,hb⟩:=yW (cT u p V0 0) (0,V0) h1;unfold gb;generalize (bU dh (0,V0) (cT u p V0 0)).1=s at *;rcases hb with ⟨_,h2,h3⟩|⟨h2,h3,_,h5⟩
 .left;rw[h3];refine⟨rfl,fun k hk=>?_⟩;cases hf:ft (u.take k) p with
  | false=>rfl
  | true=>
   obtain⟨V,hm⟩:=(hfit k hk).1 hf;rw[h2]at hm;cases hm
 .right;have hm:=h3.resolve_right (fun h=>h.1 rfl);obtain⟨a,b,c⟩:=(oh hp).1 hm;have hle:s.1<=u.length:=by rw[b];exact c.length_le
  refine⟨h2,hle,(hfit _ hle).2 ⟨_,hm⟩,fun k hk=>?_,?_⟩
  .cases hf:ft (u.take k) p with
   | false=>rfl
   | true=>
    obtain⟨V,hm2⟩:=(hfit k (by omega)).1 hf;have:=h5 _ hm2;unfold ltT at this;simp only[Bool.or_eq_false_iff,decide_eq_false_iff_not]at this;omega
  .have hf:Fit p (u.take s.1) s.2:=⟨a,by rw[b];exact(take_prefix c).symm⟩;have ok:=EJ (u.take s.1) p hp 3 [] rfl (fun k hk=>by simp at hk);cases hs:mf (u.take s.1) p 3 [] with
   | none=>rw[hs]at ok;exact absurd nil_prefix (fun h=>ok _ hf h)
   | some V=>
    rw[hs]at ok;obtain⟨o1,_,o3⟩:=ok;have l1:=o3 _ hf nil_prefix;have hl:(u.take s.1).length=s.1:=by rw[lTa];omega
    have l2:=h5 (V,s.1) ((oh hp).2 ⟨o1.goes,by rw[o1.word,hl],by rw[o1.word];exact List.take_prefix _ _⟩);unfold ltT at l2;simp only[Bool.or_eq_false_iff,beq_self_eq_true,Bool.true_and]at l2;rw[S5 o1 hf (Dp _ _ (by rw[fF,fF,o1.len,hf.len]) l2.2 l1)]
def jc(w p:B8)(i:Nat):Option (Nat×bD):=if 0<(gb (cT (w.drop i) p V0 0)).1 then some (i,(gb (cT (w.drop i) p V0 0)).2) else none
def eL(w p:B8)(n:Nat):Option (Nat×bD):=(range n).findSome? (jc w p)
def jQ(w p:B8):Option (Nat×bD):=eL w p w.length
theorem jh{w p:B8}{n:Nat}(h:eL w p n=none):eL w p (n+1)=jc w p n:=by
 unfold eL at *;rw[range_succ,findSome?_append,h,Option.none_or];cases hf:jc w p n<;>simp[findSome?,hf]
theorem wg{w p:B8}{n m:Nat}{r:Nat×bD}(hn:n<m)(h0:eL w p n=none)(h:jc w p n=some r):eL w p m=some r:=by
 have h1:eL w p (n+1)=some r:=by rw[jh h0,h]
 obtain⟨d,rfl⟩:∃ d,m=n+1+d:=⟨m-n-1,by omega⟩;unfold eL at *;rw[range_add,findSome?_append,h1,Option.some_or]
end Go.Proofs.YtapimhjbilkfpaaGreatDoor
namespace Go.Proofs.YtapimhjbilkfpaaGreatDoor
open Go Go.Proofs.Tryz List
def je(a b:Int):Int:=if a<b then -1 else if b<a then 1 else 0
def cmpL(a b:List Nat):Int:=if a=b then 0 else if lexLt a b then -1 else 1
theorem Ox{pre a b:List Nat}:cmpL (pre++a) (pre++b)=cmpL a b:=by
 unfold cmpL;simp only[Ms,append_right_inj]
theorem NZ{x y:Nat}{a b:List Nat}(h:x≠y):cmpL (x::a) (y::b)=je x y:=by
 have e:¬(x::a=y::b):=by intro e;injection e with e _;exact h e
 by_cases h1:x<y
 .simp[cmpL,lexLt,je,h,h1]
 .have h2:y<x:=by omega
  simp[cmpL,lexLt,je,h,h1,h2]
theorem Af(a:Int)(M:Mem)(R:VP)(h:R (.bool false) M):ar prog 384 [.int .i64 a] M R:=by
 refine fnT func384 rfl ntmps384 results384 ?_;exact ad h
theorem fH(a b:Int)(M:Mem)(R:VP)(h:R (.int .i64 (je a b)) M):ar prog 322 [.int .i64 a,.int .i64 b] M R:=by
 unfold je at h;refine fnT func322 rfl ntmps322 results322 ?_;refine Af a _ _ ?_;refine sS ?_;refine Af b _ _ ?_;by_cases h1:a<b
 .rw[if_pos h1]at h;simp(disch:=omega)[h1];exact ad h
 .rw[if_neg h1]at h;by_cases h2:b<a
  .rw[if_pos h2]at h;simp(disch:=omega)[h1,h2];exact ad h
  .rw[if_neg h2]at h;simp(disch:=omega)[h1,h2];exact ad h
theorem wI(v:Value)(x y:Int)(M:Mem)(R:VP)(hv:Rd M v (ints [x,y]))(h:R (.int .i64 (if x=0 then y else x)) M):ar prog 321 [v] M R:=by
 obtain⟨a,c,rfl,ha⟩:=hv.opened;rcases ha with h0|⟨b,o,rfl,ha⟩
 .simp at h0
 have g0:=ha 0 (by simp);have g1:=ha 1 (by simp);refine fnT func321 rfl ntmps321 results321 ?_;refine lupS (rlA [2,5] 8 9) (fun i:Nat=>[(8,.int .i64 i)]) (fun i M'=>M'=M/\(i=0\/(i=1/\x=0)\/(i=2/\x=0/\y=0))) (fun i=>2-i) 0 ⟨rfl,.inl rfl⟩ ?_
 rintro i M' g ⟨rfl,hi⟩
 have e0:(ints [x,y])[0]?=some (.int .i64 x):=rfl;have e1:(ints [x,y])[1]?=some (.int .i64 y):=rfl;rw[e0]at g0;rw[e1]at g1;rw[Nat.add_zero]at g0;rcases hi with rfl|⟨rfl,rfl⟩|⟨rfl,rfl,rfl⟩
 .by_cases hx:x=0
  .subst hx;simp(disch:=omega)[g0];exact rndS 1 ⟨rfl,by simp⟩
  .rw[if_neg hx]at h;simp(disch:=omega)[g0,hx];exact ad h
 .by_cases hy:y=0
  .subst hy;simp(disch:=omega)[g1];exact rndS 2 ⟨rfl,by simp⟩
  .rw[if_pos rfl]at h;simp(disch:=omega)[g1,hy];exact ad h
 .rw[if_pos rfl]at h;refine sS ?_;exact ad h
theorem BH(v v':Value)(a b:List Nat)(M:Mem)(R:VP)(hv:Rd M v (aB a))(hv':Rd M v' (aB b))(hl:a.length=b.length)(hl':a.length<=1000000)(h:R (.int .i64 (cmpL a b)) M):ar prog 323 [v,v'] M R:=by
 obtain⟨a1,c1,rfl,ha⟩:=hv.opened;obtain⟨a2,c2,rfl,hb⟩:=hv'.opened;simp only[aA]at ha hb ⊢;refine fnT func323 rfl ntmps323 results323 ?_;refine lupS (rlA [4,5,6,7,8] 11 20) (fun i:Nat=>[(11,.int .i64 i)]) (fun i M'=>M'=M/\i<=a.length/\a.take i=b.take i) (fun i=>a.length-i) 0 ⟨rfl,by omega,rfl⟩ ?_
 rintro i M' g ⟨rfl,hi,heq⟩
 by_cases hlt:i<a.length
 .rcases ha with hz|⟨b1,o1,rfl,ha⟩
  .omega
  rcases hb with hz|⟨b2,o2,rfl,hb⟩
  .omega
  have hltb:i<b.length:=by omega
  have g1:=ha i hlt;have g2:=hb i hltb;rw[bV,gEl hlt,Option.map_some]at g1;rw[bV,gEl hltb,Option.map_some]at g2;have t1:=aw a hlt;have t2:=aw b hltb;have d1:a=a.take i++a[i]::a.drop (i+1):=by rw[getElem_cons_drop];exact(take_append_drop _ _).symm
  have d2:b=b.take i++b[i]::b.drop (i+1):=by rw[getElem_cons_drop];exact(take_append_drop _ _).symm
  by_cases hx:a[i]=b[i]
  .rw[hx]at g1 t1;generalize b[i]=x at *;simp(disch:=omega)[g1,g2];refine fH _ _ _ _ ?_;have e:je x x=0:=by unfold je;simp
   rw[e];refine sS ?_;exact rndS (i+1) ⟨rfl,by omega,by rw[t1,t2,heq]⟩
  .have e:cmpL a b=je a[i] b[i]:=by
    conv=>lhs;rw[d1,d2,heq]
    rw[Ox,NZ hx]
   have e0:je (a[i]:Nat) (b[i]:Nat)≠0:=by
    unfold je;split
    .omega
    .split<;>omega
   rw[e]at h;generalize a[i]=x at *;generalize b[i]=y at *;simp(disch:=omega)[g1,g2];refine fH _ _ _ _ ?_;generalize je x y=q at *;refine sS ?_;exact ad h
 .have hi':i=a.length:=by omega
  subst hi';rw[take_length,hl,take_length]at heq;have e:cmpL a b=0:=by unfold cmpL;rw[if_pos heq]
  rw[e]at h;refine sS ?_;exact ad h
theorem nW(V:bD)(M:Mem)(R:VP)(hV:fa V)(h:∀ v M',Own M v (aB (cB V)) M'->R v M'):ar prog 324 [.agg (strs V).toArray] M R:=by
 have h3:=dj hV.1;have h3':=hV.1;refine fnT func324 rfl ntmps324 results324 ?_;intro b1 hb1;have k1:=ae M b1 (.cells true (strs V) 3);have hs1:=(Sub.refl M).put hb1 (.cells true (strs V) 3);simp(disch:=omega)[aq k1,h3,h3'];generalize M.put b1 (.cells true (strs V) 3)=N at *;refine lupS (rlA [3,5] 7 9) (fun x:Nat×Value=>[(7,.int .i64 x.1),(3,x.2)]) (fun x M'=>x.1<=3/\Own N x.2 (aB ((cB V).take x.1)) M') (fun x=>3-x.1) (0,.slice none 0 0) ⟨by omega,by show Own N _ [] N;exact Own.nil N⟩ ?_
 rintro⟨i,v⟩ M' g ⟨hi,ho⟩
 simp only at hi ho;by_cases hlt:i<3
 .have hgv:=pj hV.1 hlt;have hsm:=lG hV i;have hll:i<(cB V).length:=by rw[fF];omega
  have htk:=aw (cB V) hll;have he:(cB V)[i]=(V.getD i []).length:=by
   rw[<-gP,gDe,gEl hll];rfl
  rw[he]at htk;generalize V.getD i []=u at *;have htl:((cB V).take i).length<=3:=by rw[lTa];omega
  generalize (cB V).take i=L at *;simp(disch:=omega)[hgv];intro b' hb';refine sS ?_;refine apT ho ((Sub.refl _).put hb' _) ?_ (hbd:=by simp(disch:=omega);rw[aA];omega);intro v' M'' N'' ho' hs';refine sS ?_;refine rndM M'' (i+1,v') hs' ⟨by simp only;omega,?_⟩;simp only;rw[htk,<-eZ];exact ho'
 .have hi':i=3:=by omega
  subst hi';rw[take_of_length_le (by rw[fF];omega)]at ho;obtain⟨M3,o3,s3⟩:=ho.base hs1;refine sS ?_;exact ag s3 (h _ _ o3)
def JF(bl bb:Nat)(s:Nat×bD)(M:Mem):Prop:=M bl=some (.cells true [.int .i64 (s.1:Nat)] 1)/\M bb=some (.cells true (strs s.2) 3)/\fa s.2
theorem TY(x:bD×Nat)(s:Nat×bD):decide ((if je (x.2:Nat) (s.1:Nat)=0 then cmpL (cB x.1) (cB s.2) else je (x.2:Nat) (s.1:Nat))<0)=ltT x (s.2,s.1):=by
 unfold ltT je;rcases Nat.lt_trichotomy x.2 s.1 with h|h|h
 .simp[h]
 .rw[h];simp only[Int.lt_irrefl,if_false,if_true,Nat.lt_irrefl,decide_false,Bool.false_or,beq_self_eq_true,Bool.true_and];unfold cmpL;by_cases e:cB x.1=cB s.2
  .rw[if_pos e,e,xG];rfl
  .rw[if_neg e];cases hl:lexLt (cB x.1) (cB s.2)<;>simp
 .have h1:¬ x.2<s.1:=by omega
  have h2:¬ x.2=s.1:=by omega
  simp[h,h1,h2]
theorem uI(bl bb:Nat)(hne:bl≠bb)(s:Nat×bD)(V:bD)(t:Nat)(M:Mem)(R:VP)(hV:fa V)(hJ:JF bl bb s M)
  (h:∀ M',JF bl bb (dh s (V,t)).1 M'->eB (fun b=>b=bl\/b=bb) M M'->R (.bool (dh s (V,t)).2) M') :
  fO prog (.func (.func 320) #[] #[.pointer (some ⟨bl,0,none⟩),.pointer (some ⟨bb,0,none⟩)]) [.agg (strs V).toArray,.int .i64 (t:Nat)] R M:=by
 obtain⟨j1,j2,j3⟩:=hJ;obtain⟨least,best⟩:=s;simp only at j1 j2 j3;have h3:=dj hV.1;have h3':=hV.1;have b3:=dj j3.1;have b3':=j3.1;have bd:(strs best).drop 3=[]:=drop_of_length_le (by rw[ah];omega);refine sS ?_;refine fnT func320 rfl ntmps320 results320 ?_;intro b4 hb4;have n1:bl≠b4:=by rintro rfl;rw[hb4]at j1;cases j1
 have n2:bb≠b4:=by rintro rfl;rw[hb4]at j2;cases j2
 have k4:=ae M b4 (.cells true (strs V) 3);have s4:=(Sub.refl M).put hb4 (.cells true (strs V) 3);have k1:=s4 _ _ j1;have k2:=s4 _ _ j2;simp(disch:=omega)[h3'];generalize M.put b4 (.cells true (strs V) 3)=N at *;have keep:∀ N',Sub N N'->eB (fun b=>b=bl\/b=bb) M ((N'.put bl (.cells true [.int .i64 (t:Nat)] 1)).put bb (.cells true (strs V) 3)):=by
  intro N' hN b B hb hB;rw[al _ _ (fun e=>hb (.inr e)),al _ _ (fun e=>hb (.inl e))];exact hN _ _ (s4 _ _ hB)
 have newJ:∀ N':Mem,JF bl bb (t,V) ((N'.put bl (.cells true [.int .i64 (t:Nat)] 1)).put bb (.cells true (strs V) 3)):=by
  intro N';refine⟨?_,ae _ _ _,hV⟩;rw[al _ _ hne];exact ae _ _ _
 by_cases h0:least=0
 .have hst:dh (least,best) (V,t)=((t,V),false):=by unfold dh;rw[if_pos (.inl h0)]
  rw[hst]at h;subst h0;refine plyS (ai [0,1,2,3,4,5,6,8] (.one 7 1 (.one 9 1 (ai [10] (.one 11 1 (ai [12,13,14] .fin)))))) ?_;simp(disch:=omega)[ak k1];refine plyS (ai [0] (.alt 1 1 (.one 2 2 (.one 3 2 .fin)) (.one 2 2 (.one 1 1 (.one 3 2 .fin))))) ?_;simp(disch:=omega)[aq k4,h3,h3',b3',k1,k2,aj,cd,bd];refine⟨cJ V,?_⟩;exact ad (h _ (newJ N) (keep N (Sub.refl _)))
 .have hlt:=TY (V,t) (least,best);have hst:dh (least,best) (V,t)=((if ltT (V,t) (best,least)=true then (t,V) else (least,best)),false):=by
   unfold dh;simp[h0]
  rw[hst]at h;simp only at hlt;have h0':¬(least:Int)=0:=by omega
  refine plyS (ai [0,1,2,3,4,5,6,8] (.one 7 1 (.one 9 1 (ai [10] (.one 11 1 (ai [12,13,14] .fin)))))) ?_;simp(disch:=omega)[ak k1];refine aX (a:=[]) (c:=[]) (fH _ _ _ _ ⟨rfl,rfl⟩) ?_;simp(disch:=omega)[aq k2,aq k4,h3,h3',b3,b3'];refine nW V _ _ hV ?_;intro v1 N1 o1;have q1:=o1.sub;refine sS ?_;refine⟨q1,?_⟩;refine nW best _ _ j3 ?_;intro v2 N2 o2;have q2:=o2.sub;refine sS ?_;refine⟨q2,?_⟩;refine aX (a:=[]) (c:=[]) (BH v1 v2 _ _ _ _ (o1.rd.sub q2) o2.rd (by rw[fF,fF,hV.1,j3.1]) (by rw[fF,hV.1];omega) ⟨rfl,rfl⟩) ?_;refine sS ?_;intro b7 hb7;have q3:=(Sub.refl N2).put hb7 (.cells true [.int .i64 (je (t:Nat) (least:Nat)),.int .i64 (cmpL (cB V) (cB best))] 2);refine⟨q3,?_⟩;have r7:Rd (N2.put b7 (.cells true [.int .i64 (je (t:Nat) (least:Nat)),.int .i64 (cmpL (cB V) (cB best))] 2)) (.slice (some ⟨b7,0,none⟩) 2 2) (ints [je (t:Nat) (least:Nat),cmpL (cB V) (cB best)]):=Rd.new rfl (lRf 2);have sN:=(q1.trans q2).trans q3;generalize N2.put b7 (.cells true [.int .i64 (je (t:Nat) (least:Nat)),.int .i64 (cmpL (cB V) (cB best))] 2)=N3 at *;refine sS ?_;refine aX (a:=[]) (c:=[]) (wI _ _ _ _ _ r7 ⟨rfl,rfl⟩) ?_;have l1:=sN _ _ k1;have l2:=sN _ _ k2;have l4:=sN _ _ k4;generalize (if je (t:Nat) (least:Nat)=0 then cmpL (cB V) (cB best) else je (t:Nat) (least:Nat))=q at *;cases hd:ltT (V,t) (best,least)
  .rw[hd]at h hlt;have hlt:=of_decide_eq_false hlt;simp(disch:=omega)[hlt];refine ad (h N3 ⟨l1,l2,j3⟩ ?_);exact(s4.trans sN).keepO
  .rw[hd]at h hlt;have hlt:=of_decide_eq_true hlt;simp(disch:=omega)[hlt];refine plyS (ai [0] (.alt 1 1 (.one 2 2 (.one 3 2 .fin)) (.one 2 2 (.one 1 1 (.one 3 2 .fin))))) ?_;simp(disch:=omega)[aq l4,h3,h3',b3',l1,l2,aj,cd,bd];refine⟨cJ V,?_⟩;exact ad (h _ (newJ N3) (keep N3 sN))
theorem lv(w p:B8)(M:Mem)(R:VP)(hw:w.length<=1099511627776)(hp:p.length<=1099511627776)(h:R (.int .i64 (if isWord w&&a8 p then 0 else 1)) M):ar prog 318 [str w,str p] M R:=by
 refine fnT func318 rfl ntmps318 results318 ?_;refine fY w _ _ hw ?_;cases h1:isWord w
 .rw[h1]at h;refine sS ?_;exact ad h
 .rw[h1]at h;refine sS ?_;refine gE p _ _ hp ?_;cases h2:a8 p
  .rw[h2]at h;refine sS ?_;exact ad h
  .rw[h2]at h;refine sS ?_;exact ad h
def kE(V:bD):bD:=V.filter fun u=>!u.isEmpty
def plI(w p:B8):Int:=if isWord w&&a8 p then (match jQ w p with|some x=>(x.1:Int)|none=>0) else 0
def plL(w p:B8):bD:=if isWord w&&a8 p then (match jQ w p with|some x=>kE x.2|none=>[]) else []
def plC(w p:B8):Int:=if isWord w&&a8 p then (match jQ w p with|some _=>0|none=>4) else 1
def XE(i:Int)(c:Int)(xs:List Value)(M:Mem)(R:VP):Prop:=∀ v M',Own M v xs M'->R (.tuple #[.int .i64 i,v,.int .i64 c]) M'
theorem Sub.delN{M N:Mem}{b:Nat}(h:Sub M N)(hb:M b=none):Sub M (N.del b):=by
 intro i B hi;have hne:i≠b:=by rintro rfl;rw[hb]at hi;cases hi
 simp only[Mem.del,if_neg hne];exact h _ _ hi
theorem EF{M:Mem}{b:Nat}{X:Blk}(h:M b=some X):(M.del b).put b X=M:=by
 funext i
 by_cases e:i=b
 .subst e;rw[ae,h]
 .rw[al _ _ e];simp[Mem.del,e]
theorem tv(ss:List B8):Fm prog (.func (.func 326) #[] #[]) ss (fun u=>u.isEmpty):=by
 intro u hu M R h;have h:∀ M',Sub M M'->R (.bool (u.isEmpty)) M':=h;refine sS ?_;refine fnT func326 rfl ntmps326 results326 ?_;exact ad (h _ (Sub.refl _))
theorem xd(w p:B8)(M:Mem)(R:VP)(hw:w.length<=1099511627776)(hp:p.length<=1099511627776)(h:XE (plI w p) (plC w p) (strs (plL w p)) M R):ar prog 231 [str w,str p] M R:=by
 unfold plI plC plL at h;refine fnT func231 rfl ntmps231 results231 ?_;refine lv w p _ _ hw hp ?_;cases hb:isWord w&&a8 p
 .rw[hb]at h;refine sS ?_;exact ad (h _ _ (Own.nil M))
 .rw[hb,if_pos rfl,if_pos rfl,if_pos rfl]at h;rw[bAn]at hb;have h60:=au hb.1;obtain⟨hp1,hp8,hpv⟩:=bC hb.2;have hpi:∀ c∈p,aI c<3:=fun c hc=>by
   have:=dG (all_eq_true.1 hpv c hc);unfold aI;omega
  refine sS ?_;refine lupS (rlA [4,5,6,8,9,10] 19 16) (fun i:Nat=>[(19,.int .i64 i)]) (fun i M'=>i<=w.length/\Sub M M'/\eL w p i=none) (fun i=>w.length-i) 0 ⟨by omega,Sub.refl _,rfl⟩ ?_
  rintro i M' g ⟨hi,hs,hno⟩
  by_cases hlt:i<w.length
  .refine sS ?_;intro bl hbl;refine sS ?_;intro bb hbb;have hne:bl≠bb:=by rintro rfl;rw[ae]at hbb;cases hbb
   have hbb':M' bb=none:=by rw[al _ _ (Ne.symm hne)]at hbb;exact hbb
   have hJ:JF bl bb (0,V0) ((M'.put bl (.cells true [.int .i64 0] 1)).put bb (.cells true [str [],str [],str []] 3)):=by
    refine⟨?_,ae _ _ _,uE⟩;rw[al _ _ hne];exact ae _ _ _
   have hsN:Sub M' ((M'.put bl (.cells true [.int .i64 0] 1)).put bb (.cells true [str [],str [],str []] 3)):=((Sub.refl M').put hbl _).putN hbb _;refine sS ?_;generalize (M'.put bl (.cells true [.int .i64 0] 1)).put bb (.cells true [str [],str [],str []] 3)=N at *;refine ov (w.drop i) (by rw[lDr];omega) dh _ rfl (fun b=>b=bl\/b=bb) (JF bl bb) ?_ ?_ (fun s V t K R' hV hJ' hR=>uI bl bb hne s V t K R' hV hJ' hR) p V0 0 (0,V0) _ _ hpv hp8 uE (by omega) hJ ?_
   .rintro s K b ⟨q1,q2,_⟩ (rfl|rfl)
    .rw[q1];intro hh;cases hh
    .rw[q2];intro hh;cases hh
   .rintro s K b B ⟨q1,q2,q3⟩ hb
    refine⟨?_,?_,q3⟩
    .rw[al _ _ (by rintro rfl;rw[hb]at q1;cases q1)];exact q1
    .rw[al _ _ (by rintro rfl;rw[hb]at q2;cases q2)];exact q2
   .intro N1 hJ1 hk1;have hrun:(bU dh (0,V0) (cT (w.drop i) p V0 0)).1=gb (cT (w.drop i) p V0 0):=rfl;have hsK:Sub M' N1:=by
     intro b B hB;refine hk1 b B ?_ (hsN _ _ hB)
     rintro(rfl|rfl)
     .rw[hbl]at hB;cases hB
     .rw[hbb']at hB;cases hB
    have hbest:=Lw (u:=w.drop i) hpi (by intro e;rw[e]at hp1;simp at hp1);have hat:jc w p i=if 0<(gb (cT (w.drop i) p V0 0)).1 then some (i,(gb (cT (w.drop i) p V0 0)).2) else none:=rfl
    rw[hrun]at hJ1;generalize gb (cT (w.drop i) p V0 0)=s at *;obtain⟨j1,j2,j3⟩:=hJ1;obtain⟨least,best⟩:=s;simp only at j1 j2 j3 hat;by_cases h0:0<least
    .have h0':0<(least:Int):=by omega
     rw[if_pos h0]at hat;have hpl:jQ w p=some (i,best):=wg hlt hno hat;rw[hpl]at h;have hbn:(N1.del bb) bb=none:=by simp[Mem.del]
     have hown:Own (N1.del bb) (.slice (some ⟨bb,0,none⟩) 3 3) (strs best) N1:=.inr ⟨bb,3,by rw[ah,j3.1],hbn,by rw[ah,j3.1];omega,(EF j2).symm⟩;have hsD:Sub M (N1.del bb):=hs.trans (Sub.delN hsK hbb');simp(disch:=omega)[ak j1];refine mS _ _ best (fun u=>u.isEmpty) _ _ _ hown (tv best) (by rw[j3.1];omega) ?_;intro v' M2 o2;obtain⟨M3,o3,s3⟩:=o2.base hsD;refine sS ?_;exact ag s3 (h _ _ o3)
    .have h0':¬ 0<(least:Int):=by omega
     rw[if_neg h0]at hat;simp(disch:=omega)[ak j1];exact rndM M' (i+1) hsK ⟨by omega,hs,by rw[jh hno,hat]⟩
  .have hi':i=w.length:=by omega
   subst hi';have e:jQ w p=none:=hno;rw[e]at h;refine sS ?_;exact ag hs (h _ _ (Own.nil M))
end Go.Proofs.YtapimhjbilkfpaaGreatDoor
namespace Go.Proofs.YtapimhjbilkfpaaGreatDoor
open List
namespace Paths
variable {m:Nat} {E:Nat->Nat->Prop}
def P(m:Nat)(E:Nat->Nat->Prop):Nat->Nat->Nat->Prop
 | 0,i,c=>i=c
 | k+1,i,c=>∃ d,d<m/\P m E k i d/\E d c
theorem p_add:∀(b a:Nat) {i d c:Nat},d<m->P m E a i d->P m E b d c->P m E (a+b) i c
 | 0,a,i,d,c,_,h1,h2=>by
  have:d=c:=h2;subst this;exact h1
 | b+1,a,i,d,c,hd,h1,⟨e,he,h2,h3⟩=>⟨e,he,p_add b a hd h1 h2,h3⟩
theorem p_split:∀(b a:Nat) {i c:Nat},c<m->P m E (a+b) i c->∃ d,d<m/\P m E a i d/\P m E b d c
 | 0,a,i,c,hc,h=>⟨c,hc,h,rfl⟩
 | b+1,a,i,c,_,⟨e,he,h2,h3⟩=>by
  obtain⟨d,hd,k1,k2⟩:=p_split b a he h2;exact⟨d,hd,k1,e,he,k2,h3⟩
theorem count_lt(l:List Nat)(p q:Nat->Bool)(h:∀ x,p x=true->q x=true){c:Nat}(hc:c∈l)(h1:q c=true)(h2:p c=false):l.countP p<l.countP q:=by
 induction l with
 | nil=>cases hc
 | cons a l ih=>
  rw[countP_cons,countP_cons];have hm:l.countP p<=l.countP q:=countP_mono_left fun x _ hx=>h x hx;rcases mem_cons.1 hc with rfl|hc
  .rw[h1,h2];simp;omega
  .have:=ih hc;have ha:=h a;cases hp:p a
   .cases q a<;>simp<;>omega
   .rw[ha hp];simp;omega
open Classical in
theorem grown(U:Nat->Nat->Prop)(h0:∃ c,c<m/\U 0 c)(hup:∀ t c,U t c->U (t+1) c)(hg:∀ t,(∀ c,c<m->U t c)\/∃ c,c<m/\U (t+1) c/\¬ U t c):∀ c,c<m->U (m-1) c:=by
 have hcnt:∀ t,t<m->t+1<=(range m).countP (fun c=>decide (U t c)):=by
  intro t
  induction t with
  | zero=>
   intro _;obtain⟨c,hc,h⟩:=h0;have:=countP_pos_iff (p:=fun c=>decide (U 0 c)) (l:=range m);have:=this.2 ⟨c,mem_range.2 hc,by simpa using h⟩;omega
  | succ t ih=>
   intro ht;have ih:=ih (by omega);have hmono:∀ x,decide (U t x)=true->decide (U (t+1) x)=true:=by
    intro x hx;rw[dTe]at hx ⊢;exact hup t x hx
   rcases hg t with hf|⟨c,hc,h1,h2⟩
   .have:(range m).countP (fun c=>decide (U (t+1) c))=(range m).length:=countP_eq_length.2 fun x hx=>by
     rw[dTe];exact hup t x (hf x (mem_range.1 hx))
    rw[length_range]at this;omega
   .have:=count_lt (range m) (fun c=>decide (U t c)) (fun c=>decide (U (t+1) c)) hmono (mem_range.2 hc) (by simpa using h1) (by simpa using h2);omega
 intro c hc;have h1:=hcnt (m-1) (by omega);have h2:=countP_le_length (p:=fun c=>decide (U (m-1) c)) (l:=range m);rw[length_range]at h2;have h3:(range m).countP (fun c=>decide (U (m-1) c))=(range m).length:=by rw[length_range];omega
 have:=countP_eq_length.1 h3 c (mem_range.2 hc);simpa using this
def Full(m:Nat)(E:Nat->Nat->Prop)(k:Nat):Prop:=∀ i c,i<m->c<m->P m E k i c
theorem full_up{N k i:Nat}(h:Full m E (N+1))(hi:i<m)(hk:∀ c,c<m->P m E k i c):∀ c,c<m->P m E (k+1) i c:=by
 intro c hc;obtain⟨d,hd,_,h3⟩:=h i c hi hc;exact⟨d,hd,hk d hd,h3⟩
theorem full_ups{N k i:Nat}(h:Full m E (N+1))(hi:i<m)(hk:∀ c,c<m->P m E k i c):∀ n c,c<m->P m E (k+n) i c
 | 0,c,hc=>hk c hc
 | n+1,c,hc=>full_up h hi (full_ups h hi hk n) c hc
open Classical in
theorem near{N:Nat}(h:Full m E (N+1)){i c:Nat}(hi:i<m)(hc:c<m):∃ t,t<=m-1/\P m E t i c:=by
 refine grown (m:=m) (fun t c=>∃ s,s<=t/\P m E s i c) ⟨i,hi,0,lRf 0,rfl⟩ (fun t c ⟨s,hs,h⟩=>⟨s,by omega,h⟩) ?_ c hc;intro t;by_cases hcl:∃ c,c<m/\(∃ s,s<=t+1/\P m E s i c)/\¬ ∃ s,s<=t/\P m E s i c
 .exact .inr hcl
 .left;have hall:∀ n c,c<m->P m E n i c->∃ s,s<=t/\P m E s i c:=by
   intro n
   induction n with
   | zero=>intro c _ h;exact⟨0,lZe t,h⟩
   | succ n ih=>
    intro c hc ⟨d,hd,h1,h2⟩;obtain⟨s,hs,h3⟩:=ih d hd h1;refine Classical.byContradiction fun hn=>hcl ⟨c,hc,⟨s+1,by omega,d,hd,h3,h2⟩,hn⟩
  intro c hc;exact hall _ c hc (h i c hi hc)
open Classical in
theorem shorter(hm:1<=m)(h:Full m E (m*m+1)):Full m E (m*m):=by
 obtain⟨s,hs1,hs2,hs⟩:∃ s,1<=s/\s<=m/\P m E s 0 0:=by
  have h00:=h 0 0 (by omega) (by omega);rw[show m*m+1=1+m*m by omega]at h00;obtain⟨d,hd,h1,_⟩:=p_split (m*m) 1 (by omega) h00;obtain⟨t,ht,h2⟩:=near h hd (show 0<m by omega);exact⟨1+t,by omega,by omega,p_add t 1 hd h1 h2⟩
 have hV:∀ c,c<m->P m E (s*(m-1)) 0 c:=by
  refine grown (m:=m) (fun t c=>P m E (s*t) 0 c) ⟨0,by omega,rfl⟩ ?_ ?_
  .intro t c hc;have:=p_add (s*t) s (show 0<m by omega) hs hc;rw[show s*(t+1)=s+s*t by rw[Nat.mul_succ];omega];exact this
  .intro t;by_cases hcl:∃ c,c<m/\P m E (s*(t+1)) 0 c/\¬ P m E (s*t) 0 c
   .exact .inr hcl
   .left;have hall:∀ n c,c<m->P m E (s*n) 0 c->P m E (s*t) 0 c:=by
     intro n
     induction n with
     | zero=>
      intro c hc h0;have e:0=c:=h0;subst e;clear hcl
      induction t with
      | zero=>exact h0
      | succ t ih=>
       rw[show s*(t+1)=s+s*t by rw[Nat.mul_succ];omega];exact p_add (s*t) s (show 0<m by omega) hs ih
     | succ n ih=>
      intro c hc hn;rw[Nat.mul_succ]at hn;obtain⟨d,hd,h1,h2⟩:=p_split s (s*n) hc hn;have:=p_add s (s*t) hd (ih d hd h1) h2;refine Classical.byContradiction fun hno=>hcl ⟨c,hc,by rw[Nat.mul_succ];exact this,hno⟩
    intro c hc;refine hall (m*m+1) c hc ?_;obtain⟨n,hn⟩:∃ n,s*(m*m+1)=m*m+1+n:=⟨(s-1)*(m*m+1),by
     obtain⟨s',rfl⟩:∃ s',s=s'+1:=⟨s-1,by omega⟩;rw[Nat.add_sub_cancel,Nat.add_mul];omega⟩
    rw[hn];exact full_ups h (by omega) (fun c hc=>h 0 c (by omega) hc) n c hc
 intro i c hi hc;obtain⟨t,ht,h1⟩:=near h hi (show 0<m by omega);have h2:∀ c,c<m->P m E (t+s*(m-1)) i c:=fun c hc=>p_add _ _ (by omega) h1 (hV c hc);have hle:s*(m-1)<=m*(m-1):=Nat.mul_le_mul_right _ hs2;obtain⟨q,rfl⟩:∃ q,m=q+1:=⟨m-1,by omega⟩;rw[Nat.add_sub_cancel]at *;have e:(q+1)*(q+1)=(q+1)*q+(q+1):=Nat.mul_succ _ _;obtain⟨n,hn⟩:∃ n,(q+1)*(q+1)=t+s*q+n:=⟨(q+1)*(q+1)-(t+s*q),by omega⟩;rw[hn];exact full_ups h hi h2 n c hc
end Paths
end Go.Proofs.YtapimhjbilkfpaaGreatDoor
namespace Go.Proofs.YtapimhjbilkfpaaGreatDoor
open Go Go.Proofs.Tryz List
def oy(acc:Nat)(l:B8):Nat:=l.foldl (fun a u=>a ||| 2 ^ (u.toNat-97)) acc
theorem Dl(acc:Nat)(l:B8)(u:UInt8):oy acc (l++[u])=oy acc l ||| 2 ^ (u.toNat-97):=by simp[oy]
theorem xY{m:Nat}:∀(l:B8) (acc:Nat),acc<2 ^ m->(∀ u∈l,u.toNat-97<m)->oy acc l<2 ^ m
 | [],acc,h,_=>h
 | u::l,acc,h,hl=>xY l _ (Nat.or_lt_two_pow h (Nat.pow_lt_pow_right (by omega) (hl u (mem_cons_self ..)))) fun v hv=>hl v (mem_cons_of_mem _ hv)
theorem F7(c:Nat):∀(l:B8) (acc:Nat),(oy acc l).testBit c=true↔acc.testBit c=true\/∃ u∈l,u.toNat-97=c
 | [],acc=>by simp[oy]
 | u::l,acc=>by
  have ih:=F7 c l (acc ||| 2 ^ (u.toNat-97));show (oy (acc ||| 2 ^ (u.toNat-97)) l).testBit c=true↔_;rw[ih,Nat.testBit_or,Bool.or_eq_true,Nat.testBit_two_pow,dTe];constructor
  .rintro((h|h)|⟨v,hv,h⟩)
   .exact .inl h
   .exact .inr ⟨u,mem_cons_self ..,h⟩
   .exact .inr ⟨v,mem_cons_of_mem _ hv,h⟩
  .rintro(h|⟨v,hv,h⟩)
   .exact .inl (.inl h)
   .rcases mem_cons.1 hv with rfl|hv
    .exact .inl (.inr h)
    .exact .inr ⟨v,hv,h⟩
def ie(ws:List B8)(s:Nat):Nat->Nat
 | 0=>0
 | i+1=>if s/2 ^ i%2=1 then oy (ie ws s i) (ws.getD i []) else ie ws s i
theorem kx(ws:List B8)(s:Nat):ie ws s 0=0:=rfl
theorem ki(ws:List B8)(s i:Nat):ie ws s (i+1)=if s/2 ^ i%2=1 then oy (ie ws s i) (ws.getD i []) else ie ws s i:=rfl
def u6(ws:List B8)(s:Nat):Nat:=ie ws s ws.length
def fC(ws:List B8):Nat->Nat->Nat
 | 0,s=>s
 | k+1,s=>u6 ws (fC ws k s)
def Ed(ws:List B8)(i c:Nat):Prop:=∃ u∈ws.getD i [],u.toNat-97=c
theorem I2{ws:List B8}(hm:aY ws=true){i:Nat}(h:i<ws.length):∀ u∈ws.getD i [],u.toNat-97<ws.length:=by
 have hw:=bH hm (lK h);intro u hu;exact(y5 (aZ hw.2.1) hw.2.2 u hu).2
theorem pH{ws:List B8}(hm:aY ws=true)(s:Nat):∀ i,i<=ws.length->ie ws s i<2 ^ ws.length
 | 0,_=>by rw[kx];exact Nat.two_pow_pos _
 | i+1,h=>by
  have ih:=pH hm s i (by omega);rw[ki];split
  .exact xY _ _ ih (I2 hm (by omega))
  .exact ih
theorem Am{ws:List B8}(s c:Nat):∀ i,(ie ws s i).testBit c=true↔∃ j,j<i/\s.testBit j=true/\Ed ws j c
 | 0=>by
  rw[kx,Nat.zero_testBit];exact⟨fun h=>(by cases h),fun ⟨j,hj,_⟩=>absurd hj (Nat.not_lt_zero j)⟩
 | i+1=>by
  have ih:=Am (ws:=ws) s c i;have hb:s.testBit i=decide (s/2 ^ i%2=1):=Nat.testBit_eq_decide_div_mod_eq;rw[ki];split
  .rename_i h1;rw[F7,ih];constructor
   .rintro(⟨j,h2,h3,h4⟩|h)
    .exact⟨j,by omega,h3,h4⟩
    .exact⟨i,by omega,by rw[hb,dTr h1],h⟩
   .rintro⟨j,h2,h3,h4⟩
    by_cases hj:j=i
    .subst hj;exact .inr h4
    .exact .inl ⟨j,by omega,h3,h4⟩
  .rename_i h1;rw[ih];constructor
   .rintro⟨j,h2,h3,h4⟩;exact⟨j,by omega,h3,h4⟩
   .rintro⟨j,h2,h3,h4⟩
    by_cases hj:j=i
    .subst hj;rw[hb,dTe]at h3;exact absurd h3 h1
    .exact⟨j,by omega,h3,h4⟩
theorem rX{ws:List B8}(hm:aY ws=true){i:Nat}(hi:i<ws.length):∀ k,fC ws k (2 ^ i)<2 ^ ws.length
 | 0=>Nat.pow_lt_pow_right (by omega) hi
 | k+1=>pH hm _ _ (lRf _)
theorem lT{ws:List B8}(hm:aY ws=true){i:Nat}(hi:i<ws.length):∀(k c:Nat),(fC ws k (2 ^ i)).testBit c=true↔Paths.P ws.length (Ed ws) k i c
 | 0,c=>by
  unfold fC Paths.P;rw[Nat.testBit_two_pow,dTe]
 | k+1,c=>by
  unfold fC Paths.P;unfold u6;rw[Am];constructor
  .rintro⟨j,h1,h2,h3⟩;exact⟨j,h1,(lT hm hi k j).1 h2,h3⟩
  .rintro⟨j,h1,h2,h3⟩;exact⟨j,h1,(lT hm hi k j).2 h2,h3⟩
def nV(ws:List B8)(k:Nat):Bool:=(range ws.length).all fun i=>fC ws k (2 ^ i)==2 ^ ws.length-1
theorem Dc{ws:List B8}(hm:aY ws=true)(k:Nat):nV ws k=true↔Paths.Full ws.length (Ed ws) k:=by
 unfold nV Paths.Full;rw[all_eq_true];constructor
 .intro h i c hi hc;have:=h i (mem_range.2 hi);rw[beq_iff_eq]at this;rw[<-lT hm hi,this,Nat.testBit_two_pow_sub_one];exact dTr hc
 .intro h i hi;have hi:=mem_range.1 hi;rw[beq_iff_eq];apply Nat.eq_of_testBit_eq;intro c;rw[Nat.testBit_two_pow_sub_one];by_cases hc:c<ws.length
  .rw[dTr hc,lT hm hi];exact h i c hi hc
  .rw[dFa hc];exact Nat.testBit_lt_two_pow (Nat.lt_of_lt_of_le (rX hm hi k) (Nat.pow_le_pow_right (by omega) (by omega)))
def jF(ws:List B8)(n:Nat):Bool:=(range n).any fun k=>nV ws (k+1)
theorem ny(ws:List B8)(n:Nat):jF ws (n+1)=(jF ws n||nV ws (n+1)):=by simp[jF,range_succ]
theorem qY{ws:List B8}{n m:Nat}(h:n<m)(hh:nV ws (n+1)=true):jF ws m=true:=by
 unfold jF;rw[any_eq_true];exact⟨n,mem_range.2 h,hh⟩
theorem F8{ws:List B8}(hm:aY ws=true):jF ws (ws.length*ws.length+1)=jF ws (ws.length*ws.length):=by
 have h15:=aW hm;rw[ny];cases h:nV ws (ws.length*ws.length+1)
 .rw[Bool.or_false]
 .have h1:=Paths.shorter h15.1 ((Dc hm _).1 h);have h2:=(Dc hm _).2 h1;have h3:1<=ws.length*ws.length:=Nat.mul_le_mul h15.1 h15.1;rw[qY (n:=ws.length*ws.length-1) (by omega) (by rw[show ws.length*ws.length-1+1=ws.length*ws.length by omega];exact h2)];rfl
def wG(ws:List B8):Bool:=aY ws&&jF ws (ws.length*ws.length)
theorem yc{i:Nat}(h:i<=5):2 ^ i<=32:=by
 have:i=0\/i=1\/i=2\/i=3\/i=4\/i=5:=by omega
 rcases this with rfl|rfl|rfl|rfl|rfl|rfl<;>decide
theorem XA{i:Nat}(h:i<=5):IntKind.i64.wrap (2 ^ (min i IntKind.i64.bits))=((2 ^ i:Nat):Int):=by
 have:i=0\/i=1\/i=2\/i=3\/i=4\/i=5:=by omega
 rcases this with rfl|rfl|rfl|rfl|rfl|rfl<;>decide
theorem Wt{s i:Nat}(h:i<=5):(s:Int).fdiv (2 ^ (min i IntKind.i64.bits))=((s/2 ^ i:Nat):Int):=by
 have e:min i IntKind.i64.bits=i:=by show min i 64=i;omega
 rw[e,Int.fdiv_eq_ediv_of_nonneg _ (by exact Int.le_of_lt (Int.pow_pos (by decide)))]
 push_cast
 rfl
theorem Xf{x:Nat}(h:x<32):IntKind.i64.wrap (BitVec.ofInt IntKind.i64.bits (x:Int) &&& BitVec.ofInt IntKind.i64.bits 1).toNat=((x%2:Nat):Int):=by
 have:∀ y:Fin 32,IntKind.i64.wrap (BitVec.ofInt IntKind.i64.bits ((y.val:Nat):Int) &&& BitVec.ofInt IntKind.i64.bits 1).toNat=((y.val%2:Nat):Int):=by decide
 exact this ⟨x,h⟩
theorem Zi{x y:Nat}(h:x<32)(h':y<32):IntKind.i64.wrap (BitVec.ofInt IntKind.i64.bits (x:Int) ||| BitVec.ofInt IntKind.i64.bits (y:Int)).toNat=((x ||| y:Nat):Int):=by
 have e:∀ z:Nat,BitVec.ofInt IntKind.i64.bits (z:Int)=BitVec.ofNat 64 z:=fun z=>by
  show BitVec.ofInt 64 (z:Int)=BitVec.ofNat 64 z;exact BitVec.ofInt_natCast 64 z
 have hxy:x ||| y<2 ^ 5:=Nat.or_lt_two_pow (n:=5) h h'
 rw[e,e];show IntKind.i64.wrap ((BitVec.ofNat 64 x ||| BitVec.ofNat 64 y).toNat:Int)=_;rw[BitVec.toNat_or,BitVec.toNat_ofNat,BitVec.toNat_ofNat,Nat.mod_eq_of_lt (by omega),Nat.mod_eq_of_lt (by omega)];exact Ck (by omega) (by omega)
def lg(i:Nat):Nat:=2 ^ i
def Mn(s i:Nat):Nat:=s/2 ^ i
def ow(s i:Nat):Nat:=s/2 ^ i%2
def orN(a b:Nat):Nat:=a ||| b
theorem NM{T:Tab}{t:TypeId}{k:IntKind}{i:Nat}(h:i<=5):cY T .shl t (.int .i64 1) (.int k (i:Int))=.need (0<=(i:Int)) (.int .i64 (lg i:Nat)):=by
 rw[ix,Int.one_mul,iNa,XA h];rfl
theorem Wq{T:Tab}{t:TypeId}{k:IntKind}{s i:Nat}(h:i<=5):cY T .shr t (.int .i64 (s:Int)) (.int k (i:Int))=.need (0<=(i:Int)) (.int .i64 (Mn s i:Nat)):=by
 rw[ug,iNa,Wt h];rfl
theorem XZ{T:Tab}{t:TypeId}{s i:Nat}(h:Mn s i<32):cY T .and t (.int .i64 (Mn s i:Nat)) (.int .i64 1)=.ok (.int .i64 (ow s i:Nat)):=by
 rw[sj,Xf h];rfl
theorem orO{T:Tab}{t:TypeId}{x y:Nat}(h:x<32/\y<32):cY T .or t (.int .i64 (x:Int)) (.int .i64 (y:Int))=.ok (.int .i64 (orN x y:Nat)):=by
 rw[AS,Zi h.1 h.2];rfl
theorem H5(s i:Nat):Mn s i<=s:=Nat.div_le_self _ _
theorem Ly{i m:Nat}(h:i<m)(hm:m<=5):lg i<32:=by
 have:=yc (i:=i+1) (by omega);unfold lg;rw[Nat.pow_succ]at this;omega
theorem Ja(x:Value)(ws:List B8)(s b1:Nat)(K:Mem)(R:VP)(hv:Rd K x (strs ws))(hm:aY ws=true)(k1:K b1=some (.cells true [x] 1))(hs:s<2 ^ ws.length)(h:R (.int .i64 (u6 ws s)) K):ar prog 423 [.int .i64 s,.pointer (some ⟨b1,0,none⟩)] K R:=by
 have h15:=aW hm;have h32:=yc h15.2;obtain⟨a,c,rfl,ha⟩:=hv.opened;rw[ah]at ha hv k1;rcases ha with h0|⟨b,o,rfl,ha⟩
 .omega
 refine fnS func423 rfl ntmps423 results423 ?_;simp(disch:=omega)[ak k1];refine aR aU (rlA [4,5,6,8] 12 24) (fun i:Nat=>[(12,.int .i64 i),(4,.int .i64 (ie ws s i))]) (fun i M'=>M'=K/\i<=ws.length) (fun i=>ws.length-i) 0 (by kernel_rfl) (by simp(disch:=omega)[kx]) ⟨rfl,by omega⟩ ?_
 rintro i M' g ⟨rfl,hi⟩
 by_cases hlt:i<ws.length
 .have hg:=ha i hlt;rw[a7,gEl hlt]at hg;have hst:=pH hm s i hi;have hsn:=ki ws s i;have hgd:ws.getD i []=ws[i]:=by rw[gDe,gEl hlt];rfl
  rw[hgd]at hsn;have hlt2:=I2 hm hlt;rw[hgd]at hlt2;have hwo:=bH hm (gMe hlt);obtain⟨w,hw⟩:∃ w,w=ws[i]:=⟨_,rfl⟩;rw[<-hw]at hg hsn hlt2 hwo;have hba:=H5 s i;have hif:ow s i=1↔s/2 ^ i%2=1:=Iff.rfl;simp(disch:=omega)[-ix,-ug,-sj,-AS,Wq,XZ,hg];by_cases hbit:ow s i=1
  .have hb:((ow s i:Int)==1)=true:=by rw[hbit];rfl
   rw[if_pos (hif.1 hbit)]at hsn;generalize ie ws s i=acc at *;simp(disch:=omega)[hb];intro b2 c2 hb2 hc2;refine sS ?_;have k2:(M'.put b2 (.cells true (av w) c2)) b2=some (.cells true (av w) c2):=ae _ _ _;refine aR aU (rlA [4,8] 25 10) (fun q:Nat=>[(25,.int .i64 q),(4,.int .i64 (oy acc (w.take q)))]) (fun q M1=>M1=M'.put b2 (.cells true (av w) c2)/\q<=w.length) (fun q=>w.length-q) 0 (by kernel_rfl) (by simp(disch:=omega)[oy]) ⟨rfl,by omega⟩ ?_
   rintro q M1 g1 ⟨rfl,hq⟩
   have hlt3:=xY (m:=ws.length) (w.take q) acc hst fun u hu=>hlt2 u (mem_of_mem_take hu);by_cases hql:q<w.length
   .have hx:w[q]?=some w[q]:=gEl hql;have hlq:=eE (all_eq_true.1 (aZ hwo.2.1) _ (gMe hql));have hl3:=hlt2 _ (gMe hql);have hsn2:oy acc (w.take (q+1))=orN (oy acc (w.take q)) (lg (w[q].toNat-97)):=by rw[aw w hql,Dl];rfl
    have hbn:=Ly hl3 h15.2;have e97:((w[q].toNat:Int)-97)=((w[q].toNat-97:Nat):Int):=by omega
    generalize w[q].toNat-97=kk at *;refine sS ?_;refine iN _ _ _ ?_;rw[e97];simp(disch:=omega)[-ix,-ug,-sj,-AS,NM,orO];exact rndA (q+1) (by simp(disch:=omega)[hsn2]) ⟨rfl,by omega⟩
   .have hq':q=w.length:=by omega
    subst hq';rw[take_length];refine sS ?_;exact rndB M' (i+1) ((Sub.refl M').put hb2 _) (by simp(disch:=omega)[hsn]) ⟨rfl,by omega⟩
  .have hb:((ow s i:Int)==1)=false:=bNe.2 (by omega);rw[if_neg (fun hh=>hbit (hif.2 hh))]at hsn;simp(disch:=omega)[hb];exact rndA (i+1) (by simp(disch:=omega)[hsn]) ⟨rfl,by omega⟩
 .have hi':i=ws.length:=by omega
  subst hi';refine sS ?_;exact ad h
def lL(ws:List B8)(k:Nat):List Nat:=(range ws.length).map fun i=>fC ws k (2 ^ i)
theorem bL(ws:List B8)(k:Nat):(lL ws k).length=ws.length:=by simp[lL]
theorem sJ(ws:List B8)(k:Nat){i:Nat}(h:i<ws.length):(lL ws k)[i]?=some (fC ws k (2 ^ i)):=by simp[lL,h]
def wF(i:Nat):List Nat:=(range i).map lg
theorem yY(i:Nat):wF (i+1)=wF i++[lg i]:=by simp[wF,range_succ]
theorem tZ(i:Nat):(wF i).length=i:=by simp[wF]
theorem CD(ws:List B8):wF ws.length=lL ws 0:=rfl
def tz(ws:List B8)(k i:Nat):List Nat:=(lL ws (k+1)).take i++(lL ws k).drop i
theorem NA(ws:List B8)(k:Nat):tz ws k 0=lL ws k:=by simp[tz]
theorem Iv(ws:List B8)(k:Nat){i:Nat}(h:i<=ws.length):(tz ws k i).length=ws.length:=by
 unfold tz;rw[lAp,lTa,lDr,bL,bL];omega
theorem OW(ws:List B8)(k:Nat):tz ws k ws.length=lL ws (k+1):=by
 unfold tz;rw[take_of_length_le (by rw[bL];exact lRf _),drop_of_length_le (by rw[bL];exact lRf _),append_nil]
theorem Pb(ws:List B8)(k:Nat){i:Nat}(h:i<ws.length):(tz ws k i)[i]?=some (fC ws k (2 ^ i)):=by
 unfold tz;rw[getElem?_append_right (by rw[lTa];omega),lTa,bL,Nat.min_eq_left (by omega),Nat.sub_self,getElem?_drop,Nat.add_zero,sJ ws k h]
theorem PD(ws:List B8)(k:Nat){i:Nat}(h:i<ws.length):(tz ws k i).set i (fC ws (k+1) (2 ^ i))=tz ws k (i+1):=by
 have hg:=sJ ws (k+1) h;rw[gEl (by rw[bL];exact h)]at hg;injection hg with hg
 unfold tz;rw[set_append_right _ _ (by rw[lTa];omega),lTa,bL,Nat.min_eq_left (by omega),Nat.sub_self,drop_eq_getElem_cons (by rw[bL];exact h),set_cons_zero,aw (lL ws (k+1)) (by rw[bL];exact h),hg,append_assoc];rfl
theorem Kg(l:List Nat)(i n:Nat):(aB l).set i (.int .i64 n)=aB (l.set i n):=by simp[aB,map_set]
def isFull(m:Nat):Value->Bool
 | .int .i64 n=>n==(lg m:Int)-1
 | _=>false
theorem Mk{m x:Nat}:((x:Int)==(lg m:Int)-1)=(x==2 ^ m-1):=by
 have h1:1<=lg m:=Nat.two_pow_pos m;have h2:lg m=2 ^ m:=rfl;rw[Bool.eq_iff_iff,beq_iff_eq,beq_iff_eq];omega
theorem Qg(ws:List B8)(k:Nat):(aB (lL ws k)).all (isFull ws.length)=nV ws k:=by
 unfold aB lL nV;rw[map_map,all_map]
 congr 1
 funext i
 exact Mk
theorem vd(v:Value)(ws:List B8)(M:Mem)(R:VP)(hv:Rd M v (strs ws))(hm:aY ws=true)(h:R (.bool (jF ws (ws.length*ws.length))) M):ar prog 397 [.agg #[v]] M R:=by
 rw[<-F8 hm]at h;have h15:=aW hm;have h32:=yc h15.2;refine fnS func397 rfl ntmps397 results397 ?_;obtain⟨a,c,rfl,ha⟩:=hv.opened;rw[ah]at ha hv ⊢;have hb32:lg ws.length<=32:=h32;have hb1':1<=lg ws.length:=Nat.two_pow_pos _;refine sS ?_;intro b1 hb1;simp(disch:=omega)[-ix,NM];intro b3 hb3;have n3:=hb3;rw[aG]at n3;have s3:Sub M ((M.put b1 (.cells true [.slice a ws.length c] 1)).put b3 (.cells true [.int .i64 ((lg ws.length:Int)-1)] 1)):=((Sub.refl M).put hb1 _).putN hb3 _;have k1:((M.put b1 (.cells true [.slice a ws.length c] 1)).put b3 (.cells true [.int .i64 ((lg ws.length:Int)-1)] 1)) b1=some (.cells true [.slice a ws.length c] 1):=by rw[al _ _ (Ne.symm n3.1)];exact ae _ _ _
 have k3:((M.put b1 (.cells true [.slice a ws.length c] 1)).put b3 (.cells true [.int .i64 ((lg ws.length:Int)-1)] 1)) b3=some (.cells true [.int .i64 ((lg ws.length:Int)-1)] 1):=ae _ _ _;have hv3:=hv.sub s3;simp(disch:=omega)[-ix];generalize (M.put b1 (.cells true [.slice a ws.length c] 1)).put b3 (.cells true [.int .i64 ((lg ws.length:Int)-1)] 1)=N at *;refine lupS (rlA [5,6] 18 9) (fun x:Nat×Value=>[(18,.int .i64 x.1),(5,x.2)]) (fun x M'=>x.1<=ws.length/\Own N x.2 (aB (wF x.1)) M') (fun x=>ws.length-x.1) (0,.slice none 0 0) ⟨by omega,Own.nil _⟩ ?_
 rintro⟨i,v⟩ M' g ⟨hi,ho⟩
 simp only at hi ho;by_cases hlt:i<ws.length
 .have hl0:=tZ i;simp(disch:=omega)[-ix,NM];intro b' hb';refine sS ?_;refine apT ho ((Sub.refl _).put hb' _) ?_ (hbd:=by simp(disch:=omega);rw[aA,hl0];omega);intro v' M'' N'' ho' hs';refine sS ?_;refine rndM M'' (i+1,v') hs' ⟨by simp only;omega,?_⟩;simp only;rw[yY,<-eZ];exact ho'
 .have hi':i=ws.length:=by omega
  subst hi';rw[CD]at ho;have hsM:=ho.sub;have q1:=hsM _ _ k1;have q3:=hsM _ _ k3;rcases ho with ⟨_,h0,_⟩|⟨b5,c5,rfl,hb5,hc5,rfl⟩
  .have:=congrArg length h0;rw[aA,bL,length_nil]at this;omega
  rw[aA,bL]at hc5;have hne15:b1≠b5:=by rintro rfl;rw[k1]at hb5;cases hb5
  have hne35:b3≠b5:=by rintro rfl;rw[k3]at hb5;cases hb5
  have hmm:ws.length*ws.length<=25:=Nat.mul_le_mul h15.2 h15.2;obtain⟨mm,hmmq⟩:∃ mm,mm=ws.length*ws.length:=⟨_,rfl⟩;have emm:(ws.length:Int)*ws.length=(mm:Int):=by rw[hmmq];push_cast;rfl
  rw[<-hmmq]at h hmm;have hll:=bL ws 0;simp(disch:=omega)[ak q1,emm,aA,hll];refine lupS (rlA [2,7,8] 35 20) (fun k:Nat=>[(35,.int .i64 k)]) (fun k M1=>k<=mm+1/\jF ws k=false/\M1=N.put b5 (.cells true (aB (lL ws k)) c5)) (fun k=>mm+1-k) 0 ⟨by omega,rfl,rfl⟩ ?_
  rintro k M1 g1 ⟨hk,hno,rfl⟩
  by_cases hkl:k<mm+1
  .refine sS ?_;refine lupS (rlA [7,8] 39 12) (fun i:Nat=>[(39,.int .i64 i)]) (fun i M2=>i<=ws.length/\M2=N.put b5 (.cells true (aB (tz ws k i)) c5)) (fun i=>ws.length-i) 0 ⟨by omega,by rw[NA]⟩ ?_
   rintro i M2 g2 ⟨hi2,rfl⟩
   have s5:=(Sub.refl N).put hb5 (.cells true (aB (tz ws k i)) c5);have hml:=Iv ws k hi2;by_cases hil:i<ws.length
   .have hg:(aB (tz ws k i))[i]?=some (.int .i64 (fC ws k (2 ^ i):Nat)):=by rw[bV,Pb ws k hil];rfl
    have hset:=PD ws k hil;have hilt:=rX hm hil k;have hst:u6 ws (fC ws k (2 ^ i))=fC ws (k+1) (2 ^ i):=rfl;simp(disch:=omega)[hg];refine Ja _ ws _ b1 _ _ (hv3.sub s5) hm (s5 _ _ k1) hilt ?_;rw[hst];simp(disch:=omega)[Kg,hset,aA,hml];exact rndS (i+1) ⟨by omega,rfl⟩
   .have hi2':i=ws.length:=by omega
    subst hi2';rw[OW]at s5 ⊢;have hs:=ny ws k;rw[hno,Bool.false_or]at hs;refine sS ?_;refine EP _ _ (aB (lL ws (k+1))) (isFull ws.length) (fun K=>K b3=some (.cells true [.int .i64 ((lg ws.length:Int)-1)] 1)) _ _ (Rd.new (by rw[aA,bL]) hc5) (s5 _ _ k3) ?_ ?_ rfl (by rw[aA,bL];omega) ?_
    .intro K b' B q hb;have:b3≠b':=by rintro rfl;rw[hb]at q;cases q
     show (K.put b' B) b3=_;rw[al _ _ this];exact q
    .intro x hx K R' q hR;obtain⟨n,hn,rfl⟩:=mem_map.1 hx;refine sS ?_;refine fnS func425 rfl ntmps425 results425 ?_;simp(disch:=omega)[ak q];exact ad hR
    .rw[Qg];cases hf:nV ws (k+1)
     .rw[hf]at hs;refine sS ?_;exact rndS (k+1) ⟨by omega,hs,rfl⟩
     .rw[qY hkl hf]at h;refine sS ?_;exact ag (s3.trans s5) h
  .have hk':k=mm+1:=by omega
   rw[hk']at hno;rw[hno]at h;refine sS ?_;exact ag (s3.trans ((Sub.refl N).put hb5 _)) h
theorem vP(v:Value)(ws:List B8)(M:Mem)(R:VP)(hv:Rd M v (strs ws))(hf:cS ws)(hn:ws.length<=1099511627776)(h:R (aF (.bool (wG ws)) (lO ws)) M):ar prog 347 [.agg #[v]] M R:=by
 refine fnS func347 rfl ntmps347 results347 ?_;obtain⟨a,c,rfl,ha⟩:=hv.opened;rw[ah]at hv ⊢;refine sS ?_;intro b1 hb1;have hs1:=(Sub.refl M).put hb1 (.cells true [.slice a ws.length c] 1);have hv1:=hv.put hb1 (.cells true [.slice a ws.length c] 1);refine sS ?_;refine fN _ ws _ _ hv1 hf hn ?_;unfold wG lO at h;unfold lO;cases hm:aY ws
 .rw[hm]at h;refine sS ?_;exact ag hs1 h
 .rw[hm,Bool.true_and,if_pos rfl]at h;refine sS ?_;refine vd _ ws _ _ hv1 hm ?_;refine sS ?_;exact ag hs1 h
theorem LA{x:Int}(h:0<=x/\x<=1000):IntKind.u64.wrap x=x:=by
 simp[IntKind.wrap,IntKind.bits,IntKind.signed];omega
def AD(ws:List B8)(k i:Nat):Bool:=(range i).all fun i=>fC ws k (2 ^ i)==2 ^ ws.length-1
theorem Je(ws:List B8)(k i:Nat):AD ws k (i+1)=(AD ws k i&&(fC ws k (2 ^ i)==2 ^ ws.length-1)):=by simp[AD,range_succ]
theorem ND(ws:List B8)(k:Nat):AD ws k ws.length=nV ws k:=rfl
theorem NW(ws:List B8)(k:Nat){i:Nat}(h:i<ws.length):(lL ws k).take (i+1)=(lL ws k).take i++[fC ws k (2 ^ i)]:=by
 have hg:=sJ ws k h;rw[gEl (by rw[bL];exact h)]at hg;injection hg with hg
 rw[aw (lL ws k) (by rw[bL];exact h),hg]
theorem vE(v:Value)(ws:List B8)(M:Mem)(R:VP)(hv:Rd M v (strs ws))(hf:cS ws)(hn:ws.length<=1099511627776)(h:R (aF (.bool (wG ws)) (lO ws)) M):ar prog 290 [.agg #[v]] M R:=by
 refine fnS func290 rfl ntmps290 results290 ?_;obtain⟨a,c,rfl,ha⟩:=hv.opened;rw[ah]at ha hv ⊢;refine sS ?_;intro b1 hb1;have hs1:=(Sub.refl M).put hb1 (.cells true [.slice a ws.length c] 1);have hv1:=hv.put hb1 (.cells true [.slice a ws.length c] 1);have k1:=ae M b1 (.cells true [.slice a ws.length c] 1);refine sS ?_;generalize M.put b1 (.cells true [.slice a ws.length c] 1)=N at *;refine fK _ ws _ _ hv1 hf hn ?_;unfold wG lO at h;cases hm:aY ws
 .rw[hm]at h;refine sS ?_;exact ag hs1 h
 .rw[hm,Bool.true_and,if_pos rfl]at h;have h15:=aW hm;have h32:=yc h15.2;have hb32:lg ws.length<=32:=h32;have hb1':1<=lg ws.length:=Nat.two_pow_pos _;rcases ha with h0|⟨b,o,rfl,ha⟩
  .omega
  have hmm:ws.length*ws.length<=25:=Nat.mul_le_mul h15.2 h15.2;obtain⟨mm,hmmq⟩:∃ mm,mm=ws.length*ws.length:=⟨_,rfl⟩;have emm:(ws.length:Int)*ws.length=(mm:Int):=by rw[hmmq];push_cast;rfl
  rw[<-hmmq]at h hmm;simp(disch:=omega)[ak k1];intro b20 hb20;refine sS ?_;refine lupS (rlA [5,6] 21 11) (fun x:Nat×Value=>[(6,.int .i64 x.1),(5,x.2)]) (fun x M'=>x.1<=ws.length/\Own N x.2 (aB (wF x.1)) M') (fun x=>ws.length-x.1) (0,.slice (some ⟨b20,0,none⟩) 0 0) ⟨by omega,Own.new hb20 rfl (lRf 0)⟩ ?_
  rintro⟨i,v⟩ M' g ⟨hi,ho⟩
  simp only at hi ho;by_cases hlt:i<ws.length
  .have hl0:=tZ i;simp(disch:=omega)[-ix,LA,NM];intro b' hb';refine sS ?_;refine apT ho ((Sub.refl _).put hb' _) ?_ (hbd:=by simp(disch:=omega);rw[aA,hl0];omega);intro v' M'' N'' ho' hs';refine sS ?_;refine rndM M'' (i+1,v') hs' ⟨by simp only;omega,?_⟩;simp only;rw[yY,<-eZ];exact ho'
  .have hi':i=ws.length:=by omega
   subst hi';rw[CD]at ho;refine sS ?_;refine lupS (rlA [2,3,5,7,8,9,10,11,12,13] 32 64) (fun x:Nat×Value=>[(7,.int .i64 x.1),(5,x.2)]) (fun x M1=>x.1<=mm/\jF ws x.1=false/\Sub N M1/\Rd M1 x.2 (aB (lL ws x.1))) (fun x=>mm-x.1) (0,v) ⟨by simp,rfl,ho.sub,ho.rd⟩ ?_
   rintro⟨k,vn⟩ M1 g1 ⟨hk,hno,sN,rn⟩
   simp only at hk hno rn;by_cases hkl:k<mm
   .obtain⟨an,cn,rfl,hag⟩:=rn.opened;rw[aA,bL]at hag rn ⊢;rcases hag with h0|⟨bn,on,rfl,hag⟩
    .omega
    simp(disch:=omega)[emm];intro b39 hb39;refine sS ?_;refine aR aU (rlA [8,9,10,11,12,13] 40 54) (fun x:Nat×Value=>[(10,.int .i64 x.1),(8,x.2),(9,.bool (AD ws (k+1) x.1))]) (fun x M2=>x.1<=ws.length/\Own M1 x.2 (aB ((lL ws (k+1)).take x.1)) M2) (fun x=>ws.length-x.1) (0,.slice (some ⟨b39,0,none⟩) 0 0) (by kernel_rfl) (by simp(disch:=omega)[AD]) ⟨by omega,Own.new hb39 rfl (lRf 0)⟩ ?_
    rintro⟨i,v2⟩ M2 g2 ⟨hi2,o2⟩
    simp only at hi2 o2;by_cases hil:i<ws.length
    .have hgn:=hag i hil;rw[bV,sJ ws k hil]at hgn;have hgn2:=aT hgn o2.sub;have hilt:=rX hm hil k;have hst:u6 ws (fC ws k (2 ^ i))=fC ws (k+1) (2 ^ i):=rfl;have hal:=Je ws (k+1) i;have hls:=NW ws (k+1) hil;have hll:((lL ws (k+1)).take i).length=i:=by rw[lTa,bL];omega
     unfold u6 at hst;obtain⟨s,hsq⟩:∃ s,s=fC ws k (2 ^ i):=⟨_,rfl⟩;rw[<-hsq]at hgn2 hilt hst;have l1:=o2.sub _ _ (sN _ _ k1);refine sS ?_;refine aR aU (rlA [11,12,13] 45 36) (fun j:Nat=>[(12,.int .i64 j),(11,.int .i64 (ie ws s j))]) (fun j M3=>M3=M2/\j<=ws.length) (fun j=>ws.length-j) 0 (by kernel_rfl) (by simp(disch:=omega)[kx]) ⟨rfl,by omega⟩ ?_
     rintro j M3 g3 ⟨rfl,hj⟩
     by_cases hjl:j<ws.length
     .have hgw:=ha j hjl;rw[a7,gEl hjl]at hgw;have hgw2:=aT hgw ((hs1.trans sN).trans o2.sub);have hsn:=ki ws s j;have hgd:ws.getD j []=ws[j]:=by rw[gDe,gEl hjl];rfl
      rw[hgd]at hsn;have hlt2:=I2 hm hjl;rw[hgd]at hlt2;have hstl:=pH hm s j hj;have hwo:=bH hm (gMe hjl);obtain⟨w,hw⟩:∃ w,w=ws[j]:=⟨_,rfl⟩;rw[<-hw]at hgw2 hsn hlt2 hwo;have hba:=H5 s j;have hif:ow s j=1↔s/2 ^ j%2=1:=Iff.rfl;have hb2:ow s j<2:=Nat.mod_lt _ (by omega);simp(disch:=omega)[-ix,-ug,-sj,-AS,Wq,XZ,LA,hgn2];by_cases hbit:ow s j=1
      .have hbb:((ow s j:Int)==0)=false:=by rw[hbit];rfl
       rw[if_pos (hif.1 hbit)]at hsn;generalize ie ws s j=acc at *;simp(disch:=omega)[hbb];refine aR aU (rlA [11,13] 59 22) (fun q:Nat=>[(13,.int .i64 q),(11,.int .i64 (oy acc (w.take q)))]) (fun q M4=>M4=M3/\q<=w.length) (fun q=>w.length-q) 0 (by kernel_rfl) (by simp(disch:=omega)[oy]) ⟨rfl,by omega⟩ ?_
       rintro q M4 g4 ⟨rfl,hq⟩
       have hlt3:=xY (m:=ws.length) (w.take q) acc hstl fun u hu=>hlt2 u (mem_of_mem_take hu);by_cases hql:q<w.length
       .have hx:w[q]?=some w[q]:=gEl hql;have hlq:=eE (all_eq_true.1 (aZ hwo.2.1) _ (gMe hql));have hl3:=hlt2 _ (gMe hql);have hsn2:oy acc (w.take (q+1))=orN (oy acc (w.take q)) (lg (w[q].toNat-97)):=by rw[aw w hql,Dl];rfl
        have hbn:=Ly hl3 h15.2;have e97:((w[q].toNat:Int)-97)=((w[q].toNat-97:Nat):Int):=by omega
        generalize w[q].toNat-97=kk at *;simp(disch:=omega)[-ix,-ug,-sj,-AS,NM,orO,LA,ak l1,hgw2,e97];exact rndA (q+1) (by simp(disch:=omega)[hsn2]) ⟨rfl,by omega⟩
       .have hq':q=w.length:=by omega
        subst hq';rw[take_length];simp(disch:=omega)[ak l1,hgw2];exact rndA (j+1) (by simp(disch:=omega)[hsn]) ⟨rfl,by omega⟩
      .have hb0:ow s j=0:=by omega
       have hbb:((ow s j:Int)==0)=true:=by rw[hb0];rfl
       rw[if_neg (fun hh=>hbit (hif.2 hh))]at hsn;simp(disch:=omega)[hbb];exact rndA (j+1) (by simp(disch:=omega)[hsn]) ⟨rfl,by omega⟩
     .have hj':j=ws.length:=by omega
      subst hj';rw[hst];have hfe:=Mk (m:=ws.length) (x:=fC ws (k+1) (2 ^ i));have hit:=rX hm hil (k+1);rw[<-hfe]at hal;generalize fC ws (k+1) (2 ^ i)=y at *;refine sS ?_;intro b83 hb83;refine sS ?_;refine apT o2 ((Sub.refl _).put hb83 _) ?_ (hbd:=by simp(disch:=omega);rw[aA,hll];omega);intro v5 M5 N5 o5 s5;cases hall:AD ws (k+1) i
      .rw[hall,Bool.false_and]at hal;refine sS ?_;refine rndB M5 (i+1,v5) s5 (by simp(disch:=omega)[hal]) ⟨by simp only;omega,?_⟩;simp only;rw[hls,<-eZ];exact o5
      .rw[hall,Bool.true_and]at hal;simp(disch:=omega)[-ix,NM,LA];refine rndB M5 (i+1,v5) s5 (by simp(disch:=omega)[hal]) ⟨by simp only;omega,?_⟩;simp only;rw[hls,<-eZ];exact o5
    .have hi2':i=ws.length:=by omega
     subst hi2';rw[take_of_length_le (by rw[bL];exact lRf _)]at o2;rw[ND];have hs:=ny ws k;rw[hno,Bool.false_or]at hs;cases hfu:nV ws (k+1)
     .rw[hfu]at hs;refine sS ?_;exact rndS (k+1,v2) ⟨by simp only;omega,hs,sN.trans o2.sub,o2.rd⟩
     .rw[qY hkl hfu]at h;refine sS ?_;exact ag ((hs1.trans sN).trans o2.sub) h
   .have hk':k=mm:=by omega
    rw[hk']at hno;rw[hno]at h;simp(disch:=omega)[emm];exact ag (hs1.trans sN) h
def jY(m:Nat)(w:B8):List Int:=(counts w).take m
def xw(ws:List B8):List (List Int):=ws.map (jY ws.length)
theorem wv{m:Nat}(h:m<=5)(w:B8):(jY m w).length=m:=by unfold jY;rw[lTa,eH];omega
theorem gf(ws:List B8):(xw ws).length=ws.length:=by simp[xw]
theorem E6(m:Nat)(w:B8):ints (counts w)=ints (jY m w)++ints ((counts w).drop m):=by rw[GQ,jY,take_append_drop]
theorem HL{ws:List B8}{i:Nat}(h:i<ws.length):(xw ws)[i]'(by rw[gf];exact h)=jY ws.length ws[i]:=by simp[xw]
theorem Nc{ws:List B8}{i:Nat}(h:i<ws.length):(xw ws).take (i+1)=(xw ws).take i++[jY ws.length ws[i]]:=by rw[aw (xw ws) (by rw[gf];exact h),HL h]
theorem O8(m:Nat)(h:m<=5):jY m []=replicate m 0:=by
 unfold jY;rw[JW];have:m=0\/m=1\/m=2\/m=3\/m=4\/m=5:=by omega
 rcases this with rfl|rfl|rfl|rfl|rfl|rfl<;>rfl
theorem Nw(m:Nat)(l:B8)(u:UInt8)(h:isL u=true):jY m (l++[u])=(jY m l).set (u.toNat-97) (cnt l (u.toNat-97)+1):=by
 unfold jY;rw[n6 l u h,take_set]
theorem Q7(m:Nat)(l:B8){k:Nat}(hk:k<m)(h5:k<5):(jY m l)[k]?=some (cnt l k):=by
 unfold jY;rw[getElem?_take_of_lt hk,re l h5]
theorem PF(v:Value)(ws:List B8)(i:Nat)(M:Mem)(R:VP)(hv:Rd M v (strs ws))(hm:aY ws=true)(hi:i<ws.length)
  (h:∀ b c M',M b=none->M'=M.put b (.cells true (ints (counts ws[i])) c)->R (.slice (some ⟨b,0,none⟩) ws.length ws.length) M'):ar prog 262 [.agg #[v],.int .i64 i] M R:=by
 refine fnS func262 rfl ntmps262 results262 ?_;obtain⟨a,c,rfl,ha⟩:=hv.opened;have h15:=aW hm;rw[ah]at ha hv ⊢;refine sS ?_;intro b1 hb1;have hs1:=(Sub.refl M).put hb1 (.cells true [.slice a ws.length c] 1);have k1:=ae M b1 (.cells true [.slice a ws.length c] 1);rcases ha with h0|⟨b,o,rfl,ha⟩
 .omega
 have hg0:=ha i hi;rw[a7,gEl hi]at hg0;have hg:=aT hg0 hs1;obtain⟨w,hw⟩:∃ w,w=ws[i]:=⟨_,rfl⟩;rw[<-hw]at hg h;have hwo:=bH hm (gMe hi);rw[<-hw]at hwo;refine sS ?_;generalize M.put b1 (.cells true [.slice (some ⟨b,o,none⟩) ws.length c] 1)=N at *;refine plyS (ai [0,1,2,3,4,6,7,8,9,10,11] (.one 5 1 (ai [12,13] .fin))) ?_;simp(disch:=omega)[ak k1,hg];refine jP w _ _ (by omega) (aZ hwo.2.1) ?_;intro v2 N2 o2;obtain⟨M2,o3,s3⟩:=o2.base hs1;have hs2:=o2.sub;rcases o3 with ⟨_,h0,_⟩|⟨b2,c2,rfl,hb2,hc2,rfl⟩
 .have:=congrArg length h0;rw[az,eH]at this;simp at this
 rw[az,eH]at hc2 ⊢;refine sS ?_;refine⟨hs2,?_⟩;exact ag s3 (h b2 c2 _ hb2 rfl)
theorem ng(v:Value)(ws:List B8)(M:Mem)(R:VP)(hv:Rd M v (strs ws))(hm:aY ws=true)
  (h:∀ v rs N M',cC M rs (xw ws) N->Own N v rs M'->R v M'):ar prog 201 [.agg #[v]] M R:=by
 refine fnS func201 rfl ntmps201 results201 ?_;obtain⟨a,c,rfl,ha⟩:=hv.opened;have h15:=aW hm;rw[ah]at ha hv ⊢;refine sS ?_;intro b1 hb1;have hs1:=(Sub.refl M).put hb1 (.cells true [.slice a ws.length c] 1);have k1:=ae M b1 (.cells true [.slice a ws.length c] 1);rcases ha with h0|⟨b,o,rfl,ha⟩
 .omega
 refine sS ?_;generalize M.put b1 (.cells true [.slice (some ⟨b,o,none⟩) ws.length c] 1)=N1 at *;intro b0 hb0;refine sS ?_;refine lupS (rlA [3,4,5,6] 8 38) (fun x:Nat×List Value×Value=>[(4,.int .i64 x.1),(3,x.2.2)]) (fun x M'=>x.1<=ws.length/\∃ N,cC N1 x.2.1 ((xw ws).take x.1) N/\Own N x.2.2 x.2.1 M') (fun x=>ws.length-x.1) (0,[],.slice (some ⟨b0,0,none⟩) 0 0) ⟨by simp,N1,.nil,Own.new hb0 rfl (lRf 0)⟩ ?_
 rintro⟨i,rs,v3⟩ M' g ⟨hi,N,hr,ho⟩
 simp only at hi hr ho;have hrl:=hr.len;rw[lTa,gf]at hrl;have s1:=hr.sub.trans ho.sub;have k2:=s1 _ _ k1;by_cases hlt:i<ws.length
 .have hg0:=ha i hlt;rw[a7,gEl hlt]at hg0;have hg:=aT hg0 (hs1.trans s1);have hwo:=bH hm (gMe hlt);have hsn:=Nc hlt;obtain⟨w,hw⟩:∃ w,w=ws[i]:=⟨_,rfl⟩;rw[<-hw]at hg hwo hsn;have hL:=y5 (aZ hwo.2.1) hwo.2.2;simp(disch:=omega)[ak k2];intro b5 hb5;have hne:b1≠b5:=by rintro rfl;rw[hb5]at k2;cases k2
  have hneb:b≠b5:=by rintro rfl;unfold Mem.get? at hg;rw[hb5]at hg;cases hg
  refine sS ?_;refine lupS (rlA [6] 19 23) (fun q:Nat=>[(6,.int .i64 q)]) (fun q M1=>q<=w.length/\M1=M'.put b5 (.cells true (ints (jY ws.length (w.take q))) ws.length)) (fun q=>w.length-q) 0 ⟨by omega,by rw[take_zero,O8 _ h15.2,HZ]⟩ ?_
  rintro q M1 g1 ⟨hq,rfl⟩
  have hrw:=wv (m:=ws.length) (by omega) (w.take q);by_cases hql:q<w.length
  .have hx:w[q]?=some w[q]:=gEl hql;have hLq:=hL _ (gMe hql);have hlq:=all_eq_true.1 (aZ hwo.2.1) _ (gMe hql);have hr5:=eE hlq;have hk:((w[q].toNat:Int)-97).toNat=w[q].toNat-97:=by omega
   have hget:=Q7 ws.length (w.take q) (k:=w[q].toNat-97) hLq.2 (by omega);have hset:=Nw ws.length (w.take q) w[q] hlq;rw[<-aw w hql]at hset;have hcl:=Ex (w.take q) (w[q].toNat-97);rw[lTa]at hcl;obtain⟨kk,hkk⟩:∃ kk,kk=w[q].toNat-97:=⟨_,rfl⟩;have hkl:kk<ws.length:=by rw[hkk];exact hLq.2
   rw[<-hkk]at hk hget hset hcl;have hgi:(ints (jY ws.length (w.take q)))[kk]?=some (.int .i64 (cnt (w.take q) kk)):=by rw[cR,hget];rfl
   simp(disch:=omega)[ak k2,hg,hk,hgi,ints_set,hrw];refine rndS (q+1) ⟨by omega,?_⟩;rw[hset]
  .have hq':q=w.length:=by omega
   subst hq';rw[take_length]at hrw ⊢;have hr2:=hr.more (c:=ws.length) ws.length [] (ba ho.sub hb5) (r:=jY ws.length w) (by omega);rw[append_nil,hrw]at hr2;have ho2:=ho.push hb5 (.cells true (ints (jY ws.length w)) ws.length);simp(disch:=omega)[ak k2,hg];intro b3 hb3;refine sS ?_;refine apT ho2 ((Sub.refl _).put hb3 _) ?_;intro v4 M4 N4 o4 s4;refine sS ?_;refine rndM M4 (i+1,_,v4) s4 ⟨by simp only;omega,_,?_,o4⟩;simp only;rw[hsn];exact hr2
 .have hi':i=ws.length:=by omega
  subst hi';rw[take_of_length_le (by rw[gf];omega)]at hr;simp(disch:=omega)[ak k2];obtain⟨N5,M5,r5,o5,s5⟩:=Se hr ho hs1;exact ag s5 (h v3 rs N5 M5 r5 o5)
def og(acc:List Nat)(n:Nat)(row:List Nat):List Nat:=zipWith (fun a t=>a+n*t) acc row
def lI(acc:List Nat)(n:Nat)(row:List Nat)(j:Nat):List Nat:=(og acc n row).take j++acc.drop j
theorem gu{acc row:List Nat}(n:Nat)(h:acc.length=row.length):(og acc n row).length=acc.length:=by simp[og,h]
theorem Ol{acc row:List Nat}{n j:Nat}(h1:j<acc.length)(h2:j<row.length):(og acc n row)[j]?=some (acc[j]+n*row[j]):=by
 unfold og;rw[getElem?_zipWith,gEl h1,gEl h2]
theorem B7(acc:List Nat)(n:Nat)(row:List Nat):lI acc n row 0=acc:=by simp[lI]
theorem wi{acc row:List Nat}{n j:Nat}(h:acc.length=row.length)(hj:j<=acc.length):(lI acc n row j).length=acc.length:=by
 unfold lI;rw[lAp,lTa,gu n h,lDr];omega
theorem HD{acc row:List Nat}{n:Nat}(h:acc.length=row.length):lI acc n row acc.length=og acc n row:=by
 unfold lI;rw[take_of_length_le (by rw[gu n h];exact lRf _),drop_length,append_nil]
theorem ID{acc row:List Nat}{n j:Nat}(h:acc.length=row.length)(hj:j<acc.length):(lI acc n row j)[j]?=some acc[j]:=by
 unfold lI;rw[getElem?_append_right (by rw[lTa];omega),lTa,gu n h,Nat.min_eq_left (by omega),Nat.sub_self,getElem?_drop,Nat.add_zero,gEl hj]
theorem Di{acc row:List Nat}{n j:Nat}(h:acc.length=row.length)(hj:j<acc.length):(lI acc n row j).set j (acc[j]+n*row[j]'(by omega))=lI acc n row (j+1):=by
 unfold lI;have hl:=gu n h;rw[set_append_right _ _ (by rw[lTa];omega),lTa,hl,Nat.min_eq_left (by omega),Nat.sub_self,drop_eq_getElem_cons hj,set_cons_zero,aw (og acc n row) (by omega),append_assoc];have hg:=Ol (n:=n) hj (show j<row.length by omega);rw[gEl (by omega)]at hg;injection hg with hg
 rw[hg];rfl
def xm(m:Nat)(w:B8):List Nat:=(uk w).take m
theorem Ds(m:Nat)(w:B8):ints (jY m w)=aB (xm m w):=by
 unfold jY xm aB;rw[map_take];show ints ((counts w).take m)=(aB (uk w)).take m;rw[<-Hy];unfold ints;rw[map_take]
theorem oR{m:Nat}(h:m<=5)(w:B8):(xm m w).length=m:=by
 unfold xm uk;rw[lTa,length_map,length_range];omega
theorem DR{m:Nat}{w:B8}{x:Nat}(h:x∈xm m w):x<=w.length:=by
 unfold xm uk at h;obtain⟨k,_,rfl⟩:=mem_map.1 (mem_of_mem_take h);exact countP_le_length
def ey(ws:List B8)(v:List Nat):Nat->List Nat
 | 0=>replicate ws.length 0
 | i+1=>og (ey ws v i) (v.getD i 0) (xm ws.length (ws.getD i []))
theorem Iw(ws:List B8)(v:List Nat):ey ws v 0=replicate ws.length 0:=rfl
theorem kG(ws:List B8)(v:List Nat)(i:Nat):ey ws v (i+1)=og (ey ws v i) (v.getD i 0) (xm ws.length (ws.getD i [])):=rfl
theorem ir{ws:List B8}(h:ws.length<=5)(v:List Nat):∀ i,(ey ws v i).length=ws.length
 | 0=>by simp[ey]
 | i+1=>by
  have ih:=ir h v i;rw[kG,gu _ (by rw[ih,oR h]),ih]
def dJ(ws:List B8)(a:Nat):Nat->List Nat
 | 0=>(replicate ws.length 0).set a 1
 | r+1=>ey ws (dJ ws a r) ws.length
theorem C5(ws:List B8)(a:Nat):dJ ws a 0=(replicate ws.length 0).set a 1:=rfl
theorem vj(ws:List B8)(a r:Nat):dJ ws a (r+1)=ey ws (dJ ws a r) ws.length:=rfl
theorem el{ws:List B8}(h:ws.length<=5)(a r:Nat):(dJ ws a r).length=ws.length:=by
 cases r with
 | zero=>simp[dJ]
 | succ r=>exact ir h _ _
theorem Fj{l:List Nat}{n:Nat}(h:∀ x∈l,x<=n):l.sum<=l.length*n:=by
 induction l with
 | nil=>simp
 | cons a l ih=>
  have h1:=h a (mem_cons_self ..);have h2:=ih fun x hx=>h x (mem_cons_of_mem _ hx);rw[sum_cons,lCo,Nat.succ_mul];omega
theorem OO{acc row:List Nat}{n x:Nat}(h:x∈og acc n row):∃ a∈acc,∃ t∈row,x=a+n*t:=by
 unfold og at h;obtain⟨j,hj,rfl⟩:=mem_iff_getElem.1 h;rw[length_zipWith]at hj;refine⟨acc[j],gMe _,row[j],gMe _,?_⟩;simp
theorem pB{ws:List B8}(hw:∀ w∈ws,w.length<=12)(v:List Nat):∀ i,i<=ws.length->i<=v.length->∀ x∈ey ws v i,x<=12*(v.take i).sum
 | 0,_,_,x,hx=>by
  rw[Iw]at hx;have:=eq_of_mem_replicate hx;omega
 | i+1,h1,h2,x,hx=>by
  rw[kG]at hx;obtain⟨a,ha,t,ht,rfl⟩:=OO hx;have h3:=pB hw v i (by omega) (by omega) a ha;have h4:=DR ht;have h5:(ws.getD i []).length<=12:=hw _ (lK (by omega));have e:(v.take (i+1)).sum=(v.take i).sum+v.getD i 0:=by
   rw[aw v (by omega),sum_append,sum_singleton,gDe,gEl (by omega)];rfl
  rw[e];have h6:v.getD i 0*t<=v.getD i 0*12:=Nat.mul_le_mul_left _ (by omega);omega
def okS(ws:List B8)(a r:Nat):Bool:=(range r).all fun i=>decide ((dJ ws a i).sum<=1000000000000000)
def Bx(ws:List B8)(a r:Nat):List Nat:=(range r).map fun i=>(dJ ws a i).sum
theorem nP(ws:List B8)(a r:Nat):okS ws a (r+1)=(okS ws a r&&decide ((dJ ws a r).sum<=1000000000000000)):=by simp[okS,range_succ]
theorem vS(ws:List B8)(a r:Nat):Bx ws a (r+1)=Bx ws a r++[(dJ ws a r).sum]:=by simp[Bx,range_succ]
theorem oJ(ws:List B8)(a r:Nat):(Bx ws a r).length=r:=by simp[Bx]
theorem PL{ws:List B8}{a r k:Nat}(h:r<k)(hb:¬(dJ ws a r).sum<=1000000000000000):okS ws a k=false:=by
 cases hk:okS ws a k with
 | false=>rfl
 | true=>
  unfold okS at hk;have:=all_eq_true.1 hk r (mem_range.2 h);rw[dTe]at this;exact absurd this hb
theorem Lp{ws:List B8}(hw:∀ w∈ws,w.length<=12)(h5:ws.length<=5){a r:Nat}(h:okS ws a r=true):∀ x∈dJ ws a r,x<=12000000000000000:=by
 intro x hx;cases r with
 | zero=>
  rw[C5]at hx;rcases mem_or_eq_of_mem_set hx with hx|rfl
  .have:=eq_of_mem_replicate hx;omega
  .omega
 | succ r=>
  rw[nP,bAn,dTe]at h;rw[vj]at hx;have:=pB hw (dJ ws a r) ws.length (lRf _) (by rw[el h5];exact lRf _) x hx;rw[take_of_length_le (by rw[el h5];exact lRf _)]at this;omega
theorem Nt{ws:List B8}{a:Nat}(h:a<ws.length)(h5:ws.length<=5):(dJ ws a 0).sum=1:=by
 rw[C5];have h1:ws.length=1\/ws.length=2\/ws.length=3\/ws.length=4\/ws.length=5:=by omega
 have h2:a=0\/a=1\/a=2\/a=3\/a=4:=by omega
 rcases h1 with h1|h1|h1|h1|h1<;>rw[h1]at h ⊢<;>rcases h2 with rfl|rfl|rfl|rfl|rfl<;>first|rfl|omega
def ga(ws:List B8)(a k t:Int):Int:=if aY ws then (if (0<=a/\a<=ws.length-1)/\(0<=k/\k<=t) then 0 else 2) else 1
def uG(ws:List B8)(a k:Int):Int:=if ga ws a k 20=0 then (if okS ws a.toNat (k.toNat+1) then 0 else 3) else ga ws a k 20
def jJ(ws:List B8)(a k:Int):List Nat:=if ga ws a k 20=0 then (if okS ws a.toNat (k.toNat+1) then Bx ws a.toNat (k.toNat+1) else []) else []
theorem gN{ws:List B8}{a k t:Int}(h:ga ws a k t=0):aY ws=true/\0<=a/\a<ws.length/\0<=k/\k<=t:=by
 unfold ga at h;split at h
 .rename_i h1;split at h
  .rename_i h2;exact⟨h1,by omega⟩
  .cases h
 .cases h
theorem pG(l:List Nat)(i n:Nat):(aB l).set i (.int .i64 n)=aB (l.set i n):=by simp[aB,map_set]
theorem pI(n m:Nat):replicate n (Value.int .i64 (m:Nat))=aB (replicate n m):=by simp[aB]
theorem eG(v:Value)(ws:List B8)(M:Mem)(R:VP)(hv:Rd M v (strs ws))(hn:ws.length<=1099511627776)(h:R (.int .i64 ws.length) M):ar prog 88 [.agg #[v]] M R:=
 jg v (strs ws) M R hv (by rw[ah];exact hn) (by rw[ah];exact h)
theorem rh(ws:List B8)(x:Value)(a k:Int)(b3 b4 b5:Nat)(K:Mem)(R:VP)(hv:Rd K x (strs ws))(hn:ws.length<=1099511627776)(k3:K b3=some (.cells true [x] 1))(k4:K b4=some (.cells true [.int .i64 a] 1))(k5:K b5=some (.cells true [.int .i64 k] 1))
  (h:R (.bool (decide (0<=a/\a<=ws.length-1)&&decide (0<=k/\k<=20))) K):ar prog 261 [.pointer (some ⟨b4,0,none⟩),.pointer (some ⟨b3,0,none⟩),.pointer (some ⟨b5,0,none⟩)] K R:=by
 refine fnT func261 rfl ntmps261 results261 ?_;refine drwS ?_;simp(disch:=omega)[ak k4,aq k3];refine aX (a:=[]) (c:=[]) (eG x ws _ _ hv hn ⟨rfl,rfl⟩) ?_;refine sS ?_;refine aX (a:=[]) (c:=[]) (bJ _ _ _ _ _ ⟨rfl,rfl⟩) ?_;cases h1:decide (0<=a/\a<=(ws.length:Int)-1)
 .rw[h1,Bool.false_and]at h;refine sS ?_;exact ad h
 .rw[h1,Bool.true_and]at h;simp(disch:=omega)[ak k5];refine aX (a:=[]) (c:=[]) (bJ _ _ _ _ _ ⟨rfl,rfl⟩) ?_;refine sS ?_;exact ad (by simpa using h)
theorem FB(ws:List B8)(a k t:Int):(if aY ws then ia [] ([].all (fun u=>iA u ws.length)&&(decide (0<=a/\a<=(ws.length:Int)-1)&&decide (0<=k/\k<=t))) else 1)=ga ws a k t:=by
 unfold ga ia;cases aY ws
 .rfl
 .by_cases h1:0<=a/\a<=(ws.length:Int)-1
  .by_cases h2:0<=k/\k<=t
   .simp[h1,h2]
   .simp only[dTr h1,dFa h2];simp[h1,h2]
  .simp only[dFa h1];simp[h1]
theorem tC(v:Value)(ws:List B8)(a k:Int)(M:Mem)(R:VP)(hv:Rd M v (strs ws))(hf:cS ws)(hn:ws.length<=1099511627776)(h:Lst (uG ws a k) (aB (jJ ws a k)) M R):ar prog 169 [.agg #[v],.int .i64 a,.int .i64 k] M R:=by
 refine fnS func169 rfl ntmps169 results169 ?_;obtain⟨aa,c,rfl,ha⟩:=hv.opened;rw[ah]at ha hv ⊢;refine sS ?_;intro b3 hb3;refine sS ?_;intro b4 hb4;refine sS ?_;intro b5 hb5;have n4:=hb4;have n5:=hb5;rw[aG]at n4;rw[aG,aG]at n5;have hs5:Sub M (((M.put b3 (.cells true [.slice aa ws.length c] 1)).put b4 (.cells true [.int .i64 a] 1)).put b5 (.cells true [.int .i64 k] 1)):=(((Sub.refl M).put hb3 _).putN hb4 _).putN hb5 _;have k3:(((M.put b3 (.cells true [.slice aa ws.length c] 1)).put b4 (.cells true [.int .i64 a] 1)).put b5 (.cells true [.int .i64 k] 1)) b3=some (.cells true [.slice aa ws.length c] 1):=by rw[al _ _ (Ne.symm n5.2.1),al _ _ (Ne.symm n4.1)];exact ae _ _ _
 have k4:(((M.put b3 (.cells true [.slice aa ws.length c] 1)).put b4 (.cells true [.int .i64 a] 1)).put b5 (.cells true [.int .i64 k] 1)) b4=some (.cells true [.int .i64 a] 1):=by rw[al _ _ (Ne.symm n5.1)];exact ae _ _ _
 have k5:(((M.put b3 (.cells true [.slice aa ws.length c] 1)).put b4 (.cells true [.int .i64 a] 1)).put b5 (.cells true [.int .i64 k] 1)) b5=some (.cells true [.int .i64 k] 1):=ae _ _ _;refine sS ?_;generalize (((M.put b3 (.cells true [.slice aa ws.length c] 1)).put b4 (.cells true [.int .i64 a] 1)).put b5 (.cells true [.int .i64 k] 1))=N1 at *;have hv1:=hv.sub hs5;refine dH _ _ _ ws [] (decide (0<=a/\a<=(ws.length:Int)-1)&&decide (0<=k/\k<=20)) (fun M'=>Sub N1 M') _ _ hv1 hf hn (I0 N1) PR (by simp) rfl (Sub.refl N1) (fun M' b B q hb=>q.putN hb B) ?_ ?_
 .intro K R' q hR';refine sS ?_;exact rh ws _ a k b3 b4 b5 K R' (hv1.sub q) hn (q _ _ k3) (q _ _ k4) (q _ _ k5) hR'
 .rw[FB];unfold uG jJ at h;by_cases h0:ga ws a k 20=0
  .obtain⟨hm,ha0,ha1,hk0,hk1⟩:=gN h0;rw[if_pos h0,if_pos h0]at h;rw[h0];have h15:=aW hm;have hw12:∀ w∈ws,w.length<=12:=fun w hw=>(bH hm hw).1;obtain⟨a,rfl⟩:∃ n:Nat,a=n:=⟨a.toNat,by omega⟩;obtain⟨k,rfl⟩:∃ n:Nat,k=n:=⟨k.toNat,by omega⟩;rw[iNa,iNa]at h;have hal:a<ws.length:=by omega
   simp(disch:=omega)[aq k3];refine eG _ ws _ _ hv1 hn ?_;refine sS ?_;intro b9 hb9;have s9:=(Sub.refl N1).put hb9 (.cells true (aB (dJ ws a 0)) ws.length);have e0:(replicate ws.length (Value.int .i64 0)).set a (.int .i64 1)=aB (dJ ws a 0):=by
    have:=pI ws.length 0;have h2:=pG (replicate ws.length 0) a 1;rw[<-this]at h2;exact h2
   have hne4:b4≠b9:=by rintro rfl;rw[k4]at hb9;cases hb9
   have hne5:b5≠b9:=by rintro rfl;rw[k5]at hb9;cases hb9
   simp(disch:=omega)[ak k4,ak k5,e0];have r9:Rd (N1.put b9 (.cells true (aB (dJ ws a 0)) ws.length)) (.slice (some ⟨b9,0,none⟩) ws.length ws.length) (aB (dJ ws a 0)):=Rd.new (by rw[aA,el h15.2]) (lRf _);generalize N1.put b9 (.cells true (aB (dJ ws a 0)) ws.length)=N2 at *;refine lupS (rlA [6,7,9,10,11,12,13,14,15,16] 31 43) (fun x:Nat×Value×Value=>[(31,.int .i64 x.1),(9,x.2.1),(10,x.2.2)]) (fun x M'=>x.1<=k+1/\okS ws a x.1=true/\∃ A,Sub N1 A/\Rd A x.2.1 (aB (dJ ws a x.1))/\Own A x.2.2 (aB (Bx ws a x.1)) M') (fun x=>k+1-x.1) (0,.slice (some ⟨b9,0,none⟩) ws.length ws.length,.slice none 0 0) ⟨by simp,rfl,N2,s9,r9,Own.nil N2⟩ ?_
   rintro⟨r,vm,vo⟩ M' g ⟨hr,hok,A,sA,rA,oA⟩
   simp only at hr hok rA oA;have sM:=sA.trans oA.sub;have q3:=sM _ _ k3;by_cases hlt:r<k+1
   .have hvl:=el h15.2 a r;have hvle:=Lp hw12 h15.2 hok;have hsum:=Fj hvle;have hvs:dJ ws a (r+1)=ey ws (dJ ws a r) ws.length:=vj ws a r;have hoks:=nP ws a r;have houts:=vS ws a r;have hno:=PL (ws:=ws) (a:=a) hlt;have hol:=oJ ws a r;have hnle:=pB hw12 (dJ ws a r);have hnl:=ir h15.2 (dJ ws a r);generalize dJ ws a r=vec at *;have hs5':vec.length*12000000000000000<=5*12000000000000000:=Nat.mul_le_mul_right _ (by omega);have hstep:∀ i,(vec.take i).sum<=vec.sum:=fun i=>wD vec i;obtain⟨a9,c9,rfl,ha9⟩:=rA.opened;rw[aA,hvl]at ha9;rw[aA,hvl]at rA ⊢;rcases ha9 with hz|⟨b0,o0,rfl,ha9⟩
    .omega
    simp(disch:=omega)[aq q3];refine eG _ ws _ _ (hv1.sub sM) hn ?_;refine sS ?_;intro b12 hb12;refine sS ?_;have hnr:replicate ws.length (Value.int .i64 0)=aB (ey ws vec 0):=pI ws.length 0;refine lupS (rlA [11,13,14,15,16] 38 28) (fun i:Nat=>[(38,.int .i64 i),(11,.int .i64 (vec.take i).sum)]) (fun i M1=>i<=ws.length/\M1=M'.put b12 (.cells true (aB (ey ws vec i)) ws.length)) (fun i=>ws.length-i) 0 ⟨by omega,by rw[hnr]⟩ ?_
    rintro i M1 g1 ⟨hi,rfl⟩
    have hni:=hnl i;have s12:Sub M' (M'.put b12 (.cells true (aB (ey ws vec i)) ws.length)):=(Sub.refl M').put hb12 _;have q3':=s12 _ _ q3;by_cases hil:i<ws.length
    .have hvi:i<vec.length:=by omega
     have hgi:=ha9 i hil;rw[bV,gEl hvi]at hgi;have hgi':=aT (aT hgi oA.sub) s12;have hsn:(vec.take (i+1)).sum=(vec.take i).sum+vec[i]:=by rw[aw vec hvi,sum_append,sum_singleton]
     have hsn2:=hstep (i+1);have hnx:=kG ws vec i;have hgd:vec.getD i 0=vec[i]:=by rw[gDe,gEl hvi];rfl
     have hgw:ws.getD i []=ws[i]:=by rw[gDe,gEl hil];rfl
     rw[hgd,hgw]at hnx;have hrl:=oR (m:=ws.length) h15.2 ws[i];have hrle:∀ t∈xm ws.length ws[i],t<=12:=fun t ht=>Nat.le_trans (DR ht) (hw12 _ (gMe hil));have hacc:=hnle i (by omega) (by omega);have hrv:=Ds ws.length ws[i];have hcs:=E6 ws.length ws[i];obtain⟨n,hnn⟩:∃ n,n=vec[i]:=⟨_,rfl⟩;have hn12:n<=12000000000000000:=by rw[hnn];exact hvle _ (gMe hvi)
     rw[<-hnn]at hsn hnx hgi';simp(disch:=omega)[aq q3',hgi'];refine PF _ ws i _ _ ((hv1.sub sM).sub s12) hm hil ?_
     rintro br cr M2 hbr rfl
     have hbr':=hbr;rw[aG]at hbr';rw[hcs,hrv];obtain⟨row,hrow⟩:∃ row,row=xm ws.length ws[i]:=⟨_,rfl⟩;rw[<-hrow]at hnx hrl hrle ⊢;generalize ints (drop ws.length (counts ws[i]))=rest at *;generalize ey ws vec i=acc at *;have har:acc.length=row.length:=by omega
     refine sS ?_;refine lupS (rlA [15,16] 50 15) (fun j:Nat=>[(50,.int .i64 j)]) (fun j M3=>j<=ws.length/\M3=(M'.put b12 (.cells true (aB (lI acc n row j)) ws.length)).put br (.cells true (aB row++rest) cr)) (fun j=>ws.length-j) 0 ⟨by omega,by rw[B7]⟩ ?_
     rintro j M3 g3 ⟨hj,rfl⟩
     have hal':=wi (n:=n) (j:=j) har (by omega);by_cases hjl:j<ws.length
     .have hja:j<acc.length:=by omega
      have hjr:j<row.length:=by omega
      have hg1:(aB row++rest)[j]?=some (.int .i64 (row[j]:Nat)):=by
       rw[getElem?_append_left (by rw[aA];exact hjr),bV,gEl hjr];rfl
      have hg2:(aB (lI acc n row j))[j]?=some (.int .i64 (acc[j]:Nat)):=by rw[bV,ID har hja];rfl
      have hset:=Di (n:=n) har hja;have hp12:n*row[j]<=12000000000000000*12:=Nat.mul_le_mul hn12 (hrle _ (gMe hjr));have hacj:=hacc _ (gMe hja);have hst:=hstep i;obtain⟨p,hp⟩:∃ p,p=n*row[j]:=⟨_,rfl⟩;have ep:(n:Int)*(row[j]:Nat)=(p:Int):=by rw[hp];push_cast;rfl
      rw[<-hp]at hset hp12;have hset2:(aB (lI acc n row j)).set j (.int .i64 ((acc[j]:Nat)+(p:Int)))=aB (lI acc n row (j+1)):=by
       rw[<-hset,<-pG]
       push_cast
       rfl
      simp(disch:=omega)[hg1,hg2,ep,hset2];refine⟨by rw[aA];omega,?_⟩;refine sS ?_;exact rndS (j+1) ⟨by omega,rfl⟩
     .have hj':j=acc.length:=by omega
      subst hj';rw[HD har,<-hnx];refine sS ?_;refine rndB (M'.put b12 (.cells true (aB (ey ws vec (i+1))) ws.length)) (i+1) ((Sub.refl _).put (by rw[aG];exact hbr') _) (by simp(disch:=omega)[hsn]) ⟨by omega,rfl⟩
    .have hi':i=ws.length:=by omega
     subst hi';rw[take_of_length_le (by omega)];have hob:okS ws a (r+1)=true\/¬ vec.sum<=1000000000000000:=by
      by_cases hb:vec.sum<=1000000000000000
      .left;rw[hoks,hok,dTr hb];rfl
      .exact .inr hb
     by_cases hb:vec.sum<=1000000000000000
     .have hb':¬(1000000000000000:Int)<(vec.sum:Nat):=by omega
      have hok1:=hob.resolve_right (fun hh=>hh hb);rw[<-hvs];have o12:=oA.push hb12 (.cells true (aB (dJ ws a (r+1))) ws.length);have hl1:=el h15.2 a (r+1);have r12:Rd (A.put b12 (.cells true (aB (dJ ws a (r+1))) ws.length)) (.slice (some ⟨b12,0,none⟩) ws.length ws.length) (aB (dJ ws a (r+1))):=Rd.new (by rw[aA,hl1]) (lRf _);have sA2:Sub N1 (A.put b12 (.cells true (aB (dJ ws a (r+1))) ws.length)):=sA.putN (ba oA.sub hb12) _;simp(disch:=omega)[hb'];intro b70 hb70;refine sS ?_;refine apT o12 ((Sub.refl _).put hb70 _) ?_ (hbd:=by simp(disch:=omega);rw[aA,hol];omega);intro v4 M4 N4 o4 s4;refine sS ?_;refine rndM M4 (r+1,.slice (some ⟨b12,0,none⟩) ws.length ws.length,v4) s4 ⟨by simp only;omega,hok1,_,sA2,r12,?_⟩;simp only;rw[houts,<-eZ];exact o4
     .have hb':(1000000000000000:Int)<(vec.sum:Nat):=by omega
      rw[hno hb]at h;simp(disch:=omega)[hb'];exact ag ((hs5.trans sM).trans ((Sub.refl M').put hb12 _)) (h _ _ (Own.nil M))
   .have hr':r=k+1:=by omega
    subst hr';rw[hok,if_pos rfl,if_pos rfl]at h;refine sS ?_;obtain⟨M2,o2,s2⟩:=oA.base (hs5.trans sA);exact ag s2 (h vo M2 o2)
  .rw[if_neg h0,if_neg h0]at h;have hb:(ga ws a k 20==0)=false:=bNe.2 h0;generalize ga ws a k 20=code at *;simp(disch:=omega)[hb];exact ag hs5 (h _ _ (Own.nil M))
def oF(ws:List B8)(a:Int):Int:=if aY ws then (if 0<=a/\a<=(ws.length:Int)-1 then 0 else 2) else 1
theorem Iz(ws:List B8)(a k t:Int):ga ws a k t=if oF ws a=0 then (if 0<=k/\k<=t then 0 else 2) else oF ws a:=by
 unfold ga oF;cases aY ws
 .rfl
 .by_cases h1:0<=a/\a<=(ws.length:Int)-1
  .by_cases h2:0<=k/\k<=t<;>simp[h1,h2]
  .simp[h1]
theorem nM(v:Value)(ws:List B8)(a:Int)(M:Mem)(R:VP)(hv:Rd M v (strs ws))(hf:cS ws)(hn:ws.length<=1099511627776)(h:R (.int .i64 (oF ws a)) M):ar prog 197 [.agg #[v],.int .i64 a] M R:=by
 refine fnS func197 rfl ntmps197 results197 ?_;obtain⟨aa,c,rfl,ha⟩:=hv.opened;rw[ah]at hv ⊢;refine sS ?_;intro b1 hb1;have hs1:=(Sub.refl M).put hb1 (.cells true [.slice aa ws.length c] 1);have hv1:=hv.put hb1 (.cells true [.slice aa ws.length c] 1);have k1:=ae M b1 (.cells true [.slice aa ws.length c] 1);refine sS ?_;generalize M.put b1 (.cells true [.slice aa ws.length c] 1)=N1 at *;refine fK _ ws _ _ hv1 hf hn ?_;unfold oF at h;cases hm:aY ws
 .rw[hm]at h;refine sS ?_;exact ag hs1 h
 .rw[hm,if_pos rfl]at h;simp(disch:=omega)[ak k1];refine ck _ _ _ _ _ ?_;by_cases h1:0<=a/\a<=(ws.length:Int)-1
  .rw[if_pos h1]at h;rw[dTr h1];refine sS ?_;exact ag hs1 h
  .rw[if_neg h1]at h;rw[dFa h1];refine sS ?_;exact ag hs1 h
theorem tS(v:Value)(ws:List B8)(a k:Int)(M:Mem)(R:VP)(hv:Rd M v (strs ws))(hf:cS ws)(hn:ws.length<=1099511627776)(h:Lst (uG ws a k) (aB (jJ ws a k)) M R):ar prog 126 [.agg #[v],.int .i64 a,.int .i64 k] M R:=by
 refine fnS func126 rfl ntmps126 results126 ?_;obtain⟨aa,c,rfl,ha⟩:=hv.opened;rw[ah]at ha hv ⊢;refine sS ?_;intro b3 hb3;have hs3:=(Sub.refl M).put hb3 (.cells true [.slice aa ws.length c] 1);have hv3:=hv.put hb3 (.cells true [.slice aa ws.length c] 1);have k3:=ae M b3 (.cells true [.slice aa ws.length c] 1);refine sS ?_;generalize M.put b3 (.cells true [.slice aa ws.length c] 1)=N1 at *;refine nM _ ws a _ _ hv3 hf hn ?_;have hin:=Iz ws a k 20;unfold uG jJ at h;by_cases ht:oF ws a=0
 .rw[if_pos ht]at hin;rw[ht];refine sS ?_;refine ck _ _ _ _ _ ?_;by_cases hk:0<=k/\k<=20
  .rw[if_pos hk]at hin;rw[dTr hk];obtain⟨hm,ha0,ha1,hk0,hk1⟩:=gN hin;rw[if_pos hin,if_pos hin]at h;have h15:=aW hm;have hw12:∀ w∈ws,w.length<=12:=fun w hw=>(bH hm hw).1;obtain⟨a,rfl⟩:∃ n:Nat,a=n:=⟨a.toNat,by omega⟩;obtain⟨k,rfl⟩:∃ n:Nat,k=n:=⟨k.toNat,by omega⟩;rw[iNa,iNa]at h;have hal:a<ws.length:=by omega
   have e0:(replicate ws.length (Value.int .i64 0)).set a (.int .i64 1)=aB (dJ ws a 0):=by
    have:=pI ws.length 0;have h2:=pG (replicate ws.length 0) a 1;rw[<-this]at h2;exact h2
   refine sS ?_;refine plyS (ai [0,2,3,4] (.alt 1 1 (.light 6 (.one 5 1 (.light 7 .fin))) (.one 5 1 (.one 1 1 (ai [6,7] .fin))))) ?_;simp(disch:=omega)[aq k3,ak k3,cd];refine⟨?c1,?c2⟩
   case' c1=>
    refine ng _ ws _ _ hv3 hm ?_;intro vm rs N2 M2 r2 o2;have hs2:=r2.sub.trans o2.sub;refine sS ?_;refine⟨hs2,?_⟩;intro b10 hb10;have hmat:∀ X,Nu ((M2.put b10 (.cells true (replicate ws.length (Value.int .i64 0)) ws.length)).put b10 X) vm (xw ws):=fun X=>by
     rw[aN];exact(LO r2 o2).sub ((Sub.refl M2).put hb10 X)
    have hsub:∀ X,Sub N1 ((M2.put b10 (.cells true (replicate ws.length (Value.int .i64 0)) ws.length)).put b10 X):=fun X=>by
     rw[aN];exact hs2.putN hb10 X
    have hK:=ae M2 b10 (.cells true (replicate ws.length (Value.int .i64 0)) ws.length);have hkk:=(Sub.refl M2).put hb10 (.cells true (replicate ws.length (Value.int .i64 0)) ws.length);clear hb10;simp only[length_replicate];generalize M2.put b10 (.cells true (replicate ws.length (Value.int .i64 0)) ws.length)=K at *;refine sS ?_;refine⟨hkk,?_⟩;clear r2 o2 hs2 hkk
   case' c2=>
    intro b10 hb10;have hs4:=(Sub.refl N1).put hb10 (.cells true (replicate ws.length (Value.int .i64 0)) ws.length);refine sS ?_;refine⟨hs4,?_⟩;refine ng _ ws _ _ (hv3.sub hs4) hm ?_;intro vm rs N2 K r2 o2;have hs2:=r2.sub.trans o2.sub;have hmat:∀ X,Nu (K.put b10 X) vm (xw ws):=fun X=>LO (r2.other (ae _ _ _) X) (o2.other (r2.sub _ _ (ae _ _ _)) X);have hsub:∀ X,Sub N1 (K.put b10 X):=fun X=>by
     have s1:=(r2.other (ae _ _ _) X).sub.trans (o2.other (r2.sub _ _ (ae _ _ _)) X).sub;rw[aN]at s1;exact((Sub.refl N1).put hb10 X).trans s1
    have hK:K b10=some (.cells true (replicate ws.length (Value.int .i64 0)) ws.length):=hs2 _ _ (ae _ _ _);refine sS ?_;refine⟨hs2,?_⟩;clear r2 o2 hs2 hs4 hb10
   all_goals
    have hne3:b3≠b10:=by
     rintro rfl
     have:=hsub (.cells true [] 0) _ _ k3;rw[ae]at this;cases this
    simp(disch:=omega)[hK,e0,aj];have d1:=hmat (.cells true (aB (dJ ws a 0)) ws.length);have s1:=hsub (.cells true (aB (dJ ws a 0)) ws.length);have r1:Rd (K.put b10 (.cells true (aB (dJ ws a 0)) ws.length)) (.slice (some ⟨b10,0,none⟩) ws.length ws.length) (aB (dJ ws a 0)):=Rd.new (by rw[aA,el h15.2]) (lRf _);generalize K.put b10 (.cells true (aB (dJ ws a 0)) ws.length)=N3 at *;clear hmat hsub hK hne3;obtain⟨rs,hrs,hrl,hrow⟩:=d1;rw[gf]at hrl;obtain⟨am,cm,rfl,ham⟩:=hrs.opened;rw[hrl]at ham;rcases ham with hz|⟨bm,om,rfl,ham⟩
    .omega
    rw[hrl];intro b11 hb11;refine sS ?_;have hsum0:=Nt hal h15.2;have hok1:okS ws a 1=true:=by rw[show (1:Nat)=0+1 from rfl,nP,hsum0];rfl
    have hout1:Bx ws a 1=[1]:=by rw[show (1:Nat)=0+1 from rfl,vS,hsum0];rfl
    refine lupS (rlA [2,6,7,10,11,12,13,14,15,16] 40 58) (fun x:Nat×Value×Value=>[(2,.int .i64 ((k-x.1:Nat):Int)),(10,x.2.1),(11,x.2.2)]) (fun x M'=>x.1<=k/\okS ws a (x.1+1)=true/\∃ A,Sub N3 A/\Rd A x.2.1 (aB (dJ ws a x.1))/\Own A x.2.2 (aB (Bx ws a (x.1+1))) M') (fun x=>k-x.1) (0,.slice (some ⟨b10,0,none⟩) ws.length ws.length,.slice (some ⟨b11,0,none⟩) 1 1) ⟨by simp,hok1,N3,Sub.refl N3,r1,by rw[hout1];exact Own.new (n:=1) (c:=1) (xs:=aB [1]) hb11 rfl (lRf 1)⟩ ?_
    rintro⟨r,vn,vo⟩ M' g ⟨hr,hok,A,sA,rA,oA⟩
    simp only at hr hok rA oA;obtain⟨t,hteq⟩:∃ t,t=k-r:=⟨_,rfl⟩;rw[<-hteq];have sM:=sA.trans oA.sub;by_cases hlt:r<k
    .have ht0:0<t:=by omega
     have hok0:okS ws a r=true:=by rw[nP,bAn]at hok;exact hok.1
     have hvl:=el h15.2 a r;have hvle:=Lp hw12 h15.2 hok0;have hsum:=Fj hvle;have hvs:dJ ws a (r+1)=ey ws (dJ ws a r) ws.length:=vj ws a r;have hoks:=nP ws a (r+1);have houts:=vS ws a (r+1);have hno:=PL (ws:=ws) (a:=a) (r:=r+1) (k:=k+1) (by omega);have hol:=oJ ws a (r+1);have hnle:=pB hw12 (dJ ws a r);have hnl:=ir h15.2 (dJ ws a r);generalize dJ ws a r=vec at *;have hs5':vec.length*12000000000000000<=5*12000000000000000:=Nat.mul_le_mul_right _ (by omega);have hstep:∀ i,(vec.take i).sum<=vec.sum:=fun i=>wD vec i;obtain⟨a9,c9,rfl,ha9⟩:=rA.opened;rw[aA,hvl]at ha9;rw[aA,hvl]at rA ⊢;rcases ha9 with hz|⟨b0,o0,rfl,ha9⟩
     .omega
     refine sS ?_;intro b12 hb12;refine sS ?_;have hnr:replicate ws.length (Value.int .i64 0)=aB (ey ws vec 0):=pI ws.length 0;refine lupS (rlA [14,15] 47 32) (fun i:Nat=>[(14,.int .i64 i)]) (fun i M1=>i<=ws.length/\M1=M'.put b12 (.cells true (aB (ey ws vec i)) ws.length)) (fun i=>ws.length-i) 0 ⟨by omega,by rw[hnr]⟩ ?_
     rintro i M1 g1 ⟨hi,rfl⟩
     have hni:=hnl i;by_cases hil:i<ws.length
     .have hvi:i<vec.length:=by omega
      have hgi:=ha9 i hil;rw[bV,gEl hvi]at hgi;have hgi0:=aT hgi oA.sub;have hnx:=kG ws vec i;have hgd:vec.getD i 0=vec[i]:=by rw[gDe,gEl hvi];rfl
      have hgw:ws.getD i []=ws[i]:=by rw[gDe,gEl hil];rfl
      rw[hgd,hgw]at hnx;have hrl2:=oR (m:=ws.length) h15.2 ws[i];have hrle:∀ t∈xm ws.length ws[i],t<=12:=fun t ht=>Nat.le_trans (DR ht) (hw12 _ (gMe hil));have hacc:=hnle i (by omega) (by omega);have hrv:=Ds ws.length ws[i];obtain⟨n,hnn⟩:∃ n,n=vec[i]:=⟨_,rfl⟩;have hn12:n<=12000000000000000:=by rw[hnn];exact hvle _ (gMe hvi)
      have hmi:(xw ws)[i]?=some (jY ws.length ws[i]):=by rw[gEl (by rw[gf];exact hil),HL hil]
      obtain⟨x,hx,hxr⟩:=hrow i _ hmi;have hxl:(ints (jY ws.length ws[i])).length=ws.length:=by rw[az,wv h15.2]
      obtain⟨ax,cx,rfl,hax⟩:=hxr.opened;rw[hxl]at hax hx;rcases hax with hz|⟨bx,ox,rfl,hax⟩
      .omega
      have hgm:=ham i hil;rw[hx]at hgm;have hgm0:=aT hgm sM;rw[hrv]at hax;rw[<-hnn]at hnx hgi0;obtain⟨row,hrw⟩:∃ row,row=xm ws.length ws[i]:=⟨_,rfl⟩;rw[<-hrw]at hnx hrl2 hrle hax;generalize ey ws vec i=acc at *;have har:acc.length=row.length:=by omega
      refine sS ?_;refine lupS (rlA [15] 53 26) (fun j:Nat=>[(15,.int .i64 j)]) (fun j M3=>j<=ws.length/\M3=M'.put b12 (.cells true (aB (lI acc n row j)) ws.length)) (fun j=>ws.length-j) 0 ⟨by omega,by rw[B7]⟩ ?_
      rintro j M3 g3 ⟨hj,rfl⟩
      have hal':=wi (n:=n) (j:=j) har (by omega);by_cases hjl:j<ws.length
      .have hja:j<acc.length:=by omega
       have hjr:j<row.length:=by omega
       have s12:Sub M' (M'.put b12 (.cells true (aB (lI acc n row j)) ws.length)):=(Sub.refl M').put hb12 _;have hgx:=hax j hjl;rw[bV,gEl hjr]at hgx;have hgx':=aT (aT hgx sM) s12;have hgm':=aT hgm0 s12;have hgi':=aT hgi0 s12;have hg2:(aB (lI acc n row j))[j]?=some (.int .i64 (acc[j]:Nat)):=by rw[bV,ID har hja];rfl
       have hset:=Di (n:=n) har hja;have hp12:n*row[j]<=12000000000000000*12:=Nat.mul_le_mul hn12 (hrle _ (gMe hjr));have hacj:=hacc _ (gMe hja);have hst:=hstep i;obtain⟨p,hp⟩:∃ p,p=n*row[j]:=⟨_,rfl⟩;have ep:(n:Int)*(row[j]:Nat)=(p:Int):=by rw[hp];push_cast;rfl
       rw[<-hp]at hset hp12;have hset2:(aB (lI acc n row j)).set j (.int .i64 ((acc[j]:Nat)+(p:Int)))=aB (lI acc n row (j+1)):=by
        rw[<-hset,<-pG]
        push_cast
        rfl
       refine sS ?_;refine plyS (ai [0,1,2,3,4,5,6,7,8,9,10,11,12,13,14,15,16,17,18,19] (.one 20 2 .fin)) ?_;simp(disch:=omega)[hg2,hgi',hgm',hgx',ep,hset2];refine⟨by rw[aA];omega,?_⟩;refine sS ?_;exact rndS (j+1) ⟨by omega,rfl⟩
      .have hj':j=acc.length:=by omega
       subst hj';rw[HD har,<-hnx];refine sS ?_;exact rndS (i+1) ⟨by omega,rfl⟩
     .have hi':i=ws.length:=by omega
      subst hi';rw[<-hvs];have hnv:∀ x∈dJ ws a (r+1),x<=720000000000000000:=fun x hx=>by
       rw[hvs]at hx;have:=hnle ws.length (lRf _) (by omega) x hx;rw[take_of_length_le (by omega)]at this;omega
      have hl1:=el h15.2 a (r+1);have hns:=Fj hnv;obtain⟨nx,hnx'⟩:∃ nx,nx=dJ ws a (r+1):=⟨_,rfl⟩;rw[<-hnx']at hvs hoks houts hno hnv hl1 hns ⊢;have hns':nx.length*720000000000000000<=5*720000000000000000:=Nat.mul_le_mul_right _ (by omega);refine sS ?_;refine lupS (rlA [13,16] 79 12) (fun j:Nat=>[(16,.int .i64 j),(13,.int .i64 (nx.take j).sum)]) (fun j M3=>j<=ws.length/\M3=M'.put b12 (.cells true (aB nx) ws.length)) (fun j=>ws.length-j) 0 ⟨by omega,rfl⟩ ?_
      rintro j M3 g3 ⟨hj,rfl⟩
      by_cases hjl:j<ws.length
      .have hjn:j<nx.length:=by omega
       have hg2:(aB nx)[j]?=some (.int .i64 (nx[j]:Nat)):=by rw[bV,gEl hjn];rfl
       have hsn:(nx.take (j+1)).sum=(nx.take j).sum+nx[j]:=by rw[aw nx hjn,sum_append,sum_singleton]
       have hsl:=Hw nx j hjn;simp(disch:=omega)[hg2];exact rndA (j+1) (by simp(disch:=omega)[hsn]) ⟨by omega,rfl⟩
      .have hj':j=ws.length:=by omega
       subst hj';rw[take_of_length_le (by omega)];by_cases hb:nx.sum<=1000000000000000
       .have hb':¬(1000000000000000:Int)<(nx.sum:Nat):=by omega
        have o12:=oA.push hb12 (.cells true (aB nx) ws.length);have r12:Rd (A.put b12 (.cells true (aB nx) ws.length)) (.slice (some ⟨b12,0,none⟩) ws.length ws.length) (aB nx):=Rd.new (by rw[aA,hl1]) (lRf _);have sA2:Sub N3 (A.put b12 (.cells true (aB nx) ws.length)):=sA.putN (ba oA.sub hb12) _;simp(disch:=omega)[hb'];intro b70 hb70;refine sS ?_;refine apT o12 ((Sub.refl _).put hb70 _) ?_ (hbd:=by simp(disch:=omega);rw[aA,hol];omega);intro v4 M4 N4 o4 s4;refine sS ?_;refine rndB M4 (r+1,.slice (some ⟨b12,0,none⟩) ws.length ws.length,v4) s4 (by simp(disch:=omega);omega) ⟨by simp only;omega,by rw[hoks,hok,dTr hb];rfl,_,sA2,?_,?_⟩
        .simp only;rw[<-hnx'];exact r12
        .simp only;rw[houts,<-eZ];exact o4
       .have hb':(1000000000000000:Int)<(nx.sum:Nat):=by omega
        rw[hno hb]at h;simp(disch:=omega)[hb'];exact ag (((hs3.trans s1).trans sM).trans ((Sub.refl M').put hb12 _)) (h _ _ (Own.nil M))
    .have hr':r=k:=by omega
     have ht0:t=0:=by omega
     subst hr';rw[hok,if_pos rfl,if_pos rfl]at h;rw[ht0];refine sS ?_;obtain⟨M2,o2,s2⟩:=oA.base ((hs3.trans s1).trans sA);exact ag s2 (h vo M2 o2)
  .rw[if_neg hk]at hin;have hne:¬ ga ws a k 20=0:=by rw[hin];decide
   rw[if_neg hne,if_neg hne,hin]at h;rw[dFa hk];refine sS ?_;exact ag hs3 (h _ _ (Own.nil M))
 .rw[if_neg ht]at hin;have hb:(oF ws a==0)=false:=bNe.2 ht;rw[if_neg (by rw[hin];exact ht),if_neg (by rw[hin];exact ht),hin]at h;generalize oF ws a=code at *;simp(disch:=omega)[hb];exact ag hs3 (h _ _ (Own.nil M))
def dead(ws:List B8):Nat->UInt8->Bool
 | 0,_=>false
 | r+1,c=>(ws.getD (c.toNat-97) []).all (dead ws r)
theorem Ac(ws:List B8)(r:Nat):∀ l:B8,(aS ws l).all (dead ws r)=l.all (dead ws (r+1))
 | []=>rfl
 | u::l=>by rw[eW,all_append,Ac ws r l,all_cons];rfl
def itr(ws:List B8):Nat->B8->B8
 | 0,w=>w
 | j+1,w=>aS ws (itr ws j w)
theorem Lx(ws:List B8)(w:B8):∀ j r,(itr ws j w).all (dead ws r)=w.all (dead ws (r+j))
 | 0,r=>rfl
 | j+1,r=>by
  show (aS ws (itr ws j w)).all (dead ws r)=_;rw[Ac,Lx ws w j (r+1),Nat.add_right_comm];rfl
theorem Cd(ws:List B8)(l:B8):l.all (dead ws 0)=l.isEmpty:=by
 cases l with
 | nil=>rfl
 | cons a l=>rfl
theorem SZ(ws:List B8)(j:Nat)(w:B8):(itr ws j w).isEmpty=w.all (dead ws j):=by
 rw[<-Cd ws,Lx,Nat.zero_add]
theorem xX(ws:List B8):∀ r c,dead ws r c=true->dead ws (r+1) c=true
 | 0,c,h=>by cases h
 | r+1,c,h=>by
  have h:(ws.getD (c.toNat-97) []).all (dead ws r)=true:=h;show (ws.getD (c.toNat-97) []).all (dead ws (r+1))=true;rw[all_eq_true]at h ⊢;exact fun x hx=>xX ws r x (h x hx)
theorem Fi(ws:List B8){r s:Nat}(h:r<=s){c:UInt8}(hd:dead ws r c=true):dead ws s c=true:=by
 obtain⟨d,rfl⟩:∃ d,s=r+d:=⟨s-r,by omega⟩;clear h
 induction d with
 | zero=>exact hd
 | succ d ih=>exact xX ws _ c ih
theorem CR{α:Type}{p q:α->Bool}:∀ {l:List α},(∀ x∈l,p x=true->q x=true)->∀ y,y∈l->q y=true->p y=false->l.countP p<l.countP q
 | [],_,y,hy,_,_=>by cases hy
 | a::l,h,y,hy,hq,hp=>by
  rw[countP_cons,countP_cons];have hm:l.countP p<=l.countP q:=countP_mono_left fun x hx=>h x (mem_cons_of_mem _ hx);rcases mem_cons.1 hy with rfl|hy
  .rw[hq,hp];simp;omega
  .have:=CR (fun x hx=>h x (mem_cons_of_mem _ hx)) y hy hq hp;have ha:=h a mem_cons_self;by_cases h1:p a=true
   .rw[if_pos h1,if_pos (ha h1)];omega
   .rw[if_neg h1];omega
def U6(ws:List B8)(r:Nat):Nat:=(range ws.length).countP fun i=>dead ws r (ltr i)
theorem Cp(ws:List B8):∀ r,r<=U6 ws r\/∃ q,q<r/\∀ i,i<ws.length->dead ws (q+1) (ltr i)=true->dead ws q (ltr i)=true
 | 0=>.inl (lZe _)
 | r+1=>by
  rcases Cp ws r with h|⟨q,h1,h2⟩
  .by_cases hs:∀ i,i<ws.length->dead ws (r+1) (ltr i)=true->dead ws r (ltr i)=true
   .exact .inr ⟨r,by omega,hs⟩
   .have hs2:∃ i,i<ws.length/\dead ws (r+1) (ltr i)=true/\¬ dead ws r (ltr i)=true:=by
     apply Classical.byContradiction;intro hno;exact hs fun i hi h1=>Classical.byContradiction fun h2=>hno ⟨i,hi,h1,h2⟩
    obtain⟨i,hi,h1,h2⟩:=hs2;have:=CR (p:=fun i=>dead ws r (ltr i)) (q:=fun i=>dead ws (r+1) (ltr i)) (l:=range ws.length) (fun x _ h=>xX ws r _ h) i (mem_range.2 hi) h1 (by simpa using h2);left;unfold U6 at *;omega
  .exact .inr ⟨q,by omega,h2⟩
theorem mE{ws:List B8}{u:UInt8}(h:97<=u.toNat/\u.toNat-97<ws.length):ltr (u.toNat-97)=u:=by
 unfold ltr;rw[show 97+(u.toNat-97)=u.toNat by omega];simp
theorem PW{ws:List B8}(hm:aY ws=true):∀ r i,i<ws.length->dead ws r (ltr i)=true->dead ws ws.length (ltr i)=true:=by
 have h5:=aW hm;rcases Cp ws ws.length with h|⟨q,hq,hst⟩
 .intro r i hi _;have hle:(range ws.length).countP (fun i=>dead ws ws.length (ltr i))<=(range ws.length).length:=countP_le_length;rw[length_range]at hle;have he:(range ws.length).countP (fun i=>dead ws ws.length (ltr i))=(range ws.length).length:=by
   rw[length_range];unfold U6 at h;omega
  exact(countP_eq_length.1 he) i (mem_range.2 hi)
 .have hall:∀ d i,i<ws.length->dead ws (q+d) (ltr i)=true->dead ws q (ltr i)=true:=by
   intro d
   induction d with
   | zero=>intro i _ h;exact h
   | succ d ih=>
    intro i hi h;refine hst i hi ?_;have h:(ws.getD ((ltr i).toNat-97) []).all (dead ws (q+d))=true:=h;show (ws.getD ((ltr i).toNat-97) []).all (dead ws q)=true;rw[all_eq_true]at h ⊢;intro c hc;have hlt:Lt ws (ws.getD ((ltr i).toNat-97) []):=by
     have e:(ltr i).toNat-97<ws.length:=by rw[ic (by omega)];omega
     rw[gDe,gEl e];exact y5 (aZ (bH hm (gMe e)).2.1) (bH hm (gMe e)).2.2
    have hl:=hlt c hc;rw[<-mE hl];exact ih _ hl.2 (by rw[mE hl];exact h c hc)
  intro r i hi h;refine Fi ws (Nat.le_of_lt hq) ?_;by_cases hr:r<=q
  .exact Fi ws hr h
  .exact hall (r-q) i hi (by rw[show q+(r-q)=r by omega];exact h)
theorem tY(ws:List B8):∀ a b:B8,aS ws (a++b)=aS ws a++aS ws b
 | [],b=>by rw[fe];rfl
 | x::a,b=>by rw[cons_append,eW,eW,tY ws a b,append_assoc]
theorem zF(ws:List B8)(a b:B8):∀ j,itr ws j (a++b)=itr ws j a++itr ws j b
 | 0=>rfl
 | j+1=>by
  show aS ws (itr ws j (a++b))=_;rw[zF ws a b j,tY];rfl
theorem Df(ws:List B8)(w:B8):∀ j,itr ws j (aS ws w)=itr ws (j+1) w
 | 0=>rfl
 | j+1=>by
  show aS ws (itr ws j (aS ws w))=_;rw[Df ws w j];rfl
def lz(ws:List B8)(x:B8)(n:Nat):B8:=((range n).filter fun i=>decide (ltr i∈aS ws x)).map ltr
theorem Jv(ws:List B8)(x:B8)(n:Nat):lz ws x (n+1)=lz ws x n++if ltr n∈aS ws x then [ltr n] else []:=by
 unfold lz;rw[range_succ,filter_append,map_append]
 congr 1
 by_cases h:ltr n∈aS ws x<;>simp[h]
theorem C9(ws:List B8)(x:B8)(n:Nat):(lz ws x n).length<=n:=by
 unfold lz;rw[length_map];have:=length_filter_le (fun i=>decide (ltr i∈aS ws x)) (range n);rw[length_range]at this;exact this
def uL(ws:List B8):Nat->B8->B8
 | 0,w=>w
 | r+1,w=>lz ws (uL ws r w) ws.length
theorem Qj{ws:List B8}(h5:ws.length<=5)(x:B8){n:Nat}(hn:n<=ws.length):Lt ws (lz ws x n):=by
 intro u hu;obtain⟨i,hi,rfl⟩:=mem_map.1 hu;have:=mem_range.1 (mem_filter.1 hi).1;rw[ic (by omega)];omega
theorem Nv{ws:List B8}(x:B8)(hx:Lt ws (aS ws x))(p:UInt8->Bool):(lz ws x ws.length).all p=(aS ws x).all p:=by
 rw[Bool.eq_iff_iff,all_eq_true,all_eq_true];constructor
 .intro h c hc;have hl:=hx c hc;refine h c (mem_map.2 ⟨c.toNat-97,mem_filter.2 ⟨mem_range.2 hl.2,?_⟩,mE hl⟩);rw[mE hl];exact dTr hc
 .intro h c hc;obtain⟨i,hi,rfl⟩:=mem_map.1 hc;exact h _ (of_decide_eq_true (mem_filter.1 hi).2)
theorem LY{ws:List B8}(hm:aY ws=true){w:B8}(hw:Lt ws w):∀ r,Lt ws (uL ws r w)
 | 0=>hw
 | r+1=>Qj (aW hm).2 _ (lRf _)
theorem Pe{ws:List B8}(hm:aY ws=true){w:B8}(hw:w.length<=60):∀ r,(uL ws r w).length<=60
 | 0=>hw
 | r+1=>by
  have:=C9 ws (uL ws r w) ws.length;have:=(aW hm).2;show (lz ws (uL ws r w) ws.length).length<=60;omega
theorem HV{ws:List B8}(hm:aY ws=true){w:B8}(hw:Lt ws w):∀ r s,(uL ws r w).all (dead ws s)=w.all (dead ws (s+r))
 | 0,s=>rfl
 | r+1,s=>by
  show (lz ws (uL ws r w) ws.length).all (dead ws s)=_;rw[Nv _ (JS hm (LY hm hw r)),Ac,HV hm hw r (s+1),Nat.add_right_comm];rfl
theorem PC{ws:List B8}(hm:aY ws=true){w:B8}(hw:Lt ws w)(r:Nat):(uL ws r w).isEmpty=w.all (dead ws r):=by
 rw[<-Cd ws,HV hm hw,Nat.zero_add]
def Snd(ws:List B8)(out:List Bool):Prop:=∀ i,i<ws.length->out[i]?=some true->dead ws (out.count true) (ltr i)=true
def mtB(ws:List B8)(out:List Bool)(i:Nat):Bool:=(ws.getD i []).all fun c=>out.getD (c.toNat-97) false
def Cls(ws:List B8)(out:List Bool)(i:Nat):Prop:=mtB ws out i=true->out[i]?=some true
theorem Fp{ws:List B8}(hm:aY ws=true)(r:Nat){i:Nat}(hi:i<ws.length):dead ws (r+1) (ltr i)=(ws.getD i []).all (dead ws r):=by
 have h5:=aW hm;show (ws.getD ((ltr i).toNat-97) []).all (dead ws r)=_;rw[ic (by omega),show 97+i-97=i by omega]
theorem uJ{ws:List B8}(hm:aY ws=true){i:Nat}(hi:i<ws.length):Lt ws (ws.getD i []):=by
 rw[gDe,gEl hi];exact y5 (aZ (bH hm (gMe hi)).2.1) (bH hm (gMe hi)).2.2
theorem count_set{out:List Bool}{i:Nat}(h:out[i]?=some false):(out.set i true).count true=out.count true+1:=by
 induction out generalizing i with
 | nil=>cases h
 | cons a l ih=>
  cases i with
  | zero=>
   have:a=false:=by simpa using h
   subst this;simp
  | succ i=>
   rw[set_cons_succ,count_cons,count_cons,ih (by simpa using h)];omega
theorem Su{ws:List B8}(hm:aY ws=true){out:List Bool}(h:Snd ws out){i:Nat}(hi:i<ws.length)(hf:out[i]?=some false)(hmt:mtB ws out i=true):Snd ws (out.set i true):=by
 intro j hj hoj;rw[count_set hf];by_cases e:i=j
 .subst e;rw[Fp hm _ hi,all_eq_true];unfold mtB at hmt;rw[all_eq_true]at hmt;intro c hc;have hl:=uJ hm hi c hc;have:=hmt c hc;rw[<-mE hl];refine h _ hl.2 ?_;rw[gDe]at this;cases ho:out[c.toNat-97]? with
  | none=>rw[ho]at this;cases this
  | some b=>rw[ho]at this;exact congrArg some this
 .rw[getElem?_set_ne e]at hoj;exact xX ws _ _ (h j hj hoj)
theorem RW{ws:List B8}(hm:aY ws=true){out:List Bool}(hl:out.length=ws.length)(h:Snd ws out)(hc:∀ i,i<ws.length->Cls ws out i):∀ i,i<ws.length->out[i]?=some (dead ws ws.length (ltr i)):=by
 have hle:out.count true<=ws.length:=by rw[<-hl];exact count_le_length
 have hall:∀ r i,i<ws.length->dead ws r (ltr i)=true->out[i]?=some true:=by
  intro r
  induction r with
  | zero=>intro i _ h;cases h
  | succ r ih=>
   intro i hi hd;rw[Fp hm _ hi,all_eq_true]at hd;refine hc i hi ?_;unfold mtB;rw[all_eq_true];intro c hcm;have hlt:=uJ hm hi c hcm;have:=ih _ hlt.2 (by rw[mE hlt];exact hd c hcm);rw[gDe,this];rfl
 intro i hi;have hi':i<out.length:=by omega
 rw[gEl hi']
 congr 1
 cases hd:dead ws ws.length (ltr i) with
 | true=>
  have:=hall _ i hi hd;rw[gEl hi']at this;exact Option.some.inj this
 | false=>
  cases ho:out[i] with
  | false=>rfl
  | true=>
   have:=Fi ws hle (h i hi (by rw[gEl hi',ho]));rw[hd]at this;cases this
theorem HO{ws:List B8}(hm:aY ws=true){a:Nat}{u:B8}(ha:a<ws.length)(hu:ws.getD a []=ltr a::u)(hd:u.all (dead ws ws.length)=false)(j:Nat):(itr ws j [ltr a]).length<(itr ws (j+1) [ltr a]).length:=by
 have h5:=aW hm;have e1:aS ws [ltr a]=[ltr a]++u:=by
  rw[eW,fe,append_nil,ic (by omega),show 97+a-97=a by omega,hu];rfl
 rw[<-Df,e1,zF,lAp];have hne:(itr ws j u).isEmpty=false:=by
  rw[SZ];cases hq:u.all (dead ws j) with
  | false=>rfl
  | true=>
   have hul:Lt ws u:=fun c hc=>uJ hm ha c (by rw[hu];exact mem_cons_of_mem _ hc);have:u.all (dead ws ws.length)=true:=by
    rw[all_eq_true]at hq ⊢;intro c hc;have hl:=hul c hc;rw[<-mE hl];exact PW hm j _ hl.2 (by rw[mE hl];exact hq c hc)
   rw[hd]at this;cases this
 cases hq:itr ws j u with
 | nil=>rw[hq]at hne;cases hne
 | cons x l=>simp
theorem JJ{ws:List B8}(hm:aY ws=true){w:B8}(hw:Lt ws w):∀ j,Lt ws (itr ws j w)
 | 0=>hw
 | j+1=>JS hm (JJ hm hw j)
end Go.Proofs.YtapimhjbilkfpaaGreatDoor
namespace Go.Proofs.YtapimhjbilkfpaaGreatDoor
open Go Go.Proofs.Tryz Go.RowKit List
theorem MB(s:B8)(c:UInt8):decide (0<=Lib.indexByte s c)=decide (c∈s):=by
 have hge:=Lib.indexByte_ge s c;by_cases h:Lib.indexByte s c = -1
 .have hn:¬ c∈s:=fun hm=>by
   obtain⟨k,hk,he⟩:=mem_iff_getElem.1 hm;exact Lib.indexByte_none h k (by rw[gEl hk,he])
  rw[h,dFa hn];rfl
 .obtain⟨o,ho⟩:∃ o:Nat,Lib.indexByte s c=o:=⟨(Lib.indexByte s c).toNat,by omega⟩;have hm:=mem_of_getElem? (Lib.indexByte_some ho).1;rw[dTr hm,ho];exact dTr (by omega)
theorem AP(s:B8)(c:UInt8)(M:Mem)(R:VP)(h:R (.bool (decide (c∈s))) M):ar prog 353 [str s,str [c]] M R:=by
 refine dK (.bool (decide (c∈s))) ⟨_,func353,by kernel_rfl,by kernel_rfl⟩ (fun w hw=>?_) h;refine(Tryz.strings_Contains_one ⟨⟨s⟩⟩ c w).mono fun e w' ⟨h1,h2⟩=>⟨?_,by rw[h2];exact Below.refl _ _⟩;rw[h1,<-MB]
theorem AT(s p:B8)(M:Mem)(R:VP)(h:R (.tuple #[str (Lib.trimPrefix s p),.bool (Lib.hasPrefix s p)]) M):ar prog 255 [str s,str p] M R:=by
 refine dK (.tuple #[str (Lib.trimPrefix s p),.bool (Lib.hasPrefix s p)]) ⟨_,func255,by kernel_rfl,by kernel_rfl⟩ (fun w hw=>?_) h;refine(Tryz.strings_CutPrefix ⟨⟨s⟩⟩ ⟨⟨p⟩⟩ w).mono fun e w' ⟨h1,h2⟩=>⟨?_,by rw[h2];exact Below.refl _ _⟩;rw[h1];rfl
theorem By(v:Value)(ws:List B8)(w:B8)(M:Mem)(R:VP)(hv:Rd M v (strs ws))(hm:aY ws=true)(hl:w.length<=60)(hlt:Lt ws w)(h:R (.bool (w.all (dead ws ws.length))) M):ar prog 256 [.agg #[v],str w] M R:=by
 have h15:=aW hm;refine fnS func256 rfl ntmps256 results256 ?_;obtain⟨a,c,rfl,ha⟩:=hv.opened;rw[ah]at hv ⊢;refine sS ?_;intro b1 hb1;have hs1:=(Sub.refl M).put hb1 (.cells true [.slice a ws.length c] 1);have hv1:=hv.put hb1 (.cells true [.slice a ws.length c] 1);have k1:=ae M b1 (.cells true [.slice a ws.length c] 1);refine sS ?_;generalize M.put b1 (.cells true [.slice a ws.length c] 1)=N at *;refine eG _ ws _ _ hv1 (by omega) ?_;refine sS ?_;refine aR aU (rlA [5,6,7] 11 20) (fun r:Nat=>[(11,.int .i64 r),(5,str (uL ws r w))]) (fun r M'=>r<=ws.length/\M'=N) (fun r=>ws.length-r) 0 (by kernel_rfl) (by simp(disch:=omega);rfl) ⟨lZe _,rfl⟩ ?_
 rintro r M' g ⟨hr,rfl⟩
 by_cases hlt1:r<ws.length
 .have hkl:=Pe hm hl r;have hkt:=LY hm hlt r;have hks:uL ws (r+1) w=lz ws (uL ws r w) ws.length:=rfl;generalize uL ws r w=x at *;simp(disch:=omega)[aq k1];refine eG _ ws _ _ hv1 (by omega) ?_;refine sS ?_;refine aR aU (rlA [6,7] 15 14) (fun i:Nat=>[(15,.int .i64 i),(6,str (lz ws x i))]) (fun i M1=>i<=ws.length/\M1=M') (fun i=>ws.length-i) 0 (by kernel_rfl) (by simp(disch:=omega);rfl) ⟨lZe _,rfl⟩ ?_
  rintro i M1 g1 ⟨hi,rfl⟩
  by_cases hlt2:i<ws.length
  .have hps:=Jv ws x i;have hpl:=C9 ws x i;generalize lz ws x i=y at *;simp(disch:=omega)[aq k1];refine mr _ ws x _ _ hv1 hm hkl hkt ?_;refine sS ?_;refine db i _ _ (by omega) ?_;refine sS ?_;refine AP _ _ _ _ ?_;by_cases hc:ltr i∈aS ws x
   .rw[if_pos hc]at hps;rw[dTr hc];refine sS ?_;refine db i _ _ (by omega) ?_;refine sS ?_;exact rndA (i+1) (by simp(disch:=omega)[hps]) ⟨by omega,rfl⟩
   .rw[if_neg hc,append_nil]at hps;rw[dFa hc];refine sS ?_;exact rndA (i+1) (by simp(disch:=omega)[hps]) ⟨by omega,rfl⟩
  .have hi':i=ws.length:=by omega
   subst hi';rw[<-hks];refine sS ?_;exact rndS (r+1) ⟨by omega,rfl⟩
 .have hr':r=ws.length:=by omega
  subst hr';have he:=PC hm hlt ws.length;rw[<-he]at h;generalize uL ws ws.length w=x at *;cases x with
  | nil=>simp(disch:=omega);exact ag hs1 h
  | cons y l=>simp(disch:=omega);exact ag hs1 h
theorem Fk(a b c:Nat)(M:Mem)(R:VP)(ha:a<=4)(hM:M b=some (.cells true [.int .i64 a] c))(h:R (str [ltr a]) M):ar prog 254 [.slice (some ⟨b,0,none⟩) 1 c] M R:=by
 refine fnT func254 rfl ntmps254 results254 ?_;refine lupS (rlA [3,5] 8 9) (fun i:Nat=>[(8,.int .i64 i),(3,str (([ltr a]:B8).take i))]) (fun i M'=>i<=1/\M'=M) (fun i=>1-i) 0 ⟨lZe _,rfl⟩ ?_
 rintro i M' g ⟨hi,rfl⟩
 by_cases hlt:i<1
 .have hi0:i=0:=by omega
  subst hi0;simp(disch:=omega)[ak hM];refine db a _ _ ha ?_;refine sS ?_;exact rndS 1 ⟨by omega,rfl⟩
 .have hi':i=1:=by omega
  subst hi';refine sS ?_;exact ad h
theorem xb(ws:List B8)(x:Value)(a k:Int)(b3 b4 b5:Nat)(K:Mem)(R:VP)(hv:Rd K x (strs ws))(hn:ws.length<=1099511627776)(k3:K b3=some (.cells true [x] 1))(k4:K b4=some (.cells true [.int .i64 a] 1))(k5:K b5=some (.cells true [.int .i64 k] 1))
  (h:R (.bool (decide (0<=a/\a<=ws.length-1)&&decide (0<=k/\k<=60))) K):ar prog 253 [.pointer (some ⟨b4,0,none⟩),.pointer (some ⟨b3,0,none⟩),.pointer (some ⟨b5,0,none⟩)] K R:=by
 refine fnT func253 rfl ntmps253 results253 ?_;refine drwS ?_;simp(disch:=omega)[ak k4,aq k3];refine aX (a:=[]) (c:=[]) (eG x ws _ _ hv hn ⟨rfl,rfl⟩) ?_;refine sS ?_;refine aX (a:=[]) (c:=[]) (bJ _ _ _ _ _ ⟨rfl,rfl⟩) ?_;cases h1:decide (0<=a/\a<=(ws.length:Int)-1)
 .rw[h1,Bool.false_and]at h;refine sS ?_;exact ad h
 .rw[h1,Bool.true_and]at h;simp(disch:=omega)[ak k5];refine aX (a:=[]) (c:=[]) (qk _ _ _ ⟨rfl,rfl⟩) ?_;refine sS ?_;exact ad (by simpa using h)
def grF(ws:List B8)(n:Nat):Nat->B8->B8
 | 0,x=>x.take n
 | f+1,x=>if x.length<n then grF ws n f (aS ws x) else x.take n
theorem LC{ws:List B8}{n f:Nat}{x:B8}(h:¬ x.length<n):grF ws n f x=x.take n:=by
 cases f with
 | zero=>rfl
 | succ f=>exact if_neg h
def Jc(ws:List B8)(a:Nat):Bool:=match ws.getD a [] with
 | []=>false
 | x::u=>x==ltr a && !u.all (dead ws ws.length)
def grT(ws:List B8)(a n:Int):B8:=if ga ws a n 60=0 then (if Jc ws a.toNat then grF ws n.toNat n.toNat [ltr a.toNat] else []) else []
def grC(ws:List B8)(a n:Int):Int:=if ga ws a n 60=0 then (if Jc ws a.toNat then 0 else 5) else ga ws a n 60
theorem zh(v:Value)(ws:List B8)(a n:Int)(M:Mem)(R:VP)(hv:Rd M v (strs ws))(hf:cS ws)(hn:ws.length<=1099511627776)(h:R (aF (str (grT ws a n)) (grC ws a n)) M):ar prog 166 [.agg #[v],.int .i64 a,.int .i64 n] M R:=by
 refine fnS func166 rfl ntmps166 results166 ?_;obtain⟨aa,c,rfl,ha⟩:=hv.opened;rw[ah]at ha hv ⊢;refine sS ?_;intro b3 hb3;refine sS ?_;intro b4 hb4;refine sS ?_;intro b5 hb5;have n4:=hb4;have n5:=hb5;rw[aG]at n4;rw[aG,aG]at n5;have hs5:Sub M (((M.put b3 (.cells true [.slice aa ws.length c] 1)).put b4 (.cells true [.int .i64 a] 1)).put b5 (.cells true [.int .i64 n] 1)):=(((Sub.refl M).put hb3 _).putN hb4 _).putN hb5 _;have k3:(((M.put b3 (.cells true [.slice aa ws.length c] 1)).put b4 (.cells true [.int .i64 a] 1)).put b5 (.cells true [.int .i64 n] 1)) b3=some (.cells true [.slice aa ws.length c] 1):=by rw[al _ _ (Ne.symm n5.2.1),al _ _ (Ne.symm n4.1),ae]
 have k4:(((M.put b3 (.cells true [.slice aa ws.length c] 1)).put b4 (.cells true [.int .i64 a] 1)).put b5 (.cells true [.int .i64 n] 1)) b4=some (.cells true [.int .i64 a] 1):=by rw[al _ _ (Ne.symm n5.1),ae]
 have k5:(((M.put b3 (.cells true [.slice aa ws.length c] 1)).put b4 (.cells true [.int .i64 a] 1)).put b5 (.cells true [.int .i64 n] 1)) b5=some (.cells true [.int .i64 n] 1):=ae _ _ _;refine sS ?_;generalize (((M.put b3 (.cells true [.slice aa ws.length c] 1)).put b4 (.cells true [.int .i64 a] 1)).put b5 (.cells true [.int .i64 n] 1))=N1 at *;have hv1:=hv.sub hs5;refine dH _ _ _ ws [] (decide (0<=a/\a<=(ws.length:Int)-1)&&decide (0<=n/\n<=60)) (fun M'=>Sub N1 M') _ _ hv1 hf hn (I0 N1) PR (by simp) rfl (Sub.refl _) (fun M b B q hb=>q.putN hb B) ?_ ?_
 .intro K R' q hR';refine sS ?_;exact xb ws _ a n b3 b4 b5 K R' (hv1.sub q) hn (q _ _ k3) (q _ _ k4) (q _ _ k5) hR'
 .rw[FB];unfold grT grC at h;by_cases h0:ga ws a n 60=0
  .obtain⟨hm,ha0,ha1,hk0,hk1⟩:=gN h0;rw[if_pos h0,if_pos h0]at h;rw[h0];have h15:=aW hm;obtain⟨a,rfl⟩:∃ m:Nat,a=m:=⟨a.toNat,by omega⟩;obtain⟨n,rfl⟩:∃ m:Nat,n=m:=⟨n.toNat,by omega⟩;rw[iNa,iNa]at h;have hal:a<ws.length:=by omega
   rcases ha with hz|⟨b,o,rfl,ha⟩
   .omega
   have hg:=ha a hal;rw[a7,gEl hal]at hg;have hgr:ws.getD a []=ws[a]:=by rw[gDe,gEl hal];rfl
   rw[<-hgr]at hg;have hg1:N1.get? b (o+a)=some (str (ws.getD a [])):=aT hg hs5;have hrl:=uJ hm hal;have hrow12:(ws.getD a []).length<=12:=by rw[hgr];exact(bH hm (gMe hal)).1
   have hgrow:=fun u hu hd=>HO (u:=u) hm hal hu hd;have hok:Jc ws a=match ws.getD a [] with
    | []=>false
    | x::u=>x==ltr a && !u.all (dead ws ws.length):=rfl
   obtain⟨row,hrow⟩:∃ row,row=ws.getD a []:=⟨_,rfl⟩;rw[<-hrow]at hg1 hrl hrow12 hok;simp(disch:=omega)[ak k4];intro b6 hb6;refine sS ?_;have s6:=(Sub.refl N1).put hb6 (.cells true [.int .i64 a] 1);refine Fk a b6 1 _ _ (by omega) (ae _ _ _) ?_;have j3:=s6 _ _ k3;have j4:=s6 _ _ k4;have j5:=s6 _ _ k5;have hg6:=aT hg1 s6;have hv6:=hv1.sub s6;have hs6:=hs5.trans s6;generalize N1.put b6 (.cells true [.int .i64 a] 1)=N6 at *;simp(disch:=omega)[ak j3,ak j4,hg6];refine AT _ _ _ _ ?_;cases row with
   | nil=>
    rw[hok]at h;have e1:Lib.hasPrefix [] [ltr a]=false:=rfl;simp(disch:=omega)[e1];exact ag hs6 h
   | cons x u=>
    have e1:Lib.hasPrefix (x::u) [ltr a]=(ltr a==x):=by simp[Lib.hasPrefix,isPrefixOf]
    by_cases hx:x=ltr a
    .subst hx;have e2:Lib.trimPrefix (ltr a::u) [ltr a]=u:=by simp[Lib.trimPrefix,Lib.hasPrefix]
     rw[beq_self_eq_true]at e1;rw[e1,e2];simp only[beq_self_eq_true,Bool.true_and]at hok;simp(disch:=omega)[aq j3];refine By _ ws u _ _ hv6 hm (by simp only[lCo]at hrow12;omega) (fun c hc=>hrl c (mem_cons_of_mem _ hc)) ?_;cases hd:u.all (dead ws ws.length) with
     | true=>
      rw[hok,hd]at h;refine sS ?_;exact ag hs6 h
     | false=>
      rw[hok,hd]at h;simp only[Bool.not_false,if_true]at h;have hgl:=hgrow u hrow.symm hd;refine sS ?_;refine lupS (rlA [9] 38 7) (fun x:B8=>[(9,str x)]) (fun x M'=>M'=N6/\x.length<=720/\∃ j f,x=itr ws j [ltr a]/\n<=x.length+f/\grF ws n f x=grF ws n n [ltr a]) (fun x=>n-x.length) [ltr a] ⟨rfl,by simp,0,n,rfl,by omega,rfl⟩ ?_
      rintro x M' g ⟨rfl,hxl,j,f,hx,hnf,he⟩
      have hxt:Lt ws x:=by
       rw[hx];exact JJ hm (fun c hc=>by rw[mem_singleton.1 hc,ic (by omega)];omega) j
      have hlj:=hgl j;have hnx:aS ws x=itr ws (j+1) [ltr a]:=by rw[hx];rfl
      rw[<-hnx,<-hx]at hlj;refine sS ?_;refine drwS ?_;refine sS ?_;refine aX (a:=[]) (c:=[]) (bZ _ _ _ (by omega) ⟨rfl,rfl⟩) ?_;by_cases hlt:x.length<n
      .obtain⟨f,rfl⟩:∃ f',f=f'+1:=⟨f-1,by omega⟩;have he2:grF ws n (f+1) x=grF ws n f (aS ws x):=if_pos hlt;have hil:=jj hm hxt;simp(disch:=omega)[aq j3,ak j5];refine mr _ ws x _ _ hv6 hm (by omega) hxt ?_;refine sS ?_;exact rndS (aS ws x) ⟨rfl,by omega,⟨j+1,hnx⟩,f,by omega,by rw[<-he2];exact he⟩
      .rw[LC hlt]at he;rw[<-he]at h;simp(disch:=omega)[ak j5];exact ag hs6 h
    .have e0:(ltr a==x)=false:=bNe.2 (Ne.symm hx);have e4:(x==ltr a)=false:=bNe.2 hx;rw[e0]at e1;simp only[e4,Bool.false_and]at hok;rw[hok]at h;generalize Lib.trimPrefix (x::u) [ltr a]=tp;simp(disch:=omega)[e1];exact ag hs6 h
  .rw[if_neg h0,if_neg h0]at h;have hb:(ga ws a n 60==0)=false:=bNe.2 h0;generalize ga ws a n 60=code at *;simp(disch:=omega)[hb];exact ag hs5 h
end Go.Proofs.YtapimhjbilkfpaaGreatDoor
namespace Go.Proofs.YtapimhjbilkfpaaGreatDoor
open Go Go.Proofs.Tryz List
def wE(w:B8)(i m:Int):Bool:=decide (0<=i/\i<=w.length)&&decide (0<=m/\m<=(w.length:Int)-i)
def A6(w:B8)(i m:Int):Int:=if isWord w then (if wE w i m then 0 else 2) else 1
def BI(w:B8)(i m:Int):B8:=if isWord w then (if wE w i m then seg w i.toNat m.toNat else []) else []
theorem z8(b:Nat)(v:Value):oK (fun M':Mem=>M'.get? b 0=some v):=by
 intro N b' B hG hb;have:b≠b':=by rintro rfl;unfold Mem.get? at hG;rw[hb]at hG;cases hG
 unfold Mem.get? at *;rw[al _ _ this];exact hG
theorem G1{F G:Mem->Prop}(hF:oK F)(hG:oK G):oK (fun M'=>F M'/\G M'):=fun N b B h hb=>⟨hF N b B h.1 hb,hG N b B h.2 hb⟩
theorem Bk(w:B8)(i m:Int)(M:Mem)(R:VP)(hl:w.length<=1099511627776)(hi : -9223372036854775808<=i/\i<=9223372036854775807)(hm : -9223372036854775808<=m/\m<=9223372036854775807)(h:∀ M',Sub M M'->R (aF (str (BI w i m)) (A6 w i m)) M'):ar prog 164 [str w,.int .i64 i,.int .i64 m] M R:=by
 unfold aF BI A6 at h;refine fnT func164 rfl ntmps164 results164 ?_;intro b3 hb3;refine sS ?_;intro b4 hb4;refine sS ?_;intro b5 hb5;refine sS ?_;have s3:=(Sub.refl M).put hb3 (.cells true [str w] 1);have s4:=(Sub.refl _).put hb4 (.cells true [.int .i64 i] 1);have s5:=(Sub.refl _).put hb5 (.cells true [.int .i64 m] 1);have k3:=s5 _ _ (s4 _ _ (ae M b3 (.cells true [str w] 1)));have k4:=s5 _ _ (ae (M.put b3 (.cells true [str w] 1)) b4 (.cells true [.int .i64 i] 1));have k5:=ae ((M.put b3 (.cells true [str w] 1)).put b4 (.cells true [.int .i64 i] 1)) b5 (.cells true [.int .i64 m] 1);have hs:=(s3.trans s4).trans s5;generalize ((M.put b3 (.cells true [str w] 1)).put b4 (.cells true [.int .i64 i] 1)).put b5 (.cells true [.int .i64 m] 1)=N at *
 try simp(disch:=omega)[ak k3]
 intro b6 hb6;refine sS ?_;have s6:=(Sub.refl N).put hb6 (.cells true [str w] 1);have g3:=ak (s6 _ _ k3) 0;have g4:=ak (s6 _ _ k4) 0;have g5:=ak (s6 _ _ k5) 0;refine bA _ _ [w] (wE w i m) (fun M':Mem=>(M'.get? b3 0=some (str w)/\M'.get? b4 0=some (.int .i64 i))/\M'.get? b5 0=some (.int .i64 m)) _ _ (Rd.new rfl (lRf 1)) (gM hl) (by simp) ⟨⟨g3,g4⟩,g5⟩ (G1 (G1 (z8 _ _) (z8 _ _)) (z8 _ _)) ?_ ?_
 .intro K R' hG hR';obtain⟨⟨h3,h4⟩,h5⟩:=hG;refine sS ?_;refine fnT func250 rfl ntmps250 results250 ?_;refine drwS ?_;simp(disch:=omega)[h3,h4];refine aX (a:=[]) (c:=[]) (bZ w _ _ hl ⟨rfl,rfl⟩) ?_;refine sS ?_;refine aX (a:=[]) (c:=[]) (bJ _ _ _ _ _ ⟨rfl,rfl⟩) ?_;by_cases h1:0<=i/\i<=(w.length:Int)
  .rw[dTr h1];simp(disch:=omega)[h3,h5];refine aX (a:=[]) (c:=[]) (bZ w _ _ hl ⟨rfl,rfl⟩) ?_;simp(disch:=omega)[h4];refine aX (a:=[]) (c:=[]) (bJ _ _ _ _ _ ⟨rfl,rfl⟩) ?_;refine sS ?_;refine ad ?_;unfold wE at hR';rw[dTr h1,Bool.true_and]at hR';simpa using hR'
  .rw[dFa h1];refine sS ?_;refine ad ?_;unfold wE at hR';rw[dFa h1,Bool.false_and]at hR';simpa using hR'
 .rw[dq];have hs6:=hs.trans s6;cases hw:isWord w
  .rw[hw]at h;refine sS ?_;exact ad (h _ hs6)
  .rw[hw]at h;cases hf:wE w i m
   .rw[hf]at h;refine sS ?_;exact ad (h _ hs6)
   .rw[hf]at h;have h60:=au hw;unfold wE at hf;rw[bAn,dTe,dTe]at hf;obtain⟨i,rfl⟩:∃ j:Nat,i=j:=⟨i.toNat,by omega⟩;obtain⟨m,rfl⟩:∃ j:Nat,m=j:=⟨m.toNat,by omega⟩;have hsg:=gp (w:=w) (a:=i) (m:=m);rw[if_pos rfl,if_pos rfl,if_pos rfl,if_pos rfl,iNa,iNa]at h;have l3:=s6 _ _ k3;have l4:=s6 _ _ k4;have l5:=s6 _ _ k5;generalize N.put b6 (.cells true [str w] 1)=N6 at *;simp(disch:=omega)[ak l3,ak l4,ak l5];rw[hsg];exact ad (h _ hs6)
end Go.Proofs.YtapimhjbilkfpaaGreatDoor
