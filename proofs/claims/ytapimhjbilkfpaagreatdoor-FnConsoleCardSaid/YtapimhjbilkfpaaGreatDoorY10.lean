/- Lemmas, part 11. -/
import Derived.Test.YtapimhjbilkfpaaGreatDoorY09
set_option linter.unusedVariables false
set_option linter.unusedSimpArgs false
set_option maxHeartbeats 8000000
namespace Go.Proofs.YtapimhjbilkfpaaGreatDoor
open Go Go.Proofs.Tryz Go.RowKit Go.Shelf List
set_option maxRecDepth 4000
theorem Rf(M:Mem)(w:World)(R:VP)(k b2 b3 b4 b5 b6 b7 D i:Nat)(s:Dk×B8)(N:Mem)(env:Env)(a:Act)(W:World)(hap:Da b2 b3 b4 b5 b6)(hB7:w.heap.size<=b7)(hBD:w.heap.size<=D)(hok:s.1.ok)(hN:CN M b2 b3 b4 b5 b6 i s.1 N)(hC:Core M w b7 N W s.2)(hD:W.heap[D]?=some (.deferred (some [])))(nD:N D=none)
  (e2:env 2=.pointer (some ⟨b2,0,none⟩)) (e3:env 3=.pointer (some ⟨b3,0,none⟩)) (e4:env 4=.pointer (some ⟨b4,0,none⟩)) (e5:env 5=.pointer (some ⟨b5,0,none⟩)) (e7:env 7=.pointer (some ⟨b7,0,none⟩)) (hf:fX [{ target:=.collected D,args:=#[] }] 41 env a)
  (hR:∀ v M',Own M v (strs s.1.ms) M'->R (.tuple #[dkV s.1 v,str s.2,.bool true]) M') :
  (Code.seq Eo .ret).wpIn (iT none) k prog (bodyPostM Fence.wide k prog Tryz.f27 (Sc M w R)) a W:=by
 refine wpIn_seq ?_;unfold Eo;refine wpIn_region_list ?_;refine jy (ro:=none) (k:=k) (n:=41) (M0:=N) (w0:=W) (K:=UO M b2 b3 b4 b7 s.1 N) aU [wA,wO,Dq,tL,rV,tJ] [Dq,tL,rV,tJ] ?_ [wA,wO] env N a W (by kernel_rfl) (Td M b2 b3 b4 b5 b6 b7 i s.1 N env hok hN e2 e3 e4 e5 e7) hf hC.rep (Ext.refl N W);intro env2 N2 a2 W2 f2 r2 x2 hK;have hC2:=hC.step x2 r2 hK.new;have hD2:=cf x2 hD nD;have nD2:=dC x2 hK.new (aQ hD) nD;obtain⟨p,v,hp,hb,ho,hne,hg,hz⟩:=hC2.bd;have hgB:∀ g,v.ownBlock=some g->w.heap.size<=g:=fun g hgo=>(jr ho hgo).1;refine wpListIn_plain rfl fun K hK2=>?_;refine vD (env:=env2) (x:=.func 56) rfl rfl ⟨_,func56,by kernel_rfl,by kernel_rfl⟩ f2.ev ?_;have hargs:((#[.tmp 7]:Array Operand).toList.map (ev env2)).toArray = #[.pointer (some ⟨b7,0,none⟩)]:=by
  show #[env2 7]=_;rw[hK.e7]
 rw[hargs];refine(Qs w.heap.size b7 s.2 p v W2 hb ho hz).mono ?_
 rintro e W3 ⟨rfl,hT⟩
 refine⟨_,rfl,hK2 _ _ ?_⟩;have hr3:=jq hC2.rep hT hC2.n7 hg;have hx3:=jm hC2.ext hT hB7 hgB;have hD3:W3.heap[D]?=some (.deferred (some [])):=(hT.block D (aQ hD2) (by rintro rfl;rw[hb]at hD2;cases hD2) (fun e=>by
  obtain⟨_,c,fz,hh⟩:=jr ho e;rw[hD2]at hh;cases hh)).trans hD2
 have f3:=f2.put (d:=some 40) (fun t e=>by cases e;decide) (str s.2);refine Km (ro:=none) (k:=k) (n:=41) (M0:=N2) (w0:=W3) (K:=X8 R N2) aU [wA,wO,Dq,tL,rV,tJ] ?_ [tL,rV,tJ] (put env2 (some 40) (str s.2)) N2 _ W3 (by kernel_rfl) (MZ M R b2 b3 b4 b5 b6 b7 s.1 s.2 N N2 env2 hap hK hR) f3 hr3 (Ext.refl N2 W3)
 rintro env4 N4 a4 W4 f4 r4 x4 ⟨w4,hdone⟩
 show Code.ret.wpIn _ _ _ _ a4 W4;refine wpIn_ret ?_;exact Co f4 r4 (hx3.trans x4) (cf x4 hD3 nD2) (dC x4 w4 (aQ hD3) nD2) hBD hdone
theorem Oh(args:List Value)(n:Nat)(h:args.length<=n):fX [] n (lR args 0) ({ tmps:=args.toArray++Array.replicate (n-args.toArray.size) undef,defers:=[] }:Act):=by
 rw[<-Me];refine⟨rfl,by simp;omega,?_⟩
 funext x
 cases x with
 | tmp t=>
  simp only[Act.eval,ev,oM,Array.getD_eq_getD_getElem?,gDe];rw[Array.getElem?_append];split
  .simp
  .rename_i hlt;rw[getElem?_eq_none (by simpa using hlt)];simp only[Array.getElem?_replicate];split<;>rfl
 | const v=>rfl
 | global g=>rfl
 | func f=>rfl
theorem Lb(f i:Nat)(s:Dk×B8):goX f [] i s=some s:=by
 cases f with
 | zero=>rfl
 | succ f=>unfold goX;rw[if_pos rfl]
theorem De(l:B8)(M:Mem)(R:VP)(hl:l.length<=1500000)(hvar:cj M)(h1:∀ d t v M',DZ l=some (d,t)->Own M v (strs d.ms) M'->R (.tuple #[dkV d v,str t,.bool true]) M')
  (h0:DZ l=none->R (.tuple #[.agg #[str [],str [],.slice none 0 0],str [],.bool false]) M):ar prog 27 [str l] M R:=by
 refine⟨⟨_,func27,by kernel_rfl,by kernel_rfl⟩,fun w hw=>(callsIn_wide (n:=4)).1 ?_⟩;refine callsIn_of_wp_marks func27 Pj trivial ?_ rfl;have hfit:=Oh [str l] 41 (by show 1<=41;omega);unfold Mp;refine KN (ro:=none) (k:=4) (ds:=[]) (n:=41) aU _ (M0:=M) (w0:=w) ?hq ?hz [Lj,Mm,LZ] (lR [str l] 0) M _ w (by kernel_rfl) (Qb l M R hl (fun h=>h0 (by unfold DZ;rw[if_neg (by omega)]))) hfit hw (Ext.refl M w)
 case hq=>
  rintro e a w1 hne ⟨env,N,f,r,x,h⟩
  cases e with
  | ret=>exact Jb f r x h
  | normal=>exact absurd rfl hne
  | exit id=>exact h.elim
  | goto id=>exact h.elim
  | panic c=>exact h.elim
  | outgrown=>exact h.elim
 case hz=>
  rintro env N a W f r x ⟨b2,b3,b4,b5,b6,hap,e2,e3,e4,e5,e6,e0,hN,h4⟩
  refine wpIn_seq ?_;unfold TG;refine wpIn_region_list ?_;show wpListIn _ _ _ _ _ [Gk] a W;refine wpListIn_plain rfl fun K hK=>⟨fun _ _=>trivial,?_⟩;rw[Oper.semAt_eq _ _ _ (y8 (o:=Gk) rfl),Bz];show K (a.put (some 7) (.pointer (some ⟨W.heap.size,0,none⟩))) _;refine hK _ _ (wpListIn_nil ?_);show Code.wpIn _ _ _ _ _ _ _;have f1:=f.put (d:=some 7) (fun t e=>by cases e;decide) (.pointer (some ⟨W.heap.size,0,none⟩));have hC1:Core M w W.heap.size N (W.alloc (.cells #[.pointer none,.slice none 0 0] 71)) []:=⟨BY r _,BR x _,mv r (lRf _),.pointer none,.slice none 0 0,.inl rfl,World.alloc_heap_new W _,⟨rfl,.inl ⟨rfl,rfl⟩⟩,(by simp[Value.ownBlock]),(by intro g e;cases e),fun _=>rfl⟩;have hB7:w.heap.size<=W.heap.size:=x.size;generalize W.alloc (.cells #[.pointer none,.slice none 0 0] 71)=W1 at *;generalize W.heap.size=b7 at *;generalize a.put (some 7) (.pointer (some ⟨b7,0,none⟩))=a1 at *;refine wpIn_seq ?_;refine wpIn_seq ?_;unfold Tx;refine wpIn_region_list ?_;refine jy (ro:=none) (k:=4) (ds:=[]) (n:=41) (M0:=N) (w0:=W1) (K:=fun env2 N2=>N=N2/\env2=put (put env (some 7) (.pointer (some ⟨b7,0,none⟩))) (some 16) (str l)) aU [Ee,Ez] [Ez] ?_ [Ee] (put env (some 7) (.pointer (some ⟨b7,0,none⟩))) N a1 W1 (by kernel_rfl) (by unfold Ee;simp(disch:=omega)[e0]) f1 hC1.rep (Ext.refl N W1)
  rintro env2 N2 a2 W2 f2 r2 x2 ⟨hNN,hE⟩
  subst hNN;subst hE;have hC2:=hC1.step x2 r2 (cP.refl N);refine wpListIn_plain rfl fun K hK=>?_;refine vD (x:=.func 53) rfl rfl ⟨_,func53,by kernel_rfl,by kernel_rfl⟩ f2.ev ?_;refine(FT l W2).mono ?_
  rintro e W3' ⟨rfl,rfl⟩
  refine⟨_,rfl,hK _ _ (wpListIn_nil ?_)⟩;have f3:=f2.put (d:=some 17) (fun t e=>by cases e;decide) (.func (.func 93) #[] #[.pointer (some ⟨W2.heap.size,0,none⟩)]);have hC3:=qL hC2 (.cells #[.string ⟨l.toArray⟩] 9);have hBs3:(W2.alloc (.cells #[.string ⟨l.toArray⟩] 9)).heap[W2.heap.size]?=some (.cells #[.string ⟨l.toArray⟩] 9 (0,0)):=World.alloc_heap_new W2 _;have nBs:N W2.heap.size=none:=mv r2 (lRf _);have hwB:w.heap.size<=W2.heap.size:=hC2.ext.size;show Code.wpIn _ _ _ zc _ _ _;generalize W2.alloc (.cells #[.string ⟨l.toArray⟩] 9)=W3 at *;generalize W2.heap.size=Bs at *;have e17:(a2.put (some 17) (.func (.func 93) #[] #[.pointer (some ⟨Bs,0,none⟩)])).eval (.tmp 17)=.func (.func 93) #[] #[.pointer (some ⟨Bs,0,none⟩)]:=by rw[f3.ev];simp[ev]
  have hdst:Ez.dst=some 17:=rfl;rw[hdst];generalize a2.put (some 17) (.func (.func 93) #[] #[.pointer (some ⟨Bs,0,none⟩)])=a3 at *;unfold zc;refine wpIn_block (wpIn_rangeFunc ?_);intro fn _;obtain⟨W4,hW4⟩:∃ W4,(W3.alloc (.deferred (some []))).alloc (.loop (iQ a3.tmps W3.heap.size fn .ready none))=W4:=⟨_,rfl⟩;have hC4:Core M w b7 N W4 []:=by rw[<-hW4];exact qL (qL hC3 _) _
  have hL4:W4.heap[W3.heap.size+1]?=some (.loop (iQ a3.tmps W3.heap.size fn .ready none)):=by
   rw[<-hW4];have:=World.alloc_heap_new (W3.alloc (.deferred (some []))) (.loop (iQ a3.tmps W3.heap.size fn .ready none));rwa[World.size_alloc]at this
  have hD4:W4.heap[W3.heap.size]?=some (.deferred (some [])):=by rw[<-hW4];exact(Below.heap_alloc _ _ _ (by simp)).trans (World.alloc_heap_new W3 _)
  have hlt:=aQ hBs3;have hB4:W4.heap[Bs]?=some (.cells #[str l] 9 (0,0)):=by rw[<-hW4];exact((Below.heap_alloc _ _ _ (by simp;omega)).trans (Below.heap_alloc _ _ _ hlt)).trans hBs3
  have nL:N (W3.heap.size+1)=none:=mv hC3.rep (by omega);have nD:N W3.heap.size=none:=mv hC3.rep (lRf _);have hwl:w.heap.size<=W3.heap.size:=hC3.ext.size;refine⟨W3.heap.size+1,[{ target:=.collected W3.heap.size,args:=#[] }],W4,{ target:=.fn (.func 93) #[.pointer (some ⟨Bs,0,none⟩)],args:=#[.func (.yield (W3.heap.size+1)) #[] #[]] },W4,93,
   #[.func (.yield (W3.heap.size+1)) #[] #[]] ++ #[.pointer (some ⟨Bs,0,none⟩)],W4,?_,?_,fun _ _=>trivial,?_,fun e=>(by cases e),?_⟩
  .rw[<-hW4];exact run_enterLoop_outer _ _ _ _ _
  .have e17':a3.tmps[17]?.getD undef=.func (.func 93) #[] #[.pointer (some ⟨Bs,0,none⟩)]:=by simpa[Act.eval] using e17
   simp[resolve,e17',go_sem,Deferred.ofValue]
  .simp[invoke,go_sem]
  generalize hlq:W3.heap.size+1=l7 at *;generalize W3.heap.size=D at *;clear hW4 hC3 hBs3;have hlD:l7≠D:=by omega
  have hlB:l7≠Bs:=by omega
  have hDB:D≠Bs:=by omega
  have hfit3:=f3.bare;have hround:=fun (r:B8) (W:World) (hJ:JC M w b2 b3 b4 b5 b6 b7 l7 D Bs a3.tmps fn (goX l.length l 0 (dZ,[])) r W) (hr:r≠[]) (hrl:r.length<=4000)=>
   Ni M w b2 b3 b4 b5 b6 b7 l7 D Bs a3.tmps fn (goX l.length l 0 (dZ,[])) _ 2 hap hvar hB7 (by omega) hlD hlB hfit3.size hfit3.ev (by simp[e2]) (by simp[e3]) (by simp[e4]) (by simp[e5]) (by simp[e6]) (by simp) r W hJ hr (by omega)
  have hkeep:∀(r:B8) (W W':World),JC M w b2 b3 b4 b5 b6 b7 l7 D Bs a3.tmps fn (goX l.length l 0 (dZ,[])) r W->eO Bs none W W'->(∀ c,W.heap[Bs]?=some (.cells c 9 (0,0))->∃ c',W'.heap[Bs]?=some (.cells c' 9 (0,0)))->JC M w b2 b3 b4 b5 b6 b7 l7 D Bs a3.tmps fn (goX l.length l 0 (dZ,[])) r W':=by
   rintro r W W' ⟨f,i,s,N5,hf,hi,hok,hsl,hZ,hN5,hC5,nl5,nD5,nB5,hL5,hD5,c5,hBs5⟩ hT hc
   exact⟨f,i,s,N5,hf,hi,hok,hsl,hZ,hN5,hC5.turns hT nB5 hwB (fun c fz e=>by rw[hBs5]at e;cases e) (fun c fz e=>by rw[hBs5]at e;cases e),nl5,nD5,nB5,(hT.block l7 (aQ hL5) hlB (fun e=>by cases e)).trans hL5,(hT.block D (aQ hD5) hDB (fun e=>by cases e)).trans hD5,hc c5 hBs5⟩
  refine(OE 2 l7 Bs 4000 (by omega) (JC M w b2 b3 b4 b5 b6 b7 l7 D Bs a3.tmps fn (goX l.length l 0 (dZ,[]))) (JX M w b2 b3 b4 l7 D a3.tmps fn (goX l.length l 0 (dZ,[]))) ?h1 ?h2 ?h3 W4 l h4 hB4 ?h4).mono ?h5
  case h1=>exact fun r W v hJ=>hkeep r W _ hJ (eO.cell Bs none W 0 v) (fun c hc=>⟨c.setIfInBounds 0 v,by simp[World.setCell,Array.getElem?_modify,hc]⟩)
  case h2=>exact fun r W hJ=>hkeep r W _ hJ ⟨rfl,rfl,rfl,lRf _,fun _ _ _ _=>rfl⟩ (fun c hc=>⟨c,hc⟩)
  case h3=>exact fun r W hJ hr hrl=>hround r W hJ hr hrl
  case h4=>exact⟨l.length,0,(dZ,[]),N,lRf _,by omega,lC,lZe _,rfl,hN,hC4,nL,nD,nBs,hL4,hD4,_,hB4⟩
  case h5=>
   rintro e W5 ⟨⟨v0,rfl⟩,hJ|hX⟩
   .obtain⟨f,i,s,N5,hf,hi,hok,hsl,hZ,hN5,hC5,nl5,nD5,nB5,hL5,hD5,c5,hBs5⟩:=hJ;rw[Lb]at hZ;refine⟨none,_,run_endLoop hL5 (by simp),?_⟩;have hT:=fm W5 l7 (.loop { iQ a3.tmps D fn .ready none with state:=.exhausted });have hC6:=hC5.turns hT nl5 (by omega) (fun c fz e=>by rw[hL5]at e;cases e) (fun c fz e=>by rw[hL5]at e;cases e);have hD6:=(hT.block D (aQ hD5) (Ne.symm hlD) (fun e=>by cases e)).trans hD5;have hcx:DZ l=some (s.1,s.2):=by unfold DZ;rw[if_pos h4,<-hZ]
    show (Code.seq Eo .ret).wpIn _ _ _ _ _ _;exact Rf M w R 4 b2 b3 b4 b5 b6 b7 D i s N5 _ _ _ hap hB7 hwl hok hN5 hC6 hD6 nD5 (by simp[e2]) (by simp[e3]) (by simp[e4]) (by simp[e5]) (by simp) ⟨by show [_]++a3.defers=_;rw[f3.defers];rfl,f3.size,f3.ev⟩ (fun v M' o=>h1 s.1 s.2 v M' hcx o)
   .obtain⟨hZ,N5,r5,x5,s5,k2,k3,k4,nl5,nD5,hL5,hD5⟩:=hX;refine⟨some .ret,_,run_endLoop hL5 (by simp),wpIn_ret ?_⟩;have hT:=fm W5 l7 (.loop { iQ a3.tmps D fn .done (some .ret) with state:=.exhausted });have hD6:=(hT.block D (aQ hD5) (Ne.symm hlD) (fun e=>by cases e)).trans hD5;have hcx:DZ l=none:=by unfold DZ;rw[if_pos h4,hZ]
    have h:=h0 hcx;show bodyPostM _ _ _ _ _ .ret _ _;refine Co (env:=put (put (put env (some 7) (.pointer (some ⟨b7,0,none⟩))) (some 16) (str l)) (some 17) (.func (.func 93) #[] #[.pointer (some ⟨Bs,0,none⟩)])) ⟨by show [_]++a3.defers=_;rw[f3.defers];rfl,f3.size,f3.ev⟩ (jq r5 hT nl5 (fun g e=>by cases e)) (jm x5 hT (by omega) (fun g e=>by cases e)) hD6 nD5 hwl ?_;have hres:Tryz.f27.results.toList=[.cell 2 28,.cell 3 9,.cell 4 4]:=by kernel_rfl
    rw[hres];simp(disch:=omega)[e2,e3,e4,aq k2,ak k3,ak k4];exact ag s5 h
end Go.Proofs.YtapimhjbilkfpaaGreatDoor
namespace Go.Proofs.YtapimhjbilkfpaaGreatDoor
open Go Go.Proofs.Tryz Go.RowKit List
theorem H3(c:UInt8):∀(l:B8) (m:Nat),Lib.indexByte l c=m->l.take (m+1)=l.take m++[c]
 | [],m,h=>by unfold Lib.indexByte at h;omega
 | b::l,m,h=>by
  unfold Lib.indexByte at h;split at h
  .rename_i h1;obtain rfl:m=0:=by omega
   have:b=c:=by simpa using h1
   subst this;rfl
  .split at h
   .omega
   .rename_i h2;have h4:Lib.indexByte l c≠-1:=by simpa using h2
    have h3:=Lib.indexByte_ge l c;obtain⟨k,rfl⟩:∃ k,m=k+1:=⟨m-1,by omega⟩;have ih:=H3 c l k (by omega);rw[take_succ_cons,ih];rfl
theorem QJ(l:B8):Lib.trimSuffix (l++[10]) [10]=l:=by
 unfold Lib.trimSuffix Lib.hasSuffix;rw[if_pos (by simp)];simp
theorem NC{l:B8}(h:l.count 10=0):Lib.trimSuffix l [10]=l:=by
 unfold Lib.trimSuffix Lib.hasSuffix;rw[if_neg];intro hs;have h1:=isSuffixOf_iff_suffix.1 hs;have h2:(10:UInt8)∈l:=h1.subset (by simp);have:=count_pos_iff.2 h2;omega
theorem vF:cL []=[]:=by unfold cL;rfl
theorem Jh{r:B8}(h:r≠[]):cL r=Lib.trimSuffix (iK r) [10]::cL (fp r):=by
 rcases pw 10 r with ⟨h1,h2,h3⟩|⟨m,h1,h2,h3,h4⟩
 .have e1:iK r=r:=by unfold iK;rw[if_neg (by omega)]
  have e2:fp r=[]:=by unfold fp;rw[if_neg (by omega)]
  rw[e1,e2,vF,NC h2];unfold cL;have hl:(spR 10 r).getLast (iV 10 r)=r:=by simp[h3]
  rw[hl,if_neg h,h3]
 .have e1:iK r=r.take (m+1):=by unfold iK;rw[if_pos (by omega),h1];rfl
  have e2:fp r=r.drop (m+1):=by unfold fp;rw[if_pos (by omega),h1];rfl
  rw[e1,e2,H3 10 r m h1,QJ];have hl:(spR 10 r).getLast (iV 10 r)=(spR 10 (r.drop (m+1))).getLast (iV 10 _):=by
   have:∀(a:List B8) (x:B8) (b:List B8) (ha:a≠[]) (hb:b≠[]),a=x::b->a.getLast ha=b.getLast hb:=by
    intro a x b ha hb e;subst e;exact getLast_cons hb
   exact this _ _ _ _ _ h3
  unfold cL;rw[hl];by_cases hz:(spR 10 (r.drop (m+1))).getLast (iV 10 _)=[]
  .rw[if_pos hz,if_pos hz,h3,dropLast_cons_of_ne_nil (iV 10 _)]
  .rw[if_neg hz,if_neg hz,h3]
theorem PB:∀(f:Nat) (r:B8) (i:Nat) (s:Dk×B8),r.length<=f->i<=40->goX f r i s=if i+(cL r).length<=40 then some ((cL r).foldl cD s) else none
 | 0,r,i,s,hr,hi=>by
  obtain rfl:r=[]:=length_eq_zero_iff.1 (by omega);rw[vF,if_pos (by simpa using hi)];rfl
 | f+1,r,i,s,hr,hi=>by
  by_cases hn:r=[]
  .subst hn;rw[Lb,vF,if_pos (by simpa using hi)];rfl
  .have ht:=po hn;unfold goX;rw[if_neg hn,Jh hn];by_cases h40:40<i+1
   .rw[if_pos h40,if_neg (by rw[lCo];omega)]
   .rw[if_neg h40,PB f (fp r) (i+1) _ (by omega) (by omega)];by_cases hle:i+1+(cL (fp r)).length<=40
    .rw[if_pos hle,if_pos (by rw[lCo];omega)];rfl
    .rw[if_neg hle,if_neg (by rw[lCo];omega)]
theorem yd(l:B8):DZ l=fB l:=by
 unfold DZ fB;by_cases h4:l.length<=4000
 .rw[if_pos h4,PB l.length l 0 _ (lRf _) (by omega)];by_cases hm:(cL l).length<=40
  .rw[if_pos (by omega),if_pos ⟨h4,hm⟩];unfold ji;rw[take_length]
  .rw[if_neg (by omega),if_neg (fun h=>hm h.2)]
 .rw[if_neg h4,if_neg (fun h=>h4 h.1)]
def kA(l:B8):B8:=match fB l with|some (_,t)=>t|none=>[]
theorem tT(l:B8)(M:Mem)(R:VP)(hl:l.length<=1500000)(hvar:cj M)(h:R (str (kA l)) M):ar prog 9 [str l] M R:=by
 refine fnT func9 rfl ntmps9 results9 ?_;refine De l M _ hl hvar ?_ ?_
 .intro d t v M' hc o;rw[yd]at hc;have e:kA l=t:=by unfold kA;rw[hc]
  rw[e]at h;have hf:=aD o.rd;have s1:=o.sub;unfold dkV;refine sS ?_;intro b3 hb3;simp(disch:=omega)[hf,aj,aN];exact ag (s1.putN hb3 _) h
 .intro hc;rw[yd]at hc;have e:kA l=[]:=by unfold kA;rw[hc]
  rw[e]at h;refine sS ?_;intro b3 hb3;simp(disch:=omega)[aj,aN];exact ag ((Sub.refl M).putN hb3 _) h
theorem rS(l:B8)(M:Mem)(R:VP)(hl:l.length<=1500000)(h:R (str (kA l)) M):ar prog 8 [str l] M R:=by
 refine fnT func8 rfl ntmps8 results8 ?_;refine Ca l M _ hl ?_ ?_
 .intro d t v M' hc o;have e:kA l=t:=by unfold kA;rw[hc]
  rw[e]at h;have hf:=aD o.rd;have s1:=o.sub;unfold dkV;refine sS ?_;intro b3 hb3;simp(disch:=omega)[hf,aj,aN];exact ag (s1.putN hb3 _) h
 .intro hc;have e:kA l=[]:=by unfold kA;rw[hc]
  rw[e]at h;refine sS ?_;intro b3 hb3;simp(disch:=omega)[aj,aN];exact ag ((Sub.refl M).putN hb3 _) h
end Go.Proofs.YtapimhjbilkfpaaGreatDoor
namespace Go.Proofs.YtapimhjbilkfpaaGreatDoor
open Go Go.Proofs.Tryz List
def dx(w p:B8)(ws:List B8):Bool:=isWord w&&(a8 p&&aY ws)
theorem nE(w p:B8)(v:Value)(ws:List B8)(M:Mem)(R:VP)(hv:Rd M v (strs ws))(hw:w.length<=1099511627776)(hp:p.length<=1099511627776)(hf:cS ws)(hn:ws.length<=1099511627776)(h:R (.bool (dx w p ws)) M):ar prog 24 [iC w p v] M R:=by
 unfold iC;refine fnS func24 rfl ntmps24 results24 ?_;obtain⟨a,c,rfl,ha⟩:=hv.opened;rw[ah]at ha hv ⊢;refine sS ?_;intro b1 hb1;have hs1:=(Sub.refl M).put hb1 (.cells true [str w,str p,.slice a ws.length c] 3);have hv1:=hv.put hb1 (.cells true [str w,str p,.slice a ws.length c] 3);unfold dx at h;refine sS ?_;refine bg w _ _ hw ?_;cases e1:isWord w
 .rw[e1,Bool.false_and]at h;refine sS ?_;exact ag hs1 h
 .rw[e1,Bool.true_and]at h;refine sS ?_;refine gU p _ _ hp ?_;cases e2:a8 p
  .rw[e2,Bool.false_and]at h;refine sS ?_;exact ag hs1 h
  .rw[e2,Bool.true_and]at h;refine sS ?_;refine fK _ ws _ _ hv1 hf hn ?_;refine sS ?_;exact ag hs1 h
theorem iB(w p:B8)(v:Value)(ws:List B8)(M:Mem)(R:VP)(hv:Rd M v (strs ws))(hw:w.length<=1099511627776)(hp:p.length<=1099511627776)(hf:cS ws)(hn:ws.length<=1099511627776)(h:R (.bool (dx w p ws)) M):ar prog 23 [iC w p v] M R:=by
 unfold iC;refine fnS func23 rfl ntmps23 results23 ?_;obtain⟨a,c,rfl,ha⟩:=hv.opened;rw[ah]at ha hv ⊢;refine sS ?_;intro b1 hb1;have hs1:=(Sub.refl M).put hb1 (.cells true [str w,str p,.slice a ws.length c] 3);have hv1:=hv.put hb1 (.cells true [str w,str p,.slice a ws.length c] 3);unfold dx at h;refine sS ?_;refine fY w _ _ hw ?_;cases e1:isWord w
 .rw[e1,Bool.false_and]at h;refine sS ?_;exact ag hs1 h
 .rw[e1,Bool.true_and]at h;refine sS ?_;refine gE p _ _ hp ?_;cases e2:a8 p
  .rw[e2,Bool.false_and]at h;refine sS ?_;exact ag hs1 h
  .rw[e2,Bool.true_and]at h;refine sS ?_;refine iU _ ws _ _ hv1 hf hn ?_;refine sS ?_;exact ag hs1 h
end Go.Proofs.YtapimhjbilkfpaaGreatDoor
namespace Go.Proofs.YtapimhjbilkfpaaGreatDoor
open Go Go.Proofs.Tryz Go.RowKit List
def daD(l:B8):Dk:=match fB l with|some (d,_)=>d|none=>⟨[],[],[]⟩
def daB(l:B8):Bool:=(fB l).isSome
theorem pX(l:B8)(M:Mem)(R:VP)(hl:l.length<=1500000)(hvar:cj M)(h:∀ v M',Own M v (strs (daD l).ms) M'->R (.tuple #[dkV (daD l) v,.bool (daB l)]) M'):ar prog 10 [str l] M R:=by
 refine fnT func10 rfl ntmps10 results10 ?_;intro b1 hb1;have s1:=(Sub.refl M).put hb1 (.cells true [str [],str [],.slice none 0 0] 3);have k1:=ae M b1 (.cells true [str [],str [],.slice none 0 0] 3);generalize M.put b1 (.cells true [str [],str [],.slice none 0 0] 3)=N at *;refine sS ?_;refine De l N _ hl (hvar.sub s1) ?_ ?_
 .intro d t v M' hc o;rw[yd]at hc;have e1:daD l=d:=by unfold daD;rw[hc]
  have e2:daB l=true:=by unfold daB;rw[hc];rfl
  rw[e1,e2]at h;have k1':=o.sub _ _ k1;obtain⟨M2,o2,s2,n2⟩:=dI s1 o;have m1:=n2 _ _ hb1 k1;have h:=h v M2 o2;have hf:=aD o.rd;unfold dkV at h ⊢;refine sS ?_;intro b3 hb3;have n13:b1≠b3:=by rintro rfl;rw[k1']at hb3;cases hb3
  have kq:(M'.put b3 (.cells true [str d.w,str d.p,v] 3)) b1=some (.cells true [str [],str [],.slice none 0 0] 3):=by rw[al _ _ n13];exact k1'
  have k3:=ae M' b3 (.cells true [str d.w,str d.p,v] 3);have s3:=s2.putN hb3 (.cells true [str d.w,str d.p,v] 3);simp(disch:=omega)[hf,aj,aN];generalize M'.put b3 (.cells true [str d.w,str d.p,v] 3)=P at *;simp(disch:=omega)[k1',aj,hf];exact ag (s3.ovr m1 _) h
 .intro hc;rw[yd]at hc;have e1:daD l=⟨[],[],[]⟩:=by unfold daD;rw[hc]
  have e2:daB l=false:=by unfold daB;rw[hc];rfl
  rw[e1,e2]at h;have h:=h (.slice none 0 0) M (Own.nil M);unfold dkV at h;refine sS ?_;intro b3 hb3;have n13:b1≠b3:=by rintro rfl;rw[k1]at hb3;cases hb3
  have kq:(N.put b3 (.cells true [str [],str [],.slice none 0 0] 3)) b1=some (.cells true [str [],str [],.slice none 0 0] 3):=by rw[al _ _ n13];exact k1
  have k3:=ae N b3 (.cells true [str [],str [],.slice none 0 0] 3);have s3:=s1.putN hb3 (.cells true [str [],str [],.slice none 0 0] 3);simp(disch:=omega)[aj,aN];generalize N.put b3 (.cells true [str [],str [],.slice none 0 0] 3)=P at *;simp(disch:=omega)[k1,aj];exact ag (s3.ovr hb1 _) h
theorem pZ(l:B8)(M:Mem)(R:VP)(hl:l.length<=1500000)(h:∀ v M',Own M v (strs (daD l).ms) M'->R (.tuple #[dkV (daD l) v,.bool (daB l)]) M'):ar prog 11 [str l] M R:=by
 refine fnT func11 rfl ntmps11 results11 ?_;intro b1 hb1;have s1:=(Sub.refl M).put hb1 (.cells true [str [],str [],.slice none 0 0] 3);have k1:=ae M b1 (.cells true [str [],str [],.slice none 0 0] 3);generalize M.put b1 (.cells true [str [],str [],.slice none 0 0] 3)=N at *;refine sS ?_;refine Ca l N _ hl ?_ ?_
 .intro d t v M' hc o
  skip
  have e1:daD l=d:=by unfold daD;rw[hc]
  have e2:daB l=true:=by unfold daB;rw[hc];rfl
  rw[e1,e2]at h;have k1':=o.sub _ _ k1;obtain⟨M2,o2,s2,n2⟩:=dI s1 o;have m1:=n2 _ _ hb1 k1;have h:=h v M2 o2;have hf:=aD o.rd;unfold dkV at h ⊢;refine sS ?_;intro b3 hb3;have n13:b1≠b3:=by rintro rfl;rw[k1']at hb3;cases hb3
  have kq:(M'.put b3 (.cells true [str d.w,str d.p,v] 3)) b1=some (.cells true [str [],str [],.slice none 0 0] 3):=by rw[al _ _ n13];exact k1'
  have k3:=ae M' b3 (.cells true [str d.w,str d.p,v] 3);have s3:=s2.putN hb3 (.cells true [str d.w,str d.p,v] 3);simp(disch:=omega)[hf,aj,aN];generalize M'.put b3 (.cells true [str d.w,str d.p,v] 3)=P at *;simp(disch:=omega)[k1',aj,hf];exact ag (s3.ovr m1 _) h
 .intro hc
  skip
  have e1:daD l=⟨[],[],[]⟩:=by unfold daD;rw[hc]
  have e2:daB l=false:=by unfold daB;rw[hc];rfl
  rw[e1,e2]at h;have h:=h (.slice none 0 0) M (Own.nil M);unfold dkV at h;refine sS ?_;intro b3 hb3;have n13:b1≠b3:=by rintro rfl;rw[k1]at hb3;cases hb3
  have kq:(N.put b3 (.cells true [str [],str [],.slice none 0 0] 3)) b1=some (.cells true [str [],str [],.slice none 0 0] 3):=by rw[al _ _ n13];exact k1
  have k3:=ae N b3 (.cells true [str [],str [],.slice none 0 0] 3);have s3:=s1.putN hb3 (.cells true [str [],str [],.slice none 0 0] 3);simp(disch:=omega)[aj,aN];generalize N.put b3 (.cells true [str [],str [],.slice none 0 0] 3)=P at *;simp(disch:=omega)[k1,aj];exact ag (s3.ovr hb1 _) h
def zDk:Dk:=⟨[],[],[]⟩
def rlD(d:Dk)(l:B8):Dk:=if dx d.w d.p d.ms then (dr d l).1 else zDk
def rlT(d:Dk)(l:B8):B8:=if dx d.w d.p d.ms then (dr d l).2 else []
theorem ya{d:Dk}(h:dx d.w d.p d.ms=true):d.ok:=by
 unfold dx at h;rw[bAn,bAn]at h;exact h
theorem gG(d:Dk)(v:Value)(l:B8)(M:Mem)(R:VP)(hw:d.w.length<=1099511627776)(hp:d.p.length<=1099511627776)(hfi:cS d.ms)(hn:d.ms.length<=1099511627776)(hvar:cj M)(hv:Rd M v (strs d.ms))(hl:l.length<=1500000)
  (h:∀ v' M',Own M v' (strs (rlD d l).ms) M'->R (.tuple #[dkV (rlD d l) v',str (rlT d l)]) M'):ar prog 14 [dkV d v,str l] M R:=by
 have hf:=aD hv;unfold dkV at h ⊢;refine fnT func14 rfl ntmps14 results14 ?_;intro b1 hb1;have h1:=(Sub.refl M).put hb1 (.cells true [str d.w,str d.p,v] 3);refine sS ?_;intro b2 hb2;have h2:=hb2;rw[aG]at h2;have sN:=h1.putN hb2 (.cells true [str [],str [],.slice none 0 0] 3);have k1:=pOne h2.1 M (.cells true [str d.w,str d.p,v] 3) (.cells true [str [],str [],.slice none 0 0] 3);have k2:=ae (M.put b1 (.cells true [str d.w,str d.p,v] 3)) b2 (.cells true [str [],str [],.slice none 0 0] 3);generalize (M.put b1 (.cells true [str d.w,str d.p,v] 3)).put b2 (.cells true [str [],str [],.slice none 0 0] 3)=N at *;have hvN:=hv.sub sN;simp(disch:=omega)[aq k1];refine iB d.w d.p v d.ms _ _ hvN hw hp hfi hn ?_;unfold rlD rlT at h;cases hd:dx d.w d.p d.ms
 .rw[hd]at h;have h:=h (.slice none 0 0) M (Own.nil M);unfold zDk at h;simp(disch:=omega)[k2,aj];exact ag (sN.ovr h2.2 _) h
 .rw[hd]at h;have hok:=ya hd;simp(disch:=omega)[aq k1];refine HC d v l _ _ hok (hvar.sub sN) hvN hl ?_;intro d' v' t M4 hgv hr;have hro:=fx hok l;rw[if_pos rfl,hr]at h;rw[hr]at hro;have hf':=eS hf hgv;have k2':=da hgv _ _ k2;have hv4:=Qc hvN hgv;have s4:=sN.trans (da hgv);unfold dkV;refine sS ?_;intro b6 hb6;have n26:b2≠b6:=by rintro rfl;rw[k2']at hb6;cases hb6
  have k2q:(M4.put b6 (.cells true [str d'.w,str d'.p,v'] 3)) b2=some (.cells true [str [],str [],.slice none 0 0] 3):=by rw[al _ _ n26];exact k2'
  have k6q:=ae M4 b6 (.cells true [str d'.w,str d'.p,v'] 3);have s5:=s4.putN hb6 (.cells true [str d'.w,str d'.p,v'] 3);have hv5:=hv4.sub ((Sub.refl M4).put hb6 (.cells true [str d'.w,str d'.p,v'] 3));simp(disch:=omega)[hf',aj,aN];generalize M4.put b6 (.cells true [str d'.w,str d'.p,v'] 3)=M5 at *;refine C4 d' v' _ _ hro.2.2 hv5 ?_;intro v7 M7 o7;have q2:=o7.sub _ _ k2q;have hf7:=aD o7.rd;obtain⟨M',o8,s8,n8⟩:=dI s5 o7;have m2:=n8 _ _ h2.2 k2q;have h:=h v7 M' o8;unfold dkV;simp(disch:=omega)[q2,aj,hf7];exact ag (s8.ovr m2 _) h
theorem sO(d:Dk)(v:Value)(l:B8)(M:Mem)(R:VP)(hw:d.w.length<=1099511627776)(hp:d.p.length<=1099511627776)(hfi:cS d.ms)(hn:d.ms.length<=1099511627776)(hv:Rd M v (strs d.ms))(hl:l.length<=1500000)
  (h:∀ v' M',Own M v' (strs (rlD d l).ms) M'->R (.tuple #[dkV (rlD d l) v',str (rlT d l)]) M'):ar prog 16 [dkV d v,str l] M R:=by
 cases hd:dx d.w d.p d.ms
 .unfold rlD rlT at h;rw[hd]at h;have h:=h (.slice none 0 0) M (Own.nil M);have hf:=aD hv;unfold zDk dkV at h;unfold dkV;refine fnT func16 rfl ntmps16 results16 ?_;intro b1 hb1;have h1:=(Sub.refl M).put hb1 (.cells true [str d.w,str d.p,v] 3);refine sS ?_;intro b2 hb2;have h2:=hb2;rw[aG]at h2;have sN:=h1.putN hb2 (.cells true [str [],str [],.slice none 0 0] 3);have k1:=pOne h2.1 M (.cells true [str d.w,str d.p,v] 3) (.cells true [str [],str [],.slice none 0 0] 3);have k2:=ae (M.put b1 (.cells true [str d.w,str d.p,v] 3)) b2 (.cells true [str [],str [],.slice none 0 0] 3);generalize (M.put b1 (.cells true [str d.w,str d.p,v] 3)).put b2 (.cells true [str [],str [],.slice none 0 0] 3)=N at *;have hvN:=hv.sub sN;simp(disch:=omega)[aq k1];refine nE d.w d.p v d.ms _ _ hvN hw hp hfi hn ?_;rw[hd];simp(disch:=omega)[k2,aj];exact ag (sN.ovr h2.2 _) h
 .have hok:=ya hd;unfold rlD rlT at h;rw[hd,if_pos rfl,if_pos rfl]at h;exact bP d v l M R hok hv hl h
theorem OM(l:B8):(daD l).ms.length<=5:=by
 unfold daD fB;by_cases h:l.length<=4000/\(cL l).length<=40
 .rw[if_pos h];exact(aW (pg (cL l) (cL l).length (lRf _)).2.2).2
 .rw[if_neg h];exact lZe _
end Go.Proofs.YtapimhjbilkfpaaGreatDoor
namespace Go.Proofs.YtapimhjbilkfpaaGreatDoor
open Go Go.Proofs.Tryz List
theorem Ah{c:UInt8}:∀ {w:B8},(∀ u∈w,u≠c)->spR c w=[w]
 | [],_=>rfl
 | b::w,h=>by
  unfold spR;rw[if_neg (h b (by simp)),Ah fun u hu=>h u (mem_cons_of_mem _ hu)];rfl
theorem C2(s:Dk×B8):cD s []=s:=by unfold cD;rw[if_pos rfl]
theorem L8(c:UInt8)(b:B8):∀ a:B8,spR c (a++c::b)=spR c a++spR c b
 | []=>by
  show spR c (c::b)=[]::spR c b
  conv=>lhs;unfold spR
  rw[if_pos rfl]
 | x::a=>by
  have ih:=L8 c b a;have hne:=iV c a;have e1:spR c (x::(a++c::b))=if x=c then []::spR c (a++c::b) else (x::(spR c (a++c::b)).headD [])::(spR c (a++c::b)).tail:=rfl
  have e2:spR c (x::a)=if x=c then []::spR c a else (x::(spR c a).headD [])::(spR c a).tail:=rfl
  show spR c (x::(a++c::b))=spR c (x::a)++spR c b;rw[e1,e2,ih];cases ha:spR c a with
  | nil=>exact absurd ha hne
  | cons y ys=>split<;>rfl
theorem Ru(l:B8)(s:Dk×B8):(cL l).foldl cD s=(spR 10 l).foldl cD s:=by
 unfold cL;split
 .rename_i h;have e:=dropLast_concat_getLast (iV 10 l);rw[h]at e
  conv=>rhs;rw[<-e,foldl_append]
  exact(C2 _).symm
 .rfl
theorem HN(ls:List B8):ji ls ls.length=ls.foldl cD (dZ,[]):=by unfold ji;rw[take_length]
theorem Oc{l:B8}{p:Dk×B8}(h:fB l=some p):l.length<=4000/\(cL l).length<=40/\(cL l).foldl cD (dZ,[])=p:=by
 unfold fB at h;split at h
 .rename_i h1;injection h with h
  exact⟨h1.1,h1.2,by rw[<-HN];exact h⟩
 .cases h
theorem PO{l:B8}{b i:Nat}{s p:Dk×B8}(hb:b<=i)(hi:l[i]?=some 10)(hn:∀ u∈(l.take i).drop b,u≠10)(h:(spR 10 (l.drop b)).foldl cD s=p):(spR 10 (l.drop (i+1))).foldl cD (cD s ((l.take i).drop b))=p:=by
 have hlt:i<l.length:=by
  rcases Nat.lt_or_ge i l.length with h|h
  .exact h
  .rw[getElem?_eq_none h]at hi;cases hi
 have hv:l[i]=10:=by rw[gEl hlt]at hi;injection hi
 have e:l.drop b=(l.take i).drop b++10::l.drop (i+1):=by
  conv=>lhs;rw[<-take_append_drop i l,drop_eq_getElem_cons hlt,hv]
  rw[drop_append_of_le_length (by rw[lTa];omega)]
 rw[e,L8,Ah hn]at h;exact h
theorem NY{l:B8}{b:Nat}{s p:Dk×B8}(hn:∀ u∈(l.take l.length).drop b,u≠10)(h:(spR 10 (l.drop b)).foldl cD s=p):cD s ((l.take l.length).drop b)=p:=by
 rw[take_length]at hn ⊢;rw[Ah hn]at h;exact h
theorem MK{l:B8}{b i:Nat}{u:UInt8}(hb:b<=i)(hi:l[i]?=some u)(hu:u≠10)(hn:∀ u∈(l.take i).drop b,u≠10):∀ u∈(l.take (i+1)).drop b,u≠10:=by
 have hlt:i<l.length:=by
  rcases Nat.lt_or_ge i l.length with h|h
  .exact h
  .rw[getElem?_eq_none h]at hi;cases hi
 have hv:l[i]=u:=by rw[gEl hlt]at hi;injection hi
 rw[aw l hlt,drop_append_of_le_length (by rw[lTa];omega),hv];intro x hx;rcases mem_append.1 hx with hx|hx
 .exact hn x hx
 .rw[mem_singleton.1 hx];exact hu
end Go.Proofs.YtapimhjbilkfpaaGreatDoor
namespace Go.Proofs.YtapimhjbilkfpaaGreatDoor
open Go Go.Proofs.Tryz Go.RowKit List
theorem rr(w w' p p':B8)(v v':Value)(xs ys:List B8)(M:Mem)(R:VP)(hx:Rd M v (strs xs))(hy:Rd M v' (strs ys))(hl:xs.length<=1099511627776)(hl':ys.length<=1099511627776)
  (h:R (.bool ((w==w')&&((p==p')&&(xs==ys)))) M):ar prog 12 [iC w p v,iC w' p' v'] M R:=by
 unfold iC;obtain⟨a,c,rfl,ha⟩:=hx.opened;obtain⟨a',c',rfl,ha'⟩:=hy.opened;rw[ah]at hx hy ⊢;rw[ah];refine fnT func12 rfl ntmps12 results12 ?_;intro b1 hb1;refine sS ?_;intro b2 hb2;have h2:=hb2;rw[aG]at h2;have hs:Sub M ((M.put b1 (.cells true [str w,str p,.slice a xs.length c] 3)).put b2 (.cells true [str w',str p',.slice a' ys.length c'] 3)):=((Sub.refl _).put hb1 _).putN hb2 _;cases e1:(w==w')
 .rw[e1]at h;simp(disch:=omega)[e1,undef];exact ag hs h
 .rw[e1]at h;cases e2:(p==p')
  .rw[e2]at h;simp(disch:=omega)[e1,e2,undef];exact ag hs h
  .rw[e2]at h;simp(disch:=omega)[e1,e2];refine Gg _ _ xs ys _ _ ((hx.put hb1 _).put hb2 _) ((hy.put hb1 _).put hb2 _) hl hl' ?_;cases e3:(xs==ys)
   .rw[e3]at h;refine sS ?_;exact ag hs h
   .rw[e3]at h;refine sS ?_;exact ag hs h
def Zt(l:B8)(P:Dk×B8)(M0:Mem)(c:Nat)(x:(Nat×Nat)×(Dk×B8)×Value)(N:Mem):Prop:=
 x.2.1.1.ok/\x.2.1.2.length<=x.1.2*1100001/\N c=some (.cells true [str x.2.1.1.w,str x.2.1.1.p,x.2.2] 3)/\Rd N x.2.2 (strs x.2.1.1.ms)/\Sub M0 N /\
  ((x.1.1<=l.length/\x.1.2<=x.1.1/\(∀ u∈(l.take x.1.1).drop x.1.2,u≠10)/\(spR 10 (l.drop x.1.2)).foldl cD x.2.1=P)\/(x.1.1=l.length+1/\x.1.2<=l.length+1/\x.2.1=P))
theorem TJ{d:Dk}(h:d.ok)(l:B8):rlD d l=(dr d l).1/\rlT d l=(dr d l).2:=by
 have e:dx d.w d.p d.ms=true:=by
  obtain⟨h1,h2,h3⟩:=h;unfold dx;rw[h1,h2,h3];rfl
 unfold rlD rlT;rw[if_pos e,if_pos e];exact⟨rfl,rfl⟩
theorem Sm{S:Dk×B8}{w:B8}{b i:Nat}(hok:S.1.ok)(hw:w≠[])(hwl:w.length<=1000000)(hlen:S.2.length<=b*1100001)(hb:b<i+1):(cD S w).2.length<=(i+1)*1100001/\(cD S w).1.ok:=by
 have hr:=pO hok hwl;have hst:cD S w=((dr S.1 w).1,S.2++(dr S.1 w).2++[10]):=by unfold cD;rw[if_neg hw]
 rw[hst];refine⟨?_,fx hok w⟩;show (S.2++(dr S.1 w).2++[10]).length<=_;rw[lAp,lAp,lSi,Nat.succ_mul];have:=Nat.mul_le_mul_right 1100001 (show b<=i by omega);omega
theorem SO{l:B8}{p:Dk×B8}(h:fB l=some p):daD l=p.1/\daB l=true/\kA l=p.2:=by
 unfold daD daB kA;rw[h];exact⟨rfl,rfl,rfl⟩
theorem SF{l:B8}(h:fB l=none):daD l=zDk/\daB l=false/\kA l=[]:=by
 unfold daD daB kA;rw[h];exact⟨rfl,rfl,rfl⟩
end Go.Proofs.YtapimhjbilkfpaaGreatDoor
namespace Go.Proofs.YtapimhjbilkfpaaGreatDoor
open Go Go.Proofs.Tryz List
def kL:List B8:=[[97],[98],[99],[101],[102],[65],[32],[44],[48],[10]]
theorem wT:kL.length=10:=nr rfl
theorem Ks:∀ l∈kL,l.length=1:=by decide
theorem KM:[str [97],str [98],str [99],str [101],str [102],str [65],str [32],str [44],str [48],str [10]]=strs kL:=nr rfl
def mJ:List B8:=[[65,65],[65,66,65],[65,65,65],[65,66,65,66],[65,66,66,65],[65,66,65,67,65,66,65],[65,65,66,66],[65,66,67,65,66],[65,66,65,67],[65,66,67,66,65]]
def QP(p:B8):Prop:=p.length<=8/\∀ u∈p,65<=u.toNat/\u.toNat<=67
theorem zx:mJ.length=10:=nr rfl
theorem OG:∀ l∈mJ,QP l:=by
 intro l hl;have h:∀ l∈mJ,l.length<=8/\l.all (fun u=>decide (65<=u.toNat/\u.toNat<=67))=true:=by decide
 obtain⟨h1,h2⟩:=h l hl;exact⟨h1,fun u hu=>of_decide_eq_true (all_eq_true.1 h2 u hu)⟩
theorem Ob:[str [65,65],str [65,66,65],str [65,65,65],str [65,66,65,66],str [65,66,66,65],str [65,66,65,67,65,66,65],str [65,65,66,66],str [65,66,67,65,66],str [65,66,65,67],str [65,66,67,66,65]]=strs mJ:=nr rfl
def wx:List B8:=[[65],[66],[67]]
theorem CI:wx.length=3:=nr rfl
theorem QY:∀ l∈wx,∃ u:UInt8,l=[u]/\65<=u.toNat/\u.toNat<=67:=by
 intro l hl;simp only[wx,mem_cons,not_mem_nil,or_false]at hl;rcases hl with rfl|rfl|rfl
 .exact⟨65,rfl,by decide,by decide⟩
 .exact⟨66,rfl,by decide,by decide⟩
 .exact⟨67,rfl,by decide,by decide⟩
theorem PA:[str [65],str [66],str [67]]=strs wx:=nr rfl
theorem zw(s:Rng)(M:Mem)(R:VP)(hs:fo M s)(h:∀ w M',(w:B8).length<=10->DrR s M M'->R (str w) M'):ar prog 73 [.pointer (some ⟨s.b,0,none⟩)] M R:=by
 refine fnT func73 rfl ntmps73 results73 ?_;refine aV s 11 _ _ hs ?_;intro x M1 _ hx d1;have hx:=hx (by omega);refine sS ?_;intro bn hbn;refine sS ?_;have r5:=fE d1.src (w:=true) (xs:=ints [1,2,2,2,3,5]) (n:=6) (c:=6) hbn rfl (lRf 6);have d2:DrR s M (M1.put bn (.cells true (ints [1,2,2,2,3,5]) 6)):=d1.trans (DrR.sub d1.src ((Sub.refl _).put hbn _));refine cH s _ [1,2,2,2,3,5] _ _ d2.src r5 (by simp) (by simp) ?_;intro z hz M3 d3;have hz:z<=5:=by
  simp only[mem_cons,not_mem_nil,or_false]at hz;omega
 refine sS ?_;refine ek s x z _ _ d3.src (by omega) (by omega) ?_;intro w M4 hw _ d4;refine sS ?_;exact ad (h w _ (by omega) ((d2.trans d3).trans d4))
theorem oB(s:Rng)(t:B8)(M:Mem)(R:VP)(hs:fo M s)(ht:t.length<=100000)(h:∀ w M',(w:B8).length<=t.length+1->DrR s M M'->R (str w) M'):ar prog 43 [.pointer (some ⟨s.b,0,none⟩),str t] M R:=by
 refine fnS func43 rfl ntmps43 results43 ?_;simp(disch:=omega)[KM];intro bn hbn;simp(disch:=omega)[wT];have kn:=ae M bn (.cells true (strs kL) 10);have nb:bn≠s.b:=by rintro rfl;exact hs.told hbn
 have d2:DrR s M (M.put bn (.cells true (strs kL) 10)):=DrR.sub hs ((Sub.refl _).put hbn _);generalize M.put bn (.cells true (strs kL) 10)=M2 at *;refine aV s 10 _ _ d2.src ?_;intro y M3 _ hy d3;have hy:=hy (by omega);obtain⟨j,rfl⟩:∃ j:Nat,y=j:=⟨y.toNat,by omega⟩;have hj:j<kL.length:=by rw[wT];omega
 have gl:=ak (d3.at nb kn) j;rw[a7,gEl hj,Option.map_some]at gl;have hl1:=Ks _ (gMe hj);generalize kL[j]=l at *;simp(disch:=omega)[gl];by_cases h0:t.length=0
 .simp(disch:=omega)[h0];exact ad (h l _ (by omega) (d2.trans d3))
 .have h0':¬(t.length:Int)=0:=by omega
  refine sS ?_;refine aV s _ _ _ d3.src ?_;intro k M4 _ hk d4;have hk:=hk (by omega);obtain⟨k,rfl⟩:∃ i:Nat,k=i:=⟨k.toNat,by omega⟩;refine sS ?_;refine aV s 3 _ _ d4.src ?_;intro z M5 _ hz d5;have hz:=hz (by omega);have dd:=((d2.trans d3).trans d4).trans d5;by_cases z0:z=0
  .simp(disch:=omega)[z0];refine drwS ?_;refine sS ?_;refine ad (h _ _ ?_ dd);simp only[lAp,lTa,lDr];omega
  .by_cases z1:z=1
   .simp(disch:=omega)[z1];refine drwS ?_;refine sS ?_;refine ad (h _ _ ?_ dd);simp only[lAp,lTa,lDr];omega
   .refine sS ?_;refine drwS ?_;refine sS ?_;refine ad (h _ _ ?_ dd);simp only[lAp,lTa,lDr];omega
theorem Qt(s:Rng)(t:B8)(M:Mem)(R:VP)(hs:fo M s)(ht:t.length<=900)(h:∀ w M',(w:B8).length<=t.length+100->DrR s M M'->R (str w) M'):ar prog 134 [.pointer (some ⟨s.b,0,none⟩),str t] M R:=by
 refine fnT func134 rfl ntmps134 results134 ?_;refine aV s 50 _ _ hs ?_;intro x M1 _ hx d1;by_cases x0:x=0
 .simp(disch:=omega)[x0];refine ad (h _ _ ?_ d1);rw[lAp,lSi];omega
 .by_cases x1:x=1
  .simp(disch:=omega)[x1];refine oB s t _ _ d1.src (by omega) ?_;intro w M2 hw d2;refine sS ?_;exact ad (h w _ (by omega) (d1.trans d2))
  .by_cases x2:x=2
   .simp(disch:=omega)[x2];refine lupS (rlA [1] 18 5) (fun u:B8=>[(1,str u)]) (fun u M'=>M1=M'/\u.length<=t.length+100/\(t.length<=u.length)) (fun u=>62-u.length) t ⟨rfl,by omega,by omega⟩ ?_
    rintro u M' g ⟨rfl,hu,hu2⟩
    by_cases hlt:u.length<=60
    .refine sS ?_;refine Rnd.mk' (u++[97,98]) (by rw[lAp];simp only[lCo,length_nil];omega) (by (repeat (first|exact km|refine kp rfl ?_|refine km' rfl ?_))) (by simp(disch:=omega)) ⟨rfl,by rw[lAp];simp only[lCo,length_nil];omega,by rw[lAp];omega⟩
    .refine sS ?_;exact ad (h u _ hu d1)
   .refine sS ?_;exact ad (h t _ (by omega) d1)
theorem On(s:Rng)(t:B8)(M:Mem)(R:VP)(hs:fo M s)(ht:t.length<=900)(h:∀ w M',(w:B8).length<=t.length+10->DrR s M M'->R (str w) M'):ar prog 80 [.pointer (some ⟨s.b,0,none⟩),str t] M R:=by
 refine fnT func80 rfl ntmps80 results80 ?_;refine aV s 40 _ _ hs ?_;intro x M1 _ hx d1;by_cases x0:x=0
 .simp(disch:=omega)[x0];exact ad (h [] _ (by simp) d1)
 .by_cases x1:x=1
  .simp(disch:=omega)[x1];refine ad (h _ _ ?_ d1);rw[lAp,lSi];omega
  .by_cases x2:x=2
   .simp(disch:=omega)[x2];refine ad (h _ _ ?_ d1);simp only[lCo,length_nil];omega
   .refine sS ?_;exact ad (h t _ (by omega) d1)
theorem Aa(s:Rng)(M:Mem)(R:VP)(hs:fo M s)(h:∀ p M',QP p->DrR s M M'->R (str p) M'):ar prog 76 [.pointer (some ⟨s.b,0,none⟩)] M R:=by
 refine fnT func76 rfl ntmps76 results76 ?_;refine aV s 2 _ _ hs ?_;intro x M1 _ hx d1;by_cases x0:x=0
 .simp(disch:=omega)[x0,Ob];intro bn hbn;simp(disch:=omega)[zx];have kn:=ae M1 bn (.cells true (strs mJ) 10);have nb:bn≠s.b:=by rintro rfl;exact d1.src.told hbn
  have d2:DrR s M (M1.put bn (.cells true (strs mJ) 10)):=d1.trans (DrR.sub d1.src ((Sub.refl _).put hbn _));generalize M1.put bn (.cells true (strs mJ) 10)=M2 at *;refine aV s 10 _ _ d2.src ?_;intro y M3 _ hy d3;have hy:=hy (by omega);obtain⟨j,rfl⟩:∃ j:Nat,y=j:=⟨y.toNat,by omega⟩;have hj:j<mJ.length:=by rw[zx];omega
  have gl:=ak (d3.at nb kn) j;rw[a7,gEl hj,Option.map_some]at gl;have hl1:=OG _ (gMe hj);generalize mJ[j]=l at *;simp(disch:=omega)[gl];exact ad (h l _ hl1 (d2.trans d3))
 .refine sS ?_;intro bn hbn;refine sS ?_;have r5:=fE d1.src (w:=true) (xs:=ints [4,6,8]) (n:=3) (c:=3) hbn rfl (lRf 3);have d2:DrR s M (M1.put bn (.cells true (ints [4,6,8]) 3)):=d1.trans (DrR.sub d1.src ((Sub.refl _).put hbn _));refine cH s _ [4,6,8] _ _ d2.src r5 (by simp) (by simp) ?_;intro z hz M3 d3;have hz:1<=z/\z<=8:=by
   simp only[mem_cons,not_mem_nil,or_false]at hz;omega
  have d3:=d2.trans d3;refine sS ?_;refine aV s z _ _ d3.src ?_;intro y M4 _ hy d4;have hy:=hy (by omega);obtain⟨n,rfl⟩:∃ n:Nat,y=n:=⟨y.toNat,by omega⟩;have hn:n<=7:=by omega
  have d4:=d3.trans d4;refine sS ?_;refine lupS (rlA [3,4] 19 14) (fun u:B8=>[(3,str u),(4,.int .i64 (1+(n:Int)-u.length))]) (fun u M'=>u.length<=n+1/\(∀ c∈u,65<=c.toNat/\c.toNat<=67)/\DrR s M M') (fun u=>n+1-u.length) [] ⟨by simp,by simp,d4⟩ ?_
  rintro u M5 g ⟨hu,hc,d5⟩
  by_cases hlt:(0:Int)<1+(n:Int)-u.length
  .simp(disch:=omega)[PA];intro b1 hb1;have k1:=ae M5 b1 (.cells true (strs wx) 3);have nb:b1≠s.b:=by rintro rfl;exact d5.src.told hb1
   have d6:DrR s M (M5.put b1 (.cells true (strs wx) 3)):=d5.trans (DrR.sub d5.src ((Sub.refl _).put hb1 _));simp(disch:=omega)[CI];generalize M5.put b1 (.cells true (strs wx) 3)=M6 at *;intro b2 hb2;refine sS ?_;have k2:=(Sub.refl M6).put hb2 (.cells true (ints [1,2,3,3]) 4) _ _ k1;have r6:=fE d6.src (w:=true) (xs:=ints [1,2,3,3]) (n:=4) (c:=4) hb2 rfl (lRf 4);have d7:DrR s M (M6.put b2 (.cells true (ints [1,2,3,3]) 4)):=d6.trans (DrR.sub d6.src ((Sub.refl _).put hb2 _));refine cH s _ [1,2,3,3] _ _ d7.src r6 (by simp) (by simp) ?_;intro z2 hz2 M8 d8;have hz2:1<=z2/\z2<=3:=by
    simp only[mem_cons,not_mem_nil,or_false]at hz2;omega
   refine sS ?_;refine aV s z2 _ _ d8.src ?_;intro y2 M9 _ hy2 d9;have hy2:=hy2 (by omega);obtain⟨j,rfl⟩:∃ j:Nat,y2=j:=⟨y2.toNat,by omega⟩;have hj:j<wx.length:=by rw[CI];omega
   have gl:=ak (d9.at nb (d8.at nb k2)) j;rw[a7,gEl hj,Option.map_some]at gl;obtain⟨c,hce,hc1⟩:=QY _ (gMe hj);rw[hce]at gl;have hln:(u++[c]).length=u.length+1:=by rw[lAp,lSi]
   have hj3:(j:Int)<3:=by omega
   simp(disch:=omega)[gl,hj3];refine Rnd.mk' (u++[c]) (by rw[hln];omega) (by (repeat (first|exact km|refine kp rfl ?_|refine km' rfl ?_))) (by simp(disch:=omega);omega) ⟨by rw[hln];omega,?_,(d7.trans d8).trans d9⟩;intro c' hc';rcases mem_append.1 hc' with h1|h1
   .exact hc c' h1
   .rw[mem_singleton.1 h1];exact hc1
  .refine sS ?_;exact ad (h u _ ⟨by omega,hc⟩ d5)
theorem Jz:gw.length=4:=nr rfl
theorem ij:∀ l∈gw,l.length<=1099511627776:=by
 intro l hl;have h:∀ l∈gw,l.length<=20:=by decide
 have:=h l hl;omega
theorem Ow:[str [102,105,98,111,110,97,99,99,105],str [116,104,117,101],str [100,111,117,98,108,105,110,103],str [116,114,105,112,108,101]]=strs gw:=nr rfl
theorem Gd{x:Int}(h:0<=x/\x<4):∃ l∈gw,∃ k:Nat,x=k/\(strs gw)[k]?=some (str l):=by
 obtain⟨k,rfl⟩:∃ k:Nat,x=k:=⟨x.toNat,by omega⟩;have:k=0\/k=1\/k=2\/k=3:=by omega
 rcases this with rfl|rfl|rfl|rfl
 .exact⟨_,by simp[gw],0,rfl,rfl⟩
 .exact⟨_,by simp[gw],1,rfl,rfl⟩
 .exact⟨_,by simp[gw],2,rfl,rfl⟩
 .exact⟨_,by simp[gw],3,rfl,rfl⟩
theorem Ap{M:Mem}{b sb c n:Nat}{w:Bool}{xs:List Value}(h:M b=some (.cells w xs c))(hne:b≠sb)(hn:xs.length=n)(hc:n<=c):Rd (M.del sb) (.slice (some ⟨b,0,none⟩) n c) xs:=by
 have h2:(M.del sb) b=some (.cells w xs c):=by simp only[Mem.del,if_neg hne];exact h
 refine .inr ⟨b,0,c,by rw[hn],?_,by rw[hn];exact hc⟩;rw[aq h2,lN,if_pos (by omega),drop_zero,take_length]
theorem eY(l:B8)(m:Nat)(M:Mem)(R:VP)(hl:l.length<=1099511627776)(hm:m<=60)(h:∀ y b,(y:B8).length<=60->R (.tuple #[str y,.bool b]) M):ar prog 113 [str l,.int .i64 m] M R:=by
 refine qm l m _ _ hl hm ?_;cases named l with
 | none=>exact h [] false (by simp)
 | some ws=>exact h _ true (by rw[lTa];omega)
theorem BP(M:Mem)(R:VP)(h:∀ b,M b=none->R (.slice (some ⟨b,0,none⟩) 4 4) (M.put b (.cells true (strs gw) 4))):ar prog 205 [] M R:=by
 refine fnS func205 rfl ntmps205 results205 ?_;simp(disch:=omega)[Ow];intro b hb;simp(disch:=omega)[Jz];exact ad (h b hb)
theorem I7(s:Rng)(M:Mem)(R:VP)(hs:fo M s)(h:∀ w M',(w:B8).length<=100->DrR s M M'->R (str w) M'):ar prog 135 [.pointer (some ⟨s.b,0,none⟩)] M R:=by
 refine fnT func135 rfl ntmps135 results135 ?_;refine aV s 6 _ _ hs ?_;intro x M1 _ hx d1;by_cases x0:x=0
 .simp(disch:=omega)[x0];refine BP _ _ ?_;intro bn hbn;have kn:=ae M1 bn (.cells true (strs gw) 4);have nbn:bn≠s.b:=by rintro rfl;exact d1.src.told hbn
  have dd:=d1.trans (DrR.sub d1.src ((Sub.refl M1).put hbn (.cells true (strs gw) 4)));refine sS ?_;generalize M1.put bn (.cells true (strs gw) 4)=M2 at *;refine plyS (ai [0,1,5,6] (.alt 7 1 (.one 2 2 (ai [3] (.alt 4 1 (.one 8 2 (.one 9 2 (.one 10 1 (ai [11,12,13,14,15] .fin)))) (.one 8 2 (.alt 4 1 (.one 9 2 (.one 10 1 (ai [11,12,13,14,15] .fin))) (.one 9 2 (.one 4 1 (.one 10 1 (ai [11,12,13,14,15] .fin))))))))) (.one 2 2 (ai [3] (.alt 4 1 (.one 7 1 (.one 8 2 (.one 9 2 (.one 10 1 (ai [11,12,13,14,15] .fin))))) (.one 7 1 (.alt 4 1 (.one 8 2 (.one 9 2 (.one 10 1 (ai [11,12,13,14,15] .fin)))) (.one 8 2 (.alt 4 1 (.one 9 2 (.one 10 1 (ai [11,12,13,14,15] .fin))) (.one 9 2 (.one 4 1 (.one 10 1 (ai [11,12,13,14,15] .fin))))))))))))) ?_;simp(disch:=omega)[cd];refine⟨?_,?_⟩
  .skip
   intro b5 hb5;have sb:=(Sub.refl M2).put hb5 (.cells true (ints [12,30,61]) 3);have k5:=ae M2 b5 (.cells true (ints [12,30,61]) 3);have nb5:b5≠s.b:=by rintro rfl;exact dd.src.told hb5
   refine⟨sb,?_⟩;have dd:=dd.trans (DrR.sub dd.src sb);have kn:=sb _ _ kn;simp only[ints,map_cons,map_nil]at sb k5 dd kn;generalize M2.put b5 (.cells true [.int .i64 12,.int .i64 30,.int .i64 61] 3)=N5 at *;refine sS ?_;refine aV s 4 _ _ dd.src ?_;intro y2 N2 _ hy2 e2;have hy2:=hy2 (by omega);have dd:=dd.trans e2;have kn:=e2.at nbn kn;have k5:=e2.at nb5 k5;obtain⟨l,hln,i4,rfl,hget⟩:=Gd hy2;have gl:=ak kn i4;rw[hget]at gl;simp(disch:=omega)[cd,gl];refine⟨?_,?_⟩
   .skip
    have r5:=Ap (n:=3) k5 nb5 rfl (lRf 3);refine cH s _ [12,30,61] _ _ dd.src r5 (by simp) (by simp) ?_;intro z hz N8 e8;have hz:1<=z/\z<=61:=by
     simp only[mem_cons,not_mem_nil,or_false]at hz;omega
    have dd:=dd.trans e8;have kn:=e8.at nbn kn;have k5:=e8.at nb5 k5;have gl:=ak kn i4;rw[hget]at gl;refine sS ?_;refine aV s z _ _ dd.src ?_;intro m N9 _ hm e9;have hm:=hm (by omega);have dd:=dd.trans e9;have kn:=e9.at nbn kn;have k5:=e9.at nb5 k5;obtain⟨m,rfl⟩:∃ k:Nat,m=k:=⟨m.toNat,by omega⟩;have gl:=ak kn i4;rw[hget]at gl;refine sS ?_;refine eY l m _ _ (ij l hln) (by omega) ?_;intro y b hy;refine sS ?_;exact ad (h y _ (by omega) dd)
   .skip
    have r5:=Ap (n:=3) k5 nb5 rfl (lRf 3);refine cH s _ [12,30,61] _ _ dd.src r5 (by simp) (by simp) ?_;intro z hz N8 e8;have hz:1<=z/\z<=61:=by
     simp only[mem_cons,not_mem_nil,or_false]at hz;omega
    have dd:=dd.trans e8;have kn:=e8.at nbn kn;have k5:=e8.at nb5 k5;have gl:=ak kn i4;rw[hget]at gl;simp(disch:=omega)[cd,gl];refine⟨?_,?_⟩
    .skip
     refine aV s z _ _ dd.src ?_;intro m N9 _ hm e9;have hm:=hm (by omega);have dd:=dd.trans e9;have kn:=e9.at nbn kn;have k5:=e9.at nb5 k5;obtain⟨m,rfl⟩:∃ k:Nat,m=k:=⟨m.toNat,by omega⟩;have gl:=ak kn i4;rw[hget]at gl;refine sS ?_;refine eY l m _ _ (ij l hln) (by omega) ?_;intro y b hy;refine sS ?_;exact ad (h y _ (by omega) dd)
    .skip
     refine aV s z _ _ dd.src ?_;intro m N9 _ hm e9;have hm:=hm (by omega);have dd:=dd.trans e9;have kn:=e9.at nbn kn;have k5:=e9.at nb5 k5;obtain⟨m,rfl⟩:∃ k:Nat,m=k:=⟨m.toNat,by omega⟩;have gl:=ak kn i4;rw[hget]at gl;simp(disch:=omega)[gl];refine eY l m _ _ (ij l hln) (by omega) ?_;intro y b hy;refine sS ?_;exact ad (h y _ (by omega) dd)
  .skip
   refine aV s 4 _ _ dd.src ?_;intro y2 N2 _ hy2 e2;have hy2:=hy2 (by omega);have dd:=dd.trans e2;have kn:=e2.at nbn kn;obtain⟨l,hln,i4,rfl,hget⟩:=Gd hy2;have gl:=ak kn i4;rw[hget]at gl;simp(disch:=omega)[cd,gl];refine⟨?_,?_⟩
   .skip
    intro b5 hb5;have sb:=(Sub.refl N2).put hb5 (.cells true (ints [12,30,61]) 3);have k5:=ae N2 b5 (.cells true (ints [12,30,61]) 3);have nb5:b5≠s.b:=by rintro rfl;exact dd.src.told hb5
    refine⟨sb,?_⟩;have dd:=dd.trans (DrR.sub dd.src sb);have kn:=sb _ _ kn;simp only[ints,map_cons,map_nil]at sb k5 dd kn;generalize N2.put b5 (.cells true [.int .i64 12,.int .i64 30,.int .i64 61] 3)=N5 at *;have gl:=ak kn i4;rw[hget]at gl;refine sS ?_;have r5:=Ap (n:=3) k5 nb5 rfl (lRf 3);refine cH s _ [12,30,61] _ _ dd.src r5 (by simp) (by simp) ?_;intro z hz N8 e8;have hz:1<=z/\z<=61:=by
     simp only[mem_cons,not_mem_nil,or_false]at hz;omega
    have dd:=dd.trans e8;have kn:=e8.at nbn kn;have k5:=e8.at nb5 k5;have gl:=ak kn i4;rw[hget]at gl;refine sS ?_;refine aV s z _ _ dd.src ?_;intro m N9 _ hm e9;have hm:=hm (by omega);have dd:=dd.trans e9;have kn:=e9.at nbn kn;have k5:=e9.at nb5 k5;obtain⟨m,rfl⟩:∃ k:Nat,m=k:=⟨m.toNat,by omega⟩;have gl:=ak kn i4;rw[hget]at gl;refine sS ?_;refine eY l m _ _ (ij l hln) (by omega) ?_;intro y b hy;refine sS ?_;exact ad (h y _ (by omega) dd)
   .skip
    intro b5 hb5;have sb:=(Sub.refl N2).put hb5 (.cells true (ints [12,30,61]) 3);have k5:=ae N2 b5 (.cells true (ints [12,30,61]) 3);have nb5:b5≠s.b:=by rintro rfl;exact dd.src.told hb5
    refine⟨sb,?_⟩;have dd:=dd.trans (DrR.sub dd.src sb);have kn:=sb _ _ kn;simp only[ints,map_cons,map_nil]at sb k5 dd kn;generalize N2.put b5 (.cells true [.int .i64 12,.int .i64 30,.int .i64 61] 3)=N5 at *;have gl:=ak kn i4;rw[hget]at gl;simp(disch:=omega)[cd,gl];refine⟨?_,?_⟩
    .skip
     have r5:=Ap (n:=3) k5 nb5 rfl (lRf 3);refine cH s _ [12,30,61] _ _ dd.src r5 (by simp) (by simp) ?_;intro z hz N8 e8;have hz:1<=z/\z<=61:=by
      simp only[mem_cons,not_mem_nil,or_false]at hz;omega
     have dd:=dd.trans e8;have kn:=e8.at nbn kn;have k5:=e8.at nb5 k5;have gl:=ak kn i4;rw[hget]at gl;refine sS ?_;refine aV s z _ _ dd.src ?_;intro m N9 _ hm e9;have hm:=hm (by omega);have dd:=dd.trans e9;have kn:=e9.at nbn kn;have k5:=e9.at nb5 k5;obtain⟨m,rfl⟩:∃ k:Nat,m=k:=⟨m.toNat,by omega⟩;have gl:=ak kn i4;rw[hget]at gl;refine sS ?_;refine eY l m _ _ (ij l hln) (by omega) ?_;intro y b hy;refine sS ?_;exact ad (h y _ (by omega) dd)
    .skip
     have r5:=Ap (n:=3) k5 nb5 rfl (lRf 3);refine cH s _ [12,30,61] _ _ dd.src r5 (by simp) (by simp) ?_;intro z hz N8 e8;have hz:1<=z/\z<=61:=by
      simp only[mem_cons,not_mem_nil,or_false]at hz;omega
     have dd:=dd.trans e8;have kn:=e8.at nbn kn;have k5:=e8.at nb5 k5;have gl:=ak kn i4;rw[hget]at gl;simp(disch:=omega)[cd,gl];refine⟨?_,?_⟩
     .skip
      refine aV s z _ _ dd.src ?_;intro m N9 _ hm e9;have hm:=hm (by omega);have dd:=dd.trans e9;have kn:=e9.at nbn kn;have k5:=e9.at nb5 k5;obtain⟨m,rfl⟩:∃ k:Nat,m=k:=⟨m.toNat,by omega⟩;have gl:=ak kn i4;rw[hget]at gl;refine sS ?_;refine eY l m _ _ (ij l hln) (by omega) ?_;intro y b hy;refine sS ?_;exact ad (h y _ (by omega) dd)
     .skip
      refine aV s z _ _ dd.src ?_;intro m N9 _ hm e9;have hm:=hm (by omega);have dd:=dd.trans e9;have kn:=e9.at nbn kn;have k5:=e9.at nb5 k5;obtain⟨m,rfl⟩:∃ k:Nat,m=k:=⟨m.toNat,by omega⟩;have gl:=ak kn i4;rw[hget]at gl;simp(disch:=omega)[gl];refine eY l m _ _ (ij l hln) (by omega) ?_;intro y b hy;refine sS ?_;exact ad (h y _ (by omega) dd)
 by_cases x1:x=1
 .simp(disch:=omega)[x1];refine aV s 6 _ _ d1.src ?_;intro y M2 _ hy d2;have hy:=hy (by omega);have d2:=d1.trans d2;refine sS ?_;intro bn hbn;refine sS ?_;have r5:=fE d2.src (w:=true) (xs:=ints [2,2,3]) (n:=3) (c:=3) hbn rfl (lRf 3);have d3:DrR s M (M2.put bn (.cells true (ints [2,2,3]) 3)):=d2.trans (DrR.sub d2.src ((Sub.refl _).put hbn _));refine cH s _ [2,2,3] _ _ d3.src r5 (by simp) (by simp) ?_;intro z hz M3 d4;have hz:z<=3:=by
   simp only[mem_cons,not_mem_nil,or_false]at hz;omega
  have d4:=d3.trans d4;refine sS ?_;refine ek s (1+y) z _ _ d4.src (by omega) (by omega) ?_;intro u M4 hu _ d5;have d5:=d4.trans d5;refine sS ?_;refine aV s 4 _ _ d5.src ?_;intro n M5 _ hn d6;have hn:=hn (by omega);have d6:=d5.trans d6;obtain⟨n,rfl⟩:∃ k:Nat,n=k:=⟨n.toNat,by omega⟩;have hu6:u.length<=6:=by omega
  have hu1:1<=u.length:=by omega
  refine sS ?_;refine lupS (rlA [7,8] 43 7) (fun x:Nat×B8=>[(8,.int .i64 (1+(n:Int)-x.1)),(7,str x.2)]) (fun x M'=>M5=M'/\x.1<=n+1/\x.2.length<=6*x.1) (fun x=>n+1-x.1) (0,[]) ⟨rfl,by omega,by simp⟩ ?_
  rintro⟨i,w⟩ M' g ⟨rfl,hi,hw⟩
  simp only at hi hw;by_cases hlt:i<n+1
  .have hg0:(0:Int)<1+(n:Int)-i:=by omega
   refine sS ?_;refine rndA (i+1,w++u) (by simp(disch:=omega);omega) ⟨rfl,by simp only;omega,by simp only[lAp];omega⟩
  .have hg0:¬(0:Int)<1+(n:Int)-i:=by omega
   refine sS ?_;refine aV s _ _ _ d6.src ?_;intro q M6 _ hq d7;have hq:=hq (by omega);obtain⟨q,rfl⟩:∃ k:Nat,q=k:=⟨q.toNat,by omega⟩;refine sS ?_;refine ad (h _ _ ?_ (d6.trans d7));simp only[lAp,lTa];omega
 by_cases x2:x=2
 .simp(disch:=omega)[x2];refine aV s 12 _ _ d1.src ?_;intro y M2 _ hy d2;have hy:=hy (by omega);have d2:=d1.trans d2;refine sS ?_;intro bn hbn;refine sS ?_;have r5:=fE d2.src (w:=true) (xs:=ints [2,2,3]) (n:=3) (c:=3) hbn rfl (lRf 3);have d3:DrR s M (M2.put bn (.cells true (ints [2,2,3]) 3)):=d2.trans (DrR.sub d2.src ((Sub.refl _).put hbn _));refine cH s _ [2,2,3] _ _ d3.src r5 (by simp) (by simp) ?_;intro z hz M3 d4;have hz:z<=3:=by
   simp only[mem_cons,not_mem_nil,or_false]at hz;omega
  have d4:=d3.trans d4;refine sS ?_;refine ek s y z _ _ d4.src (by omega) (by omega) ?_;intro u M4 hu _ d5;have d5:=d4.trans d5;refine sS ?_;refine aV s 2 _ _ d5.src ?_;intro n M5 _ hn d6;have hn:=hn (by omega);have d6:=d5.trans d6;refine sS ?_;refine ek s n 2 _ _ d6.src (by omega) (by omega) ?_;intro t M6 ht _ d7;have d7:=d6.trans d7;have hu11:u.length<=11:=by omega
  have ht1:t.length<=1:=by omega
  refine sS ?_;refine ib u _ _ (by omega) ?_;intro M7 s7;have hru:u.reverse.length=u.length:=length_reverse;generalize u.reverse=u' at *;refine sS ?_;refine ad (h _ _ ?_ (d7.trans (DrR.sub d7.src s7)));simp only[lAp];omega
 by_cases x3:x=3
 .simp(disch:=omega)[x3];intro bn hbn;refine sS ?_;have r5:=fE d1.src (w:=true) (xs:=ints [20,40,61]) (n:=3) (c:=3) hbn rfl (lRf 3);have d3:DrR s M (M1.put bn (.cells true (ints [20,40,61]) 3)):=d1.trans (DrR.sub d1.src ((Sub.refl _).put hbn _));refine cH s _ [20,40,61] _ _ d3.src r5 (by simp) (by simp) ?_;intro z hz M3 d4;have hz:1<=z/\z<=61:=by
   simp only[mem_cons,not_mem_nil,or_false]at hz;omega
  have d4:=d3.trans d4;refine sS ?_;refine aV s z _ _ d4.src ?_;intro y M4 _ hy d5;have hy:=hy (by omega);have d5:=d4.trans d5;refine sS ?_;intro b2 hb2;refine sS ?_;have r6:=fE d5.src (w:=true) (xs:=ints [1,2,2,3,3,4,5]) (n:=7) (c:=7) hb2 rfl (lRf 7);have d6:DrR s M (M4.put b2 (.cells true (ints [1,2,2,3,3,4,5]) 7)):=d5.trans (DrR.sub d5.src ((Sub.refl _).put hb2 _));refine cH s _ [1,2,2,3,3,4,5] _ _ d6.src r6 (by simp) (by simp) ?_;intro k hk M5 d7;have hk:k<=5:=by
   simp only[mem_cons,not_mem_nil,or_false]at hk;omega
  have d7:=d6.trans d7;refine sS ?_;refine ek s y k _ _ d7.src (by omega) (by omega) ?_;intro w M6 hw _ d8;refine sS ?_;exact ad (h w _ (by omega) (d7.trans d8))
 .refine sS ?_;refine zw s _ _ d1.src ?_;intro w M2 hw d2;refine sS ?_;exact ad (h w _ (by omega) (d1.trans d2))
theorem KT(s:Rng)(M:Mem)(R:VP)(hs:fo M s)(h:∀ w M',(w:B8).length<=200->DrR s M M'->R (str w) M'):ar prog 79 [.pointer (some ⟨s.b,0,none⟩)] M R:=by
 refine fnT func79 rfl ntmps79 results79 ?_;refine I7 s _ _ hs ?_;intro w M1 hw d1;refine sS ?_;refine Qt s w _ _ d1.src (by omega) ?_;intro u M2 hu d2;refine sS ?_;exact ad (h u _ (by omega) (d1.trans d2))
end Go.Proofs.YtapimhjbilkfpaaGreatDoor
namespace Go.Proofs.YtapimhjbilkfpaaGreatDoor
open Go Go.Proofs.Tryz Go.RowKit List
def shB:Value->Bool|.string b=>decide (b.size<=60)|_=>false
theorem zm{o:Option Value}{L:List Value}{j:Nat}(g:o=L[j]?)(hL:L.all shB=true)(hj:j<L.length):∃ l:B8,o=some (str l)/\l.length<=60:=by
 rw[gEl hj]at g;have h:=all_eq_true.1 hL _ (gMe hj);generalize L[j]=v at *;unfold shB at h;split at h
 .rename_i b;refine⟨b.data.toList,by rw[g];rfl,?_⟩;have:=of_decide_eq_true h;show b.data.toList.length<=60;rw[Array.length_toList];exact this
 .cases h
theorem IJ(v:Value)(ws:List B8)(M:Mem)(R:VP)(hv:Rd M v (strs ws))(hn:ws.length<=200)(hok:∀ w∈ws,w.length<=100)(h:∀ M',Sub M M'->R (str (txt ws)) M'):ar prog 77 [.agg #[v]] M R:=by
 refine fnS func77 rfl ntmps77 results77 ?_;obtain⟨a,c,rfl,ha⟩:=hv.opened;rw[ah]at ha hv ⊢;refine sS ?_;intro b1 hb1;have hs1:=(Sub.refl M).put hb1 (.cells true [.slice a ws.length c] 1);have k1:=ae M b1 (.cells true [.slice a ws.length c] 1);refine sS ?_;generalize M.put b1 (.cells true [.slice a ws.length c] 1)=N at *;refine aR aU (rlA [] 3 20) (fun i:Nat=>[(4,.int .i64 i),(3,str (txt (ws.take i)))]) (fun i M'=>M'=N/\i<=ws.length) (fun i=>ws.length-i) 0 (by kernel_rfl) (by simp(disch:=omega)[txt]) ⟨rfl,by omega⟩ ?_
 rintro i M' g ⟨rfl,hi⟩
 have hlt0:=x7 (ws:=ws.take i) (n:=100) fun w hw=>hok w (mem_of_mem_take hw);have hti:(ws.take i).length=i:=by rw[lTa];omega
 rw[hti]at hlt0;have hl5:i*101<=200*101:=Nat.mul_le_mul (show i<=200 by omega) (lRf 101);by_cases hlt:i<ws.length
 .rcases ha with h0|⟨b,o,rfl,ha⟩
  .omega
  have hg0:=ha i hlt;rw[a7,gEl hlt]at hg0;have hg:=aT hg0 hs1;have hwo:=hok _ (gMe hlt);by_cases h0:i=0
  .subst h0;have e:txt (ws.take (0+1))=ws[0]:=by rw[take_one hlt,Ma]
   have e0:txt []=[]:=rfl;rw[Nat.add_zero]at hg;simp(disch:=omega)[ak k1,hg,e0];exact rndA (0+1) (by simp(disch:=omega)[e]) ⟨rfl,by omega⟩
  .have hpos:(0:Int)<i:=by omega
   have e:txt (ws.take (i+1))=txt (ws.take i)++[44]++ws[i]:=by rw[aw ws hlt,Hh _ _ (by omega)]
   simp(disch:=omega)[ak k1,hg];exact rndA (i+1) (by simp(disch:=omega)[e]) ⟨rfl,by omega⟩
 .have hi':i=ws.length:=by omega
  subst hi';rw[take_length];simp(disch:=omega)[ak k1];exact ad (h _ hs1)
theorem dL(s:Rng)(d:Dk)(v:Value)(M:Mem)(R:VP)(hf:bE v=true)(hs:fo M s)(h:∀ t M',(t:B8).length<=20000->DrR s M M'->R (str t) M'):ar prog 40 [.pointer (some ⟨s.b,0,none⟩),dkV d v] M R:=by
 unfold dkV;refine fnT func40 rfl ntmps40 results40 ?_;intro b3 hb3;have n3:b3≠s.b:=by rintro rfl;exact hs.told hb3
 have d0:=DrR.sub hs ((Sub.refl M).put hb3 (.cells true [str d.w,str d.p,v] 3));refine sS ?_;generalize M.put b3 (.cells true [str d.w,str d.p,v] 3)=M0 at *;refine aV s 13 _ _ d0.src ?_;intro x M1 _ hx d1;have hx:=hx (by omega);have d2:=d0.trans d1;clear d0 d1 hs;obtain⟨i,rfl⟩:∃ i:Nat,x=i:=⟨x.toNat,by omega⟩;have hi:i=2\/(i=0\/i=1)\/i=3\/i=6\/i=7\/(i=4\/i=5\/i=8\/i=9\/i=10\/i=11\/i=12):=by omega
 rcases hi with rfl|hi|rfl|rfl|rfl|hi
 .refine sS ?_;have dd:=d2;refine plyS (ai [1,5] (.alt 0 1 (.one 2 2 (ai [3] (.alt 4 1 (.one 6 2 (.one 7 1 (ai [8,9] .fin))) (.one 6 2 (.alt 4 1 (.one 7 1 (ai [8,9] .fin)) (.one 7 1 (.one 4 1 (ai [8,9] .fin)))))))) (.one 2 2 (.alt 0 1 (ai [3] (.alt 4 1 (.one 6 2 (.one 7 1 (ai [8,9] .fin))) (.one 6 2 (.alt 4 1 (.one 7 1 (ai [8,9] .fin)) (.one 7 1 (.one 4 1 (ai [8,9] .fin))))))) (.one 6 2 (.alt 0 1 (ai [3] (.alt 4 1 (.one 7 1 (ai [8,9] .fin)) (.one 7 1 (.one 4 1 (ai [8,9] .fin))))) (.one 7 1 (.one 0 1 (ai [3] (.one 4 1 (ai [8,9] .fin))))))))))) ?_;simp(disch:=omega)[cd];refine⟨?_,?_⟩
  .skip
   intro bn hbn;have nb:bn≠s.b:=by rintro rfl;exact dd.src.told hbn
   generalize hM:M1.put bn _=Q at *;have kn:=(congrFun hM.symm bn).trans (ae _ _ _);have sb:Sub M1 Q:=hM▸(Sub.refl M1).put hbn _;have dd:=dd.trans (DrR.sub dd.src sb);refine⟨sb,?_⟩;clear hM;have all60:=fun j (hj:j<4)=>zm (o:=[str [110,97,109,101,32,102,105,98,111,110,97,99,99,105,32],str [110,97,109,101,32,116,104,117,101,32],str [110,97,109,101,32,116,114,105,112,108,101,32],str [110,97,109,101,32,100,111,117,98,108,105,110,103,32]][j]?) (j:=j) rfl (by kernel_rfl) hj;refine sS ?_;refine aV s 4 _ _ dd.src ?_;intro y N2 _ hy e2;have hy:=hy (by omega);obtain⟨j,rfl⟩:∃ j:Nat,y=j:=⟨y.toNat,by omega⟩;have hj:j<4:=by omega
   obtain⟨w,hsm,hw⟩:=all60 j hj;have kn:=e2.at nb kn;have dd:=dd.trans e2;have hg:=ak kn j;rw[hsm]at hg;simp(disch:=omega)[cd,hg];refine⟨?_,?_⟩
   .skip
    refine aV s 20 _ _ dd.src ?_;intro z N6 _ hz e6;have hz:=hz (by omega);obtain⟨z,rfl⟩:∃ k:Nat,z=k:=⟨z.toNat,by omega⟩;have kn:=e6.at nb kn;have dd:=dd.trans e6;have hg:=ak kn j;rw[hsm]at hg;refine sS ?_;refine cu z _ _ ⟨by omega,by omega⟩ ?_;have hdl:=bX z (by omega) (by omega);generalize Lib.itoa z=dz at *;refine sS ?_;exact ad (h _ _ (by simp(disch:=omega);omega) dd)
   .skip
    refine aV s 20 _ _ dd.src ?_;intro z N6 _ hz e6;have hz:=hz (by omega);obtain⟨z,rfl⟩:∃ k:Nat,z=k:=⟨z.toNat,by omega⟩;have kn:=e6.at nb kn;have dd:=dd.trans e6;have hg:=ak kn j;rw[hsm]at hg;simp(disch:=omega)[cd,hg];refine⟨?_,?_⟩
    .skip
     refine cu z _ _ ⟨by omega,by omega⟩ ?_;have hdl:=bX z (by omega) (by omega);generalize Lib.itoa z=dz at *;refine sS ?_;exact ad (h _ _ (by simp(disch:=omega);omega) dd)
    .skip
     refine cu z _ _ ⟨by omega,by omega⟩ ?_;have hdl:=bX z (by omega) (by omega);generalize Lib.itoa z=dz at *;simp(disch:=omega)[hg];exact ad (h _ _ (by simp(disch:=omega);omega) dd)
  .skip
   refine aV s 4 _ _ dd.src ?_;intro y N2 _ hy e2;have hy:=hy (by omega);obtain⟨j,rfl⟩:∃ j:Nat,y=j:=⟨y.toNat,by omega⟩;have hj:j<4:=by omega
   have dd:=dd.trans e2;simp(disch:=omega)[cd];refine⟨?_,?_⟩
   .skip
    intro bn hbn;have nb:bn≠s.b:=by rintro rfl;exact dd.src.told hbn
    generalize hM:N2.put bn _=Q at *;have kn:=(congrFun hM.symm bn).trans (ae _ _ _);have sb:Sub N2 Q:=hM▸(Sub.refl N2).put hbn _;have dd:=dd.trans (DrR.sub dd.src sb);refine⟨sb,?_⟩;clear hM;have all60:=fun j (hj:j<4)=>zm (o:=[str [110,97,109,101,32,102,105,98,111,110,97,99,99,105,32],str [110,97,109,101,32,116,104,117,101,32],str [110,97,109,101,32,116,114,105,112,108,101,32],str [110,97,109,101,32,100,111,117,98,108,105,110,103,32]][j]?) (j:=j) rfl (by kernel_rfl) hj;obtain⟨w,hsm,hw⟩:=all60 j hj;have hg:=ak kn j;rw[hsm]at hg;simp(disch:=omega)[cd,hg];refine⟨?_,?_⟩
    .skip
     refine aV s 20 _ _ dd.src ?_;intro z N6 _ hz e6;have hz:=hz (by omega);obtain⟨z,rfl⟩:∃ k:Nat,z=k:=⟨z.toNat,by omega⟩;have kn:=e6.at nb kn;have dd:=dd.trans e6;have hg:=ak kn j;rw[hsm]at hg;refine sS ?_;refine cu z _ _ ⟨by omega,by omega⟩ ?_;have hdl:=bX z (by omega) (by omega);generalize Lib.itoa z=dz at *;refine sS ?_;exact ad (h _ _ (by simp(disch:=omega);omega) dd)
    .skip
     refine aV s 20 _ _ dd.src ?_;intro z N6 _ hz e6;have hz:=hz (by omega);obtain⟨z,rfl⟩:∃ k:Nat,z=k:=⟨z.toNat,by omega⟩;have kn:=e6.at nb kn;have dd:=dd.trans e6;have hg:=ak kn j;rw[hsm]at hg;simp(disch:=omega)[cd,hg];refine⟨?_,?_⟩
     .skip
      refine cu z _ _ ⟨by omega,by omega⟩ ?_;have hdl:=bX z (by omega) (by omega);generalize Lib.itoa z=dz at *;refine sS ?_;exact ad (h _ _ (by simp(disch:=omega);omega) dd)
     .skip
      refine cu z _ _ ⟨by omega,by omega⟩ ?_;have hdl:=bX z (by omega) (by omega);generalize Lib.itoa z=dz at *;simp(disch:=omega)[hg];exact ad (h _ _ (by simp(disch:=omega);omega) dd)
   .skip
    refine aV s 20 _ _ dd.src ?_;intro z N6 _ hz e6;have hz:=hz (by omega);obtain⟨z,rfl⟩:∃ k:Nat,z=k:=⟨z.toNat,by omega⟩;have dd:=dd.trans e6;simp(disch:=omega)[cd];refine⟨?_,?_⟩
    .skip
     intro bn hbn;have nb:bn≠s.b:=by rintro rfl;exact dd.src.told hbn
     generalize hM:N6.put bn _=Q at *;have kn:=(congrFun hM.symm bn).trans (ae _ _ _);have sb:Sub N6 Q:=hM▸(Sub.refl N6).put hbn _;have dd:=dd.trans (DrR.sub dd.src sb);refine⟨sb,?_⟩;clear hM;have all60:=fun j (hj:j<4)=>zm (o:=[str [110,97,109,101,32,102,105,98,111,110,97,99,99,105,32],str [110,97,109,101,32,116,104,117,101,32],str [110,97,109,101,32,116,114,105,112,108,101,32],str [110,97,109,101,32,100,111,117,98,108,105,110,103,32]][j]?) (j:=j) rfl (by kernel_rfl) hj;obtain⟨w,hsm,hw⟩:=all60 j hj;have hg:=ak kn j;rw[hsm]at hg;simp(disch:=omega)[cd,hg];refine⟨?_,?_⟩
     .skip
      refine cu z _ _ ⟨by omega,by omega⟩ ?_;have hdl:=bX z (by omega) (by omega);generalize Lib.itoa z=dz at *;refine sS ?_;exact ad (h _ _ (by simp(disch:=omega);omega) dd)
     .skip
      refine cu z _ _ ⟨by omega,by omega⟩ ?_;have hdl:=bX z (by omega) (by omega);generalize Lib.itoa z=dz at *;simp(disch:=omega)[hg];exact ad (h _ _ (by simp(disch:=omega);omega) dd)
    .skip
     refine cu z _ _ ⟨by omega,by omega⟩ ?_;have hdl:=bX z (by omega) (by omega);generalize Lib.itoa z=dz at *;refine sS ?_;intro bn hbn;have nb:bn≠s.b:=by rintro rfl;exact dd.src.told hbn
     generalize hM:N6.put bn _=Q at *;have kn:=(congrFun hM.symm bn).trans (ae _ _ _);have sb:Sub N6 Q:=hM▸(Sub.refl N6).put hbn _;have dd:=dd.trans (DrR.sub dd.src sb);refine⟨sb,?_⟩;clear hM;have all60:=fun j (hj:j<4)=>zm (o:=[str [110,97,109,101,32,102,105,98,111,110,97,99,99,105,32],str [110,97,109,101,32,116,104,117,101,32],str [110,97,109,101,32,116,114,105,112,108,101,32],str [110,97,109,101,32,100,111,117,98,108,105,110,103,32]][j]?) (j:=j) rfl (by kernel_rfl) hj;obtain⟨w,hsm,hw⟩:=all60 j hj;have hg:=ak kn j;rw[hsm]at hg;simp(disch:=omega)[hg];exact ad (h _ _ (by simp(disch:=omega);omega) dd)
 .rcases hi with rfl|rfl
  all_goals
   refine sS ?_;refine zw s _ _ d2.src ?_;intro w N hw e;refine sS ?_;exact ad (h _ _ (by simp(disch:=omega);omega) (d2.trans e))
 .refine sS ?_;refine aV s 5 _ _ d2.src ?_;intro y N _ hy e;have hy:=hy (by omega);refine sS ?_;refine ek s y 2 _ _ e.src (by omega) (by omega) ?_;intro w N2 hw _ e2;have hw5:w.length<=5:=by omega
  refine sS ?_;exact ad (h _ _ (by simp(disch:=omega);omega) ((d2.trans e).trans e2))
 .refine sS ?_;refine Aa s _ _ d2.src ?_;intro w N hw e;have hw5:w.length<=1000:=by unfold QP at hw;omega
  refine sS ?_;exact ad (h _ _ (by simp(disch:=omega);omega) (d2.trans e))
 .refine sS ?_;refine sh s _ _ d2.src ?_;intro u ws D N _ hu hDN e h1 hok;refine sS ?_;refine IJ u ws _ _ (hu.sub hDN) (by have:=hok.1;omega) hok.2 ?_;intro N2 sN;have e2:=(d2.trans e).trans (DrR.sub e.src sN);have htl:=x7 hok.2;have hml:ws.length*(100+1)<=100*(100+1):=Nat.mul_le_mul_right _ hok.1;generalize txt ws=tw at *;refine sS ?_;exact ad (h _ _ (by simp(disch:=omega);omega) e2)
 .rcases hi with rfl|rfl|rfl|rfl|rfl|rfl|rfl
  all_goals
   refine sS ?_;intro bn hbn;have nb:bn≠s.b:=by rintro rfl;exact d2.src.told hbn
   refine sS ?_;generalize hM:M1.put bn _=M2 at *;have kn:=(congrFun hM.symm bn).trans (ae _ _ _);have e2:=DrR.sub d2.src (hM▸(Sub.refl M1).put hbn _);clear hM;refine aV s _ _ _ e2.src ?_;intro y M3 _ hy e3;have hy:=hy (by omega);obtain⟨j,rfl⟩:∃ j:Nat,y=j:=⟨y.toNat,by omega⟩;obtain⟨w,hg,hw⟩:=zm (ak (e3.at nb kn) j) (by kernel_rfl) (by have:=hy.2;simp only[lCo,length_nil];omega);simp(disch:=omega)[hg];exact ad (h _ _ (by omega) ((d2.trans e2).trans e3))
theorem untold{s:Rng}{M N:Mem}{b:Nat}(d:DrR s M N)(hb:N b=none):M b=none:=by
 cases h:M b with
 | none=>rfl
 | some B=>exact absurd hb (d.keepT (by rw[h];intro e;cases e))
def H8(s:Rng)(M:Mem)(b3:Nat)(d:Dk)(v:Value)(N:Mem):Prop:=
 d.ok/\N b3=some (.cells true [str d.w,str d.p,v] 3)/\DrR s M N/\∃ D,(∀ i,M i≠none->D i=none)/\D b3=none/\Rd D v (strs d.ms)/\Sub D N
theorem Gb{s:Rng}{M M1:Mem}{v0:Value}{b3:Nat}(hs:fo M s)(o1:Own M v0 (strs [[97,98],[97]]) M1)(hb3:M1 b3=none):b3≠s.b/\M b3=none/\H8 s M b3 dZ v0 (M1.put b3 (.cells true [str [97,98,97,97,98],str [65,65],v0] 3)):=by
 have d1:=DrR.sub hs o1.sub;have mb3:=untold d1 hb3;obtain⟨D0,r0,sD0,nD0⟩:=cX o1;exact⟨by rintro rfl;exact d1.src.told hb3,mb3,lC,ae _ _ _,DrR.put hs d1 mb3 _,D0,nD0,ba sD0 hb3,r0,sD0.ovr (ba sD0 hb3) _⟩
theorem Cc{s:Rng}{M N N2:Mem}{v:Value}{b3:Nat}{d:Dk}(hs:fo M s)(n3:b3≠s.b)(J:H8 s M b3 d v N)(e:DrR s N N2):H8 s M b3 d v N2:=by
 obtain⟨j1,j2,j4,D,j5,j7,j8,j9⟩:=J;exact⟨j1,e.at n3 j2,j4.trans e,D,j5,j7,j8,e.keep D (j5 _ hs.told) j9⟩
theorem qy(s:Rng)(M:Mem)(R:VP)(hs:fo M s)(h:∀ d v D M',d.ok->(∀ i,M i≠none->D i=none)->Rd D v (strs d.ms)->Sub D M'->DrR s M M'->R (dkV d v) M'):ar prog 39 [.pointer (some ⟨s.b,0,none⟩)] M R:=by
 unfold dkV at h;refine fnT func39 rfl ntmps39 results39 ?_;intro b2 hb2;have n2:b2≠s.b:=by rintro rfl;exact hs.told hb2
 have d0:=DrR.sub hs ((Sub.refl M).put hb2 (.cells true [str [],str [],.slice none 0 0] 3));have k2:=ae M b2 (.cells true [str [],str [],.slice none 0 0] 3);refine sS ?_;generalize M.put b2 (.cells true [str [],str [],.slice none 0 0] 3)=M0 at *;refine iz _ _ ?_;intro v0 M1 o1;unfold iC;have hf0:=aD o1.rd;refine sS ?_;intro b3 hb3;have n23:b2≠b3:=by rintro rfl;rw[o1.sub _ _ k2]at hb3;cases hb3
 simp(disch:=omega)[hf0,aj,aN];obtain⟨n3,mb3,J0⟩:=Gb d0.src o1 hb3;generalize M1.put b3 (.cells true [str [97,98,97,97,98],str [65,65],v0] 3)=N1 at *;refine aV s 6 _ _ J0.2.2.1.src ?_;intro x N2 _ hx e2;have hx:=hx (by omega);obtain⟨k0,rfl⟩:∃ k:Nat,x=k:=⟨x.toNat,by omega⟩;have J2:=Cc d0.src n3 J0 e2;refine sS ?_;refine lupS (rlA [4,5,6] 10 13) (fun x:Nat×Dk×Value=>[(4,.int .i64 (x.1:Nat))]) (fun x N=>x.1<=6/\H8 s M0 b3 x.2.1 x.2.2 N) (fun x=>x.1) (k0,dZ,v0) ⟨by simp only;omega,J2⟩ ?_
 rintro⟨k,d,v⟩ N g hJ
 simp only at hJ;obtain⟨hk6,hok,kb,dd,D,hDM,hD3,hv,hDN⟩:=hJ;have hDs:D s.b=none:=hDM _ d0.src.told;have hf:=aD hv;by_cases hk:0<k
 .have hkI:(0:Int)<(k:Nat):=by omega
  obtain⟨m,rfl⟩:∃ m,k=m+1:=⟨k-1,by omega⟩;have hm:((m+1:Nat):Int)-1=(m:Nat):=by omega
  refine sS ?_;refine plyS (ai [1,2] (.alt 0 1 (.alt 3 2 (.alt 4 1 (ai [5,6,7] (.one 8 1 (.one 9 2 (ai [10] .fin)))) (.one 8 1 (.one 4 1 (ai [5,6,7] (.one 9 2 (ai [10] .fin)))))) (.one 8 1 (.one 3 2 (.one 4 1 (ai [5,6,7] (.one 9 2 (ai [10] .fin))))))) (.alt 3 2 (.alt 0 1 (.alt 4 1 (ai [5,6,7] (.one 8 1 (.one 9 2 (ai [10] .fin)))) (.one 8 1 (.one 4 1 (ai [5,6,7] (.one 9 2 (ai [10] .fin)))))) (.one 8 1 (.one 0 1 (.one 4 1 (ai [5,6,7] (.one 9 2 (ai [10] .fin))))))) (.one 8 1 (.alt 0 1 (.one 3 2 (.one 4 1 (ai [5,6,7] (.one 9 2 (ai [10] .fin))))) (.one 3 2 (.one 0 1 (.one 4 1 (ai [5,6,7] (.one 9 2 (ai [10] .fin))))))))))) ?_;simp(disch:=omega)[cd,aq kb];refine⟨?_,?_⟩
  .skip
   refine⟨?_,?_⟩
   .skip
    refine dL s d v _ _ hf dd.src ?_;intro t N3 ht e;have kb:=e.at n3 kb;have hDN:=e.keep D hDs hDN;have dd:=dd.trans e
    try simp(disch:=omega)[cd]
    refine⟨?_,?_⟩
    .skip
     refine bP d v t _ _ hok (hv.sub hDN) (by omega) ?_;intro v7 M7 o7;obtain⟨D2,rv2,sD2,nD2⟩:=cX o7;have hF:=fun i hi=>nD2 i (dd.keepT hi);have hE3:=nD2 b3 (by rw[kb];intro e;cases e);have kb:=o7.sub _ _ kb;have dd:=dd.trans (DrR.sub dd.src o7.sub);have hf7:=aD o7.rd;have hro:=fx hok t;have s7:=o7.sub;generalize dr d t=RR at *;unfold dkV;clear o7;refine sS ?_;refine⟨s7,?_⟩
     try simp(disch:=omega)[cd,aq kb,kb,hf,hf7,aj,aN]
     intro b5 hb5;have n35:b3≠b5:=by rintro rfl;rw[kb]at hb5;cases hb5
     have n5:b5≠s.b:=by rintro rfl;exact dd.src.told hb5
     have m5:=untold dd hb5;have hD5:=ba sD2 hb5;have sb:=(Sub.refl M7).put hb5 (.cells true [str [],str [],.slice none 0 0] 3);have z5:=ae M7 b5 (.cells true [str [],str [],.slice none 0 0] 3);have kb:=sb _ _ kb;have dd:=dd.trans (DrR.sub dd.src sb);have sD2:=sD2.trans sb;refine⟨sb,?_⟩;generalize M7.put b5 (.cells true [str [],str [],.slice none 0 0] 3)=Q at *
     try simp(disch:=omega)[kb,hf7,aj,z5]
     refine rndS (m,RR.1,v7) ⟨by simp only;omega,hro,ae _ _ _,?_,D2,hF,hE3,rv2,(sD2.ovr hD5 _).ovr hE3 _⟩;exact DrR.put d0.src (DrR.put d0.src dd m5 _) mb3 _
    .skip
     intro b5 hb5;have n35:b3≠b5:=by rintro rfl;rw[kb]at hb5;cases hb5
     have n5:b5≠s.b:=by rintro rfl;exact dd.src.told hb5
     have m5:=untold dd hb5;have sb:=(Sub.refl N3).put hb5 (.cells true [str [],str [],.slice none 0 0] 3);have z5:=ae N3 b5 (.cells true [str [],str [],.slice none 0 0] 3);have kb:=sb _ _ kb;have dd:=dd.trans (DrR.sub dd.src sb);have hDN:=hDN.trans sb;refine⟨sb,?_⟩;generalize N3.put b5 (.cells true [str [],str [],.slice none 0 0] 3)=Q at *
     try simp(disch:=omega)
     refine bP d v t _ _ hok (hv.sub hDN) (by omega) ?_;intro v7 M7 o7;obtain⟨D2,rv2,sD2,nD2⟩:=cX o7;have hF:=fun i hi=>nD2 i (dd.keepT hi);have hE3:=nD2 b3 (by rw[kb];intro e;cases e);have hD5:=nD2 b5 (by rw[z5];intro e;cases e);have z5:=o7.sub _ _ z5;have kb:=o7.sub _ _ kb;have dd:=dd.trans (DrR.sub dd.src o7.sub);have hf7:=aD o7.rd;have hro:=fx hok t;have s7:=o7.sub;generalize dr d t=RR at *;unfold dkV;clear o7;refine sS ?_;refine⟨s7,?_⟩
     try simp(disch:=omega)[kb,hf7,aj,z5]
     refine rndS (m,RR.1,v7) ⟨by simp only;omega,hro,ae _ _ _,?_,D2,hF,hE3,rv2,(sD2.ovr hD5 _).ovr hE3 _⟩;exact DrR.put d0.src (DrR.put d0.src dd m5 _) mb3 _
   .skip
    intro b5 hb5;have n35:b3≠b5:=by rintro rfl;rw[kb]at hb5;cases hb5
    have n5:b5≠s.b:=by rintro rfl;exact dd.src.told hb5
    have m5:=untold dd hb5;have sb:=(Sub.refl N).put hb5 (.cells true [str [],str [],.slice none 0 0] 3);have z5:=ae N b5 (.cells true [str [],str [],.slice none 0 0] 3);have kb:=sb _ _ kb;have dd:=dd.trans (DrR.sub dd.src sb);have hDN:=hDN.trans sb;refine⟨sb,?_⟩;generalize N.put b5 (.cells true [str [],str [],.slice none 0 0] 3)=Q at *
    try simp(disch:=omega)
    refine dL s d v _ _ hf dd.src ?_;intro t N3 ht e;have kb:=e.at n3 kb;have z5:=e.at n5 z5;have hDN:=e.keep D hDs hDN;have dd:=dd.trans e
    try simp(disch:=omega)
    refine bP d v t _ _ hok (hv.sub hDN) (by omega) ?_;intro v7 M7 o7;obtain⟨D2,rv2,sD2,nD2⟩:=cX o7;have hF:=fun i hi=>nD2 i (dd.keepT hi);have hE3:=nD2 b3 (by rw[kb];intro e;cases e);have hD5:=nD2 b5 (by rw[z5];intro e;cases e);have z5:=o7.sub _ _ z5;have kb:=o7.sub _ _ kb;have dd:=dd.trans (DrR.sub dd.src o7.sub);have hf7:=aD o7.rd;have hro:=fx hok t;have s7:=o7.sub;generalize dr d t=RR at *;unfold dkV;clear o7;refine sS ?_;refine⟨s7,?_⟩
    try simp(disch:=omega)[kb,hf7,aj,z5]
    refine rndS (m,RR.1,v7) ⟨by simp only;omega,hro,ae _ _ _,?_,D2,hF,hE3,rv2,(sD2.ovr hD5 _).ovr hE3 _⟩;exact DrR.put d0.src (DrR.put d0.src dd m5 _) mb3 _
  .skip
   refine⟨?_,?_⟩
   .skip
    refine dL s d v _ _ hf dd.src ?_;intro t N3 ht e;have kb:=e.at n3 kb;have hDN:=e.keep D hDs hDN;have dd:=dd.trans e
    try simp(disch:=omega)[cd,aq kb]
    refine⟨?_,?_⟩
    .skip
     refine⟨?_,?_⟩
     .skip
      refine bP d v t _ _ hok (hv.sub hDN) (by omega) ?_;intro v7 M7 o7;obtain⟨D2,rv2,sD2,nD2⟩:=cX o7;have hF:=fun i hi=>nD2 i (dd.keepT hi);have hE3:=nD2 b3 (by rw[kb];intro e;cases e);have kb:=o7.sub _ _ kb;have dd:=dd.trans (DrR.sub dd.src o7.sub);have hf7:=aD o7.rd;have hro:=fx hok t;have s7:=o7.sub;generalize dr d t=RR at *;unfold dkV;clear o7;refine sS ?_;refine⟨s7,?_⟩
      try simp(disch:=omega)[cd,aq kb,kb,hf,hf7,aj,aN]
      intro b5 hb5;have n35:b3≠b5:=by rintro rfl;rw[kb]at hb5;cases hb5
      have n5:b5≠s.b:=by rintro rfl;exact dd.src.told hb5
      have m5:=untold dd hb5;have hD5:=ba sD2 hb5;have sb:=(Sub.refl M7).put hb5 (.cells true [str [],str [],.slice none 0 0] 3);have z5:=ae M7 b5 (.cells true [str [],str [],.slice none 0 0] 3);have kb:=sb _ _ kb;have dd:=dd.trans (DrR.sub dd.src sb);have sD2:=sD2.trans sb;refine⟨sb,?_⟩;generalize M7.put b5 (.cells true [str [],str [],.slice none 0 0] 3)=Q at *
      try simp(disch:=omega)[kb,hf7,aj,z5]
      refine rndS (m,RR.1,v7) ⟨by simp only;omega,hro,ae _ _ _,?_,D2,hF,hE3,rv2,(sD2.ovr hD5 _).ovr hE3 _⟩;exact DrR.put d0.src (DrR.put d0.src dd m5 _) mb3 _
     .skip
      intro b5 hb5;have n35:b3≠b5:=by rintro rfl;rw[kb]at hb5;cases hb5
      have n5:b5≠s.b:=by rintro rfl;exact dd.src.told hb5
      have m5:=untold dd hb5;have sb:=(Sub.refl N3).put hb5 (.cells true [str [],str [],.slice none 0 0] 3);have z5:=ae N3 b5 (.cells true [str [],str [],.slice none 0 0] 3);have kb:=sb _ _ kb;have dd:=dd.trans (DrR.sub dd.src sb);have hDN:=hDN.trans sb;refine⟨sb,?_⟩;generalize N3.put b5 (.cells true [str [],str [],.slice none 0 0] 3)=Q at *
      try simp(disch:=omega)
      refine bP d v t _ _ hok (hv.sub hDN) (by omega) ?_;intro v7 M7 o7;obtain⟨D2,rv2,sD2,nD2⟩:=cX o7;have hF:=fun i hi=>nD2 i (dd.keepT hi);have hE3:=nD2 b3 (by rw[kb];intro e;cases e);have hD5:=nD2 b5 (by rw[z5];intro e;cases e);have z5:=o7.sub _ _ z5;have kb:=o7.sub _ _ kb;have dd:=dd.trans (DrR.sub dd.src o7.sub);have hf7:=aD o7.rd;have hro:=fx hok t;have s7:=o7.sub;generalize dr d t=RR at *;unfold dkV;clear o7;refine sS ?_;refine⟨s7,?_⟩
      try simp(disch:=omega)[kb,hf7,aj,z5]
      refine rndS (m,RR.1,v7) ⟨by simp only;omega,hro,ae _ _ _,?_,D2,hF,hE3,rv2,(sD2.ovr hD5 _).ovr hE3 _⟩;exact DrR.put d0.src (DrR.put d0.src dd m5 _) mb3 _
    .skip
     intro b5 hb5;have n35:b3≠b5:=by rintro rfl;rw[kb]at hb5;cases hb5
     have n5:b5≠s.b:=by rintro rfl;exact dd.src.told hb5
     have m5:=untold dd hb5;have sb:=(Sub.refl N3).put hb5 (.cells true [str [],str [],.slice none 0 0] 3);have z5:=ae N3 b5 (.cells true [str [],str [],.slice none 0 0] 3);have kb:=sb _ _ kb;have dd:=dd.trans (DrR.sub dd.src sb);have hDN:=hDN.trans sb;refine⟨sb,?_⟩;generalize N3.put b5 (.cells true [str [],str [],.slice none 0 0] 3)=Q at *
     try simp(disch:=omega)[aq kb]
     refine bP d v t _ _ hok (hv.sub hDN) (by omega) ?_;intro v7 M7 o7;obtain⟨D2,rv2,sD2,nD2⟩:=cX o7;have hF:=fun i hi=>nD2 i (dd.keepT hi);have hE3:=nD2 b3 (by rw[kb];intro e;cases e);have hD5:=nD2 b5 (by rw[z5];intro e;cases e);have z5:=o7.sub _ _ z5;have kb:=o7.sub _ _ kb;have dd:=dd.trans (DrR.sub dd.src o7.sub);have hf7:=aD o7.rd;have hro:=fx hok t;have s7:=o7.sub;generalize dr d t=RR at *;unfold dkV;clear o7;refine sS ?_;refine⟨s7,?_⟩
     try simp(disch:=omega)[kb,hf7,aj,z5]
     refine rndS (m,RR.1,v7) ⟨by simp only;omega,hro,ae _ _ _,?_,D2,hF,hE3,rv2,(sD2.ovr hD5 _).ovr hE3 _⟩;exact DrR.put d0.src (DrR.put d0.src dd m5 _) mb3 _
   .skip
    intro b5 hb5;have n35:b3≠b5:=by rintro rfl;rw[kb]at hb5;cases hb5
    have n5:b5≠s.b:=by rintro rfl;exact dd.src.told hb5
    have m5:=untold dd hb5;have sb:=(Sub.refl N).put hb5 (.cells true [str [],str [],.slice none 0 0] 3);have z5:=ae N b5 (.cells true [str [],str [],.slice none 0 0] 3);have kb:=sb _ _ kb;have dd:=dd.trans (DrR.sub dd.src sb);have hDN:=hDN.trans sb;refine⟨sb,?_⟩;generalize N.put b5 (.cells true [str [],str [],.slice none 0 0] 3)=Q at *
    try simp(disch:=omega)[cd,aq kb]
    refine⟨?_,?_⟩
    .skip
     refine dL s d v _ _ hf dd.src ?_;intro t N3 ht e;have kb:=e.at n3 kb;have z5:=e.at n5 z5;have hDN:=e.keep D hDs hDN;have dd:=dd.trans e
     try simp(disch:=omega)
     refine bP d v t _ _ hok (hv.sub hDN) (by omega) ?_;intro v7 M7 o7;obtain⟨D2,rv2,sD2,nD2⟩:=cX o7;have hF:=fun i hi=>nD2 i (dd.keepT hi);have hE3:=nD2 b3 (by rw[kb];intro e;cases e);have hD5:=nD2 b5 (by rw[z5];intro e;cases e);have z5:=o7.sub _ _ z5;have kb:=o7.sub _ _ kb;have dd:=dd.trans (DrR.sub dd.src o7.sub);have hf7:=aD o7.rd;have hro:=fx hok t;have s7:=o7.sub;generalize dr d t=RR at *;unfold dkV;clear o7;refine sS ?_;refine⟨s7,?_⟩
     try simp(disch:=omega)[kb,hf7,aj,z5]
     refine rndS (m,RR.1,v7) ⟨by simp only;omega,hro,ae _ _ _,?_,D2,hF,hE3,rv2,(sD2.ovr hD5 _).ovr hE3 _⟩;exact DrR.put d0.src (DrR.put d0.src dd m5 _) mb3 _
    .skip
     refine dL s d v _ _ hf dd.src ?_;intro t N3 ht e;have kb:=e.at n3 kb;have z5:=e.at n5 z5;have hDN:=e.keep D hDs hDN;have dd:=dd.trans e
     try simp(disch:=omega)[aq kb]
     refine bP d v t _ _ hok (hv.sub hDN) (by omega) ?_;intro v7 M7 o7;obtain⟨D2,rv2,sD2,nD2⟩:=cX o7;have hF:=fun i hi=>nD2 i (dd.keepT hi);have hE3:=nD2 b3 (by rw[kb];intro e;cases e);have hD5:=nD2 b5 (by rw[z5];intro e;cases e);have z5:=o7.sub _ _ z5;have kb:=o7.sub _ _ kb;have dd:=dd.trans (DrR.sub dd.src o7.sub);have hf7:=aD o7.rd;have hro:=fx hok t;have s7:=o7.sub;generalize dr d t=RR at *;unfold dkV;clear o7;refine sS ?_;refine⟨s7,?_⟩
     try simp(disch:=omega)[kb,hf7,aj,z5]
     refine rndS (m,RR.1,v7) ⟨by simp only;omega,hro,ae _ _ _,?_,D2,hF,hE3,rv2,(sD2.ovr hD5 _).ovr hE3 _⟩;exact DrR.put d0.src (DrR.put d0.src dd m5 _) mb3 _
 .obtain rfl:k=0:=by omega
  have kc:=dd.at n2 k2;simp(disch:=omega)[aq kb];simp(disch:=omega)[kc,aj,hf];exact ad (h d v D _ hok (fun i hi=>hDM i (d0.keepT hi)) hv (hDN.ovr (hDM _ (by rw[k2];intro e;cases e)) _) (DrR.put hs (d0.trans dd) hb2 _))
theorem DT(s:Rng)(M:Mem)(R:VP)(hs:fo M s)(h:∀ t M',(t:B8).length<=200000->DrR s M M'->R (str t) M'):ar prog 50 [.pointer (some ⟨s.b,0,none⟩)] M R:=by
 refine fnT func50 rfl ntmps50 results50 ?_;refine iz _ _ ?_;intro v0 M1 o1;unfold iC;have hf0:=aD o1.rd;refine sS ?_;intro b3 hb3;simp(disch:=omega)[hf0,aj,aN];obtain⟨n3,mb3,J0⟩:=Gb hs o1 hb3;generalize M1.put b3 (.cells true [str [97,98,97,97,98],str [65,65],v0] 3)=N1 at *;refine aV s 8 _ _ J0.2.2.1.src ?_;intro x N2 _ hx e2;have hx:=hx (by omega);obtain⟨k0,rfl⟩:∃ k:Nat,x=k:=⟨x.toNat,by omega⟩;have J2:=Cc hs n3 J0 e2;have hk1:(1:Int)+(k0:Nat)=((k0+1:Nat):Int):=by omega
 refine sS ?_;refine aR aU (rlA [3,5,6,7,8] 14 18) (fun x:Nat×B8×Dk×Value=>[(5,.int .i64 (x.1:Nat)),(3,str x.2.1)]) (fun x N=>(x.2.1.length+x.1*20001<=160008/\k0+1<=x.1+x.2.1.length)/\H8 s M b3 x.2.2.1 x.2.2.2 N) (fun x=>x.1) (k0+1,[],dZ,v0) (by kernel_rfl) (by simp(disch:=omega)[hk1]) ⟨⟨by simp only[length_nil];omega,by simp only;omega⟩,J2⟩ ?_
 rintro⟨k,out,d,v⟩ N g hJ
 simp only at hJ;obtain⟨⟨hol,hlo⟩,hok,kb,dd,D,hDM,hD3,hv,hDN⟩:=hJ;have hDs:D s.b=none:=hDM _ hs.told;have hf:=aD hv;by_cases hk:0<k
 .have hkI:(0:Int)<(k:Nat):=by omega
  obtain⟨m,rfl⟩:∃ m,k=m+1:=⟨k-1,by omega⟩;have hm:((m+1:Nat):Int)-1=(m:Nat):=by omega
  simp(disch:=omega)[aq kb];refine dL s d v _ _ hf dd.src ?_;intro t N3 ht e;have kb:=e.at n3 kb;have hDN:=e.keep D hDs hDN;have dd:=dd.trans e;simp(disch:=omega)[aq kb];refine bP d v t _ _ hok (hv.sub hDN) (by omega) ?_;intro v7 M7 o7;obtain⟨D2,rv2,sD2,nD2⟩:=cX o7;have hF:=fun i hi=>nD2 i (dd.keepT hi);have hE3:=nD2 b3 (by rw[kb];intro e;cases e);have kb:=o7.sub _ _ kb;have dd:=dd.trans (DrR.sub dd.src o7.sub);have hf7:=aD o7.rd;have hro:=fx hok t;generalize dr d t=RR at *;unfold dkV;clear o7;refine sS ?_;intro b5 hb5;have n35:b3≠b5:=by rintro rfl;rw[kb]at hb5;cases hb5
  have hD5:=ba sD2 hb5;have m5:=untold dd hb5;simp(disch:=omega)[hf7,kb,aj,aN];refine rndS (m,out++t++[10],RR.1,v7) ⟨⟨?_,?_⟩,hro,ae _ _ _,DrR.put hs (DrR.put hs dd m5 _) mb3 _,D2,hF,hE3,rv2,(sD2.ovr hD5 _).ovr hE3 _⟩
  all_goals
   simp only[lAp,lSi];omega
 .obtain rfl:k=0:=by omega
  have hol:out.length<=160008:=by omega
  clear hD3 hDs hv hDN hDM D;refine sS ?_;refine aV s 40 _ _ dd.src ?_;intro y N3 _ hy e;have hy:=hy (by omega);have dd:=dd.trans e;obtain⟨y,rfl⟩:∃ k:Nat,y=k:=⟨y.toNat,by omega⟩;have hc:y=0\/y=1\/(y=2\/y=3\/y=4)\/5<=y:=by omega
  rcases hc with rfl|rfl|hc|hc
  .refine sS ?_;refine lupS (rlA [3] 36 5) (fun x:B8=>[(3,str x)]) (fun x N=>x.length<=170000/\N=N3) (fun x=>4001-x.length) out ⟨by omega,rfl⟩ ?_
   rintro o2 N4 g2 ⟨ho2,rfl⟩
   by_cases h4:o2.length<=4000
   .have h4I:(o2.length:Int)<=4000:=by omega
    simp(disch:=omega)[h4I];refine Rnd.mk' (o2++[112,101,114,105,111,100,115,10]) (by simp only[lAp,lCo,length_nil];omega) (by (repeat (first|exact km|refine kp rfl ?_|refine km' rfl ?_))) (by simp(disch:=omega)) ⟨?_,rfl⟩;simp only[lAp,lCo,length_nil];omega
   .have h4I:¬(o2.length:Int)<=4000:=by omega
    simp(disch:=omega)[h4I];exact ad (h _ _ (by omega) dd)
  .refine sS ?_;refine lupS (rlA [3,9] 43 6) (fun x:Nat×B8=>[(9,.int .i64 (x.1:Nat)),(3,str x.2)]) (fun x N=>(x.1<=40/\x.2.length<=160008+x.1)/\N=N3) (fun x=>40-x.1) (0,out) ⟨⟨by simp only;omega,by simp only;omega⟩,rfl⟩ ?_
   rintro⟨j,o2⟩ N4 g2 ⟨⟨hj,ho2⟩,rfl⟩
   simp only at hj ho2;by_cases h4:j<40
   .have h4I:(j:Int)<40:=by omega
    simp(disch:=omega)[h4I];refine rndS (j+1,o2++[10]) ⟨⟨by simp only;omega,?_⟩,rfl⟩;simp only[lAp,lSi];omega
   .have h4I:¬(j:Int)<40:=by omega
    simp(disch:=omega)[h4I];exact ad (h _ _ (by omega) dd)
  .have e1:((out.length:Int)-1)=((out.length-1:Nat):Int):=by omega
   rcases hc with rfl|rfl|rfl
   all_goals
    simp(disch:=omega)[e1];exact ad (h _ _ (by simp(disch:=omega);omega) dd)
  .have q0:¬(y:Int)=0:=by omega
   have q1:¬(y:Int)=1:=by omega
   have q2:¬(y:Int)=2:=by omega
   have q3:¬(y:Int)=3:=by omega
   have q4:¬(y:Int)=4:=by omega
   refine sS ?_;exact ad (h _ _ (by omega) dd)
theorem Fh(v:Value)(xs:B8)(M:Mem)(R:VP)(hv:Rd M v (av xs))(hl:xs.length<=4096)(h:∀ t M',(t:B8).length<=200000->Sub M M'->R (str t) M'):ar prog 25 [v] M R:=by
 refine fnS func25 rfl ntmps25 results25 ?_;have hf:=aD hv;refine sS ?_;refine uv v xs _ _ hv hl ?_;intro s M1 hsb s1 hs;refine sS ?_;refine DT s _ _ hs ?_;intro t M2 ht d;refine sS ?_;exact ad (h t _ ht (d.keep M hsb s1))
def DkB(d:Dk):Prop:=d.w.length<=1000/\d.p.length<=1000/\d.ms.length<=200/\∀ w∈d.ms,w.length<=100
theorem L3{M N:Mem}(h:Sub M N){i:Nat}(hi:M i≠none):N i≠none:=by
 cases e:M i with
 | none=>exact absurd e hi
 | some B=>rw[h _ _ e];intro q;cases q
theorem Pw{d:Dk}(h:d.ok):DkB d:=by
 obtain⟨hw,hp,hm⟩:=h;have:=au hw;have:=(bC hp).2.1;have:=aW hm;exact⟨by omega,by omega,by omega,fun w hw=>by have:=(bH hm hw).1;omega⟩
theorem F0(v:Value)(xs:B8)(M:Mem)(R:VP)(hv:Rd M v (av xs))(hl:xs.length<=4096)(h:∀ d u D M',DkB d->(∀ i,M i≠none->D i=none)->Rd D u (strs d.ms)->Sub D M'->Sub M M'->R (dkV d u) M'):ar prog 42 [v] M R:=by
 unfold dkV at h;refine fnS func42 rfl ntmps42 results42 ?_;have hfv:=aD hv;refine sS ?_;intro b2 hb2;have s0:=(Sub.refl M).put hb2 (.cells true [str [],str [],.slice none 0 0] 3);have k2:=ae M b2 (.cells true [str [],str [],.slice none 0 0] 3);refine sS ?_;generalize M.put b2 (.cells true [str [],str [],.slice none 0 0] 3)=M0 at *;refine uv v xs _ _ (hv.sub s0) hl ?_;intro s M1 hsb s1 hs;have n2:b2≠s.b:=by rintro rfl;rw[hsb]at k2;cases k2
 refine sS ?_;refine qy s _ _ hs ?_;intro d u D M2 hok hDM hu hDN dd;have hf:=aD hu;have hDs:D s.b=none:=hDM _ hs.told;unfold dkV;refine sS ?_;intro b4 hb4;have n4:b4≠s.b:=by rintro rfl;exact dd.src.told hb4
 have m4:=untold dd hb4;have hD4:=ba hDN hb4;simp(disch:=omega)[hf,aj,aN];have kb:=ae M2 b4 (.cells true [str d.w,str d.p,u] 3);have hDN:=hDN.putN hb4 (.cells true [str d.w,str d.p,u] 3);have dd:=DrR.put hs dd m4 (.cells true [str d.w,str d.p,u] 3);have n24:b2≠b4:=by rintro rfl;rw[s1 _ _ k2]at m4;cases m4
 generalize M2.put b4 (.cells true [str d.w,str d.p,u] 3)=N at *;refine aV s 8 _ _ dd.src ?_;intro x N2 _ hx e;have hx:=hx (by omega);have kb:=e.at n4 kb;have hDN:=e.keep D hDs hDN;have dd:=dd.trans e;obtain⟨x,rfl⟩:∃ k:Nat,x=k:=⟨x.toNat,by omega⟩;have hD2:D b2=none:=hDM _ (by rw[s1 _ _ k2];intro e;cases e);have hDF:∀ i,M i≠none->D i=none:=fun i hi=>hDM i (L3 (s0.trans s1) hi);have hb:=Pw hok;have hMs:M s.b=none:=ba s0 hsb;have hM4:M b4=none:=ba (s0.trans s1) m4;have fin:∀(d':Dk) (u':Value) (D' N':Mem),DkB d'->(∀ i,M1 i≠none->D' i=none)->D' b4=none->Rd D' u' (strs d'.ms)->Sub D' N'->DrR s M1 N'->R (.agg #[str d'.w,str d'.p,u']) ((N'.put b4 (.cells true [str d'.w,str d'.p,u'] 3)).put b2 (.cells true [str d'.w,str d'.p,u'] 3)):=by
  intro d' u' D' N' h1 h2 h3 h4 h5 h6;refine h d' u' D' _ h1 (fun i hi=>h2 i (L3 (s0.trans s1) hi)) h4 ((h5.ovr h3 _).ovr (h2 _ (by rw[s1 _ _ k2];intro e;cases e)) _) ?_;exact((h6.keep M hMs (s0.trans s1)).ovr hM4 _).ovr hb2 _
 have hc:x=0\/x=1\/x=2\/3<=x:=by omega
 rcases hc with rfl|rfl|rfl|hc
 .refine sS ?_;refine KT s _ _ dd.src ?_;intro w N3 hw e3;have kb:=e3.at n4 kb;have kc:=(dd.trans e3).at n2 (s1 _ _ k2);have q:=fin ⟨w,d.p,d.ms⟩ u D N3 ⟨by show w.length<=1000;omega,hb.2.1,hb.2.2⟩ hDM hD4 hu (e3.keep D hDs hDN) (dd.trans e3);simp(disch:=omega)[kb,aj,kc,hf];exact ad q
 .refine sS ?_;refine Aa s _ _ dd.src ?_;intro p N3 hp e3;have hp8:=hp.1;refine sS ?_;refine On s p _ _ e3.src (by omega) ?_;intro p2 N4 hp2 e4;have dd:=(dd.trans e3).trans e4;have kb:=e4.at n4 (e3.at n4 kb);have kc:=dd.at n2 (s1 _ _ k2);have q:=fin ⟨d.w,p2,d.ms⟩ u D N4 ⟨hb.1,by show p2.length<=1000;omega,hb.2.2⟩ hDM hD4 hu (e4.keep D hDs (e3.keep D hDs hDN)) dd;simp(disch:=omega)[kb,aj,kc,hf];exact ad q
 .refine sS ?_;refine IT s _ _ dd.src ?_;intro u2 ws D2 N3 hF2 hu2 hD2N e3 h200 h100;have hf2:=aD hu2;have hD4':=hF2 b4 (by rw[kb];intro e;cases e);have q:=fin ⟨d.w,d.p,ws⟩ u2 D2 N3 ⟨hb.1,hb.2.1,h200,h100⟩ (fun i hi=>hF2 i (dd.keepT hi)) hD4' hu2 hD2N (dd.trans e3);have kb:=e3.at n4 kb;have kc:=(dd.trans e3).at n2 (s1 _ _ k2);simp(disch:=omega)[kb,aj,kc,hf2];exact ad q
 .have q0:¬(x:Int)=0:=by omega
  have q1:¬(x:Int)=1:=by omega
  have q2:¬(x:Int)=2:=by omega
  have kc:=dd.at n2 (s1 _ _ k2);simp(disch:=omega)[aq kb];simp(disch:=omega)[kc,aj,hf];exact ad (h d u D _ hb hDF hu (hDN.ovr hD2 _) ((dd.keep M hMs (s0.trans s1)).ovr hb2 _))
theorem IB(v:Value)(xs:B8)(M:Mem)(R:VP)(hv:Rd M v (av xs))(hl:xs.length<=4096)(h:∀ d u t M',DkB d->Rd M' u (strs d.ms)->Sub M M'->(t:B8).length<=30000->R (.tuple #[dkV d u,str t]) M'):ar prog 22 [v] M R:=by
 unfold dkV at h;refine fnS func22 rfl ntmps22 results22 ?_;have hfv:=aD hv;refine sS ?_;intro b2 hb2;have s0:=(Sub.refl M).put hb2 (.cells true [str [],str [],.slice none 0 0] 3);have k2:=ae M b2 (.cells true [str [],str [],.slice none 0 0] 3);refine sS ?_;generalize M.put b2 (.cells true [str [],str [],.slice none 0 0] 3)=M0 at *;refine uv v xs _ _ (hv.sub s0) hl ?_;intro s M1 hsb s1 hs;have n2:b2≠s.b:=by rintro rfl;rw[hsb]at k2;cases k2
 refine sS ?_;refine qy s _ _ hs ?_;intro d u D M2 hok hDM hu hDN dd;have hf:=aD hu;have hDs:D s.b=none:=hDM _ hs.told;unfold dkV;refine sS ?_;intro b5 hb5;have n5:b5≠s.b:=by rintro rfl;exact dd.src.told hb5
 have m5:=untold dd hb5;simp(disch:=omega)[hf,aj,aN];have kb:=ae M2 b5 (.cells true [str d.w,str d.p,u] 3);have hD5:=ba hDN hb5;have hDN:=hDN.putN hb5 (.cells true [str d.w,str d.p,u] 3);have dd:=DrR.put hs dd m5 (.cells true [str d.w,str d.p,u] 3);have n25:b2≠b5:=by rintro rfl;rw[s1 _ _ k2]at m5;cases m5
 have hMs:M s.b=none:=ba s0 hsb;have hM5:M b5=none:=ba (s0.trans s1) m5;have hD2:D b2=none:=hDM _ (by rw[s1 _ _ k2];intro e;cases e);generalize M2.put b5 (.cells true [str d.w,str d.p,u] 3)=N at *;refine dL s d u _ _ hf dd.src ?_;intro t N2 ht e;have kb:=e.at n5 kb;have hDN:=e.keep D hDs hDN;have dd:=dd.trans e;refine sS ?_;refine aV s 20 _ _ dd.src ?_;intro x N3 _ hx e3;have hx:=hx (by omega);have kb:=e3.at n5 kb;have hDN:=e3.keep D hDs hDN;have dd:=dd.trans e3;have hb:=Pw hok;have tail:∀(d':Dk) (u':Value) (D' N':Mem),DkB d'->D' s.b=none->D' b2=none->D' b5=none->Rd D' u' (strs d'.ms)->Sub D' N'->N' b5=some (.cells true [str d'.w,str d'.p,u'] 3)->DrR s M1 N'->∀ t2 N2',(t2:B8).length<=30000->DrR s N' N2'->R (.tuple #[.agg #[str d'.w,str d'.p,u'],str t2]) (N2'.put b2 (.cells true [str d'.w,str d'.p,u'] 3)):=by
  intro d' u' D' N' h1 h2 h3 h4 h5 h6 h7 h8 t2 N2' ht2 e2;exact h d' u' t2 _ h1 (h5.sub ((e2.keep D' h2 h6).ovr h3 _)) (((h8.trans e2).keep M hMs (s0.trans s1)).ovr hb2 _) ht2
 by_cases h0:x=0
 .subst h0;refine sS ?_;refine F0 v xs _ _ (hv.sub (dd.keep M hMs (s0.trans s1))) hl ?_;intro d2 u2 D2 N4 hb2' hF2 hu2 hD2N sN;have hf2:=aD hu2;have kb4:=sN _ _ kb;have dd4:=dd.trans (DrR.sub dd.src sN);have hE5:=hF2 b5 (by rw[kb];intro e;cases e);have hE2:=hF2 b2 (by rw[dd.at n2 (s1 _ _ k2)];intro e;cases e);have hEs:=hF2 s.b dd.src.told;unfold dkV;simp(disch:=omega)[hf2,kb4,aj];have q5:=ae N4 b5 (.cells true [str d2.w,str d2.p,u2] 3);have dd5:=DrR.put hs dd4 m5 (.cells true [str d2.w,str d2.p,u2] 3);have tail:=tail d2 u2 D2 _ hb2' hEs hE2 hE5 hu2 (hD2N.ovr hE5 _) q5 dd5;generalize N4.put b5 (.cells true [str d2.w,str d2.p,u2] 3)=N5 at *;refine aV s 12 _ _ dd5.src ?_;intro y N6 _ hy e6;have hy:=hy (by omega);have q6:=e6.at n5 q5;by_cases h1:y=0
  .subst h1;refine sS ?_;refine oB s t _ _ e6.src (by omega) ?_;intro w N7 hw e7;have q7:=e7.at n5 q6;have kc:=((dd5.trans e6).trans e7).at n2 (s1 _ _ k2);have tail:=tail w N7 (by omega) (e6.trans e7);simp(disch:=omega)[aq q7,kc,aj,hf2];exact ad tail
  .have kc:=(dd5.trans e6).at n2 (s1 _ _ k2);have tail:=tail t N6 (by omega) e6;simp(disch:=omega)[aq q6,kc,aj,hf2];exact ad tail
 .refine sS ?_;have tail:=tail d u D _ hb hDs hD2 hD5 hu hDN kb dd;refine aV s 12 _ _ dd.src ?_;intro y N6 _ hy e6;have hy:=hy (by omega);have q6:=e6.at n5 kb;by_cases h1:y=0
  .subst h1;refine sS ?_;refine oB s t _ _ e6.src (by omega) ?_;intro w N7 hw e7;have q7:=e7.at n5 q6;have kc:=((dd.trans e6).trans e7).at n2 (s1 _ _ k2);have tail:=tail w N7 (by omega) (e6.trans e7);simp(disch:=omega)[aq q7,kc,aj,hf];exact ad tail
  .have kc:=(dd.trans e6).at n2 (s1 _ _ k2);have tail:=tail t N6 (by omega) e6;simp(disch:=omega)[aq q6,kc,aj,hf];exact ad tail
end Go.Proofs.YtapimhjbilkfpaaGreatDoor
namespace Go.Proofs.YtapimhjbilkfpaaGreatDoor
open Go Go.Proofs.Tryz List
def noE(t:B8):Prop:=t.head?≠some 101
theorem TU(u:Nat):∃ b r,Lib.decDigits u=b::r/\b≠101:=by
 induction u using Nat.strongRecOn with
 | ind u ih=>
  rw[Lib.decDigits];split
  .rename_i h;refine⟨_,_,rfl,fun e=>?_⟩;have:=congrArg UInt8.toNat e;simp at this;omega
  .rename_i h;obtain⟨b,r,e,hb⟩:=ih (u/10) (by omega);exact⟨b,_,by rw[e];rfl,hb⟩
theorem Xk(n:Int)(x:B8):noE (Lib.itoa n++x):=by
 unfold Lib.itoa noE;split
 .simp
 .obtain⟨b,r,e,hb⟩:=TU n.toNat;rw[e];simpa using hb
theorem PZ(n:Int):noE (Lib.itoa n):=by rw[<-append_nil (Lib.itoa n)];exact Xk n []
theorem ZF(w x:B8):noE (qt w++x):=by unfold qt noE;simp
theorem CA(w:B8):noE (qt w):=by unfold qt noE;simp
theorem V7(b:Bool):noE (gH b):=by unfold gH noE;cases b<;>simp
theorem OX(l:List B8)(hl:l≠[])(h:∀ w∈l,w≠[]/\noE w):noE (Lib.join l [32]):=by
 cases l with
 | nil=>exact absurd rfl hl
 | cons w r=>
  obtain⟨h1,h2⟩:=h w (by simp);cases w with
  | nil=>exact absurd rfl h1
  | cons u w=>
   unfold noE at h2 ⊢;cases r<;>simpa[Lib.join,intercalate,intersperse] using h2
theorem Ta(l:List B8):noE (dk l):=by
 unfold dk;split
 .unfold noE;simp
 .rename_i h;refine OX _ (by simpa using h) fun w hw=>?_;obtain⟨v,_,rfl⟩:=mem_map.1 hw;exact⟨by unfold qt;simp,CA v⟩
theorem Ps(l:List Int):noE (dP l):=by
 unfold dP;split
 .unfold noE;simp
 .rename_i h;refine OX _ (by simpa using h) fun w hw=>?_;obtain⟨v,_,rfl⟩:=mem_map.1 hw;refine⟨?_,PZ v⟩;unfold Lib.itoa;split
  .simp
  .obtain⟨b,r,e,hb⟩:=TU v.toNat;rw[e];simp
theorem kC{d d':Dk}{t t':B8}{c:Int}(hl:noE t)(h:bt d t c=some (d',t')):noE t':=by
 obtain⟨_,_,rfl⟩:=uR h;exact hl
theorem wN{d d':Dk}{t t':B8}{c:Int}(h:bec d t c=some (d',t')):noE t':=kC (CA t) h
theorem aam:noE [111,107]:=by unfold noE;simp
theorem SQ{d d':Dk}{c t:B8}(h:aM d c=some (d',t)):noE t:=by
 unfold aM bM dS at h
 repeat
  refine aE h (fun _ h=>?_) (fun _ h=>?_)
  .first|exact wN h|exact kC (CA _) h|exact kC (ZF _ _) h|exact kC (Xk _ _) h|exact kC (PZ _) h|exact kC (Ps _) h|exact kC (Ta _) h|exact kC (V7 _) h|exact kC aam h
 cases h
theorem X2{d d':Dk}{c t:B8}{a b:Int}(h:gj d c a b=some (d',t)):noE t:=by
 unfold gj at h
 repeat
  refine aE h (fun _ h=>?_) (fun _ h=>?_)
  .first|exact wN h|exact kC (CA _) h|exact kC (PZ _) h|exact kC (Ps _) h
 cases h
theorem Uj{d d':Dk}{c t u:B8}(h:dW d c t=some (d',u)):noE u:=by
 unfold dW at h;refine aE h (fun _ h=>?_) (fun _ h=>?_)
 .split at h
  .exact wN h
  .cases h
 refine aE h (fun _ h=>wN h) (fun _ h=>?_);refine aE h (fun _ h=>?_) (fun _ h=>?_)
 .split at h
  .exact kC (CA _) h
  .cases h
 exact kC (CA _) h
theorem Xl{d d':Dk}{c u:B8}{n:List Int}(h:gJ d c n=some (d',u)):noE u:=by
 unfold gJ at h;refine aE h (fun _ h=>wN h) (fun _ h=>?_);split at h
 .exact SQ h
 .refine aE h (fun _ h=>wN h) (fun _ h=>?_);refine aE h (fun _ h=>wN h) (fun _ h=>?_);cases h
 .exact X2 h
 .cases h
theorem Wi(d:Dk)(l:B8)(h:(dr d l).2=[101,114,114,111,114]):(dr d l).1=d:=by
 unfold dr at h ⊢;cases hx:oH d l with
 | none=>rfl
 | some r=>
  obtain⟨d',u⟩:=r;rw[hx]at h;have h:u=[101,114,114,111,114]:=h;exfalso;have hn:noE u:=by
   unfold oH gK at hx;refine aE hx (fun _ hx=>?_) (fun _ hx=>?_)
   .split at hx
    .exact Uj hx
    .cases hx
   refine aE hx (fun _ hx=>?_) (fun _ hx=>?_)
   .split at hx
    .exact wN hx
    .cases hx
   .split at hx
    .exact Xl hx
    .cases hx
  rw[h]at hn;exact hn rfl
end Go.Proofs.YtapimhjbilkfpaaGreatDoor
namespace Go.Proofs.YtapimhjbilkfpaaGreatDoor
open Go Go.Proofs.Tryz Go.RowKit List
theorem Xz(d:Dk)(l:B8):(rlD d l).ms.length<=5:=by
 unfold rlD;by_cases h:dx d.w d.p d.ms=true
 .rw[if_pos h];exact(aW (fx (ya h) l).2.2).2
 .rw[if_neg h];exact lZe _
theorem LJ{d:Dk}(h:dx d.w d.p d.ms=true)(l:B8):dx (rlD d l).w (rlD d l).p (rlD d l).ms=true/\(rlT d l=[101,114,114,111,114]->rlD d l=d)/\(rlD d l).ok:=by
 have hok:=ya h;obtain⟨e1,e2⟩:=TJ hok l;rw[e1,e2];have hr:=fx hok l;refine⟨?_,Wi d l,hr⟩;obtain⟨h1,h2,h3⟩:=hr;unfold dx;exact Bool.and_eq_true_iff.2 ⟨h1,Bool.and_eq_true_iff.2 ⟨h2,h3⟩⟩
theorem JM:dx [97,98,97,97,98] [65,65] [[97,98],[97]]=true:=by
 obtain⟨h1,h2,h3⟩:=lC;unfold dx;exact Bool.and_eq_true_iff.2 ⟨h1,Bool.and_eq_true_iff.2 ⟨h2,h3⟩⟩
theorem AB(v:Value)(xs:B8)(M:Mem)(hvar:cj M)(hv:Rd M v (av xs))(hl:xs.length<=9223372036854775807):ar prog 7 [v] M (fun v _=>v=.bool true):=by
 have hfv:=aD hv;refine fnT func7 rfl ntmps7 results7 ?_;refine Rx v xs _ _ hv hl ?_;by_cases hbig:4096<xs.length
 .rw[dTr hbig];refine sS ?_;exact ad rfl
 rw[dFa hbig];refine sS ?_;refine IB v xs _ _ hv (by omega) ?_;intro d u t M1 hb hu s1 ht;have hfu:=aD hu;have hvar:=hvar.sub s1;have hv:=hv.sub s1;obtain⟨hbw,hbp,hbm,hbx⟩:=hb;have hfine:cS d.ms:=fun w hw=>by have:=hbx w hw;omega
 unfold dkV;refine sS ?_;intro b3 hb3;have s3:=(Sub.refl M1).put hb3 (.cells true [str d.w,str d.p,u] 3);have k3:=ae M1 b3 (.cells true [str d.w,str d.p,u] 3);have hvar:=hvar.sub s3;have hv:=hv.sub s3;have hu:=hu.sub s3;simp(disch:=omega)[hfu,aj,aN];generalize M1.put b3 (.cells true [str d.w,str d.p,u] 3)=P1 at *;refine gG d u t _ _ (by omega) (by omega) hfine (by omega) hvar hu (by omega) ?_;intro v5 M5 o5;have hf5:=aD o5.rd;unfold dkV;refine sS ?_;intro b5 hb5;have k35:=o5.sub _ _ k3;have n35:b3≠b5:=by rintro rfl;rw[k35]at hb5;cases hb5
 have s5:=(Sub.refl M5).put hb5 (.cells true [str (rlD d t).w,str (rlD d t).p,v5] 3);have k5:=ae M5 b5 (.cells true [str (rlD d t).w,str (rlD d t).p,v5] 3);have k3:=s5 _ _ k35;have r5:=o5.rd.sub s5;have hvar:=(hvar.sub o5.sub).sub s5;have hv:=(hv.sub o5.sub).sub s5;have hu:=(hu.sub o5.sub).sub s5;simp(disch:=omega)[hf5,aj,aN,aq k3];generalize M5.put b5 (.cells true [str (rlD d t).w,str (rlD d t).p,v5] 3)=P2 at *;refine sO d u t _ _ (by omega) (by omega) hfine (by omega) hu (by omega) ?_;intro v7 M7 o7;have hf7:=aD o7.rd;unfold dkV;refine sS ?_;intro b7 hb7;have k37:=o7.sub _ _ k3;have k57:=o7.sub _ _ k5;have n37:b3≠b7:=by rintro rfl;rw[k37]at hb7;cases hb7
 have n57:b5≠b7:=by rintro rfl;rw[k57]at hb7;cases hb7
 have s7:=(Sub.refl M7).put hb7 (.cells true [str (rlD d t).w,str (rlD d t).p,v7] 3);have k7:=ae M7 b7 (.cells true [str (rlD d t).w,str (rlD d t).p,v7] 3);have k3:=s7 _ _ k37;have k5:=s7 _ _ k57;have r7:=o7.rd.sub s7;have hvar:=(hvar.sub o7.sub).sub s7;have hv:=(hv.sub o7.sub).sub s7;have hu:=(hu.sub o7.sub).sub s7;have r5:=(r5.sub o7.sub).sub s7;simp(disch:=omega)[hf7,aj,aN];generalize M7.put b7 (.cells true [str (rlD d t).w,str (rlD d t).p,v7] 3)=P3 at *;have hsm:(rlD d t).ms.length<=1099511627776:=by have:=Xz d t;omega
 refine plyS (ai [0,1,2,3,4,5] (.one 6 1 (ai [7,8,9,10,12] (.one 11 1 (.one 13 1 (ai [14,15,16] (.one 17 1 (.one 18 1 (ai [19,20] .fin))))))))) ?_;simp(disch:=omega)[aq k5,aq k7];refine rr _ _ _ _ _ _ _ _ _ _ r5 r7 hsm hsm ?_;simp(disch:=omega)[aq k3];refine iB d.w d.p u d.ms _ _ hu (by omega) (by omega) hfine (by omega) ?_;refine sS ?_;refine nE d.w d.p u d.ms _ _ hu (by omega) (by omega) hfine (by omega) ?_;refine sS ?_;refine eQ _ _ ?_;intro v9 M9 o9;unfold iC;have hf9:=aD o9.rd;refine sS ?_;refine⟨o9.sub,?_⟩;refine iB [97,98,97,97,98] [65,65] v9 [[97,98],[97]] _ _ o9.rd (by decide) (by decide) (fun w hw=>by
  simp only[mem_cons,not_mem_nil,or_false]at hw;rcases hw with rfl|rfl<;>decide) (by decide) ?_
 rw[JM];refine sS ?_;have k3:=o9.sub _ _ k3;have k5:=o9.sub _ _ k5;have hvar:=hvar.sub o9.sub;have hv:=hv.sub o9.sub;have hu:=hu.sub o9.sub;have r5:=r5.sub o9.sub;clear o9;simp(disch:=omega)[aq k3];refine nE d.w d.p u d.ms _ _ hu (by omega) (by omega) hfine (by omega) ?_;have three:dx d.w d.p d.ms=false\/(dx d.w d.p d.ms=true/\¬ rlT d t=[101,114,114,111,114])\/(dx d.w d.p d.ms=true/\rlT d t=[101,114,114,111,114]):=by
  cases dx d.w d.p d.ms
  .exact .inl rfl
  .by_cases h:rlT d t=[101,114,114,111,114]
   .exact .inr (.inr ⟨rfl,h⟩)
   .exact .inr (.inl ⟨rfl,h⟩)
 rcases three with ha|⟨hb1,hb2⟩|⟨hc1,hc2⟩
 all_goals first
  | (
    rw[ha];simp(disch:=omega)[undef])
  | (
    obtain⟨j1,_,j3⟩:=LJ hb1 t;have jf:cS (rlD d t).ms:=fun w hw=>by have:=(bH j3.2.2 hw).1;omega
    have jw:=au j3.1;have jp:=(bC j3.2.1).2.1;have hne:=bNe.2 hb2;rw[hb1];simp(disch:=omega)[aq k5];refine iB (rlD d t).w (rlD d t).p v5 (rlD d t).ms _ _ r5 (by omega) (by omega) jf hsm ?_;rw[j1];simp(disch:=omega)[hne,undef])
  | (
    obtain⟨j1,j2,j3⟩:=LJ hc1 t;have j2:=j2 hc2;have jf:cS (rlD d t).ms:=fun w hw=>by have:=(bH j3.2.2 hw).1;omega
    have jw:=au j3.1;have jp:=(bC j3.2.1).2.1;rw[hc1];simp(disch:=omega)[aq k5];refine iB (rlD d t).w (rlD d t).p v5 (rlD d t).ms _ _ r5 (by omega) (by omega) jf hsm ?_;rw[j1];simp(disch:=omega)[hc2,aq k5,aq k3];rw[j2]at r5 ⊢;refine rr _ _ _ _ _ _ _ _ _ _ r5 hu (by omega) (by omega) ?_;simp(disch:=omega))
 all_goals
  clear k3 k5 k7 r5 r7;refine Fh v xs _ _ hv (by omega) ?_;intro l MA hl2 sA;have hvar:=hvar.sub sA;clear hu hv sA;refine sS ?_;refine tT l _ _ (by omega) hvar ?_;refine sS ?_;refine pX l _ _ (by omega) hvar ?_;intro v1 M1 o1;have hf1:=aD o1.rd;have hvar1:=hvar.sub o1.sub;unfold dkV;refine sS ?_;intro b6 hb6;have s1:=(Sub.refl M1).put hb6 (.cells true [str (daD l).w,str (daD l).p,v1] 3);have k6:=ae M1 b6 (.cells true [str (daD l).w,str (daD l).p,v1] 3);have r1:=o1.rd.sub s1;have hvar2:=hvar1.sub s1;simp(disch:=omega)[hf1,aj,aN];generalize M1.put b6 (.cells true [str (daD l).w,str (daD l).p,v1] 3)=P1 at *;refine pZ l _ _ (by omega) ?_;intro v2 M2 o2;have hf2:=aD o2.rd;unfold dkV;refine sS ?_;intro b8 hb8;have k6a:=o2.sub _ _ k6;have n68:b6≠b8:=by rintro rfl;rw[k6a]at hb8;cases hb8
  have s2:=(Sub.refl M2).put hb8 (.cells true [str (daD l).w,str (daD l).p,v2] 3);have k8:=ae M2 b8 (.cells true [str (daD l).w,str (daD l).p,v2] 3);have k6b:=s2 _ _ k6a;have r1b:=(r1.sub o2.sub).sub s2;have r2b:=o2.rd.sub s2;have hvar3:=(hvar2.sub o2.sub).sub s2;simp(disch:=omega)[hf2,aj,aN];generalize M2.put b8 (.cells true [str (daD l).w,str (daD l).p,v2] 3)=P2 at *;refine rS l _ _ (by omega) ?_;cases hcx:fB l with
  | none=>
   obtain⟨e1,e2,e3⟩:=SF hcx;simp(disch:=omega)[e2,e3];exact ad rfl
  | some P=>
   obtain⟨e1,e2,e3⟩:=SO hcx;obtain⟨c1,c2,c3⟩:=Oc hcx;have hsm:(daD l).ms.length<=1099511627776:=by have:=OM l;omega
   simp(disch:=omega)[e2];have hPl:P.2.length<=50000000:=by
    have h:=tN (cL l) (fun w hw=>by have:=F9 l w hw;omega) (cL l).length (lRf _);rw[HN,c3]at h;exact Nat.le_trans h (Nat.le_trans (Nat.mul_le_mul_right 1100001 c2) (by decide))
   rw[e3];refine eQ _ _ ?_;intro v9 M9 o9;unfold iC;have hf9:=aD o9.rd;refine sS ?_;intro b11 hb11;simp(disch:=omega)[hf9,aj,aN];have hvar4:=hvar3.sub o9.sub;have hr9:=o9.rd.put hb11 (.cells true [str [97,98,97,97,98],str [65,65],v9] 3);have s9:=(Sub.refl M9).put hb11 (.cells true [str [97,98,97,97,98],str [65,65],v9] 3);have k11:=ae M9 b11 (.cells true [str [97,98,97,97,98],str [65,65],v9] 3);have k69:=o9.sub _ _ k6b;have n611:b6≠b11:=by rintro rfl;rw[k69]at hb11;cases hb11
   have rl9:=r1b.sub o9.sub;generalize M9.put b11 (.cells true [str [97,98,97,97,98],str [65,65],v9] 3)=P3 at *;refine aR aU (rlA [16,17,18,19,20] 106 35) (fun x:(Nat×Nat)×(Dk×B8)×Value=>[(18,.int .i64 (x.1.1:Nat)),(17,.int .i64 (x.1.2:Nat)),(16,str x.2.1.2)]) (fun x N=>Zt l P M9 b11 x N) (fun x=>l.length+1-x.1.1) ((0,0),(dZ,[]),v9) (by kernel_rfl) (by simp(disch:=omega))
    ⟨lC,lZe _,k11,hr9,s9,.inl ⟨lZe _,lRf _,by simp,by rw[drop_zero,<-Ru];exact c3⟩⟩ ?_
   rintro⟨⟨i,b⟩,S,v⟩ N g hJ
   obtain⟨hok,hlen,kb,hr,hs,hcase⟩:=hJ;simp only at hok hlen kb hr hs hcase;rcases hcase with ⟨hi,hbi,hnn,hfold⟩|⟨hi,hb1,hS⟩
   .have hle:(i:Int)<=(l.length:Nat):=by omega
    by_cases hno:∃ u:UInt8,l[i]?=some u/\u≠10
    .obtain⟨u,hx,hu⟩:=hno;have hlt:i<l.length:=by
      rcases Nat.lt_or_ge i l.length with h|h
      .exact h
      .rw[getElem?_eq_none h]at hx;cases hx
     have hltI:(i:Int)<(l.length:Nat):=by omega
     have hg5:l[i]=u:=by rw[gEl hlt]at hx;injection hx
     have q6:((u.toNat:Int) != 10)=true:=by
      rw[bne_iff_ne];intro e;exact hu (UInt8.toNat_inj.1 (by show u.toNat=10;omega))
     simp(disch:=omega)[hle,hltI,hg5,q6];exact rndS ((i+1,b),S,v) ⟨hok,hlen,kb,hr,hs,.inl ⟨hlt,by simp only;omega,MK hbi hx hu hnn,hfold⟩⟩
    .have hstop:(i<l.length/\l[i]?=some 10)\/i=l.length:=by
      rcases Nat.lt_or_ge i l.length with h|h
      .refine .inl ⟨h,?_⟩;by_cases h3:l[i]=10
       .rw[gEl h,h3]
       .exact absurd ⟨_,gEl h,h3⟩ hno
      .exact .inr (by omega)
     have hnext:((i+1<=l.length/\i+1<=i+1/\(∀ u∈(l.take (i+1)).drop (i+1),u≠10)/\(spR 10 (l.drop (i+1))).foldl cD (cD S ((l.take i).drop b))=P)\/(i+1=l.length+1/\i+1<=l.length+1/\cD S ((l.take i).drop b)=P)):=by
      rcases hstop with ⟨h,hx⟩|h
      .refine .inl ⟨h,lRf _,?_,PO hbi hx hnn hfold⟩;rw[drop_eq_nil_of_le (by rw[lTa];omega)];intro u hu;cases hu
      .exact .inr ⟨by omega,by omega,by rw[h]at hnn ⊢;exact NY hnn hfold⟩
     have hwl:((l.take i).drop b).length=i-b:=by rw[lDr,lTa];omega
     by_cases hgt:b<i
     .have hgI:(b:Int)<(i:Nat):=by omega
      have hbI:(b:Int)<=(i:Nat):=by omega
      have hw60:=au hok.1;have hp8:=(bC hok.2.1).2.1;have hfi:cS S.1.ms:=fun w hw=>by have:=(bH hok.2.2 hw).1;omega
      have hm5:=(aW hok.2.2).2;rcases hstop with ⟨hh,hx⟩|hh
      all_goals first
       | (
         have hltI:(i:Int)<(l.length:Nat):=by omega
         have hg5:l[i]=10:=by rw[gEl hh]at hx;injection hx
         simp(disch:=omega)[hle,hltI,hg5,hgI])
       | (
         have hltI:¬(i:Int)<(l.length:Nat):=by omega
         simp(disch:=omega)[hle,hltI,undef,hgI])
      all_goals
       refine plyS (ai [0,1,2,3,4] (.alt 5 1 (ai [6,7,8] (.one 9 1 (.one 10 2 (ai [11] .fin)))) (.one 9 1 (.one 5 1 (ai [6,7,8] (.one 10 2 (ai [11] .fin))))))) ?_;simp(disch:=omega)[aq kb,cd];have hwne:(l.take i).drop b≠[]:=by
        intro e;rw[e]at hwl;have:(0:Nat)=i-b:=hwl;omega
       have hwlen:((l.take i).drop b).length<=1000000:=by omega
       obtain⟨ht1,ht2⟩:=Sm hok hwne hwlen hlen (i:=i) (by omega);obtain⟨hd1,hd2⟩:=TJ hok ((l.take i).drop b);have hst:cD S ((l.take i).drop b)=((dr S.1 ((l.take i).drop b)).1,S.2++(dr S.1 ((l.take i).drop b)).2++[10]):=by unfold cD;rw[if_neg hwne]
       have hrl:=pO hok hwlen;have hSl:S.2.length<=2000000000000:=Nat.le_trans hlen (Nat.le_trans (Nat.mul_le_mul_right 1100001 (show b<=1100000 by omega)) (by decide));have hl15:((l.take i).drop b).length<=1500000:=by omega
       clear hlen hwl;generalize (l.take i).drop b=w at *;have m9:∀ c,M9 c=none->∀ X,Sub M9 (N.put c X):=fun c hc X=>(hs.ovr hc X);refine⟨?_,?_⟩
       .refine gG S.1 v w _ _ (by omega) (by omega) hfi (by omega) (hvar4.sub hs) hr hl15 ?_;rw[hd1,hd2];intro v7 M7 o7;have hf7:=aD o7.rd;have kb7:=o7.sub _ _ kb;unfold dkV;refine sS ?_;refine⟨o7.sub,?_⟩;intro b15 hb15;have nb:b11≠b15:=by rintro rfl;rw[kb7]at hb15;cases hb15
        generalize dr S.1 w=RR at *;simp(disch:=omega)[hf7,aj,aN,kb7];refine⟨(Sub.refl M7).put hb15 _,?_⟩;refine rndA ((i+1,i+1),cD S w,v7) (by simp(disch:=omega)[hst]) ⟨ht2,ht1,?_,?_,((hs.trans o7.sub).putN hb15 _).ovr hb11 _,hnext⟩
        .simp only;rw[hst];exact ae _ _ _
        .simp only;rw[hst];exact((o7.push hb15 _).other (by rw[al _ _ nb];exact kb) _).rd
       .intro b15 hb15;have nb:b11≠b15:=by rintro rfl;rw[kb]at hb15;cases hb15
        have sq:=(Sub.refl N).put hb15 (.cells true [str [],str [],.slice none 0 0] 3);have z15:=ae N b15 (.cells true [str [],str [],.slice none 0 0] 3);have z11:=sq _ _ kb;refine sS ?_;refine⟨sq,?_⟩;generalize N.put b15 (.cells true [str [],str [],.slice none 0 0] 3)=Q at *;refine gG S.1 v w _ _ (by omega) (by omega) hfi (by omega) ((hvar4.sub hs).sub sq) (hr.sub sq) hl15 ?_;rw[hd1,hd2];intro v7 M7 o7;have hf7:=aD o7.rd;have kb7:=o7.sub _ _ z11;have k157:=o7.sub _ _ z15;unfold dkV;generalize dr S.1 w=RR at *;simp(disch:=omega)[hf7,aj,kb7,k157];refine⟨o7.sub,?_⟩;refine rndA ((i+1,i+1),cD S w,v7) (by simp(disch:=omega)[hst]) ⟨ht2,ht1,?_,?_,(((hs.trans sq).trans o7.sub).ovr (ba hs hb15) _).ovr hb11 _,hnext⟩
        .simp only;rw[hst];exact ae _ _ _
        .simp only;rw[hst];exact((o7.other z15 _).other (by rw[al _ _ nb];exact z11) _).rd
     .have hgI:¬(b:Int)<(i:Nat):=by omega
      obtain rfl:b=i:=by omega
      have hw0:(l.take b).drop b=[]:=drop_eq_nil_of_le (by rw[lTa];omega);rw[hw0,C2]at hnext;have hlen':S.2.length<=(b+1)*1100001:=Nat.le_trans hlen (Nat.mul_le_mul_right 1100001 (by omega));rcases hstop with ⟨hh,hx⟩|hh
      all_goals first
       | (
         have hltI:(b:Int)<(l.length:Nat):=by omega
         have hg5:l[b]=10:=by rw[gEl hh]at hx;injection hx
         simp(disch:=omega)[hle,hltI,hg5])
       | (
         have hltI:¬(b:Int)<(l.length:Nat):=by omega
         simp(disch:=omega)[hle,hltI,undef])
      all_goals
       exact rndS ((b+1,b+1),S,v) ⟨hok,hlen',kb,hr,hs,hnext⟩
   .have hle:¬(i:Int)<=(l.length:Nat):=by omega
    subst hS;simp(disch:=omega)[hle,aq kb,aq (hs _ _ k69)];rw[e1]at rl9 hsm ⊢;refine rr _ _ _ _ _ _ _ _ _ _ hr (rl9.sub hs) hsm hsm ?_;refine sS ?_;exact ad rfl
end Go.Proofs.YtapimhjbilkfpaaGreatDoor
