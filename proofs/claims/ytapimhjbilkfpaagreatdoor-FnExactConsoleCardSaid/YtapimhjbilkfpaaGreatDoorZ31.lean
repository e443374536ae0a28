/- Lemmas for FnExactDeskAfter, part 32 of 33. -/
import Derived.Test.YtapimhjbilkfpaaGreatDoorZ30
set_option linter.unusedVariables false
set_option linter.unusedSimpArgs false
namespace Go.Proofs.YtapimhjbilkfpaaGreatDoor
open Go Go.Proofs.Tryz Go.RowKit List
set_option maxRecDepth 4000
def goX:Nat->B8->Nat->Dk×B8->Option (Dk×B8)
 | 0,_,_,s=>some s
 | f+1,r,i,s=>if r=[] then some s else if 40<i+1 then none else goX f (eX r) (i+1) (cf s (Lib.trimSuffix (iB r) [10]))
theorem Cs{N:Mem}{b:Nat}(h:N b=none):¬ owns N b:=fun ⟨B,h1,_⟩=>by rw[h]at h1;cases h1
theorem aO{w:World}{b:Nat}{o:Obj}(h:w.heap[b]?=some o):b<w.heap.size:=(Array.getElem?_eq_some_iff.1 h).1
theorem bZ{N N':Mem}{w w':World}(x:Ext N w N' w'){b:Nat}{o:Obj}(hb:w.heap[b]?=some o)(hn:N b=none):w'.heap[b]?=some o:=(x.block b (aO hb) (Cs hn)).trans hb
theorem df{N N':Mem}{w w':World}(x:Ext N w N' w')(hnew:cF N N'){b:Nat}(hb:b<w.heap.size)(hn:N b=none):N' b=none:=by
 cases h:N' b with
 | none=>rfl
 | some B=>exact((x.own b ⟨B,h,hnew b B hn h⟩).elim (fun h'=>absurd h' (Cs hn)) (fun h'=>by omega))
theorem iY{N:Mem}{w w':World}{X:Nat}{row:Option Nat}(h:Rep N w)(ht:ey X row w w')(hX:N X=none)(hrow:∀ g,row=some g->N g=none):Rep N w':=fun b B hB=>
 Blk.holds_of (ht.block b (kn h hB) (by rintro rfl;rw[hX]at hB;cases hB) (fun e=>by rw[hrow b e]at hB;cases hB)) (h b B hB)
theorem jd{M0 N:Mem}{w0 w w':World}{X:Nat}{row:Option Nat}(h:Ext M0 w0 N w)(ht:ey X row w w')(hX:w0.heap.size<=X)(hrow:∀ g,row=some g->w0.heap.size<=g):Ext M0 w0 N w':=
 ⟨ht.os.trans h.os,ht.tape.trans h.tape,ht.output.trans h.output,Nat.le_trans h.size ht.size,fun b hb ho=>(ht.block b (Nat.lt_of_lt_of_le hb h.size) (by omega) (fun e=>by have:=hrow b e;omega)).trans (h.block b hb ho),h.own⟩
theorem eQ(w:World)(X:Nat)(o:Obj):ey X none w (w.putObj X o):=⟨rfl,rfl,rfl,by simp,fun k _ hk _=>World.putObj_heap_other hk⟩
theorem qD{w w':World}{base:Nat}{e:TypeId}{size:Nat}{v:Value}{n:Nat}{xs:List Value}(h:w.ownsRowF base e size v n xs)(hs:∀ g o,v.ownBlock=some g->w.heap[g]?=some o->w'.heap[g]?=some o):w'.ownsRowF base e size v n xs:=by
 refine⟨h.1,?_⟩;rcases h.2 with h|⟨g,cap,cur,fz,rfl,h1,h2,h3⟩
 ·exact .inl h
 ·exact .inr ⟨g,cap,cur,fz,rfl,h1,hs g _ rfl h2,h3⟩
structure Core(M0:Mem)(w0:World)(b7:Nat)(N:Mem)(W:World)(out:B8):Prop where
 rep:Rep N W
 ext:Ext M0 w0 N W
 n7:N b7=none
 bd:∃ p v,(p=.pointer none\/p=.pointer (some ⟨b7,0,none⟩))/\W.heap[b7]?=some (.cells #[p,v] 71 (0,0))/\W.ownsRowF w0.heap.size 5 1 v (av out).length (av out)/\v.ownBlock≠some b7/\(∀ g,v.ownBlock=some g->N g=none)/\(out=[]->v=.slice none 0 0)
theorem ja{w:World}{base:Nat}{e:TypeId}{size:Nat}{v:Value}{n:Nat}{xs:List Value}(h:w.ownsRowF base e size v n xs){g:Nat}(hg:v.ownBlock=some g):base<=g/\∃ c fz,w.heap[g]?=some (.cells c e fz):=by
 rcases h.2 with ⟨rfl,_⟩|⟨g',cap,cur,fz,rfl,h1,h2,h3⟩
 ·cases hg
 ·cases hg;exact⟨h1,_,_,h2⟩
theorem Core.turns{M0:Mem}{w0:World}{b7:Nat}{N:Mem}{W W':World}{out:B8}{X:Nat}(h:Core M0 w0 b7 N W out)(ht:ey X none W W')(hN:N X=none)(hX:w0.heap.size<=X)(h1:∀ c fz,W.heap[X]?≠some (.cells c 5 fz))(h2:∀ c fz,W.heap[X]?≠some (.cells c 71 fz)):Core M0 w0 b7 N W' out:=by
 obtain⟨p,v,hp,hb,ho,hne,hg,hz⟩:=h.bd;refine⟨iY h.rep ht hN (fun g e=>by cases e),jd h.ext ht hX (fun g e=>by cases e),h.n7,p,v,hp,?_,?_,hne,hg,hz⟩
 ·exact(ht.block b7 (aO hb) (by rintro rfl;exact h2 _ _ hb) (fun e=>by cases e)).trans hb
 ·exact qD ho fun g o hgo hgh=>by
   obtain⟨_,c,fz,hh⟩:=ja ho hgo;exact(ht.block g (aO hgh) (by rintro rfl;exact h1 _ _ hh) (fun e=>by cases e)).trans hgh
theorem Core.step{M0:Mem}{w0:World}{b7:Nat}{N N':Mem}{W W':World}{out:B8}(h:Core M0 w0 b7 N W out)(x:Ext N W N' W')(hr:Rep N' W')(hnew:cF N N'):Core M0 w0 b7 N' W' out:=by
 obtain⟨p,v,hp,hb,ho,hne,hg,hz⟩:=h.bd;refine⟨hr,h.ext.trans x,df x hnew (aO hb) h.n7,p,v,hp,bZ x hb h.n7,?_,hne,?_,hz⟩
 ·exact qD ho fun g o hgo hgh=>bZ x hgh (hg g hgo)
 ·intro g hgo;obtain⟨_,c,fz,hh⟩:=ja ho hgo;exact df x hnew (aO hh) (hg g hgo)
theorem Y6(B b:Nat)(bs:List Value)(s:ByteArray)(v p:Value)(w:World)(hp:p=.pointer none\/p=.pointer (some ⟨b,0,none⟩))(hb:w.heap[b]?=some (.cells #[p,v] 71 (0,0)))
  (hown:w.ownsRowF B 5 1 v bs.length bs) (hne:v.ownBlock≠some b) (hB:B<=b) (hlen:bs.length+s.size<=140737488355328) (hBw:B<=w.heap.size) :
  Calls prog 55 #[.pointer (some ⟨b,0,none⟩),.string s] w fun e w'=>e=.returned (.tuple #[.int .i64 s.size,.nilIface])/\(∃ v',w'.heap[b]?=some (.cells #[.pointer (some ⟨b,0,none⟩),v'] 71 (0,0))/\w'.ownsRowF B 5 1 v' (bs++Lib.strCells s).length (bs++Lib.strCells s)/\v'.ownBlock≠some b/\∀ g',v'.ownBlock=some g'->v.ownBlock=some g'\/w.heap.size<=g')/\ey b v.ownBlock w w':=
 AX (ρ:=Tryz.lays156_ren) { Tryz.lays156 with } Tryz.Builder_Extra_156 B b bs s v p w hp hb hown hne hB hlen hBw
abbrev iA(tm:Array Value)(D:Nat)(fn:FuncId)(st:LoopState)(pend:Option Code):Loop:={ state:=st,pending:=pend,fn:=fn,tmps:=tm,params:=#[18],assign:=i6,body:=xS,defers:=D }
def JC(M0:Mem)(w0:World)(b2 b3 b4 b5 b6 b7 l D Bs:Nat)(tm:Array Value)(fn:FuncId)(Z:Option (Dk×B8))(r:B8)(W:World):Prop:=
 ∃ f i s N,r.length<=f/\i<=40/\s.1.ok/\s.2.length<=i*1100001/\goX f r i s=Z/\CN M0 b2 b3 b4 b5 b6 i s.1 N/\Core M0 w0 b7 N W s.2/\N l=none/\N D=none/\N Bs=none /\
  W.heap[l]?=some (.loop (iA tm D fn .ready none))/\W.heap[D]?=some (.deferred (some []))/\∃ c,W.heap[Bs]?=some (.cells c 9 (0,0))
def JX(M0:Mem)(w0:World)(b2 b3 b4 l D:Nat)(tm:Array Value)(fn:FuncId)(Z:Option (Dk×B8))(W:World):Prop:=
 Z=none/\∃ N,Rep N W/\Ext M0 w0 N W/\Sub M0 N/\N b2=some (.cells true [str [],str [],.slice none 0 0] 3)/\N b3=some (.cells true [str []] 1)/\N b4=some (.cells true [.bool false] 1)/\N l=none/\N D=none /\
  W.heap[l]?=some (.loop (iA tm D fn .done (some .ret)))/\W.heap[D]?=some (.deferred (some []))
theorem Dv{id:Nat}{Q:Exit->Act->World->Prop}{a:Act}{w:World}:Exit.inBlock id Q (.exit id) a w=Q .normal a w:=if_pos rfl
theorem yH{id:Nat}{Q:Exit->Act->World->Prop}{a:Act}{w:World}:Exit.inBlock id Q .normal a w=Q .normal a w:=rfl
theorem Nl(r:B8):(iB r).length<=r.length:=by
 unfold iB;split
 ·rw[lTa];omega
 ·exact lRf _
set_option maxHeartbeats 2000000 in
theorem Nw(M0:Mem)(w0:World)(b2 b3 b4 b5 b6 b7 l D Bs:Nat)(tm:Array Value)(fn:FuncId)(Z:Option (Dk×B8))(nw:Env)(n:Nat)(hap:CR b2 b3 b4 b5 b6)(hvar:bW M0)(hB7:w0.heap.size<=b7)(hBl:w0.heap.size<=l)(hlD:l≠D)(hlB:l≠Bs)
  (htm:tm.size=41) (hev:(⟨tm,[]⟩:Act).eval=ev nw)
  (e2:nw 2=.pointer (some ⟨b2,0,none⟩)) (e3:nw 3=.pointer (some ⟨b3,0,none⟩)) (e4:nw 4=.pointer (some ⟨b4,0,none⟩)) (e5:nw 5=.pointer (some ⟨b5,0,none⟩)) (e6:nw 6=.pointer (some ⟨b6,0,none⟩)) (e7:nw 7=.pointer (some ⟨b7,0,none⟩))
  (r:B8) (W:World) (hJ:JC M0 w0 b2 b3 b4 b5 b6 b7 l D Bs tm fn Z r W) (hr:r≠[]) (hrl:r.length<=1000000) :
  YieldAt Fence.wide n prog l #[str (iB r)] W fun e W'=>
   (e=.returned (.bool true)/\JC M0 w0 b2 b3 b4 b5 b6 b7 l D Bs tm fn Z (eX r) W'/\W'.heap[Bs]?=W.heap[Bs]?)\/(e=.returned (.bool false)/\JX M0 w0 b2 b3 b4 l D tm fn Z W'):=by
 obtain⟨f,i,s,N,hf,hi,hok,hsl,hZ,hN,hC,nl,nD,nB,hL,hD,c,hBs⟩:=hJ;have hpcl:(iB r).length<=1000000:=Nat.le_trans (Nl r) hrl;have htl:=pw hr;obtain⟨f',rfl⟩:∃ f',f=f'+1:=⟨f-1,by have:0<r.length:=List.length_pos_iff.2 hr;omega⟩;unfold goX at hZ;rw[if_neg hr]at hZ;generalize iB r=pc at *;have hlnl:(Lib.trimSuffix pc [10]).length<=1000000:=Nat.le_trans (FJ pc) hpcl;refine⟨fn,tm.setIfInBounds 18 (str pc),i6,xS,by simpa[iA] using run_yield (P:=prog) (args:=#[str pc]) hL rfl,roundIn_of_wpIn trivial ?_⟩;have hfit:fL [] 41 (put nw (some 18) (str pc)) (⟨tm.setIfInBounds 18 (str pc),[]⟩:Act):=(fL.put (a:=⟨tm,[]⟩) ⟨rfl,htm,hev⟩ (d:=some 18) (fun t e=>by cases e;decide) (str pc));have hA:kB (some l) n [] prog 41 i6 (fun e env' N'=>e=.normal/\env'=put (put nw (some 18) (str pc)) (some 8) (str pc)/\N=N') (put nw (some 18) (str pc)) N:=Lf tab aR i6 _ _ _ (by kernel_rfl) (by kernel_rfl) (by unfold i6;simp(disch:=omega));refine wpIn_mono (hA N W _ W hfit hC.rep (Ext.refl N W)) ?_
 rintro e a1 w1 ⟨env1,N1,f1,r1,x1,rfl,rfl,rfl⟩
 have hC1:=hC.step x1 r1 (cF.refl N);have hL1:=bZ x1 hL nl;have hD1:=bZ x1 hD nD;have hB1:=bZ x1 hBs nB;refine⟨_,run_beginRound hL1 rfl,?_⟩;have hT2:=eQ w1 l (.loop (iA tm D fn .busy none));have hC2:=hC1.turns hT2 nl hBl (fun c fz e=>by rw[hL1]at e;cases e) (fun c fz e=>by rw[hL1]at e;cases e);have hL2:(w1.putObj l (.loop (iA tm D fn .busy none))).heap[l]?=some (.loop (iA tm D fn .busy none)):=World.putObj_heap_same (aO hL1);have hD2:=(World.putObj_heap_other (o:=.loop (iA tm D fn .busy none)) (w:=w1) (Ne.symm hlD)).trans hD1;have hB2:=(World.putObj_heap_other (o:=.loop (iA tm D fn .busy none)) (w:=w1) (Ne.symm hlB)).trans hB1;have hBsz:w1.heap[Bs]?=W.heap[Bs]?:=hB1.trans hBs.symm;generalize w1.putObj l (.loop (iA tm D fn .busy none))=w2 at *;clear hA hT2 hC hC1;have fin:∀(a:Act) (w:World) (N':Mem) (s':Dk×B8),¬ 40<i+1->s'.1.ok->s'.2.length<=(i+1)*1100001->cf s (Lib.trimSuffix pc [10])=s'->CN M0 b2 b3 b4 b5 b6 (i+1) s'.1 N'->Core M0 w0 b7 N' w s'.2->N' l=none->N' D=none->N' Bs=none ->
   w.heap[l]?=some (.loop (iA tm D fn .busy none))->w.heap[D]?=some (.deferred (some []))->w.heap[Bs]?=some (.cells c 9 (0,0)) ->
   roundPost prog l (fun e W'=>(e=.returned (.bool true)/\JC M0 w0 b2 b3 b4 b5 b6 b7 l D Bs tm fn Z (eX r) W'/\W'.heap[Bs]?=W.heap[Bs]?)\/(e=.returned (.bool false)/\JX M0 w0 b2 b3 b4 l D tm fn Z W')) .normal a w:=by
  intro a w N' s' h40 hok' hsl' hst hcn hcore ml mD mB gL gD gB;refine⟨_,_,run_endRound none gL,.inl ⟨rfl,?_,(World.putObj_heap_other (Ne.symm hlB)).trans (gB.trans hBs.symm)⟩⟩;have ht:=eQ w l (.loop (iA tm D fn .ready none));rw[if_neg h40,hst]at hZ;exact⟨f',i+1,s',N',by omega,by omega,hok',hsl',hZ,hcn,hcore.turns ht ml hBl (fun c fz e=>by rw[gL]at e;cases e) (fun c fz e=>by rw[gL]at e;cases e),ml,mD,mB,World.putObj_heap_same (aO gL),(World.putObj_heap_other (Ne.symm hlD)).trans gD,c,(World.putObj_heap_other (Ne.symm hlB)).trans gB⟩
 unfold xS;refine wpIn_block ?_;refine I7 (ro:=some l) (k:=n) (ds:=[]) aR Jw (M0:=N) (w0:=w2) ?hq ?hz _ _ N a1 w2 (by kernel_rfl) (RZ M0 b2 b3 b4 b5 b6 b7 i s.1 pc N _ hap hi hok hpcl hvar hN (by simp[e2]) (by simp[e3]) (by simp[e4]) (by simp[e5]) (by simp[e6]) (by simp[e7]) (by simp)) f1 hC2.rep (Ext.refl N w2)
 case hq=>
  rintro e a w hne ⟨env',N',g',r',x',h'⟩
  cases e with
  | exit id=>
   obtain⟨rfl,hi40,hln,hcn,hnew⟩:=h';rw[Dv];refine fin a w N' s (by omega) hok (Nat.le_trans hsl (Nat.mul_le_mul_right _ (Nat.le_succ i))) (by rw[hln];unfold cf;rw[if_pos rfl]) hcn (hC2.step x' r' hnew) (df x' hnew (aO hL2) nl) (df x' hnew (aO hD2) nD) (df x' hnew (aO hB2) nB) (bZ x' hL2 nl) (bZ x' hD2 nD) (bZ x' hB2 nB)
  | ret=>
   obtain⟨h40,hs0,k2,k3,k4,hnew⟩:=h';have gL:=bZ x' hL2 nl;refine⟨_,_,run_endRound (some .ret) gL,.inr ⟨rfl,?_⟩⟩;rw[if_pos h40]at hZ;have ml:=df x' hnew (aO hL2) nl;have ht:=eQ w l (.loop (iA tm D fn .done (some .ret)));exact⟨hZ.symm,N',iY r' ht ml (fun g e=>by cases e),jd (hC2.ext.trans x') ht hBl (fun g e=>by cases e),hs0,k2,k3,k4,ml,df x' hnew (aO hD2) nD,World.putObj_heap_same (aO gL),(World.putObj_heap_other (Ne.symm hlD)).trans (bZ x' hD2 nD)⟩
  | normal=>exact absurd rfl hne
  | goto id=>exact h'.elim
  | panic c=>exact h'.elim
  | outgrown=>exact h'.elim
 case hz=>
  rintro env' N' a w g' r' x' ⟨hi40,hln,e7',e10,hcn,hnew⟩
  have hC3:=hC2.step x' r' hnew;have gl:=df x' hnew (aO hL2) nl;have gD:=df x' hnew (aO hD2) nD;have gB:=df x' hnew (aO hB2) nB;have hL3:=bZ x' hL2 nl;have hD3:=bZ x' hD2 nD;have hB3:=bZ x' hB2 nB;have hrl2:=po hok hlnl;have hok2:=uZ hok (Lib.trimSuffix pc [10]);have hst:cf s (Lib.trimSuffix pc [10])=((eL s.1 (Lib.trimSuffix pc [10])).1,s.2++(eL s.1 (Lib.trimSuffix pc [10])).2++[10]):=by unfold cf;rw[if_neg hln]
  generalize eL s.1 (Lib.trimSuffix pc [10])=RR at *;unfold Jw;refine wpIn_region_list ?_;refine jo (ro:=some l) (k:=n) (ds:=[]) (n:=41) (M0:=N') (w0:=w) (K:=fun env2 N2=>N'=N2/\env2 7=.pointer (some ⟨b7,0,none⟩)/\env2 36=str (RR.2++[10])) aR [LH,LD,Qn] [Qn] ?_ [LH,LD] env' N' a w (by kernel_rfl) (by unfold LH LD;simp(disch:=omega)[e10,e7']) g' r' (Ext.refl N' w)
  rintro env2 N2 a2 w3 f3 r3 x3 ⟨hNN,h7,h36⟩
  subst hNN;refine wpListIn_plain rfl fun K hK=>?_;refine uM (env:=env2) (x:=.func 55) rfl rfl ⟨_,func55,by kernel_rfl,by kernel_rfl⟩ f3.ev ?_;have hC4:=hC3.step x3 r3 (cF.refl N');have hL4:=bZ x3 hL3 gl;have hD4:=bZ x3 hD3 gD;have hB4:=bZ x3 hB3 gB;obtain⟨p,v,hp,hb,ho,hnb,hg,_⟩:=hC4.bd;have hargs:((#[.tmp 7,.tmp 36]:Array Operand).toList.map (ev env2)).toArray = #[.pointer (some ⟨b7,0,none⟩),.string ⟨(RR.2++[10]).toArray⟩]:=by
   show #[env2 7,env2 36]=_;rw[h7,h36];rfl
  rw[hargs];have hbl:(av s.2).length=s.2.length:=aS _;have h1s:(⟨(RR.2++[10]).toArray⟩:ByteArray).size=RR.2.length+1:=by
   show (RR.2++[10]).toArray.size=_;rw[size_toArray,lAp];rfl
  have hs2:s.2.length<=44000040:=Nat.le_trans hsl (Nat.mul_le_mul_right 1100001 hi);have hlen:(av s.2).length+(⟨(RR.2++[10]).toArray⟩:ByteArray).size<=140737488355328:=by rw[h1s,hbl];omega
  have hW:=Y6 w0.heap.size b7 (av s.2) ⟨(RR.2++[10]).toArray⟩ v p w3 hp hb ho hnb hB7 hlen hC4.ext.size;refine hW.mono ?_
  rintro e w4 ⟨rfl,⟨v',hb',ho',hn',hpl⟩,hT⟩
  refine⟨_,rfl,hK _ _ (wpListIn_nil ?_)⟩;rw[yH];have hout:av s.2++Lib.strCells ⟨(RR.2++[10]).toArray⟩=av (s.2++RR.2++[10]):=by
   rw[append_assoc];unfold av;rw[map_append];rfl
  rw[hout]at ho';have hgB:∀ g,v.ownBlock=some g->w0.heap.size<=g:=fun g hgo=>(ja ho hgo).1;have other:∀ {k:Nat} {o:Obj},w3.heap[k]?=some o->(∀ c fz,o≠.cells c 5 fz)->(∀ c fz,o≠.cells c 71 fz)->w4.heap[k]?=some o:=by
   intro k o hk h5 h38;refine(hT.block k (aO hk) ?_ ?_).trans hk
   ·rintro rfl;rw[hb]at hk;cases hk;exact h38 _ _ rfl
   ·intro e;obtain⟨_,c',fz',hh⟩:=ja ho e;rw[hh]at hk;cases hk;exact h5 _ _ rfl
  refine fin _ w4 N' (RR.1,s.2++RR.2++[10]) (by omega) hok2 (by show (s.2++RR.2++[10]).length<=_;rw[lAp,lAp,Nat.succ_mul];have:([10]:B8).length=1:=rfl;omega) hst hcn ?_ gl gD gB (other hL4 (fun _ _ e=>by cases e) (fun _ _ e=>by cases e)) (other hD4 (fun _ _ e=>by cases e) (fun _ _ e=>by cases e)) (other hB4 (fun _ _ e=>by cases e) (fun _ _ e=>by cases e));refine⟨iY hC4.rep hT hC4.n7 hg,jd hC4.ext hT hB7 hgB,hC4.n7,_,v',.inr rfl,hb',ho',hn',?_,fun e=>absurd (congrArg length e) (by simp)⟩;intro g' hg';rcases hpl g' hg' with h|h
  ·exact hg g' h
  ·cases hn2:N' g' with
   | none=>rfl
   | some B=>have:=kn hC4.rep hn2;omega
end Go.Proofs.YtapimhjbilkfpaaGreatDoor
namespace Go.Proofs.YtapimhjbilkfpaaGreatDoor
open Go Go.Proofs.Tryz Go.RowKit Go.Shelf List
set_option maxRecDepth 4000
def Lq:Code:=(Code.region 0 #[{ dst:=(some 2),op:=(Op.alloc 28),type:=0,pos:= "l11_console.go:321",after:=#[],guard:=none },{ dst:=(some 3),op:=(Op.alloc 9),type:=0,pos:= "l11_console.go:321",after:=#[],guard:=none },{ dst:=(some 4),op:=(Op.alloc 4),type:=0,pos:= "l11_console.go:321",after:=#[],guard:=none }] false)
def KI:Code:=(Code.seq (Code.region 1 #[{ dst:=(some 11),op:=(Op.move (Operand.tmp 0)),type:=9,pos:= "l11_console.go:322",after:=#[],guard:=none },{ dst:=(some 12),op:=(Op.call { callee:=(Callee.builtin Builtin.len),args:=#[(Operand.tmp 11)],argTypes:=#[9] }),type:=3,pos:= "l11_console.go:322",after:=#[{ on:=0,ground:=Ground.data }],guard:=none },{ dst:=(some 13),op:=(Op.binOp BinOp.gtr 3 (Operand.tmp 12) (Operand.const (Value.int IntKind.i64 4000)) 3),type:=4,pos:= "l11_console.go:322",after:=#[{ on:=1,ground:=Ground.data }],guard:=none }] false) (Code.cond (Operand.tmp 13) (Code.seq (Code.region 2 #[{ dst:=(some 14),op:=(Op.build 28 #[]),type:=28,pos:= "l11_console.go:323",after:=#[],guard:=none },{ dst:=none,op:=(Op.store 28 (Operand.tmp 2) (Operand.tmp 14)),type:=0,pos:= "l11_console.go:323",after:=#[{ on:=0,ground:=Ground.data },{ on:=0,ground:=Ground.phase }],guard:=none },{ dst:=none,op:=(Op.store 9 (Operand.tmp 3) (Operand.const (Value.string { data:=#[] }))),type:=0,pos:= "l11_console.go:323",after:=#[{ on:=1,ground:=Ground.chain },{ on:=0,ground:=Ground.phase },{ on:=1,ground:=Ground.phase }],guard:=none },{ dst:=none,op:=(Op.store 4 (Operand.tmp 4) (Operand.const (Value.bool false))),type:=0,pos:= "l11_console.go:323",after:=#[{ on:=2,ground:=Ground.chain },{ on:=0,ground:=Ground.phase },{ on:=1,ground:=Ground.phase },{ on:=2,ground:=Ground.phase }],guard:=none }] false) Code.ret) Code.skip))
def KX:Code:=(Code.region 3 #[{ dst:=(some 15),op:=(Op.call { callee:=(Callee.value (Operand.func 13)),args:=#[],argTypes:=#[] }),type:=28,pos:= "l11_console.go:325",after:=#[],guard:=none },{ dst:=(some 5),op:=(Op.alloc 28),type:=0,pos:= "l11_console.go:325",after:=#[],guard:=none },{ dst:=(some 6),op:=(Op.alloc 3),type:=0,pos:= "l11_console.go:325",after:=#[],guard:=none },{ dst:=none,op:=(Op.store 28 (Operand.tmp 5) (Operand.tmp 15)),type:=0,pos:= "l11_console.go:325",after:=#[{ on:=1,ground:=Ground.data },{ on:=0,ground:=Ground.data },{ on:=0,ground:=Ground.chain },{ on:=0,ground:=Ground.phase },{ on:=1,ground:=Ground.phase },{ on:=2,ground:=Ground.phase }],guard:=none },{ dst:=none,op:=(Op.store 3 (Operand.tmp 6) (Operand.const (Value.int IntKind.i64 0))),type:=0,pos:= "l11_console.go:325",after:=#[{ on:=2,ground:=Ground.data },{ on:=3,ground:=Ground.chain },{ on:=0,ground:=Ground.phase },{ on:=1,ground:=Ground.phase },{ on:=2,ground:=Ground.phase },{ on:=3,ground:=Ground.phase }],guard:=none }] false)
def He:Oper:={ dst:=(some 7),op:=(Op.alloc 71),type:=0,pos:= "l11_console.go:326",after:=#[],guard:=none }
def S5:Code:=.region 4 #[He] false
def DB:Oper:={ dst:=(some 16),op:=(Op.move (Operand.tmp 0)),type:=9,pos:= "l11_console.go:327",after:=#[],guard:=none }
def Dn:Oper:={ dst:=(some 17),op:=(Op.call { callee:=(Callee.value (Operand.func 53)),args:=#[(Operand.tmp 16)],argTypes:=#[9] }),type:=73,pos:= "l11_console.go:327",after:=#[{ on:=0,ground:=Ground.data }],guard:=none }
def SM:Code:=.region 5 #[DB,Dn] false
def zR:Code:=.block 0 (.rangeFunc (Operand.tmp 17) #[18] i6 xS)
def vW:Oper:={ dst:=(some 38),op:=(Op.load 28 (Operand.tmp 5)),type:=28,pos:= "l11_console.go:339",after:=#[],guard:=none }
def wz:Oper:={ dst:=(some 39),op:=(Op.call { callee:=(Callee.value (Operand.func 30)),args:=#[(Operand.tmp 38)],argTypes:=#[28] }),type:=28,pos:= "l11_console.go:339",after:=#[{ on:=0,ground:=Ground.data }],guard:=none }
def Cf:Oper:={ dst:=(some 40),op:=(Op.call { callee:=(Callee.value (Operand.func 56)),args:=#[(Operand.tmp 7)],argTypes:=#[71] }),type:=9,pos:= "l11_console.go:339",after:=#[{ on:=1,ground:=Ground.chain }],guard:=none }
def tO:Oper:={ dst:=none,op:=(Op.store 28 (Operand.tmp 2) (Operand.tmp 39)),type:=0,pos:= "l11_console.go:339",after:=#[{ on:=1,ground:=Ground.data },{ on:=2,ground:=Ground.chain },{ on:=0,ground:=Ground.phase },{ on:=1,ground:=Ground.phase },{ on:=2,ground:=(Ground.textOnly Departure.lateStoresUnsure) }],guard:=none }
def tz:Oper:={ dst:=none,op:=(Op.store 9 (Operand.tmp 3) (Operand.tmp 40)),type:=0,pos:= "l11_console.go:339",after:=#[{ on:=2,ground:=Ground.data },{ on:=3,ground:=Ground.chain },{ on:=0,ground:=Ground.phase },{ on:=1,ground:=Ground.phase },{ on:=2,ground:=Ground.phase },{ on:=3,ground:=Ground.phase }],guard:=none }
def rD:Oper:={ dst:=none,op:=(Op.store 4 (Operand.tmp 4) (Operand.const (Value.bool true))),type:=0,pos:= "l11_console.go:339",after:=#[{ on:=4,ground:=Ground.chain },{ on:=0,ground:=Ground.phase },{ on:=1,ground:=Ground.phase },{ on:=2,ground:=Ground.phase },{ on:=3,ground:=Ground.phase },{ on:=4,ground:=Ground.phase }],guard:=none }
def DX:Code:=.region 15 #[vW,wz,Cf,tO,tz,rD] false
def Lw:Code:=R4 [Lq,KI,KX] (.seq S5 (.seq (.seq SM zR) (.seq DX .ret)))
theorem Qh:Tryz.f27.body=some Lw:=by kernel_rfl
def EL(l:B8):Option (Dk×B8):=if l.length<=4000 then goX l.length l 0 (dW,[]) else none
theorem BC{M0 N:Mem}{w0 w:World}(h:Ext M0 w0 N w)(o:Obj):Ext M0 w0 N (w.alloc o):=
 ⟨h.os,h.tape,h.output,Nat.le_trans h.size (by simp),fun b hb ho=>(Below.heap_alloc _ _ b (Nat.lt_of_lt_of_le hb h.size)).trans (h.block b hb ho),h.own⟩
theorem BQ{N:Mem}{w:World}(h:Rep N w)(o:Obj):Rep N (w.alloc o):=fun b B hB=>Blk.holds_of (Below.heap_alloc _ _ b (kn h hB)) (h b B hB)
theorem ql{M0:Mem}{w0:World}{b7:Nat}{N:Mem}{W:World}{out:B8}(h:Core M0 w0 b7 N W out)(o:Obj):Core M0 w0 b7 N (W.alloc o) out:=by
 obtain⟨p,v,hp,hb,ho,hne,hg,hz⟩:=h.bd;exact⟨BQ h.rep o,BC h.ext o,h.n7,p,v,hp,(Below.heap_alloc _ _ _ (aO hb)).trans hb,qD ho fun g o' hgo hgh=>(Below.heap_alloc _ _ g (aO hgh)).trans hgh,hne,hg,hz⟩
theorem mg{N:Mem}{w:World}(h:Rep N w){b:Nat}(hb:w.heap.size<=b):N b=none:=by
 cases hn:N b with
 | none=>rfl
 | some B=>have:=kn h hn;omega
attribute [-simp] lE pe in
set_option maxRecDepth 100000 in
theorem A8(a:Act)(w:World):(execOp a.eval He).run prog w=.ok (.value (.pointer (some ⟨w.heap.size,0,none⟩))) (w.alloc (.cells #[.pointer none,.slice none 0 0] 71)):=by
 unfold He
 go_simp
attribute [-simp] lE pe in
attribute [local go_sem] Oper.semAt_some in
set_option maxRecDepth 100000 in
theorem Gm(l:B8)(w:World):Calls prog 53 #[.string ⟨l.toArray⟩] w fun e w'=>e=.returned (.func (.func 93) #[] #[.pointer (some ⟨w.heap.size,0,none⟩)])/\w'=w.alloc (.cells #[.string ⟨l.toArray⟩] 9):=by
 refine(callsIn_wide (n:=3)).1 ?_;refine callsIn_of_wp func53 rfl trivial ?_ rfl;simp only[ntmps53,size_toArray,length_cons,length_nil,Nat.reduceAdd,Nat.reduceSub,Array.replicate_succ,Array.replicate_zero,push_toArray,append_toArray,nil_append,cons_append]
 gi_wp2
 refine bodyPost_ret (results_tmp rfl _ _ _) rfl ?_;exact⟨rfl,rfl⟩
set_option maxRecDepth 4000
theorem C2{M:Mem}{w:World}{R:VP}{k D:Nat}{env:Env}{N:Mem}{a:Act}{W:World}(hf:fL [{ target:=.collected D,args:=#[] }] 41 env a)(hr:Rep N W)(hx:Ext M w N W)(hD:W.heap[D]?=some (.deferred (some [])))(nD:N D=none)(hb:w.heap.size<=D)
  (h:nX (dd tab env N Tryz.f27.results.toList) R N):bodyPostM Fence.wide k prog Tryz.f27 (fun e w'=>∃ v M',e=.returned v/\Rep M' w'/\Ext M w M' w'/\R v M') .ret a W:=by
 unfold bodyPostM;show LeavesInM _ _ _ _ _ _ a.defers .returning W;rw[hf.defers];refine⟨by simp,.inl ⟨D,_,rfl,run_takeDeferred hD,?_⟩⟩;have ht:=eQ W D (.deferred none);have hr2:=iY hr ht nD (fun g e=>by cases e);have hx2:=jd hx ht hb (fun g e=>by cases e);obtain⟨v,k1,M1,k2,k3⟩:=xG aR hf.bare hr2 h;exact⟨v,k1,v,M1,rfl,hr2.sub k2,hx2.sub k2,k3⟩
theorem Jn{M:Mem}{w:World}{R:VP}{k:Nat}{env:Env}{N:Mem}{a:Act}{W:World}(hf:fL [] 41 env a)(hr:Rep N W)(hx:Ext M w N W)
  (h:nX (dd tab env N Tryz.f27.results.toList) R N):bodyPostM Fence.wide k prog Tryz.f27 (fun e w'=>∃ v M',e=.returned v/\Rep M' w'/\Ext M w M' w'/\R v M') .ret a W:=by
 unfold bodyPostM;show LeavesInM _ _ _ _ _ _ a.defers .returning W;rw[hf.defers];obtain⟨v,k1,M1,k2,k3⟩:=xG aR hf.bare hr h;exact⟨v,k1,v,M1,rfl,hr.sub k2,hx.sub k2,k3⟩
def K1(M:Mem)(l:B8)(env:Env)(N:Mem):Prop:=∃ b2 b3 b4 b5 b6,CR b2 b3 b4 b5 b6/\env 2=.pointer (some ⟨b2,0,none⟩)/\env 3=.pointer (some ⟨b3,0,none⟩)/\env 4=.pointer (some ⟨b4,0,none⟩)/\env 5=.pointer (some ⟨b5,0,none⟩)/\env 6=.pointer (some ⟨b6,0,none⟩)/\env 0=str l /\
 CN M b2 b3 b4 b5 b6 0 dW N/\l.length<=4000
def Q1(M:Mem)(l:B8)(R:VP):Exit->Env->Mem->Prop
 | .ret,env,N=>nX (dd tab env N Tryz.f27.results.toList) R N
 | _,_,_=>False
set_option maxHeartbeats 2000000 in
theorem PR(l:B8)(M:Mem)(R:VP)(hl:l.length<=1500000)(h0:4000<l.length->R (.tuple #[.agg #[str [],str [],.slice none 0 0],str [],.bool false]) M) :
  vcL prog tab 41 [Lq,KI,KX] (K1 M l) (Q1 M l R) (mn [str l] 0) M:=by
 unfold Lq KI KX;simp(disch:=omega);intro b2 hb2;simp(disch:=omega);intro b3 hb3;simp(disch:=omega);intro b4 hb4;rw[aA]at hb3;rw[aA,aA]at hb4;obtain⟨n32,hb3⟩:=hb3;obtain⟨n43,n42,hb4⟩:=hb4;have sN:Sub M (((M.put b2 (.cells true [str [],str [],.slice none 0 0] 3)).put b3 (.cells true [str []] 1)).put b4 (.cells true [.bool false] 1)):=(((Sub.refl M).put hb2 _).put hb3 _).put hb4 _;have k2:(((M.put b2 (.cells true [str [],str [],.slice none 0 0] 3)).put b3 (.cells true [str []] 1)).put b4 (.cells true [.bool false] 1)) b2=some (.cells true [str [],str [],.slice none 0 0] 3):=by rw[ai _ _ (Ne.symm n42),ai _ _ (Ne.symm n32)];exact ag _ _ _
 have k3:(((M.put b2 (.cells true [str [],str [],.slice none 0 0] 3)).put b3 (.cells true [str []] 1)).put b4 (.cells true [.bool false] 1)) b3=some (.cells true [str []] 1):=by rw[ai _ _ (Ne.symm n43)];exact ag _ _ _
 have k4:(((M.put b2 (.cells true [str [],str [],.slice none 0 0] 3)).put b3 (.cells true [str []] 1)).put b4 (.cells true [.bool false] 1)) b4=some (.cells true [.bool false] 1):=ag _ _ _;simp(disch:=omega);generalize ((M.put b2 (.cells true [str [],str [],.slice none 0 0] 3)).put b3 (.cells true [str []] 1)).put b4 (.cells true [.bool false] 1)=N at *;by_cases hbig:4000<l.length
 ·have hbI:(4000:Int)<(l.length:Nat):=by omega
  have h:=h0 hbig;have p2:=gC k2;have p3:=gC k3;have p4:=gC k4;unfold Q1;simp(disch:=omega)[hbI,aq k2,k2,aj,p2,al k3,k3,p3,al k4,k4,p4];exact ae sN h
 ·have hbI:¬(4000:Int)<(l.length:Nat):=by omega
  simp(disch:=omega)[hbI];refine fV _ _ ?_;intro x6 M6 o6;unfold cQ;obtain⟨M1,o1,s1,nn⟩:=dp sN o6;have hfx:=aT o6.rd;have q2:=o6.sub _ _ k2;have q3:=o6.sub _ _ k3;have q4:=o6.sub _ _ k4;have m2:=nn _ _ hb2 k2;have m3:=nn _ _ hb3 k3;have m4:=nn _ _ hb4 k4;have z5:∀ b,M6 b=none->M1 b=none:=fun b hb=>bA s1 hb;simp(disch:=omega);intro b5 hb5;simp(disch:=omega);intro b6 hb6;rw[aA]at hb6;obtain⟨n65,hb6⟩:=hb6;have n52:b2≠b5:=by rintro rfl;rw[q2]at hb5;cases hb5
  have n53:b3≠b5:=by rintro rfl;rw[q3]at hb5;cases hb5
  have n54:b4≠b5:=by rintro rfl;rw[q4]at hb5;cases hb5
  have n62:b2≠b6:=by rintro rfl;rw[q2]at hb6;cases hb6
  have n63:b3≠b6:=by rintro rfl;rw[q3]at hb6;cases hb6
  have n64:b4≠b6:=by rintro rfl;rw[q4]at hb6;cases hb6
  have hap:CR b2 b3 b4 b5 b6:=⟨Ne.symm n32,Ne.symm n42,n52,n62,Ne.symm n43,n53,n63,n54,n64,Ne.symm n65⟩;have sA:Sub M1 ((M6.put b5 (.cells true [str [],str [],.slice none 0 0] 3)).put b6 (.cells true [.int .i64 0] 1)):=(s1.putN hb5 _).trans ((Sub.refl _).put (by rw[aA];exact⟨n65,hb6⟩) _);have a2:((M6.put b5 (.cells true [str [],str [],.slice none 0 0] 3)).put b6 (.cells true [.int .i64 0] 1)) b2=_:=((ai _ _ n62).trans (ai _ _ n52)).trans q2;have a3:((M6.put b5 (.cells true [str [],str [],.slice none 0 0] 3)).put b6 (.cells true [.int .i64 0] 1)) b3=_:=((ai _ _ n63).trans (ai _ _ n53)).trans q3;have a4:((M6.put b5 (.cells true [str [],str [],.slice none 0 0] 3)).put b6 (.cells true [.int .i64 0] 1)) b4=_:=((ai _ _ n64).trans (ai _ _ n54)).trans q4;have a5:((M6.put b5 (.cells true [str [],str [],.slice none 0 0] 3)).put b6 (.cells true [.int .i64 0] 1)) b5=some (.cells true [str [],str [],.slice none 0 0] 3):=(ai _ _ (Ne.symm n65)).trans (ag _ _ _);have a6:((M6.put b5 (.cells true [str [],str [],.slice none 0 0] 3)).put b6 (.cells true [.int .i64 0] 1)) b6=some (.cells true [.int .i64 0] 1):=ag _ _ _;have m5:=z5 _ hb5;have m6:=z5 _ hb6;have n56:=Ne.symm n65;simp(disch:=omega)[hfx,aj];generalize (M6.put b5 (.cells true [str [],str [],.slice none 0 0] 3)).put b6 (.cells true [.int .i64 0] 1)=A at *;have c6:(A.put b5 (.cells true [str [97,98,97,97,98],str [65,65],x6] 3)) b6=some (.cells true [.int .i64 0] 1):=(ai _ _ n65).trans a6;rw[gC c6];exact⟨b2,b3,b4,b5,b6,hap,by simp,by simp,by simp,by simp,by simp,by simp,⟨⟨x6,M1,o1,sA.ovr m5 _,ag _ _ _,m2,m3,m4,m5,m6⟩,(ai _ _ n52).trans a2,(ai _ _ n53).trans a3,(ai _ _ n54).trans a4,c6⟩,by omega⟩
set_option maxRecDepth 4000
abbrev RX(M:Mem)(w:World)(R:VP):Ending->World->Prop:=fun e w'=>∃ v M',e=.returned v/\Rep M' w'/\Ext M w M' w'/\R v M'
theorem Qm(B b:Nat)(out:B8)(p v:Value)(w:World)(hb:w.heap[b]?=some (.cells #[p,v] 71 (0,0)))(ho:w.ownsRowF B 5 1 v (av out).length (av out))(hz:out=[]->v=.slice none 0 0) :
  Calls prog 56 #[.pointer (some ⟨b,0,none⟩)] w fun e w'=>e=.returned (str out)/\ey b v.ownBlock w w':=by
 by_cases h0:out=[]
 ·have hv:=hz h0;subst h0;subst hv;exact tW (ρ:=Tryz.lays169_ren) Tryz.lays169 Tryz.Builder_Extra_169 b p w hb
 ·have hl:(av out).length=out.length:=aS _;rw[hl]at ho;exact xk (ρ:=Tryz.lays169_ren) Tryz.lays169 Tryz.Builder_Extra_169 B b out p v w hb ho h0
structure TS(M:Mem)(b2 b3 b4 b7:Nat)(d:Dk)(N:Mem)(env2:Env)(N2:Mem):Prop where
 new:cF N N2
 e2:env2 2=.pointer (some ⟨b2,0,none⟩)
 e3:env2 3=.pointer (some ⟨b3,0,none⟩)
 e4:env2 4=.pointer (some ⟨b4,0,none⟩)
 e7:env2 7=.pointer (some ⟨b7,0,none⟩)
 im:∃ v2 M8,env2 39=dkV d v2/\bH v2=true/\Own M v2 (strs d.ms) M8/\Sub M8 N2/\M8 b2=none/\M8 b3=none/\M8 b4=none
 k2:N2 b2=some (.cells true [str [],str [],.slice none 0 0] 3)
 k3:N2 b3=some (.cells true [str []] 1)
 k4:N2 b4=some (.cells true [.bool false] 1)
set_option maxHeartbeats 1000000 in
theorem SB(M:Mem)(b2 b3 b4 b5 b6 b7 i:Nat)(d:Dk)(N:Mem)(env:Env)(hok:d.ok)(hN:CN M b2 b3 b4 b5 b6 i d N)
  (e2:env 2=.pointer (some ⟨b2,0,none⟩)) (e3:env 3=.pointer (some ⟨b3,0,none⟩)) (e4:env 4=.pointer (some ⟨b4,0,none⟩)) (e5:env 5=.pointer (some ⟨b5,0,none⟩)) (e7:env 7=.pointer (some ⟨b7,0,none⟩)) :
  lx prog tab [vW,wz,Cf,tO,tz,rD] (fun _=>TS M b2 b3 b4 b7 d N) [vW,wz] env N:=by
 obtain⟨⟨u,M1,o1,s1,k5,m2,m3,m4,m5,m6⟩,k2,k3,k4,k6⟩:=hN;have hfu:=aT o1.rd;unfold vW wz;simp(disch:=omega)[e5,aq k5];refine B6 d u _ _ hok.2.2 (o1.rd.sub s1) ?_;intro v2 N2 o2;have hf2:=aT o2.rd;obtain⟨M',g',t1,n1⟩:=dp s1 o2;obtain⟨M8,o8,t8,_⟩:=dp o1.sub g';have w2:=(cF.refl N).own o2;unfold dkV;simp(disch:=omega);exact⟨w2,by simp[e2],by simp[e3],by simp[e4],by simp[e7],⟨v2,M8,by simp[dkV],hf2,o8,t8.trans t1,bA t8 (n1 _ _ m2 k2),bA t8 (n1 _ _ m3 k3),bA t8 (n1 _ _ m4 k4)⟩,o2.sub _ _ k2,o2.sub _ _ k3,o2.sub _ _ k4⟩
def Vf(R:VP)(N':Mem)(env3:Env)(N3:Mem):Prop:=cF N' N3/\nX (dd tab env3 N3 Tryz.f27.results.toList) R N3
set_option maxHeartbeats 1000000 in
theorem Mk(M:Mem)(R:VP)(b2 b3 b4 b5 b6 b7:Nat)(d:Dk)(out:B8)(N N2:Mem)(env2:Env)(hap:CR b2 b3 b4 b5 b6)(h:TS M b2 b3 b4 b7 d N env2 N2)(hR:∀ v M',Own M v (strs d.ms) M'->R (.tuple #[dkV d v,str out,.bool true]) M') :
  lx prog tab [vW,wz,Cf,tO,tz,rD] (fun _=>Vf R N2) [tO,tz,rD] (put env2 (some 40) (str out)) N2:=by
 obtain⟨_,e2,e3,e4,_,⟨v2,M8,e39,hf2,o8,t8,m2,m3,m4⟩,k2,k3,k4⟩:=h;have h:=hR v2 M8 o8;unfold dkV at h e39;have n23:=hap.n23;have n24:=hap.n24;have n34:=hap.n34;have q3:(N2.put b2 (.cells true [str d.w,str d.p,v2] 3)) b3=some (.cells true [str []] 1):=(ai _ _ (Ne.symm n23)).trans k3;have q4:((N2.put b2 (.cells true [str d.w,str d.p,v2] 3)).put b3 (.cells true [str out] 1)) b4=some (.cells true [.bool false] 1):=((ai _ _ (Ne.symm n34)).trans (ai _ _ (Ne.symm n24))).trans k4;unfold tO tz rD;have n32:=Ne.symm n23;have n42:=Ne.symm n24;have n43:=Ne.symm n34;simp(disch:=omega)[e2,e3,e4,e39,hf2,k2,aj,k3,k4];have w2:cF N2 (((N2.put b2 (.cells true [str d.w,str d.p,v2] 3)).put b3 (.cells true [str out] 1)).put b4 (.cells true [.bool true] 1)):=(((cF.refl N2).put _ _ rfl).put _ _ rfl).put _ _ rfl;have r2:(((N2.put b2 (.cells true [str d.w,str d.p,v2] 3)).put b3 (.cells true [str out] 1)).put b4 (.cells true [.bool true] 1)) b2=some (.cells true [str d.w,str d.p,v2] 3):=((ai _ _ n24).trans (ai _ _ n23)).trans (ag _ _ _);have r3:(((N2.put b2 (.cells true [str d.w,str d.p,v2] 3)).put b3 (.cells true [str out] 1)).put b4 (.cells true [.bool true] 1)) b3=some (.cells true [str out] 1):=(ai _ _ n34).trans (ag _ _ _);have r4:(((N2.put b2 (.cells true [str d.w,str d.p,v2] 3)).put b3 (.cells true [str out] 1)).put b4 (.cells true [.bool true] 1)) b4=some (.cells true [.bool true] 1):=ag _ _ _;have s3:Sub M8 (((N2.put b2 (.cells true [str d.w,str d.p,v2] 3)).put b3 (.cells true [str out] 1)).put b4 (.cells true [.bool true] 1)):=((t8.ovr m2 _).ovr m3 _).ovr m4 _;generalize ((N2.put b2 (.cells true [str d.w,str d.p,v2] 3)).put b3 (.cells true [str out] 1)).put b4 (.cells true [.bool true] 1)=N3 at *;refine⟨w2,?_⟩;have hres:Tryz.f27.results.toList=[.cell 2 28,.cell 3 9,.cell 4 4]:=by kernel_rfl
 rw[hres];simp(disch:=omega)[e2,e3,e4,aq r2,al r3,al r4];exact ae s3 h
set_option maxRecDepth 4000
theorem Pu(M:Mem)(w:World)(R:VP)(k b2 b3 b4 b5 b6 b7 D i:Nat)(s:Dk×B8)(N:Mem)(env:Env)(a:Act)(W:World)(hap:CR b2 b3 b4 b5 b6)(hB7:w.heap.size<=b7)(hBD:w.heap.size<=D)(hok:s.1.ok)(hN:CN M b2 b3 b4 b5 b6 i s.1 N)(hC:Core M w b7 N W s.2)(hD:W.heap[D]?=some (.deferred (some [])))(nD:N D=none)
  (e2:env 2=.pointer (some ⟨b2,0,none⟩)) (e3:env 3=.pointer (some ⟨b3,0,none⟩)) (e4:env 4=.pointer (some ⟨b4,0,none⟩)) (e5:env 5=.pointer (some ⟨b5,0,none⟩)) (e7:env 7=.pointer (some ⟨b7,0,none⟩)) (hf:fL [{ target:=.collected D,args:=#[] }] 41 env a)
  (hR:∀ v M',Own M v (strs s.1.ms) M'->R (.tuple #[dkV s.1 v,str s.2,.bool true]) M') :
  (Code.seq DX .ret).wpIn (iE none) k prog (bodyPostM Fence.wide k prog Tryz.f27 (RX M w R)) a W:=by
 refine wpIn_seq ?_;unfold DX;refine wpIn_region_list ?_;refine jo (ro:=none) (k:=k) (n:=41) (M0:=N) (w0:=W) (K:=TS M b2 b3 b4 b7 s.1 N) aR [vW,wz,Cf,tO,tz,rD] [Cf,tO,tz,rD] ?_ [vW,wz] env N a W (by kernel_rfl) (SB M b2 b3 b4 b5 b6 b7 i s.1 N env hok hN e2 e3 e4 e5 e7) hf hC.rep (Ext.refl N W);intro env2 N2 a2 W2 f2 r2 x2 hK;have hC2:=hC.step x2 r2 hK.new;have hD2:=bZ x2 hD nD;have nD2:=df x2 hK.new (aO hD) nD;obtain⟨p,v,hp,hb,ho,hne,hg,hz⟩:=hC2.bd;have hgB:∀ g,v.ownBlock=some g->w.heap.size<=g:=fun g hgo=>(ja ho hgo).1;refine wpListIn_plain rfl fun K hK2=>?_;refine uM (env:=env2) (x:=.func 56) rfl rfl ⟨_,func56,by kernel_rfl,by kernel_rfl⟩ f2.ev ?_;have hargs:((#[.tmp 7]:Array Operand).toList.map (ev env2)).toArray = #[.pointer (some ⟨b7,0,none⟩)]:=by
  show #[env2 7]=_;rw[hK.e7]
 rw[hargs];refine(Qm w.heap.size b7 s.2 p v W2 hb ho hz).mono ?_
 rintro e W3 ⟨rfl,hT⟩
 refine⟨_,rfl,hK2 _ _ ?_⟩;have hr3:=iY hC2.rep hT hC2.n7 hg;have hx3:=jd hC2.ext hT hB7 hgB;have hD3:W3.heap[D]?=some (.deferred (some [])):=(hT.block D (aO hD2) (by rintro rfl;rw[hb]at hD2;cases hD2) (fun e=>by
  obtain⟨_,c,fz,hh⟩:=ja ho e;rw[hD2]at hh;cases hh)).trans hD2
 have f3:=f2.put (d:=some 40) (fun t e=>by cases e;decide) (str s.2);refine IC (ro:=none) (k:=k) (n:=41) (M0:=N2) (w0:=W3) (K:=Vf R N2) aR [vW,wz,Cf,tO,tz,rD] ?_ [tO,tz,rD] (put env2 (some 40) (str s.2)) N2 _ W3 (by kernel_rfl) (Mk M R b2 b3 b4 b5 b6 b7 s.1 s.2 N N2 env2 hap hK hR) f3 hr3 (Ext.refl N2 W3)
 rintro env4 N4 a4 W4 f4 r4 x4 ⟨w4,hdone⟩
 show Code.ret.wpIn _ _ _ _ a4 W4;refine wpIn_ret ?_;exact C2 f4 r4 (hx3.trans x4) (bZ x4 hD3 nD2) (df x4 w4 (aO hD3) nD2) hBD hdone
theorem NI(args:List Value)(n:Nat)(h:args.length<=n):fL [] n (mn args 0) ({ tmps:=args.toArray++Array.replicate (n-args.toArray.size) undef,defers:=[] }:Act):=by
 rw[<-Ld];refine⟨rfl,by simp;omega,?_⟩
 funext x
 cases x with
 | tmp t=>
  simp only[Act.eval,ev,nw,Array.getD_eq_getD_getElem?,gDe];rw[Array.getElem?_append];split
  ·simp
  ·rename_i hlt;rw[getElem?_eq_none (by simpa using hlt)];simp only[Array.getElem?_replicate];split<;>rfl
 | const v=>rfl
 | global g=>rfl
 | func f=>rfl
theorem Lc(f i:Nat)(s:Dk×B8):goX f [] i s=some s:=by
 cases f with
 | zero=>rfl
 | succ f=>unfold goX;rw[if_pos rfl]
set_option maxHeartbeats 2000000 in
theorem CP(l:B8)(M:Mem)(R:VP)(hl:l.length<=1500000)(hvar:bW M)(h1:∀ d t v M',EL l=some (d,t)->Own M v (strs d.ms) M'->R (.tuple #[dkV d v,str t,.bool true]) M')
  (h0:EL l=none->R (.tuple #[.agg #[str [],str [],.slice none 0 0],str [],.bool false]) M):ar prog 27 [str l] M R:=by
 refine⟨⟨_,func27,by kernel_rfl,by kernel_rfl⟩,fun w hw=>(callsIn_wide (n:=4)).1 ?_⟩;refine callsIn_of_wp_marks func27 Qh trivial ?_ rfl;have hfit:=NI [str l] 41 (by show 1<=41;omega);unfold Lw;refine I7 (ro:=none) (k:=4) (ds:=[]) (n:=41) aR _ (M0:=M) (w0:=w) ?hq ?hz [Lq,KI,KX] (mn [str l] 0) M _ w (by kernel_rfl) (PR l M R hl (fun h=>h0 (by unfold EL;rw[if_neg (by omega)]))) hfit hw (Ext.refl M w)
 case hq=>
  rintro e a w1 hne ⟨env,N,f,r,x,h⟩
  cases e with
  | ret=>exact Jn f r x h
  | normal=>exact absurd rfl hne
  | exit id=>exact h.elim
  | goto id=>exact h.elim
  | panic c=>exact h.elim
  | outgrown=>exact h.elim
 case hz=>
  rintro env N a W f r x ⟨b2,b3,b4,b5,b6,hap,e2,e3,e4,e5,e6,e0,hN,h4⟩
  refine wpIn_seq ?_;unfold S5;refine wpIn_region_list ?_;show wpListIn _ _ _ _ _ [He] a W;refine wpListIn_plain rfl fun K hK=>⟨fun _ _=>trivial,?_⟩;rw[Oper.semAt_eq _ _ _ (AG (o:=He) rfl),A8];show K (a.put (some 7) (.pointer (some ⟨W.heap.size,0,none⟩))) _;refine hK _ _ (wpListIn_nil ?_);show Code.wpIn _ _ _ _ _ _ _;have f1:=f.put (d:=some 7) (fun t e=>by cases e;decide) (.pointer (some ⟨W.heap.size,0,none⟩));have hC1:Core M w W.heap.size N (W.alloc (.cells #[.pointer none,.slice none 0 0] 71)) []:=⟨BQ r _,BC x _,mg r (lRf _),.pointer none,.slice none 0 0,.inl rfl,World.alloc_heap_new W _,⟨rfl,.inl ⟨rfl,rfl⟩⟩,(by simp[Value.ownBlock]),(by intro g e;cases e),fun _=>rfl⟩;have hB7:w.heap.size<=W.heap.size:=x.size;generalize W.alloc (.cells #[.pointer none,.slice none 0 0] 71)=W1 at *;generalize W.heap.size=b7 at *;generalize a.put (some 7) (.pointer (some ⟨b7,0,none⟩))=a1 at *;refine wpIn_seq ?_;refine wpIn_seq ?_;unfold SM;refine wpIn_region_list ?_;refine jo (ro:=none) (k:=4) (ds:=[]) (n:=41) (M0:=N) (w0:=W1) (K:=fun env2 N2=>N=N2/\env2=put (put env (some 7) (.pointer (some ⟨b7,0,none⟩))) (some 16) (str l)) aR [DB,Dn] [Dn] ?_ [DB] (put env (some 7) (.pointer (some ⟨b7,0,none⟩))) N a1 W1 (by kernel_rfl) (by unfold DB;simp(disch:=omega)[e0]) f1 hC1.rep (Ext.refl N W1)
  rintro env2 N2 a2 W2 f2 r2 x2 ⟨hNN,hE⟩
  subst hNN;subst hE;have hC2:=hC1.step x2 r2 (cF.refl N);refine wpListIn_plain rfl fun K hK=>?_;refine uM (x:=.func 53) rfl rfl ⟨_,func53,by kernel_rfl,by kernel_rfl⟩ f2.ev ?_;refine(Gm l W2).mono ?_
  rintro e W3' ⟨rfl,rfl⟩
  refine⟨_,rfl,hK _ _ (wpListIn_nil ?_)⟩;have f3:=f2.put (d:=some 17) (fun t e=>by cases e;decide) (.func (.func 93) #[] #[.pointer (some ⟨W2.heap.size,0,none⟩)]);have hC3:=ql hC2 (.cells #[.string ⟨l.toArray⟩] 9);have hBs3:(W2.alloc (.cells #[.string ⟨l.toArray⟩] 9)).heap[W2.heap.size]?=some (.cells #[.string ⟨l.toArray⟩] 9 (0,0)):=World.alloc_heap_new W2 _;have nBs:N W2.heap.size=none:=mg r2 (lRf _);have hwB:w.heap.size<=W2.heap.size:=hC2.ext.size;show Code.wpIn _ _ _ zR _ _ _;generalize W2.alloc (.cells #[.string ⟨l.toArray⟩] 9)=W3 at *;generalize W2.heap.size=Bs at *;have e17:(a2.put (some 17) (.func (.func 93) #[] #[.pointer (some ⟨Bs,0,none⟩)])).eval (.tmp 17)=.func (.func 93) #[] #[.pointer (some ⟨Bs,0,none⟩)]:=by rw[f3.ev];simp[ev]
  have hdst:Dn.dst=some 17:=rfl;rw[hdst];generalize a2.put (some 17) (.func (.func 93) #[] #[.pointer (some ⟨Bs,0,none⟩)])=a3 at *;unfold zR;refine wpIn_block (wpIn_rangeFunc ?_);intro fn _;obtain⟨W4,hW4⟩:∃ W4,(W3.alloc (.deferred (some []))).alloc (.loop (iA a3.tmps W3.heap.size fn .ready none))=W4:=⟨_,rfl⟩;have hC4:Core M w b7 N W4 []:=by rw[<-hW4];exact ql (ql hC3 _) _
  have hL4:W4.heap[W3.heap.size+1]?=some (.loop (iA a3.tmps W3.heap.size fn .ready none)):=by
   rw[<-hW4];have:=World.alloc_heap_new (W3.alloc (.deferred (some []))) (.loop (iA a3.tmps W3.heap.size fn .ready none));rwa[World.size_alloc]at this
  have hD4:W4.heap[W3.heap.size]?=some (.deferred (some [])):=by rw[<-hW4];exact(Below.heap_alloc _ _ _ (by simp)).trans (World.alloc_heap_new W3 _)
  have hlt:=aO hBs3;have hB4:W4.heap[Bs]?=some (.cells #[str l] 9 (0,0)):=by rw[<-hW4];exact((Below.heap_alloc _ _ _ (by simp;omega)).trans (Below.heap_alloc _ _ _ hlt)).trans hBs3
  have nL:N (W3.heap.size+1)=none:=mg hC3.rep (by omega);have nD:N W3.heap.size=none:=mg hC3.rep (lRf _);have hwl:w.heap.size<=W3.heap.size:=hC3.ext.size;refine⟨W3.heap.size+1,[{ target:=.collected W3.heap.size,args:=#[] }],W4,{ target:=.fn (.func 93) #[.pointer (some ⟨Bs,0,none⟩)],args:=#[.func (.yield (W3.heap.size+1)) #[] #[]] },W4,93,
   #[.func (.yield (W3.heap.size+1)) #[] #[]] ++ #[.pointer (some ⟨Bs,0,none⟩)],W4,?_,?_,fun _ _=>trivial,?_,fun e=>(by cases e),?_⟩
  ·rw[<-hW4];exact run_enterLoop_outer _ _ _ _ _
  ·have e17':a3.tmps[17]?.getD undef=.func (.func 93) #[] #[.pointer (some ⟨Bs,0,none⟩)]:=by simpa[Act.eval] using e17
   simp[resolve,e17',go_sem,Deferred.ofValue]
  ·simp[invoke,go_sem]
  generalize hlq:W3.heap.size+1=l7 at *;generalize W3.heap.size=D at *;clear hW4 hC3 hBs3;have hlD:l7≠D:=by omega
  have hlB:l7≠Bs:=by omega
  have hDB:D≠Bs:=by omega
  have hfit3:=f3.bare;have hround:=fun (r:B8) (W:World) (hJ:JC M w b2 b3 b4 b5 b6 b7 l7 D Bs a3.tmps fn (goX l.length l 0 (dW,[])) r W) (hr:r≠[]) (hrl:r.length<=4000)=>
   Nw M w b2 b3 b4 b5 b6 b7 l7 D Bs a3.tmps fn (goX l.length l 0 (dW,[])) _ 2 hap hvar hB7 (by omega) hlD hlB hfit3.size hfit3.ev (by simp[e2]) (by simp[e3]) (by simp[e4]) (by simp[e5]) (by simp[e6]) (by simp) r W hJ hr (by omega)
  have hkeep:∀(r:B8) (W W':World),JC M w b2 b3 b4 b5 b6 b7 l7 D Bs a3.tmps fn (goX l.length l 0 (dW,[])) r W->ey Bs none W W'->(∀ c,W.heap[Bs]?=some (.cells c 9 (0,0))->∃ c',W'.heap[Bs]?=some (.cells c' 9 (0,0)))->JC M w b2 b3 b4 b5 b6 b7 l7 D Bs a3.tmps fn (goX l.length l 0 (dW,[])) r W':=by
   rintro r W W' ⟨f,i,s,N5,hf,hi,hok,hsl,hZ,hN5,hC5,nl5,nD5,nB5,hL5,hD5,c5,hBs5⟩ hT hc
   exact⟨f,i,s,N5,hf,hi,hok,hsl,hZ,hN5,hC5.turns hT nB5 hwB (fun c fz e=>by rw[hBs5]at e;cases e) (fun c fz e=>by rw[hBs5]at e;cases e),nl5,nD5,nB5,(hT.block l7 (aO hL5) hlB (fun e=>by cases e)).trans hL5,(hT.block D (aO hD5) hDB (fun e=>by cases e)).trans hD5,hc c5 hBs5⟩
  refine(Nh 2 l7 Bs 4000 (by omega) (JC M w b2 b3 b4 b5 b6 b7 l7 D Bs a3.tmps fn (goX l.length l 0 (dW,[]))) (JX M w b2 b3 b4 l7 D a3.tmps fn (goX l.length l 0 (dW,[]))) ?h1 ?h2 ?h3 W4 l h4 hB4 ?h4).mono ?h5
  case h1=>exact fun r W v hJ=>hkeep r W _ hJ (ey.cell Bs none W 0 v) (fun c hc=>⟨c.setIfInBounds 0 v,by simp[World.setCell,Array.getElem?_modify,hc]⟩)
  case h2=>exact fun r W hJ=>hkeep r W _ hJ ⟨rfl,rfl,rfl,lRf _,fun _ _ _ _=>rfl⟩ (fun c hc=>⟨c,hc⟩)
  case h3=>exact fun r W hJ hr hrl=>hround r W hJ hr hrl
  case h4=>exact⟨l.length,0,(dW,[]),N,lRf _,by omega,sZ,lZe _,rfl,hN,hC4,nL,nD,nBs,hL4,hD4,_,hB4⟩
  case h5=>
   rintro e W5 ⟨⟨v0,rfl⟩,hJ|hX⟩
   ·obtain⟨f,i,s,N5,hf,hi,hok,hsl,hZ,hN5,hC5,nl5,nD5,nB5,hL5,hD5,c5,hBs5⟩:=hJ;rw[Lc]at hZ;refine⟨none,_,run_endLoop hL5 (by simp),?_⟩;have hT:=eQ W5 l7 (.loop { iA a3.tmps D fn .ready none with state:=.exhausted });have hC6:=hC5.turns hT nl5 (by omega) (fun c fz e=>by rw[hL5]at e;cases e) (fun c fz e=>by rw[hL5]at e;cases e);have hD6:=(hT.block D (aO hD5) (Ne.symm hlD) (fun e=>by cases e)).trans hD5;have hcx:EL l=some (s.1,s.2):=by unfold EL;rw[if_pos h4,<-hZ]
    show (Code.seq DX .ret).wpIn _ _ _ _ _ _;exact Pu M w R 4 b2 b3 b4 b5 b6 b7 D i s N5 _ _ _ hap hB7 hwl hok hN5 hC6 hD6 nD5 (by simp[e2]) (by simp[e3]) (by simp[e4]) (by simp[e5]) (by simp) ⟨by show [_]++a3.defers=_;rw[f3.defers];rfl,f3.size,f3.ev⟩ (fun v M' o=>h1 s.1 s.2 v M' hcx o)
   ·obtain⟨hZ,N5,r5,x5,s5,k2,k3,k4,nl5,nD5,hL5,hD5⟩:=hX;refine⟨some .ret,_,run_endLoop hL5 (by simp),wpIn_ret ?_⟩;have hT:=eQ W5 l7 (.loop { iA a3.tmps D fn .done (some .ret) with state:=.exhausted });have hD6:=(hT.block D (aO hD5) (Ne.symm hlD) (fun e=>by cases e)).trans hD5;have hcx:EL l=none:=by unfold EL;rw[if_pos h4,hZ]
    have h:=h0 hcx;show bodyPostM _ _ _ _ _ .ret _ _;refine C2 (env:=put (put (put env (some 7) (.pointer (some ⟨b7,0,none⟩))) (some 16) (str l)) (some 17) (.func (.func 93) #[] #[.pointer (some ⟨Bs,0,none⟩)])) ⟨by show [_]++a3.defers=_;rw[f3.defers];rfl,f3.size,f3.ev⟩ (iY r5 hT nl5 (fun g e=>by cases e)) (jd x5 hT (by omega) (fun g e=>by cases e)) hD6 nD5 hwl ?_;have hres:Tryz.f27.results.toList=[.cell 2 28,.cell 3 9,.cell 4 4]:=by kernel_rfl
    rw[hres];simp(disch:=omega)[e2,e3,e4,aq k2,al k3,al k4];exact ae s5 h
end Go.Proofs.YtapimhjbilkfpaaGreatDoor
