/- Lemmas for FnExactDeskAfter, part 6 of 33. -/
import Derived.Test.YtapimhjbilkfpaaGreatDoorZ04
import Derived.RangeFuncGives
import Derived.RangeFuncLeaves
import Derived.OwnWalkIn
import Derived.TacticsInMore
import Derived.LoopNIn
import Derived.LoopIn
import Derived.Shelf.Strings.BuilderK
import Derived.RangeFuncBox
import Derived.Shelf.Abstract
import Derived.Shelf.RegionOpen
import Derived.WalkKit
import Derived.Lib.ParseIntB
import Derived.Lib.ItoaMem
set_option linter.unusedVariables false
set_option linter.unusedSimpArgs false
namespace Go.Proofs.YtapimhjbilkfpaaGreatDoor
open Go Go.ChangeShapes Go.Proofs.Tryz Go.RowKit List
theorem Rh{W:World}{x:Addr}{len cap:Nat}{zs:List Int}(hle:len<=cap)(hz:zs.length=cap)(h:∀ i,i<zs.length->W.cell? (x.add i)=some (.int .u8 (zs.getD i 0)))(hwz:∀ n∈zs,(Lit.int .u8 n).wf=true):Rd (reads W) (.slice (some x) len cap) (av ((zs.take len).map fun n=>UInt8.ofNat n.toNat)):=by
 refine yN (by rw[aS,length_map,lTa];omega) hle fun i hi=>?_;have hi':i<zs.length:=by omega
 have hw:=hwz _ (getElem_mem hi');simp only[Lit.wf,Bool.and_eq_true,decide_eq_true_eq]at hw;have h1:IntKind.u8.min=0:=by decide
 have h2:IntKind.u8.max=255:=by decide
 rw[h1,h2]at hw;rw[h i hi',gDe,gEl hi'];unfold av;rw[getElem?_map,getElem?_map,getElem?_take_of_lt hi,gEl hi'];simp only[Option.getD_some,Option.map_some,Option.some.injEq,Value.int.injEq,true_and];rw[UInt8.toNat_ofNat_of_lt' (by show zs[i].toNat<256;omega)];omega
theorem T2{P:Program}{H:Type}{enc:TypeId×Value->H}{W:World}{b0:Nat}{t e:TypeId}{v:Value}{d:DataW H}{p:List MemPlace}(ht:P.underlying t=some (.slice e))(he:P.underlying e=some (.int .u8))(hc:P.cellsOf e=1)(hv:Value.okWide P W .any b0 t v)
  (h:DataW.Trod enc P W 0 (fun _=>true) true t v d p):∃ xs:B8,Rd (reads W) v (av xs)/\xs.length<=9223372036854775807:=by
 obtain⟨a,len,cap,rfl⟩:=Go.WideShapes.okWide_slice ht hv;obtain⟨fuel,h⟩:=h;rcases open_ints ht he hc h with ⟨h1,_⟩|⟨x,l,c,zs,h1,_,hl,hm,hz,_,hcell,hwz⟩
 ·simp[Value.cells]at h1;obtain⟨rfl,rfl,rfl⟩:=h1;exact⟨[],D0 W,by simp⟩
 ·simp[Value.cells]at h1;obtain⟨rfl,rfl,rfl⟩:=h1;simp only[if_true]at hz;have hml:maxLen<=9223372036854775807:=by decide
  refine⟨(zs.take len).map fun n=>UInt8.ofNat n.toNat,Rh hl hz hcell hwz,by rw[length_map,lTa];omega⟩
end Go.Proofs.YtapimhjbilkfpaaGreatDoor
namespace Go.Proofs.YtapimhjbilkfpaaGreatDoor
open Go Go.Proofs.Tryz List
structure fL(ds:List Deferred)(n:Nat)(env:Env)(a:Act):Prop where
 defers:a.defers=ds
 size:a.tmps.size=n
 ev:a.eval=ev env
theorem fL.bare{ds:List Deferred}{n:Nat}{env:Env}{a:Act}(h:fL ds n env a):Fits n env { tmps:=a.tmps,defers:=[] }:=⟨rfl,h.size,h.ev⟩
theorem fL.put{ds:List Deferred}{n:Nat}{env:Env}{a:Act}(h:fL ds n env a){d:Option Tmp}(hd:∀ t,d=some t->t<n)(v:Value):fL ds n (Proofs.YtapimhjbilkfpaaGreatDoor.put env d v) (a.put d v):=by
 have h1:=h.bare.put hd v;cases d with
 | none=>exact h
 | some d=>exact⟨h.defers,h1.size,h1.ev⟩
def Ux(ds:List Deferred)(n:Nat)(M0:Mem)(w0:World)(Q:Exit->Env->Mem->Prop):Exit->Act->World->Prop:=
 fun e a w=>∃ env M,fL ds n env a/\Rep M w/\Ext M0 w0 M w/\Q e env M
abbrev iE(ro:Option Nat):Fence:={ Fence.wide with round:=ro }
def kB(ro:Option Nat)(k:Nat)(ds:List Deferred)(P:Program)(n:Nat)(c:Code)(Q:Exit->Env->Mem->Prop)(env:Env)(M:Mem):Prop:=
 ∀ M0 w0 a w,fL ds n env a->Rep M w->Ext M0 w0 M w->c.wpIn (iE ro) k P (Ux ds n M0 w0 Q) a w
def iT(o:Oper):Bool:=match o.op with|.defer _=>false|_=>true
theorem AG{o:Oper}(h:iT o=true):∀ c,o.op≠.defer c:=by
 intro c e;unfold iT at h;rw[e]at h;cases h
theorem yi{ro:Option Nat}{k:Nat}{P:Program}{f:FuncId}{args:Array Value}{w:World}{R:Ending->World->Prop}(h:Calls P f args w R):CallsIn (iE ro) k P f args w R:=
 show CallsIn Fence.wide k P f args w R from callsIn_wide.2 h
theorem MD{ro:Option Nat}{k:Nat}{P:Program}{o:Oper}{a:Act}{next:Act->World->Prop}{Q:Exit->Act->World->Prop}{r:Result Next}(h:o.upon P a next Q r):o.uponIn (iE ro) k P a next Q r:=by
 unfold Oper.upon at h;split at h
 ·exact h
 ·exact h
 ·exact h
 ·exact⟨fun e=>(by cases e),yi h⟩
 ·exact⟨fun e=>(by cases e),fun c cs hroom=>let ⟨v,w',r,s⟩:=h c cs;⟨v,w',r,stepsIn_wide.2 s⟩⟩
 ·exact h
 ·exact h.elim
theorem oW{ro:Option Nat}{k:Nat}{P:Program}{o:Oper}{a:Act}{w:World}{next:Act->World->Prop}{Q:Exit->Act->World->Prop}(hd:iT o=true)(h:o.upon P a next Q ((execOp a.eval o).run P w)):o.wpIn (iE ro) k P a w next Q:=
 ⟨fun _ _=>trivial,by rw[Oper.semAt_eq _ _ _ (AG hd)];exact MD h⟩
section
variable {ro:Option Nat} {k:Nat} {ds:List Deferred} {P:Program} {n:Nat} {Q:Exit->Env->Mem->Prop} {env:Env} {M:Mem}
theorem kB.mono{c:Code}{Q':Exit->Env->Mem->Prop}(h:kB ro k ds P n c Q env M)(hq:∀ e env M,Q e env M->Q' e env M):kB ro k ds P n c Q' env M:=
 fun M0 w0 a w h1 h2 h3=>wpIn_mono (h M0 w0 a w h1 h2 h3) fun _ _ _ ⟨e',m',a1,a2,a3,a4⟩=>⟨e',m',a1,a2,a3,hq _ _ _ a4⟩
theorem Jr{x y:Code}(h:kB ro k ds P n x (mu (kB ro k ds P n y Q) Q) env M):kB ro k ds P n (.seq x y) Q env M:=by
 intro M0 w0 a w h1 h2 h3;refine wpIn_seq (wpIn_mono (h M0 w0 a w h1 h2 h3) ?_)
 rintro e a' w' ⟨env',M',a1,a2,a3,a4⟩
 cases e with
 | normal=>exact a4 M0 w0 a' w' a1 a2 a3
 | exit id=>exact⟨_,_,a1,a2,a3,a4⟩
 | goto id=>exact⟨_,_,a1,a2,a3,a4⟩
 | ret=>exact⟨_,_,a1,a2,a3,a4⟩
 | panic c=>exact⟨_,_,a1,a2,a3,a4⟩
 | outgrown=>exact⟨_,_,a1,a2,a3,a4⟩
theorem De{id:Nat}{c:Code}(h:kB ro k ds P n c (tw id Q) env M):kB ro k ds P n (.block id c) Q env M:=by
 intro M0 w0 a w h1 h2 h3;refine wpIn_block (wpIn_mono (h M0 w0 a w h1 h2 h3) ?_)
 rintro e a' w' ⟨env',M',a1,a2,a3,a4⟩
 cases e with
 | normal=>exact⟨_,_,a1,a2,a3,a4⟩
 | exit id'=>
  simp only[tw]at a4;simp only[Exit.inBlock];split
  ·rename_i e;rw[if_pos e]at a4;exact⟨_,_,a1,a2,a3,a4⟩
  ·rename_i e;rw[if_neg e]at a4;exact⟨_,_,a1,a2,a3,a4⟩
 | goto id=>exact⟨_,_,a1,a2,a3,a4⟩
 | ret=>exact⟨_,_,a1,a2,a3,a4⟩
 | panic c=>exact⟨_,_,a1,a2,a3,a4⟩
 | outgrown=>exact⟨_,_,a1,a2,a3,a4⟩
theorem pn(T:Tab)(hT:bX P T)(ops:List Oper):∀(l:List Oper) (env:Env) (M:Mem),l.all (ki n)=true->l.all iT=true->lx P T ops Q l env M ->
  ∀ M0 w0 a w,fL ds n env a->Rep M w->Ext M0 w0 M w->wpListIn (iE ro) k P ops.toArray (Ux ds n M0 w0 Q) l a w
 | [],env,M,_,_,h=>fun M0 w0 a w h1 h2 h3=>⟨_,_,h1,h2,h3,h⟩
 | o::rest,env,M,hd,he,h=>by
  intro M0 w0 a w h1 h2 h3;simp only[all_cons,Bool.and_eq_true]at hd he;unfold lx at h;unfold wpListIn;split at h
  ·rename_i hg;rw[if_pos (by simp[Region.wanted,hg])];refine oW he.1 (rr T hT o.op h o a w _ _ rfl h1.ev h2 fun v M' w' a1 a2 a3=>?_);exact pn T hT ops rest _ _ hd.2 he.2 a3 M0 w0 _ _ (h1.put (cw hd.1) v) a1 (h3.trans a2)
  ·rename_i j b hg;by_cases hy:yE ops env j=some b
   ·rw[if_pos (by have:=eU h1.bare ops.toArray j;unfold Region.wanted;rw[hg];show (yielded ops.toArray a.tmps j==some b)=true;rw[this];show (yE ops env j==some b)=true;rw[hy];exact beq_self_eq_true _)];refine oW he.1 (rr T hT o.op (h.1 hy) o a w _ _ rfl h1.ev h2 fun v M' w' a1 a2 a3=>?_);exact pn T hT ops rest _ _ hd.2 he.2 a3 M0 w0 _ _ (h1.put (cw hd.1) v) a1 (h3.trans a2)
   ·rw[if_neg (by have:=eU h1.bare ops.toArray j;unfold Region.wanted;rw[hg];show ¬(yielded ops.toArray a.tmps j==some b)=true;rw[this];show ¬(yE ops env j==some b)=true;exact fun e=>hy (eq_of_beq e))];exact⟨fun _ _=>trivial,pn T hT ops rest _ _ hd.2 he.2 (h.2 hy) M0 w0 _ _ (h1.put (cw hd.1) undef) h2 h3⟩
def pX:Code->Bool
 | .region _ ops d=>!d&&ops.toList.all iT
 | .seq a b=>pX a&&pX b
 | .cond _ a b=>pX a&&pX b
 | .block _ c=>pX c
 | .skip=>true
 | .ret=>true
 | .exit _=>true
 | _=>false
theorem Lf(T:Tab)(hT:bX P T):∀(c:Code) (Q:Exit->Env->Mem->Prop) (env:Env) (M:Mem),ek n c=true->pX c=true->vc P T n c Q env M->kB ro k ds P n c Q env M:=by
 intro c
 induction c with
 | skip=>exact fun Q env M _ _ h=>fun M0 w0 a w h1 h2 h3=>wpIn_skip ⟨_,_,h1,h2,h3,h⟩
 | region id ops d=>
  intro Q env M hd hf h;cases d with
  | true=>cases hf
  | false=>
   intro M0 w0 a w h1 h2 h3;refine wpIn_region_list ?_;have hf':ops.toList.all iT=true:=by simpa[pX] using hf
   have:=pn (ro:=ro) (k:=k) (ds:=ds) T hT ops.toList ops.toList env M hd hf' h M0 w0 a w h1 h2 h3;simpa using this
 | seq a b iha ihb=>
  intro Q env M hd hf h;simp only[ek,pX,Bool.and_eq_true]at hd hf;refine Jr ((iha _ _ _ hd.1 hf.1 h).mono fun e env' M' h'=>?_);cases e<;>first|exact ihb _ _ _ hd.2 hf.2 h'|exact h'
 | cond c a b iha ihb=>
  intro Q env M hd hf h;simp only[ek,pX,Bool.and_eq_true]at hd hf;unfold vc vIf at h;split at h
  ·rename_i t ht;exact fun M0 w0 a w h1 h2 h3=>wpIn_cond_split (by rw[h1.ev];exact ht) (fun e=>iha _ _ _ hd.1 hf.1 (h.1 e) M0 w0 a w h1 h2 h3) (fun e=>ihb _ _ _ hd.2 hf.2 (h.2 e) M0 w0 a w h1 h2 h3)
  ·exact h.elim
 | block id c ih=>exact fun Q env M hd hf h=>De (ih _ _ _ hd hf h)
 | ret=>exact fun Q env M _ _ h=>fun M0 w0 a w h1 h2 h3=>wpIn_ret ⟨_,_,h1,h2,h3,h⟩
 | exit id=>exact fun Q env M _ _ h=>fun M0 w0 a w h1 h2 h3=>wpIn_exit ⟨_,_,h1,h2,h3,h⟩
 | _=>exact fun Q env M _ hf h=>by cases hf
end
end Go.Proofs.YtapimhjbilkfpaaGreatDoor
namespace Go.Proofs.YtapimhjbilkfpaaGreatDoor
open Go Go.Proofs.Tryz Go.RowKit Go.Shelf List
structure ey(b:Nat)(row:Option Nat)(w w':World):Prop where
 os:w'.os=w.os
 tape:w'.tape=w.tape
 output:w'.output=w.output
 size:w.heap.size<=w'.heap.size
 block:∀ k,k<w.heap.size->k≠b->row≠some k->w'.heap[k]?=w.heap[k]?
theorem ey.cell(b:Nat)(row:Option Nat)(w:World)(i:Nat)(v:Value):ey b row w (w.setCell ⟨b,i,none⟩ v):=
 ⟨rfl,rfl,rfl,(KeepsWalks.setCell w _ v).size,fun k _ hk _=>Below.heap_setCell _ _ _ k hk⟩
theorem ey.trans{b:Nat}{row:Option Nat}{w w' w'':World}(h:ey b row w w')(k:ey b row w' w''):ey b row w w'':=
 ⟨k.os.trans h.os,k.tape.trans h.tape,k.output.trans h.output,Nat.le_trans h.size k.size,fun j hj h1 h2=>(k.block j (Nat.lt_of_lt_of_le hj h.size) h1 h2).trans (h.block j hj h1 h2)⟩
theorem ey.of_grown{b:Nat}{row:Option Nat}{w w':World}(h:w.grownBy w' row):ey b row w w':=
 ⟨h.os,h.tape,h.output,h.size,fun k hk _ hr=>h.block k hk (fun e=>hr e.symm)⟩
variable {P:Program} {ρ:Ren}
theorem Hq(L:Lays.n240 P ρ)(X:Builder.X72 P ρ)(B b:Nat)(bs:List Value)(v p:Value)(w:World)(hp:p=.pointer none\/p=.pointer (some ⟨b,0,none⟩))(hb:w.heap[b]?=some (.cells #[p,v] (ρ.t 72) (0,0)))(row:Option Nat) :
  Calls P (ρ.f 240) #[.pointer (some ⟨b,0,none⟩)] w fun e w'=>e=.returned (.tuple #[])/\w'.heap[b]?=some (.cells #[.pointer (some ⟨b,0,none⟩),v] (ρ.t 72) (0,0))/\w.grownBy w' (some b):=by
 have h0:w.cell? ⟨b,0,none⟩=some p:=by rw[Lib.cell_of_heap hb];rfl
 rcases hp with rfl|rfl
 ·refine(Any.Builder_copyCheck_fresh L X b w h0 (by simp[World.shape?,hb]) (Lib.frozen_of_heap hb 0)).mono ?_
  rintro e w' ⟨rfl,rfl⟩
  exact⟨rfl,by simp[World.setCell,Array.getElem?_modify,hb],⟨rfl,rfl,rfl,(KeepsWalks.setCell w _ _).size,fun k _ hk=>Below.heap_setCell _ _ _ k (fun e=>hk (by rw[e]))⟩⟩
 ·refine(Any.Builder_copyCheck_used L X b w h0).mono ?_
  rintro e w' ⟨rfl,rfl⟩
  exact⟨rfl,hb,⟨rfl,rfl,rfl,lRf _,fun _ _ _=>rfl⟩⟩
theorem DM(w:World)(base:Nat)(t u ty e:TypeId)(i:TypeInfo)(ht:P.underlying t=some (.slice e))(hu:P.underlying u=some .string)(hi:P.info? e=some i)(hz:i.zero=some (.int .u8 0))(hsize:i.size=1)(hby:i.bytes=1)
  (v:Value) (n:Nat) (xs:List Value) (hown:w.ownsRowF base e 1 v n xs) (s:ByteArray) (h63:n+s.size<=maxLen) (hbytes:n+s.size<=140737488355328) {v':Value} {w':World} (hr:(Builtin.append_ #[t,u] ty #[v,.string s]).run P w=.ok v' w') :
  ∀ g',v'.ownBlock=some g'->v.ownBlock=some g'\/w.heap.size<=g':=by
 intro g' hg';rcases hown.2 with ⟨rfl,rfl⟩|⟨g,cap,cur,fz,rfl,hbg,hg,hfz,hnc,hcm,hcs,htake⟩
 ·obtain⟨v2,w2,h1,h2,_,_⟩:=Lib.run_append_own_stringF (P:=P) w w.heap.size t u ty e i ht hu hi hz hsize hby (.slice none 0 0) 0 xs ⟨hown.1,.inl ⟨rfl,rfl⟩⟩ s h63 hbytes (lRf _);rw[hr]at h1;cases h1;exact .inr (h2.lt g' hg').1
 ·have hxl:xs.length=n:=by simpa using hown.1
  by_cases hroom:n+s.size<=cap
  ·have h1:=Lib.run_append_room_stringF (P:=P) w t u ty e i ht hu hi hsize g n cap cur fz hg (by simpa using hfz) s hroom (by rw[hcs];omega);rw[hr]at h1;cases h1;exact .inl hg'
  ·have holds:∀ j u,xs[j]?=some u->w.cell? ((⟨g,0,none⟩:Addr).add j)=some u:=hown.cells (g:=g) rfl;have hsmall:n+s.size<=9223372036854775807:=by simp only[maxLen]at h63;omega
   have h1:=Lib.run_append_grow_string (P:=P) w t u ty e i (.int .u8 0) ht hu hi hz ⟨g,0,none⟩ n cap xs (by rw[hsize];simpa using hxl) holds s (by omega) (by omega) (by rw[hby];exact growslice_fits (by omega) (by omega));rw[hr]at h1;cases h1;cases hg';exact .inr (lRf _)
theorem xq{ops:Array Oper}{rest:List Oper}{o:Oper}{a:Act}{w:World}{Q:Exit->Act->World->Prop}(hgd:o.guard=none)(sl x:Operand)(t u:TypeId)(ho:o.op=.call { callee:=.builtin .append,args:=#[sl,x],argTypes:=#[t,u] })
  (base:Nat) (e:TypeId) (i:TypeInfo) (ht:P.underlying t=some (.slice e)) (hu:P.underlying u=some .string) (hi:P.info? e=some i) (hz:i.zero=some (.int .u8 0)) (hsize:i.size=1) (hby:i.bytes=1)
  (v:Value) (n:Nat) (xs:List Value) (hs:a.eval sl=v) (hown:w.ownsRowF base e 1 v n xs) (s:ByteArray) (hx:a.eval x=.string s) (h63:n+s.size<=maxLen) (hbytes:n+s.size<=140737488355328) (hbase:base<=w.heap.size)
  (h:∀ v' w',w'.ownsRowF base e 1 v' (n+s.size) (xs++Lib.strCells s)->w.grownBy w' v.ownBlock->(∀ g',v'.ownBlock=some g'->v.ownBlock=some g'\/w.heap.size<=g')->wpList P ops Q rest (a.put o.dst v') w'):wpList P ops Q (o::rest) a w:=by
 refine wpList_plain hgd fun K hK=>?_;obtain⟨v',w',hr,h2,h3,_⟩:=Lib.run_append_own_stringF (P:=P) w base t u o.type e i ht hu hi hz hsize hby v n xs hown s h63 hbytes hbase;have h4:=DM w base t u o.type e i ht hu hi hz hsize hby v n xs hown s h63 hbytes hr;unfold Oper.wp execOp;simp only[ho,resolve,invoke,builtin,Sem.run_bind,Sem.run_pure,Result.andThen_ok,map_toArray,map_cons,map_nil,hs,hx,hr];exact hK _ _ (h v' w' h2 h3 h4)
set_option maxHeartbeats 2000000 in
set_option maxRecDepth 100000 in
theorem AX(L:Lays.n166 P ρ)(X:Builder.Extra P ρ)(B b:Nat)(bs:List Value)(s:ByteArray)(v p:Value)(w:World)(hp:p=.pointer none\/p=.pointer (some ⟨b,0,none⟩))(hb:w.heap[b]?=some (.cells #[p,v] (ρ.t 72) (0,0)))
  (hown:w.ownsRowF B (ρ.t 5) 1 v bs.length bs) (hne:v.ownBlock≠some b) (hB:B<=b) (hlen:bs.length+s.size<=140737488355328) (hBw:B<=w.heap.size) :
  Calls P (ρ.f 166) #[.pointer (some ⟨b,0,none⟩),.string s] w fun e w'=>e=.returned (.tuple #[.int .i64 s.size,.nilIface])/\(∃ v',w'.heap[b]?=some (.cells #[.pointer (some ⟨b,0,none⟩),v'] (ρ.t 72) (0,0))/\w'.ownsRowF B (ρ.t 5) 1 v' (bs++Lib.strCells s).length (bs++Lib.strCells s)/\v'.ownBlock≠some b/\∀ g',v'.ownBlock=some g'->v.ownBlock=some g'\/w.heap.size<=g')/\ey b v.ownBlock w w':=by
 obtain⟨i0,hi,hz0,hz1,hz2⟩:=info_parts X.infoByte;have mixed:=L.mixed;have t72:=L.t72;have a72:=L.a72;have z72:=L.z72;have v72:=L.v72;have u72:=run_underlying L.t72;have t70:=L.t70;have a70:=L.a70;have z70:=L.z70;have v70:=L.v70;have u70:=run_underlying L.t70;have t37:=L.t37;have a37:=L.a37;have z37:=L.z37;have v37:=L.v37;have u37:=run_underlying L.t37;have t3:=L.t3;have a3:=L.a3;have z3:=L.z3;have v3:=L.v3;have u3:=run_underlying L.t3;have t9:=L.t9;have a9:=L.a9;have z9:=L.z9;have v9:=L.v9;have u9:=run_underlying L.t9;have t5:=X.t5;have a5:=X.a5;have z5:=X.z5;have v5:=X.v5;have u5:=run_underlying X.t5;have e240:∀ args w,(callFunc (ρ.f 240) args).run P w=.ok (.enter (ρ.f 240) args) w:=enters_of L.f240 (by kernel_rfl) rfl
 go_enter L.f166,Body.n166_ntmps ρ
 go_wp2_with (go_at_fn (ρ.f 240);refine(Hq { L with } X.toX72 B b bs v p _ hp hb v.ownBlock).mono ?_)
 rintro e w1 ⟨rfl,hb1,hg1⟩
 have hs1:=hg1.size;have hown1:w1.ownsRowF B (ρ.t 5) 1 v bs.length bs:=hown.kept hg1 (Or.inr hne);have c0:w1.cell? ⟨b,0,none⟩=some (.pointer (some ⟨b,0,none⟩)):=by rw[Lib.cell_of_heap hb1];rfl
 have c1:w1.cell? ⟨b,1,none⟩=some v:=by rw[Lib.cell_of_heap hb1];rfl
 go_wp2_with (at_builtin;refine xq rfl _ _ (ρ.t 37) (ρ.t 9) rfl B (ρ.t 5) i0 L.t37 L.t9 hi hz0 hz1 hz2 _ _ _ rfl hown1 s rfl ?c3 ?c4 ?c5 ?_)
 case c3=>unfold maxLen;omega
 case c4=>omega
 case c5=>omega
 intro v' w2 hown' hgrow hplace;have hlt:b<w1.heap.size:=(Array.getElem?_eq_some_iff.1 hb1).1;have hb2:w2.heap[b]?=some (.cells #[.pointer (some ⟨b,0,none⟩),v] (ρ.t 72) (0,0)):=by
  rw[hgrow.block b hlt (fun e=>hne e.symm)];exact hb1
 have d0:w2.cell? ⟨b,0,none⟩=some (.pointer (some ⟨b,0,none⟩)):=by rw[Lib.cell_of_heap hb2];rfl
 have d1:w2.cell? ⟨b,1,none⟩=some v:=by rw[Lib.cell_of_heap hb2];rfl
 have f1:w2.frozen? ⟨b,1,none⟩=false:=Lib.frozen_of_heap hb2 1;obtain⟨ao,n',cap,rfl⟩:∃ ao n' cap,v'=.slice ao n' cap:=by
  rcases hown'.2 with ⟨hv,_⟩|⟨g,cap,cur,fz,hv,_⟩
  ·exact⟨_,_,_,hv⟩
  ·exact⟨_,_,_,hv⟩
 go_wp2
 go_ret2
 refine⟨rfl,?_,?_⟩
 ·have hput:=Lib.BuilderAtF.put (T:=(ρ.t 72)) (e:=(ρ.t 5)) hB hb2 (bs':=bs++Lib.strCells s) (by simpa[Lib.strCells_length] using hown') X.neB5;obtain⟨_,v'',hh,ho,hn⟩:=hput;have h2:(w2.setCell ⟨b,1,none⟩ (.slice ao n' cap)).heap[b]?=some (.cells #[.pointer (some ⟨b,0,none⟩),.slice ao n' cap] (ρ.t 72) (0,0)):=by simp[World.setCell,Array.getElem?_modify,hb2]
  have he:v''=.slice ao n' cap:=by
   rw[h2]at hh;injection hh with hh
   injection hh with hh
   have:=congrArg (fun x:Array Value=>x[1]?) hh;simpa using this.symm
  subst he;exact⟨_,h2,ho,hn,fun g' hg'=>(hplace g' hg').imp id (fun h=>Nat.le_trans hs1 h)⟩
 ·have t1:ey b v.ownBlock w w1:=⟨hg1.os,hg1.tape,hg1.output,hg1.size,fun k hk h1 _=>hg1.block k hk (fun e=>h1 (by cases e;rfl))⟩;exact(t1.trans (ey.of_grown hgrow)).trans (ey.cell _ _ _ _ _)
set_option maxHeartbeats 1000000 in
set_option maxRecDepth 100000 in
theorem xk(L:Lays.n169 P ρ)(X:Builder.Extra P ρ)(B b:Nat)(l:B8)(p v:Value)(w:World)(hbk:w.heap[b]?=some (.cells #[p,v] (ρ.t 72) (0,0)))(hown:w.ownsRowF B (ρ.t 5) 1 v l.length (Lib.byteCells l))(h0:l≠[]) :
  Calls P (ρ.f 169) #[.pointer (some ⟨b,0,none⟩)] w fun e w'=>e=.returned (.string ⟨l.toArray⟩)/\ey b v.ownBlock w w':=by
 have hl0:l.length≠0:=by simpa using h0
 obtain⟨g,cap,cur,fz,rfl,hbg,hg,hfz,hnc,hcm,hcs,htake⟩:∃ g cap cur fz,v=.slice (some ⟨g,0,none⟩) l.length cap/\B<=g/\w.heap[g]?=some (.cells cur (ρ.t 5) fz)/\fz.2<=l.length*1/\l.length<=cap/\cap<=maxLen/\cur.size=cap*1/\cur.toList.take (l.length*1)=Lib.byteCells l:=by
  rcases hown.2 with ⟨_,hz⟩|⟨g,cap,cur,fz,hv,r⟩
  ·exact absurd hz hl0
  ·exact⟨g,cap,cur,fz,hv,r⟩
 have c1:w.drew.cell? ⟨b,1,none⟩=some (.slice (some ⟨g,0,none⟩) l.length cap):=by
  have:w.drew.heap[b]?=some (.cells #[p,.slice (some ⟨g,0,none⟩) l.length cap] (ρ.t 72) (0,0)):=hbk;rw[Lib.cell_of_heap this];rfl
 have hSD:(Builtin.unsafeSliceData_ #[(ρ.t 37)] (ρ.t 127) #[.slice (some ⟨g,0,none⟩) l.length cap]).run P w.drew=.ok (.pointer (some ⟨g,0,none⟩)) w.drew:=
  Lib.run_unsafeSliceData_row _ _ _ _ _ _ (by omega)
 have hUS:(Builtin.unsafeString_ #[(ρ.t 127),(ρ.t 3)] (ρ.t 9) #[.pointer (some ⟨g,0,none⟩),.int .i64 l.length]).run P w.drew=.ok (.string ⟨l.toArray⟩) (w.drew.freeze ⟨g,0,none⟩ l.length):=by
  refine Lib.run_unsafeString_row w.drew (ρ.t 127) (ρ.t 3) (ρ.t 9) (ρ.t 5) L.t127 X.cellsByte g cur.size (by have hg':w.drew.heap[g]?=some (.cells cur (ρ.t 5) fz):=hg;simp[World.shape?,hg']) l h0 (by omega) (by unfold maxLen at hcm;omega) ?_;intro j x hx;exact hown.cells (g:=g) rfl j (.int .u8 x.toNat) (by simp[Lib.byteCells,hx])
 have hT:ey b (Value.slice (some ⟨g,0,none⟩) l.length cap).ownBlock w (w.drew.freeze ⟨g,0,none⟩ l.length):=by
  unfold World.freeze;split
  ·exact⟨rfl,rfl,rfl,lRf _,fun _ _ _ _=>rfl⟩
  ·refine⟨rfl,rfl,rfl,Nat.le_of_eq (Array.size_modify (xs:=w.heap)).symm,fun k hk h1 h2=>?_⟩;have hkg:g≠k:=fun e=>h2 (by rw[<-e];rfl);show (w.heap.modify g _)[k]?=_;rw[Array.getElem?_modify,if_neg hkg]
 have mixed:=L.mixed;have t72:=L.t72;have a72:=L.a72;have z72:=L.z72;have v72:=L.v72;have u72:=run_underlying L.t72;have t70:=L.t70;have a70:=L.a70;have z70:=L.z70;have v70:=L.v70;have u70:=run_underlying L.t70;have t37:=L.t37;have a37:=L.a37;have z37:=L.z37;have v37:=L.v37;have u37:=run_underlying L.t37;have t127:=L.t127;have a127:=L.a127;have z127:=L.z127;have v127:=L.v127;have u127:=run_underlying L.t127;have t3:=L.t3;have a3:=L.a3;have z3:=L.z3;have v3:=L.v3;have u3:=run_underlying L.t3;have t9:=L.t9;have a9:=L.a9;have z9:=L.z9;have v9:=L.v9;have u9:=run_underlying L.t9;have t5:=X.t5;have a5:=X.a5;have z5:=X.z5;have v5:=X.v5;have u5:=run_underlying X.t5
 go_enter L.f169,Body.n169_ntmps ρ
 go_wp2
 go_region_o
 all_goals (go_wp2;go_ret;exact⟨rfl,hT⟩)
set_option maxHeartbeats 2000000 in
set_option maxRecDepth 100000 in
theorem tW(L:Lays.n169 P ρ)(X:Builder.Extra P ρ)(b:Nat)(p:Value)(w:World)(hbk:w.heap[b]?=some (.cells #[p,.slice none 0 0] (ρ.t 72) (0,0))) :
  Calls P (ρ.f 169) #[.pointer (some ⟨b,0,none⟩)] w fun e w'=>e=.returned (.string ⟨#[]⟩)/\ey b none w w':=by
 have hUS:=Any.unsafeString_none L X;have c1:w.drew.cell? ⟨b,1,none⟩=some (.slice none 0 0):=by
  have:w.drew.heap[b]?=some (.cells #[p,.slice none 0 0] (ρ.t 72) (0,0)):=hbk;rw[Lib.cell_of_heap this];rfl
 have hSD:(Builtin.unsafeSliceData_ #[(ρ.t 37)] (ρ.t 127) #[.slice none 0 0]).run P w.drew=.ok (.pointer none) w.drew:=rfl;have hT:ey b none w w.drew:=⟨rfl,rfl,rfl,lRf _,fun _ _ _ _=>rfl⟩;have mixed:=L.mixed;have t72:=L.t72;have a72:=L.a72;have z72:=L.z72;have v72:=L.v72;have u72:=run_underlying L.t72;have t70:=L.t70;have a70:=L.a70;have z70:=L.z70;have v70:=L.v70;have u70:=run_underlying L.t70;have t37:=L.t37;have a37:=L.a37;have z37:=L.z37;have v37:=L.v37;have u37:=run_underlying L.t37;have t127:=L.t127;have a127:=L.a127;have z127:=L.z127;have v127:=L.v127;have u127:=run_underlying L.t127;have t3:=L.t3;have a3:=L.a3;have z3:=L.z3;have v3:=L.v3;have u3:=run_underlying L.t3;have t9:=L.t9;have a9:=L.a9;have z9:=L.z9;have v9:=L.v9;have u9:=run_underlying L.t9;have t5:=X.t5;have a5:=X.a5;have z5:=X.z5;have v5:=X.v5;have u5:=run_underlying X.t5
 go_enter L.f169,Body.n169_ntmps ρ
 go_wp2
 go_region_o
 all_goals (go_wp2;go_ret;exact⟨rfl,hT⟩)
end Go.Proofs.YtapimhjbilkfpaaGreatDoor
namespace Go.Proofs.YtapimhjbilkfpaaGreatDoor
open Go Go.Proofs.Tryz Go.RowKit List
theorem B2{M:Mem}{w w':World}(h:Rep M w)(hb:Below w.heap.size w w'):Rep M w':=by
 intro b B hB;have hold:=h b B hB;have hlt:b<w.heap.size:=by
  rcases Nat.lt_or_ge b w.heap.size with hlt|hge
  ·exact hlt
  ·cases B with
   | cells own xs tot=>obtain⟨c,e,fr,q,_⟩:=hold;rw[Array.getElem?_eq_none hge]at q;cases q
   | obj o=>obtain⟨q,_⟩:=hold;rw[Array.getElem?_eq_none hge]at q;cases q
 exact Blk.holds_of (hb.block b hlt) hold
theorem kn{M:Mem}{w:World}(h:Rep M w){b:Nat}{B:Blk}(hB:M b=some B):b<w.heap.size:=by
 have hold:=h b B hB;rcases Nat.lt_or_ge b w.heap.size with hlt|hge
 ·exact hlt
 ·cases B with
  | cells own xs tot=>obtain⟨c,e,fr,q,_⟩:=hold;rw[Array.getElem?_eq_none hge]at q;cases q
  | obj o=>obtain⟨q,_⟩:=hold;rw[Array.getElem?_eq_none hge]at q;cases q
theorem dt{P:Program}{f:FuncId}{args:List Value}{M:Mem}{R:VP}(v:Value)(hb:tS P f)(h:∀ w,Rep M w->Calls P f args.toArray w fun e w'=>e=.returned v/\Below w.heap.size w w')(hR:R v M):ar P f args M R:=
 ⟨hb,fun w hw=>(h w hw).mono fun e w' ⟨he,hbl⟩=>⟨v,M,he,B2 hw hbl,⟨hbl.os,hbl.tape,hbl.output,hbl.size,fun b hb _=>hbl.block b hb,fun b hb=>.inl hb⟩,hR⟩⟩
theorem Ov{M:Mem}{b i:Nat}{v:Value}(h:M.get? b i=some v):∃ B,M b=some B:=by
 unfold Mem.get? at h;cases hM:M b with
 | none=>rw[hM]at h;cases h
 | some B=>exact⟨B,rfl⟩
end Go.Proofs.YtapimhjbilkfpaaGreatDoor
namespace Go.Proofs.YtapimhjbilkfpaaGreatDoor
open Go Go.Proofs.Tryz Go.RowKit Go.Shelf List
attribute [local go_sem] Oper.semAt_some
attribute [-simp] lE pe
def iB(r:B8):B8:=if 0<=Lib.indexByte r 10 then r.take ((Lib.indexByte r 10).toNat+1) else r
def eX(r:B8):B8:=if 0<=Lib.indexByte r 10 then r.drop ((Lib.indexByte r 10).toNat+1) else []
theorem PA(c:UInt8):∀ r:B8,0<=Lib.indexByte r c->(Lib.indexByte r c).toNat<r.length
 | [],h=>by simp[Lib.indexByte]at h
 | b::l,h=>by
  unfold Lib.indexByte at h ⊢;split
  ·simp
  ·rename_i h1;rw[if_neg h1]at h;split
   ·rename_i h2;rw[if_pos h2]at h;omega
   ·rename_i h2;rw[if_neg h2]at h;have h3:=Lib.indexByte_ge l c;have h4:Lib.indexByte l c≠-1:=by simpa using h2
    have:=PA c l (by omega);simp only[length_cons];omega
theorem pw{r:B8}(h:r≠[]):(eX r).length<r.length:=by
 have:0<r.length:=List.length_pos_iff.2 h;unfold eX;split
 ·rw[length_drop];omega
 ·simpa using this
def Iv(Bs:Nat)(w:World):Nat:=match w.cell? ⟨Bs,0,none⟩ with|some (.string s)=>s.size|_=>0
theorem oU{Bs:Nat}{w:World}{r:B8}(h:w.cell? ⟨Bs,0,none⟩=some (str r)):Iv Bs w=r.length:=by
 unfold Iv;rw[h];rfl
set_option maxRecDepth 100000 in
set_option maxHeartbeats 2000000 in
theorem Nh(n l Bs N:Nat)(hN:N<=1000000)(J:B8->World->Prop)(Jx:World->Prop)
  (hset:∀ r W v,J r W->J r (W.setCell ⟨Bs,0,none⟩ v)) (hdrew:∀ r W,J r W->J r W.drew)
  (hY:∀ r W,J r W->r≠[]->r.length<=N->YieldAt Fence.wide n prog l #[str (iB r)] W fun e W'=>
   (e=.returned (.bool true)/\J (eX r) W'/\W'.heap[Bs]?=W.heap[Bs]?)\/(e=.returned (.bool false)/\Jx W'))
  (W:World) (r0:B8) (hr0:r0.length<=N) (hBs:W.heap[Bs]?=some (.cells #[str r0] 9 (0,0))) (h0:J r0 W) :
  CallsIn Fence.wide (n+1) prog 93 #[.func (.yield l) #[] #[],.pointer (some ⟨Bs,0,none⟩)] W fun e W'=>(∃ v,e=.returned v)/\(J [] W'\/Jx W'):=by
 have mixed:prog.follows .mixedOrders=true:=by kernel_rfl
 refine callsIn_of_wp func93 rfl trivial ?_ rfl;simp only[ntmps93,size_toArray,length_cons,length_nil,Nat.reduceAdd,Nat.reduceSub,Array.replicate_succ,Array.replicate_zero,push_toArray,append_toArray,nil_append,cons_append]
 gi_wp2
 gi_loopw [] (fun wr=>∃ r,r.length<=N/\J r wr/\wr.heap[Bs]?=some (.cells #[str r] 9 (0,0))) (fun wr=>Iv Bs wr)
 case atStart=>exact⟨r0,hr0,h0,hBs⟩
 case round=>
  obtain⟨r,hr,hJ,hb'⟩:=hrel;have hb:wr.heap[Bs]?=some (.cells #[.string ⟨r.toArray⟩] 9 (0,0)):=hb';clear hb';have t9:=underlying9;have u9:=run_underlying underlying9;have hc:wr.cell? ⟨Bs,0,none⟩=some (.string ⟨r.toArray⟩):=by rw[Lib.cell_of_heap hb];rfl
  have hf:wr.frozen? ⟨Bs,0,none⟩=false:=Lib.frozen_of_heap hb 0;by_cases hnil:r=[]
  ·subst hnil
   gi_wp2
   go_end0
   exact⟨⟨_,rfl⟩,.inl hJ⟩
  ·have hpos:0<r.length:=List.length_pos_iff.2 hnil;have hge:=Lib.indexByte_ge r 10;have hIB:Calls prog 94 #[.string ⟨r.toArray⟩,.int .u8 10] wr fun e w'=>e=.returned (.int .i64 (Lib.indexByte r 10))/\w'=wr:=Tryz.strings_IndexByte ⟨r.toArray⟩ 10 wr;by_cases hi:0<=Lib.indexByte r 10
   ·have hlt:=PA 10 r hi;have hhd:iB r=r.take ((Lib.indexByte r 10).toNat+1):=by unfold iB;rw[if_pos hi]
    have htl:eX r=r.drop ((Lib.indexByte r 10).toNat+1):=by unfold eX;rw[if_pos hi]
    obtain⟨k,hk⟩:∃ k:Nat,Lib.indexByte r 10=k:=⟨(Lib.indexByte r 10).toNat,by omega⟩;rw[hk]at hIB hlt hhd htl;rw[Int.toNat_natCast]at hlt hhd htl;clear hk hi hge;have hs0:(0:Int)<=(k:Int)+1:=by omega
    have hs1:(k:Int)+1<=(r.length:Int):=by omega
    have e1:Value.string ((⟨r.toArray⟩:ByteArray).extract 0 (k+1))=str (iB r):=by
     rw[hhd];show Value.string _=Value.string _;congr 1;apply ByteArray.ext;simp[ByteArray.data_extract]
    have e2:Value.string ((⟨r.toArray⟩:ByteArray).extract (k+1) r.length)=str (eX r):=by
     rw[htl];show Value.string _=Value.string _;congr 1;apply ByteArray.ext;simp[ByteArray.data_extract];rw[take_of_length_le (by simp)]
    obtain⟨fn,tmps,assign,body,hy,hR⟩:=hY r (wr.setCell ⟨Bs,0,none⟩ (.string ((⟨r.toArray⟩:ByteArray).extract (k+1) r.length))).drew (hdrew _ _ (hset _ _ _ hJ)) hnil hr;rw[<-e1]at hy;have hb2:(wr.setCell ⟨Bs,0,none⟩ (.string ((⟨r.toArray⟩:ByteArray).extract (k+1) r.length))).drew.heap[Bs]?=some (.cells #[str (eX r)] 9 (0,0)):=by
     rw[e2];simp[World.setCell,World.drew,Array.getElem?_modify,hb]
    clear e1 e2 hhd htl
    gi_wp2_with (refine⟨trivial,?_⟩;gi_at_call 94;refine(callsIn_wide.2 hIB).mono ?_;rintro e w' ⟨rfl,rfl⟩)
    have hk1:(k:Int)<=1000000:=by omega
    have hwr:IntKind.i64.wrap ((k:Int)+1)=(k:Int)+1:=by go_bits;try trivial
    gi_region_o
    gi_wp2
    refine hR.mono ?_
    rintro e W3 (⟨rfl,hJ3,hk3⟩|⟨rfl,hJx3⟩)
    ·gi_wp2
     go_roundw
     case rel=>exact⟨eX r,Nat.le_trans (Nat.le_of_lt (pw hnil)) hr,hJ3,by rw[hk3,hb2]⟩
     case measure=>rw[oU (r:=eX r) (by rw[Lib.cell_of_heap (hk3.trans hb2)];rfl),oU (r:=r) hc];exact pw hnil
    ·gi_wp2
     refine bodyPost_ret (results_none rfl _ _ _) rfl ?_;exact⟨⟨_,rfl⟩,.inr hJx3⟩
   ·have hhd:iB r=r:=by unfold iB;rw[if_neg hi]
    have htl:eX r=[]:=by unfold eX;rw[if_neg hi]
    obtain⟨fn,tmps,assign,body,hy,hR⟩:=hY r (wr.setCell ⟨Bs,0,none⟩ (.string ⟨#[]⟩)) (hset _ _ _ hJ) hnil hr;rw[hhd]at hy;have hy':Sem.run prog (Instr.yield l #[.string ⟨r.toArray⟩]) (wr.setCell ⟨Bs,0,none⟩ (.string ⟨#[]⟩))=_:=hy;have hb2:(wr.setCell ⟨Bs,0,none⟩ (.string ⟨#[]⟩)).heap[Bs]?=some (.cells #[.string ⟨#[]⟩] 9 (0,0)):=by simp[World.setCell,Array.getElem?_modify,hb]
    clear hy
    gi_wp2_with (refine⟨trivial,?_⟩;gi_at_call 94;refine(callsIn_wide.2 hIB).mono ?_;rintro e w' ⟨rfl,rfl⟩)
    refine hR.mono ?_
    rintro e W3 (⟨rfl,hJ3,hk3⟩|⟨rfl,hJx3⟩)
    ·gi_wp2
     go_roundw
     case rel=>exact⟨eX r,by rw[htl];exact lZe _,hJ3,by rw[hk3,hb2,htl];rfl⟩
     case measure=>rw[oU (r:=[]) (by rw[Lib.cell_of_heap (hk3.trans hb2)];rfl),oU (r:=r) hc];exact hpos
    ·gi_wp2
     refine bodyPost_ret (results_none rfl _ _ _) rfl ?_;exact⟨⟨_,rfl⟩,.inr hJx3⟩
end Go.Proofs.YtapimhjbilkfpaaGreatDoor
namespace Go.Proofs.YtapimhjbilkfpaaGreatDoor
open Go Go.Proofs.Tryz List
def ky(b:UInt8):Bool:=decide (48<=b.toNat)&&decide (b.toNat<=57)
def bS(l:B8):Bool:=(decide (1<=l.length)&&decide (l.length<=9))&&(!(decide (1<l.length)&&(l.headD 0==48))&&l.all ky)
def cj(l:B8):Nat:=l.foldl (fun n b=>n*10+(b.toNat-48)) 0
def Ma(l:B8):Int:=if bS l then (cj l:Nat) else -1
theorem lk(l:B8)(b:UInt8):cj (l++[b])=cj l*10+(b.toNat-48):=by simp[cj,foldl_append]
theorem lJ{b:UInt8}(h:ky b=true):48<=b.toNat/\b.toNat<=57:=by
 unfold ky at h;rw[Bool.and_eq_true,decide_eq_true_eq,decide_eq_true_eq]at h;exact h
theorem KG(d:Nat)(h:d<10):ky (UInt8.ofNat (48+d))=true/\(UInt8.ofNat (48+d)).toNat=48+d:=by
 have e:(UInt8.ofNat (48+d)).toNat=48+d:=by simp[UInt8.toNat_ofNat'];omega
 refine⟨?_,e⟩;unfold ky;rw[Bool.and_eq_true,decide_eq_true_eq,decide_eq_true_eq,e];omega
structure Canon(l:B8):Prop where
 ne:l≠[]
 dig:∀ b∈l,ky b=true
 head:l.length=1\/l.headD 0≠48
theorem dS{l:B8}:bS l=true↔Canon l/\l.length<=9:=by
 unfold bS;simp only[Bool.and_eq_true,decide_eq_true_eq,Bool.not_eq_true',Bool.and_eq_false_iff,decide_eq_false_iff_not,bNe,all_eq_true];constructor
 ·rintro⟨⟨h1,h2⟩,h3,h4⟩
  refine⟨⟨fun e=>by rw[e]at h1;exact absurd h1 (by decide),h4,?_⟩,h2⟩;rcases h3 with h3|h3
  ·exact .inl (by omega)
  ·exact .inr h3
 ·rintro⟨⟨h1,h2,h3⟩,h4⟩
  have hp:1<=l.length:=by
   cases l with
   | nil=>exact absurd rfl h1
   | cons a r=>simp
  refine⟨⟨hp,h4⟩,?_,h2⟩;rcases h3 with h3|h3
  ·exact .inl (by omega)
  ·exact .inr h3
theorem ED{l:B8}(h:l≠[]):∃ r b,l=r++[b]:=⟨l.dropLast,l.getLast h,(dropLast_concat_getLast h).symm⟩
theorem CM{r:B8}(h:r≠[])(b:UInt8):(r++[b]).headD 0=r.headD 0:=by
 cases r with
 | nil=>exact absurd rfl h
 | cons a r=>rfl
theorem Canon.init{r:B8}{b:UInt8}(h:Canon (r++[b]))(hr:r≠[]):Canon r/\r.headD 0≠48:=by
 have hh:r.headD 0≠48:=by
  rcases h.head with h1|h1
  ·rw[lAp]at h1;have:r.length=0:=by simpa using h1
   exact absurd (List.length_eq_zero_iff.1 this) hr
  ·rwa[CM hr]at h1
 exact⟨⟨hr,fun x hx=>h.dig x (mem_append_left _ hx),.inr hh⟩,hh⟩
theorem HR:∀(n:Nat) (l:B8),l.length=n->Canon l->l.headD 0≠48->1<=cj l
 | 0,l,hn,h,_=>absurd (List.length_eq_zero_iff.1 hn) h.ne
 | n+1,l,hn,h,hh=>by
  obtain⟨r,b,rfl⟩:=ED h.ne;rw[lk];by_cases hr:r=[]
  ·subst hr;have hb:=lJ (h.dig b (by simp));have hb2:b.toNat≠48:=fun e=>hh (by
    show b=48;exact UInt8.toNat_inj.1 (by rw[e];rfl))
   show 1<=cj []*10+(b.toNat-48);omega
  ·obtain⟨h1,h2⟩:=h.init hr;have:=HR n r (by rw[lAp]at hn;simpa using hn) h1 h2;omega
theorem HZ:∀(n:Nat) (l:B8),l.length=n->Canon l->Lib.decDigits (cj l)=l
 | 0,l,hn,h=>absurd (List.length_eq_zero_iff.1 hn) h.ne
 | n+1,l,hn,h=>by
  obtain⟨r,b,rfl⟩:=ED h.ne;rw[lk];have hb:=lJ (h.dig b (by simp));by_cases hr:r=[]
  ·subst hr;show Lib.decDigits (cj []*10+(b.toNat-48))=[b];have e0:cj []=0:=rfl;rw[e0,Nat.zero_mul,Nat.zero_add,Lib.decDigits_one (by omega),show 48+(b.toNat-48)=b.toNat by omega,UInt8.ofNat_toNat]
  ·obtain⟨h1,h2⟩:=h.init hr;have hp:=HR r.length r rfl h1 h2;have ih:=HZ n r (by rw[lAp]at hn;simpa using hn) h1;rw[Lib.decDigits,dif_neg (by omega),show (cj r*10+(b.toNat-48))/10=cj r by omega,ih,
    show 48+(cj r*10+(b.toNat-48))%10=b.toNat by omega,UInt8.ofNat_toNat]
theorem Nq(n:Nat):Canon (Lib.decDigits n)/\cj (Lib.decDigits n)=n/\(1<=n->(Lib.decDigits n).headD 0≠48):=by
 induction n using Nat.strongRecOn with
 | _ n ih=>
  by_cases h:n<10
  ·rw[Lib.decDigits_one h];obtain⟨q1,q2⟩:=KG n h;refine⟨⟨by simp,fun b hb=>?_,.inl rfl⟩,?_,fun h1 e=>?_⟩
   ·rw[mem_singleton]at hb;rw[hb];exact q1
   ·show cj []*10+((UInt8.ofNat (48+n)).toNat-48)=n;have e0:cj []=0:=rfl;rw[q2,e0];omega
   ·have e:UInt8.ofNat (48+n)=48:=e;rw[e]at q2;have:(48:UInt8).toNat=48:=rfl;omega
  ·obtain⟨c,v,hd⟩:=ih (n/10) (by omega);have hd:=hd (by omega);rw[Lib.decDigits,dif_neg h];obtain⟨q1,q2⟩:=KG (n%10) (by omega);have hh:(Lib.decDigits (n/10)++[UInt8.ofNat (48+n%10)]).headD 0≠48:=by rw[CM c.ne];exact hd
   refine⟨⟨by simp,fun b hb=>?_,.inr hh⟩,?_,fun _=>hh⟩
   ·rcases List.mem_append.1 hb with h1|h1
    ·exact c.dig b h1
    ·rw[mem_singleton]at h1;rw[h1];exact q1
   ·rw[lk,v,q2];omega
theorem Dj:∀(n:Nat) (l:B8),l.length=n->(∀ b∈l,ky b=true)->cj l<10 ^ n
 | 0,l,hn,_=>by rw[List.length_eq_zero_iff.1 hn];decide
 | n+1,l,hn,h=>by
  obtain⟨r,b,rfl⟩:=ED (l:=l) (fun e=>by rw[e]at hn;cases hn);have hb:=lJ (h b (by simp));have:=Dj n r (by rw[lAp]at hn;simpa using hn) (fun x hx=>h x (mem_append_left _ hx));rw[lk,Nat.pow_succ];omega
theorem fu{l:B8}(h:bS l=true):cj l<1000000000:=by
 obtain⟨c,h9⟩:=dS.1 h;have h1:=Dj l.length l rfl c.dig;have h2:10 ^ l.length<=10 ^ 9:=Nat.pow_le_pow_right (by decide) h9;have h3:(10:Nat) ^ 9=1000000000:=by decide
 omega
def YQ(acc:Nat)(l:B8):Nat:=l.foldl (fun n b=>n*10+(b.toNat-48)) acc
theorem BU(T:Nat)(hT:1000000000<=T):∀(l:B8) (acc:Nat),(∀ b∈l,ky b=true)->(acc+1)*10 ^ l.length<=1000000000->Lib.parseUintM T acc l=.ok (YQ acc l)
 | [],acc,_,_=>rfl
 | c::r,acc,h,ha=>by
  have hc:=lJ (h c (mem_cons_self ..));rw[length_cons,Nat.pow_succ]at ha;have hp:1<=10 ^ r.length:=Nat.one_le_pow _ _ (by decide);have h1:(acc+1)*10<=1000000000:=by
   refine Nat.le_trans ?_ ha;rw[Nat.mul_comm (10 ^ r.length) 10,<-Nat.mul_assoc];exact Nat.le_mul_of_pos_right _ hp
  unfold Lib.parseUintM;rw[if_pos hc,if_neg (by omega),if_neg (by omega)];rw[BU T hT r _ (fun b hb=>h b (mem_cons_of_mem _ hb)) ?_]
  ·rfl
  ·refine Nat.le_trans (Nat.mul_le_mul_right _ (show acc*10+(c.toNat-48)+1<=(acc+1)*10 by omega)) ?_;rw[Nat.mul_comm (10 ^ r.length) 10,<-Nat.mul_assoc]at ha;exact ha
theorem um{l:B8}(h:bS l=true):Lib.parseIntB 64 l=.ok (cj l:Nat):=by
 obtain⟨c,h9⟩:=dS.1 h;have hs:=fu h;have hp:Lib.parseUintB 64 l=.ok (cj l):=by
  unfold Lib.parseUintB;rw[if_neg c.ne];refine BU _ (by decide) l 0 c.dig ?_;have h2:10 ^ l.length<=10 ^ 9:=Nat.pow_le_pow_right (by decide) h9;have h3:(10:Nat) ^ 9=1000000000:=by decide
  omega
 cases l with
 | nil=>exact absurd rfl c.ne
 | cons b r=>
  have hb:=lJ (c.dig b (mem_cons_self ..));unfold Lib.parseIntB;have e1:¬(b.toNat=43\/b.toNat=45):=by omega
  have e2:¬(b.toNat=45):=by omega
  have e63:¬(2:Nat) ^ (64-1)<=cj (b::r):=by
   have:(2:Nat) ^ (64-1)=9223372036854775808:=by decide
   omega
  have e3:¬(b.toNat=43):=by omega
  simp only[e3,e2,e63,or_self,if_false,hp,not_false_eq_true,true_and,false_and]
theorem Rr{l:B8}{n:Int}(h1:Lib.parseIntB 64 l=.ok n)(h0:0<=n)(h9:l.length<=9)(he:Lib.itoa n=l):bS l=true/\(cj l:Int)=n:=by
 obtain⟨k,rfl⟩:∃ k:Nat,n=k:=⟨n.toNat,by omega⟩;rw[Lib.itoa_nonneg]at he;obtain⟨c,v,_⟩:=Nq k;rw[he]at c v;exact⟨dS.2 ⟨c,h9⟩,by rw[v]⟩
theorem Qj{l:B8}(h:bS l=true):Lib.itoa (cj l:Nat)=l:=by
 rw[Lib.itoa_nonneg];exact HZ l.length l rfl (dS.1 h).1
theorem Qg{l:B8}{n:Int}(h:Lib.parseIntB 64 l=.ok n):n<=9223372036854775807:=by
 have e63:(2:Nat) ^ (64-1)=9223372036854775808:=by decide
 cases l with
 | nil=>cases h
 | cons c r=>
  unfold Lib.parseIntB at h;simp only[e63]at h;split at h
  ·cases h
  ·cases h
  ·rename_i u _;split at h
   ·cases h
   ·split at h
    ·cases h
    ·injection h with h
     split at h
     ·omega
     ·rename_i q1 q2 q3;rw[not_and]at q1;have:=q1 q3;omega
theorem me{l:B8}(h:bS l=true):Ma l=(cj l:Nat):=by unfold Ma;rw[if_pos h]
theorem nh{l:B8}(h:¬ bS l=true):Ma l = -1:=by unfold Ma;rw[if_neg h]
theorem Aq{l:B8}(h:bS l=true):1<=l.length/\l.length<=9:=by
 unfold bS at h;simp only[Bool.and_eq_true,decide_eq_true_eq]at h;exact h.1
theorem dm(n:Int)(h0 : -9223372036854775807<=n)(h1:n<=9223372036854775807):(Lib.itoa n).length<=21:=by
 have hd:∀ u:Nat,u<10 ^ 20->(Lib.decDigits u).length<=20:=by
  intro u hu;rw[Lib.decDigits_length];rcases Nat.lt_or_ge 20 (Lib.nDigits u) with h|h
  ·exfalso;have h2:∀(k u:Nat),k+1<Lib.nDigits u->10 ^ (k+1)<=u:=by
    intro k
    induction k with
    | zero=>
     intro u hu;by_cases h:u<10
     ·rw[Lib.nDigits_small h]at hu;omega
     ·simpa using h
    | succ k ih=>
     intro u hu;by_cases h:u<10
     ·rw[Lib.nDigits_small h]at hu;omega
     ·rw[Lib.nDigits_big h]at hu;have:=ih (u/10) (by omega);rw[Nat.pow_succ];omega
   have:=h2 19 u h;omega
  ·exact h
 have h20:(10:Nat) ^ 20=100000000000000000000:=by decide
 unfold Lib.itoa;split
 ·rw[length_cons];have:=hd n.natAbs (by omega);omega
 ·have:=hd n.toNat (by omega);omega
end Go.Proofs.YtapimhjbilkfpaaGreatDoor
