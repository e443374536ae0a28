/- Lemmas for FnExactConsole, part 6 of 46. -/
import Derived.RangeFuncGives
import Derived.RangeFuncLeaves
import Derived.OwnWalkIn
import Derived.TacticsInMore
import Derived.LoopNIn
import Derived.LoopIn
import Derived.Test.YtapimhjbilkfpaaGreatDoorZ03
import Derived.Shelf.Strings.BuilderK
import Derived.Test.YtapimhjbilkfpaaGreatDoorZ00
import Derived.RangeFuncBox
import Derived.Shelf.Abstract
import Derived.Shelf.RegionOpen
import Derived.WalkKit
set_option linter.unusedVariables false
set_option linter.unusedSimpArgs false
namespace Go.Proofs.YtapimhjbilkfpaaGreatDoor
open Go Go.Proofs.Tryz List
structure fq(ds:List Deferred)(n:Nat)(env:Env)(a:Act):Prop where
 defers:a.defers=ds
 size:a.tmps.size=n
 ev:a.eval=ev env
theorem fq.bare{ds:List Deferred}{n:Nat}{env:Env}{a:Act}(h:fq ds n env a):Fits n env { tmps:=a.tmps,defers:=[] }:=⟨rfl,h.size,h.ev⟩
theorem fq.put{ds:List Deferred}{n:Nat}{env:Env}{a:Act}(h:fq ds n env a){d:Option Tmp}(hd:∀ t,d=some t->t<n)(v:Value):fq ds n (Proofs.YtapimhjbilkfpaaGreatDoor.put env d v) (a.put d v):=by
 have h1:=h.bare.put hd v;cases d with
 | none=>exact h
 | some d=>exact⟨h.defers,h1.size,h1.ev⟩
def Si(ds:List Deferred)(n:Nat)(M0:Mem)(w0:World)(Q:Exit->Env->Mem->Prop):Exit->Act->World->Prop:=
 fun e a w=>∃ env M,fq ds n env a/\Rep M w/\Ext M0 w0 M w/\Q e env M
abbrev ic(ro:Option Nat):Fence:={ Fence.wide with round:=ro }
def jT(ro:Option Nat)(k:Nat)(ds:List Deferred)(P:Program)(n:Nat)(c:Code)(Q:Exit->Env->Mem->Prop)(env:Env)(M:Mem):Prop:=
 ∀ M0 w0 a w,fq ds n env a->Rep M w->Ext M0 w0 M w->c.wpIn (ic ro) k P (Si ds n M0 w0 Q) a w
def ir(o:Oper):Bool:=match o.op with|.defer _=>false|_=>true
theorem yZ{o:Oper}(h:ir o=true):∀ c,o.op≠.defer c:=by
 intro c e;unfold ir at h;rw[e]at h;cases h
theorem xc{ro:Option Nat}{k:Nat}{P:Program}{f:FuncId}{args:Array Value}{w:World}{R:Ending->World->Prop}(h:Calls P f args w R):CallsIn (ic ro) k P f args w R:=
 show CallsIn Fence.wide k P f args w R from callsIn_wide.2 h
theorem Lh{ro:Option Nat}{k:Nat}{P:Program}{o:Oper}{a:Act}{next:Act->World->Prop}{Q:Exit->Act->World->Prop}{r:Result Next}(h:o.upon P a next Q r):o.uponIn (ic ro) k P a next Q r:=by
 unfold Oper.upon at h;split at h
 ·exact h
 ·exact h
 ·exact h
 ·exact⟨fun e=>(by cases e),xc h⟩
 ·exact⟨fun e=>(by cases e),fun c cs hroom=>let ⟨v,w',r,s⟩:=h c cs;⟨v,w',r,stepsIn_wide.2 s⟩⟩
 ·exact h
 ·exact h.elim
theorem oa{ro:Option Nat}{k:Nat}{P:Program}{o:Oper}{a:Act}{w:World}{next:Act->World->Prop}{Q:Exit->Act->World->Prop}(hd:ir o=true)(h:o.upon P a next Q ((execOp a.eval o).run P w)):o.wpIn (ic ro) k P a w next Q:=
 ⟨fun _ _=>trivial,by rw[Oper.semAt_eq _ _ _ (yZ hd)];exact Lh h⟩
section
variable {ro:Option Nat} {k:Nat} {ds:List Deferred} {P:Program} {n:Nat} {Q:Exit->Env->Mem->Prop} {env:Env} {M:Mem}
theorem jT.mono{c:Code}{Q':Exit->Env->Mem->Prop}(h:jT ro k ds P n c Q env M)(hq:∀ e env M,Q e env M->Q' e env M):jT ro k ds P n c Q' env M:=
 fun M0 w0 a w h1 h2 h3=>wpIn_mono (h M0 w0 a w h1 h2 h3) fun _ _ _ ⟨e',m',a1,a2,a3,a4⟩=>⟨e',m',a1,a2,a3,hq _ _ _ a4⟩
theorem I7{x y:Code}(h:jT ro k ds P n x (lX (jT ro k ds P n y Q) Q) env M):jT ro k ds P n (.seq x y) Q env M:=by
 intro M0 w0 a w h1 h2 h3;refine wpIn_seq (wpIn_mono (h M0 w0 a w h1 h2 h3) ?_)
 rintro e a' w' ⟨env',M',a1,a2,a3,a4⟩
 cases e with
 | normal=>exact a4 M0 w0 a' w' a1 a2 a3
 | exit id=>exact⟨_,_,a1,a2,a3,a4⟩
 | goto id=>exact⟨_,_,a1,a2,a3,a4⟩
 | ret=>exact⟨_,_,a1,a2,a3,a4⟩
 | panic c=>exact⟨_,_,a1,a2,a3,a4⟩
 | outgrown=>exact⟨_,_,a1,a2,a3,a4⟩
theorem Dj{id:Nat}{c:Code}(h:jT ro k ds P n c (qE id Q) env M):jT ro k ds P n (.block id c) Q env M:=by
 intro M0 w0 a w h1 h2 h3;refine wpIn_block (wpIn_mono (h M0 w0 a w h1 h2 h3) ?_)
 rintro e a' w' ⟨env',M',a1,a2,a3,a4⟩
 cases e with
 | normal=>exact⟨_,_,a1,a2,a3,a4⟩
 | exit id'=>
  simp only[qE]at a4;simp only[Exit.inBlock];split
  ·rename_i e;rw[if_pos e]at a4;exact⟨_,_,a1,a2,a3,a4⟩
  ·rename_i e;rw[if_neg e]at a4;exact⟨_,_,a1,a2,a3,a4⟩
 | goto id=>exact⟨_,_,a1,a2,a3,a4⟩
 | ret=>exact⟨_,_,a1,a2,a3,a4⟩
 | panic c=>exact⟨_,_,a1,a2,a3,a4⟩
 | outgrown=>exact⟨_,_,a1,a2,a3,a4⟩
theorem oe(T:Tab)(hT:bU P T)(ops:List Oper):∀(l:List Oper) (env:Env) (M:Mem),l.all (jM n)=true->l.all ir=true->kJ P T ops Q l env M ->
  ∀ M0 w0 a w,fq ds n env a->Rep M w->Ext M0 w0 M w->wpListIn (ic ro) k P ops.toArray (Si ds n M0 w0 Q) l a w
 | [],env,M,_,_,h=>fun M0 w0 a w h1 h2 h3=>⟨_,_,h1,h2,h3,h⟩
 | o::rest,env,M,hd,he,h=>by
  intro M0 w0 a w h1 h2 h3;simp only[all_cons,Bool.and_eq_true]at hd he;unfold kJ at h;unfold wpListIn;split at h
  ·rename_i hg;rw[if_pos (by simp[Region.wanted,hg])];refine oa he.1 (pM T hT o.op h o a w _ _ rfl h1.ev h2 fun v M' w' a1 a2 a3=>?_);exact oe T hT ops rest _ _ hd.2 he.2 a3 M0 w0 _ _ (h1.put (cv hd.1) v) a1 (h3.trans a2)
  ·rename_i j b hg;by_cases hy:yE ops env j=some b
   ·rw[if_pos (by have:=eG h1.bare ops.toArray j;unfold Region.wanted;rw[hg];show (yielded ops.toArray a.tmps j==some b)=true;rw[this];show (yE ops env j==some b)=true;rw[hy];exact beq_self_eq_true _)];refine oa he.1 (pM T hT o.op (h.1 hy) o a w _ _ rfl h1.ev h2 fun v M' w' a1 a2 a3=>?_);exact oe T hT ops rest _ _ hd.2 he.2 a3 M0 w0 _ _ (h1.put (cv hd.1) v) a1 (h3.trans a2)
   ·rw[if_neg (by have:=eG h1.bare ops.toArray j;unfold Region.wanted;rw[hg];show ¬(yielded ops.toArray a.tmps j==some b)=true;rw[this];show ¬(yE ops env j==some b)=true;exact fun e=>hy (eq_of_beq e))];exact⟨fun _ _=>trivial,oe T hT ops rest _ _ hd.2 he.2 (h.2 hy) M0 w0 _ _ (h1.put (cv hd.1) undef) h2 h3⟩
def px:Code->Bool
 | .region _ ops d=>!d&&ops.toList.all ir
 | .seq a b=>px a&&px b
 | .cond _ a b=>px a&&px b
 | .block _ c=>px c
 | .skip=>true
 | .ret=>true
 | .exit _=>true
 | _=>false
theorem J6(T:Tab)(hT:bU P T):∀(c:Code) (Q:Exit->Env->Mem->Prop) (env:Env) (M:Mem),dW n c=true->px c=true->vc P T n c Q env M->jT ro k ds P n c Q env M:=by
 intro c
 induction c with
 | skip=>exact fun Q env M _ _ h=>fun M0 w0 a w h1 h2 h3=>wpIn_skip ⟨_,_,h1,h2,h3,h⟩
 | region id ops d=>
  intro Q env M hd hf h;cases d with
  | true=>cases hf
  | false=>
   intro M0 w0 a w h1 h2 h3;refine wpIn_region_list ?_;have hf':ops.toList.all ir=true:=by simpa[px] using hf
   have:=oe (ro:=ro) (k:=k) (ds:=ds) T hT ops.toList ops.toList env M hd hf' h M0 w0 a w h1 h2 h3;simpa using this
 | seq a b iha ihb=>
  intro Q env M hd hf h;simp only[dW,px,Bool.and_eq_true]at hd hf;refine I7 ((iha _ _ _ hd.1 hf.1 h).mono fun e env' M' h'=>?_);cases e<;>first|exact ihb _ _ _ hd.2 hf.2 h'|exact h'
 | cond c a b iha ihb=>
  intro Q env M hd hf h;simp only[dW,px,Bool.and_eq_true]at hd hf;unfold vc vIf at h;split at h
  ·rename_i t ht;exact fun M0 w0 a w h1 h2 h3=>wpIn_cond_split (by rw[h1.ev];exact ht) (fun e=>iha _ _ _ hd.1 hf.1 (h.1 e) M0 w0 a w h1 h2 h3) (fun e=>ihb _ _ _ hd.2 hf.2 (h.2 e) M0 w0 a w h1 h2 h3)
  ·exact h.elim
 | block id c ih=>exact fun Q env M hd hf h=>Dj (ih _ _ _ hd hf h)
 | ret=>exact fun Q env M _ _ h=>fun M0 w0 a w h1 h2 h3=>wpIn_ret ⟨_,_,h1,h2,h3,h⟩
 | exit id=>exact fun Q env M _ _ h=>fun M0 w0 a w h1 h2 h3=>wpIn_exit ⟨_,_,h1,h2,h3,h⟩
 | _=>exact fun Q env M _ hf h=>by cases hf
end
end Go.Proofs.YtapimhjbilkfpaaGreatDoor
namespace Go.Proofs.YtapimhjbilkfpaaGreatDoor
open Go Go.Proofs.Tryz Go.RowKit Go.Shelf List
structure el(b:Nat)(row:Option Nat)(w w':World):Prop where
 os:w'.os=w.os
 tape:w'.tape=w.tape
 output:w'.output=w.output
 size:w.heap.size<=w'.heap.size
 block:∀ k,k<w.heap.size->k≠b->row≠some k->w'.heap[k]?=w.heap[k]?
theorem el.cell(b:Nat)(row:Option Nat)(w:World)(i:Nat)(v:Value):el b row w (w.setCell ⟨b,i,none⟩ v):=
 ⟨rfl,rfl,rfl,(KeepsWalks.setCell w _ v).size,fun k _ hk _=>Below.heap_setCell _ _ _ k hk⟩
theorem el.trans{b:Nat}{row:Option Nat}{w w' w'':World}(h:el b row w w')(k:el b row w' w''):el b row w w'':=
 ⟨k.os.trans h.os,k.tape.trans h.tape,k.output.trans h.output,Nat.le_trans h.size k.size,fun j hj h1 h2=>(k.block j (Nat.lt_of_lt_of_le hj h.size) h1 h2).trans (h.block j hj h1 h2)⟩
theorem el.of_grown{b:Nat}{row:Option Nat}{w w':World}(h:w.grownBy w' row):el b row w w':=
 ⟨h.os,h.tape,h.output,h.size,fun k hk _ hr=>h.block k hk (fun e=>hr e.symm)⟩
variable {P:Program} {ρ:Ren}
theorem G0(L:Lays.n240 P ρ)(X:Builder.X72 P ρ)(B b:Nat)(bs:List Value)(v p:Value)(w:World)(hp:p=.pointer none\/p=.pointer (some ⟨b,0,none⟩))(hb:w.heap[b]?=some (.cells #[p,v] (ρ.t 72) (0,0)))(row:Option Nat) :
  Calls P (ρ.f 240) #[.pointer (some ⟨b,0,none⟩)] w fun e w'=>e=.returned (.tuple #[])/\w'.heap[b]?=some (.cells #[.pointer (some ⟨b,0,none⟩),v] (ρ.t 72) (0,0))/\w.grownBy w' (some b):=by
 have h0:w.cell? ⟨b,0,none⟩=some p:=by rw[Lib.cell_of_heap hb];rfl
 rcases hp with rfl|rfl
 ·refine(Any.Builder_copyCheck_fresh L X b w h0 (by simp[World.shape?,hb]) (Lib.frozen_of_heap hb 0)).mono ?_
  rintro e w' ⟨rfl,rfl⟩
  exact⟨rfl,by simp[World.setCell,Array.getElem?_modify,hb],⟨rfl,rfl,rfl,(KeepsWalks.setCell w _ _).size,fun k _ hk=>Below.heap_setCell _ _ _ k (fun e=>hk (by rw[e]))⟩⟩
 ·refine(Any.Builder_copyCheck_used L X b w h0).mono ?_
  rintro e w' ⟨rfl,rfl⟩
  exact⟨rfl,hb,⟨rfl,rfl,rfl,Nat.le_refl _,fun _ _ _=>rfl⟩⟩
theorem CE(w:World)(base:Nat)(t u ty e:TypeId)(i:TypeInfo)(ht:P.underlying t=some (.slice e))(hu:P.underlying u=some .string)(hi:P.info? e=some i)(hz:i.zero=some (.int .u8 0))(hsize:i.size=1)(hby:i.bytes=1)
  (v:Value) (n:Nat) (xs:List Value) (hown:w.ownsRowF base e 1 v n xs) (s:ByteArray) (h63:n+s.size<=maxLen) (hbytes:n+s.size<=140737488355328) {v':Value} {w':World} (hr:(Builtin.append_ #[t,u] ty #[v,.string s]).run P w=.ok v' w') :
  ∀ g',v'.ownBlock=some g'->v.ownBlock=some g'\/w.heap.size<=g':=by
 intro g' hg';rcases hown.2 with ⟨rfl,rfl⟩|⟨g,cap,cur,fz,rfl,hbg,hg,hfz,hnc,hcm,hcs,htake⟩
 ·obtain⟨v2,w2,h1,h2,_,_⟩:=Lib.run_append_own_stringF (P:=P) w w.heap.size t u ty e i ht hu hi hz hsize hby (.slice none 0 0) 0 xs ⟨hown.1,.inl ⟨rfl,rfl⟩⟩ s h63 hbytes (Nat.le_refl _);rw[hr]at h1;cases h1;exact .inr (h2.lt g' hg').1
 ·have hxl:xs.length=n:=by simpa using hown.1
  by_cases hroom:n+s.size<=cap
  ·have h1:=Lib.run_append_room_stringF (P:=P) w t u ty e i ht hu hi hsize g n cap cur fz hg (by simpa using hfz) s hroom (by rw[hcs];omega);rw[hr]at h1;cases h1;exact .inl hg'
  ·have holds:∀ j u,xs[j]?=some u->w.cell? ((⟨g,0,none⟩:Addr).add j)=some u:=hown.cells (g:=g) rfl;have hsmall:n+s.size<=9223372036854775807:=by simp only[maxLen]at h63;omega
   have h1:=Lib.run_append_grow_string (P:=P) w t u ty e i (.int .u8 0) ht hu hi hz ⟨g,0,none⟩ n cap xs (by rw[hsize];simpa using hxl) holds s (by omega) (by omega) (by rw[hby];exact growslice_fits (by omega) (by omega));rw[hr]at h1;cases h1;cases hg';exact .inr (Nat.le_refl _)
theorem vV{ops:Array Oper}{rest:List Oper}{o:Oper}{a:Act}{w:World}{Q:Exit->Act->World->Prop}(hgd:o.guard=none)(sl x:Operand)(t u:TypeId)(ho:o.op=.call { callee:=.builtin .append,args:=#[sl,x],argTypes:=#[t,u] })
  (base:Nat) (e:TypeId) (i:TypeInfo) (ht:P.underlying t=some (.slice e)) (hu:P.underlying u=some .string) (hi:P.info? e=some i) (hz:i.zero=some (.int .u8 0)) (hsize:i.size=1) (hby:i.bytes=1)
  (v:Value) (n:Nat) (xs:List Value) (hs:a.eval sl=v) (hown:w.ownsRowF base e 1 v n xs) (s:ByteArray) (hx:a.eval x=.string s) (h63:n+s.size<=maxLen) (hbytes:n+s.size<=140737488355328) (hbase:base<=w.heap.size)
  (h:∀ v' w',w'.ownsRowF base e 1 v' (n+s.size) (xs++Lib.strCells s)->w.grownBy w' v.ownBlock->(∀ g',v'.ownBlock=some g'->v.ownBlock=some g'\/w.heap.size<=g')->wpList P ops Q rest (a.put o.dst v') w'):wpList P ops Q (o::rest) a w:=by
 refine wpList_plain hgd fun K hK=>?_;obtain⟨v',w',hr,h2,h3,_⟩:=Lib.run_append_own_stringF (P:=P) w base t u o.type e i ht hu hi hz hsize hby v n xs hown s h63 hbytes hbase;have h4:=CE w base t u o.type e i ht hu hi hz hsize hby v n xs hown s h63 hbytes hr;unfold Oper.wp execOp;simp only[ho,resolve,invoke,builtin,Sem.run_bind,Sem.run_pure,Result.andThen_ok,map_toArray,map_cons,map_nil,hs,hx,hr];exact hK _ _ (h v' w' h2 h3 h4)
set_option maxHeartbeats 2000000 in
set_option maxRecDepth 100000 in
theorem Ag(L:Lays.n166 P ρ)(X:Builder.Extra P ρ)(B b:Nat)(bs:List Value)(s:ByteArray)(v p:Value)(w:World)(hp:p=.pointer none\/p=.pointer (some ⟨b,0,none⟩))(hb:w.heap[b]?=some (.cells #[p,v] (ρ.t 72) (0,0)))
  (hown:w.ownsRowF B (ρ.t 5) 1 v bs.length bs) (hne:v.ownBlock≠some b) (hB:B<=b) (hlen:bs.length+s.size<=140737488355328) (hBw:B<=w.heap.size) :
  Calls P (ρ.f 166) #[.pointer (some ⟨b,0,none⟩),.string s] w fun e w'=>e=.returned (.tuple #[.int .i64 s.size,.nilIface])/\(∃ v',w'.heap[b]?=some (.cells #[.pointer (some ⟨b,0,none⟩),v'] (ρ.t 72) (0,0))/\w'.ownsRowF B (ρ.t 5) 1 v' (bs++Lib.strCells s).length (bs++Lib.strCells s)/\v'.ownBlock≠some b/\∀ g',v'.ownBlock=some g'->v.ownBlock=some g'\/w.heap.size<=g')/\el b v.ownBlock w w':=by
 obtain⟨i0,hi,hz0,hz1,hz2⟩:=info_parts X.infoByte;have mixed:=L.mixed;have t72:=L.t72;have a72:=L.a72;have z72:=L.z72;have v72:=L.v72;have u72:=run_underlying L.t72;have t70:=L.t70;have a70:=L.a70;have z70:=L.z70;have v70:=L.v70;have u70:=run_underlying L.t70;have t37:=L.t37;have a37:=L.a37;have z37:=L.z37;have v37:=L.v37;have u37:=run_underlying L.t37;have t3:=L.t3;have a3:=L.a3;have z3:=L.z3;have v3:=L.v3;have u3:=run_underlying L.t3;have t9:=L.t9;have a9:=L.a9;have z9:=L.z9;have v9:=L.v9;have u9:=run_underlying L.t9;have t5:=X.t5;have a5:=X.a5;have z5:=X.z5;have v5:=X.v5;have u5:=run_underlying X.t5;have e240:∀ args w,(callFunc (ρ.f 240) args).run P w=.ok (.enter (ρ.f 240) args) w:=enters_of L.f240 (by kernel_rfl) rfl
 go_enter L.f166,Body.n166_ntmps ρ
 go_wp2_with (go_at_fn (ρ.f 240);refine(G0 { L with } X.toX72 B b bs v p _ hp hb v.ownBlock).mono ?_)
 rintro e w1 ⟨rfl,hb1,hg1⟩
 have hs1:=hg1.size;have hown1:w1.ownsRowF B (ρ.t 5) 1 v bs.length bs:=hown.kept hg1 (Or.inr hne);have c0:w1.cell? ⟨b,0,none⟩=some (.pointer (some ⟨b,0,none⟩)):=by rw[Lib.cell_of_heap hb1];rfl
 have c1:w1.cell? ⟨b,1,none⟩=some v:=by rw[Lib.cell_of_heap hb1];rfl
 go_wp2_with (at_builtin;refine vV rfl _ _ (ρ.t 37) (ρ.t 9) rfl B (ρ.t 5) i0 L.t37 L.t9 hi hz0 hz1 hz2 _ _ _ rfl hown1 s rfl ?c3 ?c4 ?c5 ?_)
 case c3=>unfold maxLen;omega
 case c4=>omega
 case c5=>omega
 intro v' w2 hown' hgrow hplace;have hlt:b<w1.heap.size:=(Array.getElem?_eq_some_iff.1 hb1).1;have hb2:w2.heap[b]?=some (.cells #[.pointer (some ⟨b,0,none⟩),v] (ρ.t 72) (0,0)):=by
  rw[hgrow.block b hlt (fun e=>hne e.symm)];exact hb1
 have d0:w2.cell? ⟨b,0,none⟩=some (.pointer (some ⟨b,0,none⟩)):=by rw[Lib.cell_of_heap hb2];rfl
 have d1:w2.cell? ⟨b,1,none⟩=some v:=by rw[Lib.cell_of_heap hb2];rfl
 have f1:w2.frozen? ⟨b,1,none⟩=false:=Lib.frozen_of_heap hb2 1;obtain⟨ao,n',cap,rfl⟩:∃ ao n' cap,v'=.slice ao n' cap:=by
  rcases hown'.2 with ⟨hv,_⟩|⟨g,cap,cur,fz,hv,_⟩
  ·exact⟨_,_,_,hv⟩
  ·exact⟨_,_,_,hv⟩
 go_wp2
 go_ret2
 refine⟨rfl,?_,?_⟩
 ·have hput:=Lib.BuilderAtF.put (T:=(ρ.t 72)) (e:=(ρ.t 5)) hB hb2 (bs':=bs++Lib.strCells s) (by simpa[Lib.strCells_length] using hown') X.neB5;obtain⟨_,v'',hh,ho,hn⟩:=hput;have h2:(w2.setCell ⟨b,1,none⟩ (.slice ao n' cap)).heap[b]?=some (.cells #[.pointer (some ⟨b,0,none⟩),.slice ao n' cap] (ρ.t 72) (0,0)):=by simp[World.setCell,Array.getElem?_modify,hb2]
  have he:v''=.slice ao n' cap:=by
   rw[h2]at hh;injection hh with hh
   injection hh with hh
   have:=congrArg (fun x:Array Value=>x[1]?) hh;simpa using this.symm
  subst he;exact⟨_,h2,ho,hn,fun g' hg'=>(hplace g' hg').imp id (fun h=>Nat.le_trans hs1 h)⟩
 ·have t1:el b v.ownBlock w w1:=⟨hg1.os,hg1.tape,hg1.output,hg1.size,fun k hk h1 _=>hg1.block k hk (fun e=>h1 (by cases e;rfl))⟩;exact(t1.trans (el.of_grown hgrow)).trans (el.cell _ _ _ _ _)
set_option maxHeartbeats 1000000 in
set_option maxRecDepth 100000 in
theorem wo(L:Lays.n169 P ρ)(X:Builder.Extra P ρ)(B b:Nat)(l:List UInt8)(p v:Value)(w:World)(hbk:w.heap[b]?=some (.cells #[p,v] (ρ.t 72) (0,0)))(hown:w.ownsRowF B (ρ.t 5) 1 v l.length (Lib.byteCells l))(h0:l≠[]) :
  Calls P (ρ.f 169) #[.pointer (some ⟨b,0,none⟩)] w fun e w'=>e=.returned (.string ⟨l.toArray⟩)/\el b v.ownBlock w w':=by
 have hl0:l.length≠0:=by simpa using h0
 obtain⟨g,cap,cur,fz,rfl,hbg,hg,hfz,hnc,hcm,hcs,htake⟩:∃ g cap cur fz,v=.slice (some ⟨g,0,none⟩) l.length cap/\B<=g/\w.heap[g]?=some (.cells cur (ρ.t 5) fz)/\fz.2<=l.length*1/\l.length<=cap/\cap<=maxLen/\cur.size=cap*1/\cur.toList.take (l.length*1)=Lib.byteCells l:=by
  rcases hown.2 with ⟨_,hz⟩|⟨g,cap,cur,fz,hv,r⟩
  ·exact absurd hz hl0
  ·exact⟨g,cap,cur,fz,hv,r⟩
 have c1:w.drew.cell? ⟨b,1,none⟩=some (.slice (some ⟨g,0,none⟩) l.length cap):=by
  have:w.drew.heap[b]?=some (.cells #[p,.slice (some ⟨g,0,none⟩) l.length cap] (ρ.t 72) (0,0)):=hbk;rw[Lib.cell_of_heap this];rfl
 have hSD:(Builtin.unsafeSliceData_ #[(ρ.t 37)] (ρ.t 127) #[.slice (some ⟨g,0,none⟩) l.length cap]).run P w.drew=.ok (.pointer (some ⟨g,0,none⟩)) w.drew:=
  Lib.run_unsafeSliceData_row _ _ _ _ _ _ (by omega)
 have hUS:(Builtin.unsafeString_ #[(ρ.t 127),(ρ.t 3)] (ρ.t 9) #[.pointer (some ⟨g,0,none⟩),.int .i64 l.length]).run P w.drew=.ok (.string ⟨l.toArray⟩) (w.drew.freeze ⟨g,0,none⟩ l.length):=by
  refine Lib.run_unsafeString_row w.drew (ρ.t 127) (ρ.t 3) (ρ.t 9) (ρ.t 5) L.t127 X.cellsByte g cur.size (by have hg':w.drew.heap[g]?=some (.cells cur (ρ.t 5) fz):=hg;simp[World.shape?,hg']) l h0 (by omega) (by unfold maxLen at hcm;omega) ?_;intro j x hx;exact hown.cells (g:=g) rfl j (.int .u8 x.toNat) (by simp[Lib.byteCells,hx])
 have hT:el b (Value.slice (some ⟨g,0,none⟩) l.length cap).ownBlock w (w.drew.freeze ⟨g,0,none⟩ l.length):=by
  unfold World.freeze;split
  ·exact⟨rfl,rfl,rfl,Nat.le_refl _,fun _ _ _ _=>rfl⟩
  ·refine⟨rfl,rfl,rfl,Nat.le_of_eq (Array.size_modify (xs:=w.heap)).symm,fun k hk h1 h2=>?_⟩;have hkg:g≠k:=fun e=>h2 (by rw[<-e];rfl);show (w.heap.modify g _)[k]?=_;rw[Array.getElem?_modify,if_neg hkg]
 have mixed:=L.mixed;have t72:=L.t72;have a72:=L.a72;have z72:=L.z72;have v72:=L.v72;have u72:=run_underlying L.t72;have t70:=L.t70;have a70:=L.a70;have z70:=L.z70;have v70:=L.v70;have u70:=run_underlying L.t70;have t37:=L.t37;have a37:=L.a37;have z37:=L.z37;have v37:=L.v37;have u37:=run_underlying L.t37;have t127:=L.t127;have a127:=L.a127;have z127:=L.z127;have v127:=L.v127;have u127:=run_underlying L.t127;have t3:=L.t3;have a3:=L.a3;have z3:=L.z3;have v3:=L.v3;have u3:=run_underlying L.t3;have t9:=L.t9;have a9:=L.a9;have z9:=L.z9;have v9:=L.v9;have u9:=run_underlying L.t9;have t5:=X.t5;have a5:=X.a5;have z5:=X.z5;have v5:=X.v5;have u5:=run_underlying X.t5
 go_enter L.f169,Body.n169_ntmps ρ
 go_wp2
 go_region_o
 all_goals (go_wp2;go_ret;exact⟨rfl,hT⟩)
set_option maxHeartbeats 2000000 in
set_option maxRecDepth 100000 in
theorem rz(L:Lays.n169 P ρ)(X:Builder.Extra P ρ)(b:Nat)(p:Value)(w:World)(hbk:w.heap[b]?=some (.cells #[p,.slice none 0 0] (ρ.t 72) (0,0))) :
  Calls P (ρ.f 169) #[.pointer (some ⟨b,0,none⟩)] w fun e w'=>e=.returned (.string ⟨#[]⟩)/\el b none w w':=by
 have hUS:=Any.unsafeString_none L X;have c1:w.drew.cell? ⟨b,1,none⟩=some (.slice none 0 0):=by
  have:w.drew.heap[b]?=some (.cells #[p,.slice none 0 0] (ρ.t 72) (0,0)):=hbk;rw[Lib.cell_of_heap this];rfl
 have hSD:(Builtin.unsafeSliceData_ #[(ρ.t 37)] (ρ.t 127) #[.slice none 0 0]).run P w.drew=.ok (.pointer none) w.drew:=rfl;have hT:el b none w w.drew:=⟨rfl,rfl,rfl,Nat.le_refl _,fun _ _ _ _=>rfl⟩;have mixed:=L.mixed;have t72:=L.t72;have a72:=L.a72;have z72:=L.z72;have v72:=L.v72;have u72:=run_underlying L.t72;have t70:=L.t70;have a70:=L.a70;have z70:=L.z70;have v70:=L.v70;have u70:=run_underlying L.t70;have t37:=L.t37;have a37:=L.a37;have z37:=L.z37;have v37:=L.v37;have u37:=run_underlying L.t37;have t127:=L.t127;have a127:=L.a127;have z127:=L.z127;have v127:=L.v127;have u127:=run_underlying L.t127;have t3:=L.t3;have a3:=L.a3;have z3:=L.z3;have v3:=L.v3;have u3:=run_underlying L.t3;have t9:=L.t9;have a9:=L.a9;have z9:=L.z9;have v9:=L.v9;have u9:=run_underlying L.t9;have t5:=X.t5;have a5:=X.a5;have z5:=X.z5;have v5:=X.v5;have u5:=run_underlying X.t5
 go_enter L.f169,Body.n169_ntmps ρ
 go_wp2
 go_region_o
 all_goals (go_wp2;go_ret;exact⟨rfl,hT⟩)
end Go.Proofs.YtapimhjbilkfpaaGreatDoor
namespace Go.Proofs.YtapimhjbilkfpaaGreatDoor
open Go Go.Proofs.Tryz Go.RowKit List
theorem Bu{M:Mem}{w w':World}(h:Rep M w)(hb:Below w.heap.size w w'):Rep M w':=by
 intro b B hB;have hold:=h b B hB;have hlt:b<w.heap.size:=by
  rcases Nat.lt_or_ge b w.heap.size with hlt|hge
  ·exact hlt
  ·cases B with
   | cells own xs tot=>obtain⟨c,e,fr,q,_⟩:=hold;rw[Array.getElem?_eq_none hge]at q;cases q
   | obj o=>obtain⟨q,_⟩:=hold;rw[Array.getElem?_eq_none hge]at q;cases q
 exact Blk.holds_of (hb.block b hlt) hold
theorem jI{M:Mem}{w:World}(h:Rep M w){b:Nat}{B:Blk}(hB:M b=some B):b<w.heap.size:=by
 have hold:=h b B hB;rcases Nat.lt_or_ge b w.heap.size with hlt|hge
 ·exact hlt
 ·cases B with
  | cells own xs tot=>obtain⟨c,e,fr,q,_⟩:=hold;rw[Array.getElem?_eq_none hge]at q;cases q
  | obj o=>obtain⟨q,_⟩:=hold;rw[Array.getElem?_eq_none hge]at q;cases q
theorem dk{P:Program}{f:FuncId}{args:List Value}{M:Mem}{R:VP}(v:Value)(hb:rR P f)(h:∀ w,Rep M w->Calls P f args.toArray w fun e w'=>e=.returned v/\Below w.heap.size w w')(hR:R v M):ar P f args M R:=
 ⟨hb,fun w hw=>(h w hw).mono fun e w' ⟨he,hbl⟩=>⟨v,M,he,Bu hw hbl,⟨hbl.os,hbl.tape,hbl.output,hbl.size,fun b hb _=>hbl.block b hb,fun b hb=>.inl hb⟩,hR⟩⟩
theorem O1{M:Mem}{b i:Nat}{v:Value}(h:M.get? b i=some v):∃ B,M b=some B:=by
 unfold Mem.get? at h;cases hM:M b with
 | none=>rw[hM]at h;cases h
 | some B=>exact⟨B,rfl⟩
end Go.Proofs.YtapimhjbilkfpaaGreatDoor
namespace Go.Proofs.YtapimhjbilkfpaaGreatDoor
open Go Go.Proofs.Tryz Go.RowKit Go.Shelf List
attribute [local go_sem] Oper.semAt_some
attribute [-simp] lu ov
def gV(r:List UInt8):List UInt8:=if 0<=Lib.indexByte r 10 then r.take ((Lib.indexByte r 10).toNat+1) else r
def eP(r:List UInt8):List UInt8:=if 0<=Lib.indexByte r 10 then r.drop ((Lib.indexByte r 10).toNat+1) else []
theorem Pr(c:UInt8):∀ r:List UInt8,0<=Lib.indexByte r c->(Lib.indexByte r c).toNat<r.length
 | [],h=>by simp[Lib.indexByte]at h
 | b::l,h=>by
  unfold Lib.indexByte at h ⊢;split
  ·simp
  ·rename_i h1;rw[if_neg h1]at h;split
   ·rename_i h2;rw[if_pos h2]at h;omega
   ·rename_i h2;rw[if_neg h2]at h;have h3:=Lib.indexByte_ge l c;have h4:Lib.indexByte l c≠-1:=by simpa using h2
    have:=Pr c l (by omega);simp only[length_cons];omega
theorem ow{r:List UInt8}(h:r≠[]):(eP r).length<r.length:=by
 have:0<r.length:=List.length_pos_iff.2 h;unfold eP;split
 ·rw[length_drop];omega
 ·simpa using this
def Ii(Bs:Nat)(w:World):Nat:=match w.cell? ⟨Bs,0,none⟩ with|some (.string s)=>s.size|_=>0
theorem nX{Bs:Nat}{w:World}{r:List UInt8}(h:w.cell? ⟨Bs,0,none⟩=some (str r)):Ii Bs w=r.length:=by
 unfold Ii;rw[h];rfl
set_option maxRecDepth 100000 in
set_option maxHeartbeats 2000000 in
theorem LM(n l Bs N:Nat)(hN:N<=1000000)(J:List UInt8->World->Prop)(Jx:World->Prop)
  (hset:∀ r W v,J r W->J r (W.setCell ⟨Bs,0,none⟩ v)) (hdrew:∀ r W,J r W->J r W.drew)
  (hY:∀ r W,J r W->r≠[]->r.length<=N->YieldAt Fence.wide n prog l #[str (gV r)] W fun e W'=>
   (e=.returned (.bool true)/\J (eP r) W'/\W'.heap[Bs]?=W.heap[Bs]?)\/(e=.returned (.bool false)/\Jx W'))
  (W:World) (r0:List UInt8) (hr0:r0.length<=N) (hBs:W.heap[Bs]?=some (.cells #[str r0] 9 (0,0))) (h0:J r0 W) :
  CallsIn Fence.wide (n+1) prog 93 #[.func (.yield l) #[] #[],.pointer (some ⟨Bs,0,none⟩)] W fun e W'=>(∃ v,e=.returned v)/\(J [] W'\/Jx W'):=by
 have mixed:prog.follows .mixedOrders=true:=by kernel_rfl
 refine callsIn_of_wp func93 rfl trivial ?_ rfl;simp only[ntmps93,size_toArray,length_cons,length_nil,Nat.reduceAdd,Nat.reduceSub,Array.replicate_succ,Array.replicate_zero,push_toArray,append_toArray,nil_append,cons_append]
 gi_wp2
 gi_loopw [] (fun wr=>∃ r,r.length<=N/\J r wr/\wr.heap[Bs]?=some (.cells #[str r] 9 (0,0))) (fun wr=>Ii Bs wr)
 case atStart=>exact⟨r0,hr0,h0,hBs⟩
 case round=>
  obtain⟨r,hr,hJ,hb'⟩:=hrel;have hb:wr.heap[Bs]?=some (.cells #[.string ⟨r.toArray⟩] 9 (0,0)):=hb';clear hb';have t9:=underlying9;have u9:=run_underlying underlying9;have hc:wr.cell? ⟨Bs,0,none⟩=some (.string ⟨r.toArray⟩):=by rw[Lib.cell_of_heap hb];rfl
  have hf:wr.frozen? ⟨Bs,0,none⟩=false:=Lib.frozen_of_heap hb 0;by_cases hnil:r=[]
  ·subst hnil
   gi_wp2
   go_end0
   exact⟨⟨_,rfl⟩,.inl hJ⟩
  ·have hpos:0<r.length:=List.length_pos_iff.2 hnil;have hge:=Lib.indexByte_ge r 10;have hIB:Calls prog 94 #[.string ⟨r.toArray⟩,.int .u8 10] wr fun e w'=>e=.returned (.int .i64 (Lib.indexByte r 10))/\w'=wr:=Tryz.strings_IndexByte ⟨r.toArray⟩ 10 wr;by_cases hi:0<=Lib.indexByte r 10
   ·have hlt:=Pr 10 r hi;have hhd:gV r=r.take ((Lib.indexByte r 10).toNat+1):=by unfold gV;rw[if_pos hi]
    have htl:eP r=r.drop ((Lib.indexByte r 10).toNat+1):=by unfold eP;rw[if_pos hi]
    obtain⟨k,hk⟩:∃ k:Nat,Lib.indexByte r 10=k:=⟨(Lib.indexByte r 10).toNat,by omega⟩;rw[hk]at hIB hlt hhd htl;rw[Int.toNat_natCast]at hlt hhd htl;clear hk hi hge;have hs0:(0:Int)<=(k:Int)+1:=by omega
    have hs1:(k:Int)+1<=(r.length:Int):=by omega
    have e1:Value.string ((⟨r.toArray⟩:ByteArray).extract 0 (k+1))=str (gV r):=by
     rw[hhd];show Value.string _=Value.string _;congr 1;apply ByteArray.ext;simp[ByteArray.data_extract]
    have e2:Value.string ((⟨r.toArray⟩:ByteArray).extract (k+1) r.length)=str (eP r):=by
     rw[htl];show Value.string _=Value.string _;congr 1;apply ByteArray.ext;simp[ByteArray.data_extract];rw[take_of_length_le (by simp)]
    obtain⟨fn,tmps,assign,body,hy,hR⟩:=hY r (wr.setCell ⟨Bs,0,none⟩ (.string ((⟨r.toArray⟩:ByteArray).extract (k+1) r.length))).drew (hdrew _ _ (hset _ _ _ hJ)) hnil hr;rw[<-e1]at hy;have hb2:(wr.setCell ⟨Bs,0,none⟩ (.string ((⟨r.toArray⟩:ByteArray).extract (k+1) r.length))).drew.heap[Bs]?=some (.cells #[str (eP r)] 9 (0,0)):=by
     rw[e2];simp[World.setCell,World.drew,Array.getElem?_modify,hb]
    clear e1 e2 hhd htl
    gi_wp2_with (refine⟨trivial,?_⟩;gi_at_call 94;refine(callsIn_wide.2 hIB).mono ?_;rintro e w' ⟨rfl,rfl⟩)
    have hk1:(k:Int)<=1000000:=by omega
    have hwr:IntKind.i64.wrap ((k:Int)+1)=(k:Int)+1:=by go_bits;try trivial
    gi_region_o
    gi_wp2
    refine hR.mono ?_
    rintro e W3 (⟨rfl,hJ3,hk3⟩|⟨rfl,hJx3⟩)
    ·gi_wp2
     go_roundw
     case rel=>exact⟨eP r,Nat.le_trans (Nat.le_of_lt (ow hnil)) hr,hJ3,by rw[hk3,hb2]⟩
     case measure=>rw[nX (r:=eP r) (by rw[Lib.cell_of_heap (hk3.trans hb2)];rfl),nX (r:=r) hc];exact ow hnil
    ·gi_wp2
     refine bodyPost_ret (results_none rfl _ _ _) rfl ?_;exact⟨⟨_,rfl⟩,.inr hJx3⟩
   ·have hhd:gV r=r:=by unfold gV;rw[if_neg hi]
    have htl:eP r=[]:=by unfold eP;rw[if_neg hi]
    obtain⟨fn,tmps,assign,body,hy,hR⟩:=hY r (wr.setCell ⟨Bs,0,none⟩ (.string ⟨#[]⟩)) (hset _ _ _ hJ) hnil hr;rw[hhd]at hy;have hy':Sem.run prog (Instr.yield l #[.string ⟨r.toArray⟩]) (wr.setCell ⟨Bs,0,none⟩ (.string ⟨#[]⟩))=_:=hy;have hb2:(wr.setCell ⟨Bs,0,none⟩ (.string ⟨#[]⟩)).heap[Bs]?=some (.cells #[.string ⟨#[]⟩] 9 (0,0)):=by simp[World.setCell,Array.getElem?_modify,hb]
    clear hy
    gi_wp2_with (refine⟨trivial,?_⟩;gi_at_call 94;refine(callsIn_wide.2 hIB).mono ?_;rintro e w' ⟨rfl,rfl⟩)
    refine hR.mono ?_
    rintro e W3 (⟨rfl,hJ3,hk3⟩|⟨rfl,hJx3⟩)
    ·gi_wp2
     go_roundw
     case rel=>exact⟨eP r,by rw[htl];exact Nat.zero_le _,hJ3,by rw[hk3,hb2,htl];rfl⟩
     case measure=>rw[nX (r:=[]) (by rw[Lib.cell_of_heap (hk3.trans hb2)];rfl),nX (r:=r) hc];exact hpos
    ·gi_wp2
     refine bodyPost_ret (results_none rfl _ _ _) rfl ?_;exact⟨⟨_,rfl⟩,.inr hJx3⟩
end Go.Proofs.YtapimhjbilkfpaaGreatDoor
