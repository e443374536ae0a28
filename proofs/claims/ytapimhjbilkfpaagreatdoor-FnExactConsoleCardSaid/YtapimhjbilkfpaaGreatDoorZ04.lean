/- Lemmas for FnExactConsole, part 5 of 46. -/
import Derived.Test.YtapimhjbilkfpaaGreatDoorZ02
import Derived.Test.YtapimhjbilkfpaaGreatDoorZ03
import Derived.Below
import Derived.SliceStrings
import Derived.ChangeSame
import Derived.WideShapes
import Derived.Deep.Strs
set_option linter.unusedVariables false
set_option linter.unusedSimpArgs false
namespace Go.Proofs.YtapimhjbilkfpaaGreatDoor
open Go Go.Proofs.Tryz List
theorem mixS:prog.follows .mixedOrders=true:=by kernel_rfl
theorem fnS{f:FuncId}{fn:Func}{c:Code}(hf:prog.funcs[f]?=some fn)(hb:fn.body=some c){n:Nat}{rs:List ResultVar}(hnt:fn.ntmps=n)(hrs:fn.results=rs.toArray){args:List Value}{R:VP}{M:Mem}(h:vc prog tab n c (FZ tab rs R) (lW args 0) M)(hn:(fn.name == "runtime.NumGoroutine")=false:=by kernel_rfl)(hi:dW fn.ntmps c=true:=by kernel_rfl)(ha:Nat.ble args.length n=true:=by rfl):ar prog f args M R:=QJ aR hf hb hn hi hnt hrs ha h
section
variable {env:Env} {M:Mem} {Q:Exit->Env->Mem->Prop}
theorem drwS{n id:Nat}{l:List Oper}(h:vQs prog tab l Q l env M)(hB:Region.lexB .any l.toArray=true:=by kernel_rfl)(hd:l.all (jM n)=true:=by rfl):cu prog n (.region id l.toArray true) Q env M:=P7 aR mixS hB hd h
theorem plyS(p:ga){nt id:Nat}{r:List Oper}(h:vT prog tab r Q p env M)(hB:Pn r p=true:=by kernel_rfl)(hd:r.all (jM nt)=true:=by rfl):cu prog nt (.region id r.toArray true) Q env M:=UT p aR mixS hB hd h
theorem lupS{n:Nat}{body:Code}{X:Type}(A:List Nat)(live:X->List (Nat×Value))(J:X->Mem->Prop)(μ:X->Nat)(x0:X)(hJ:J x0 M)
  (round:∀ x M g,J x M->vc prog tab n body (lX (Rnd A env live J μ (μ x)) Q) (EG (mrg A g env) (live x)) M) (hi:dW n body=true:=by kernel_rfl) (h0:fl env (live x0):=by simp(disch:=omega)):cu prog n (.loop body) Q env M:=aQ aR A live J μ x0 hi h0 hJ round
end
theorem rndS{X:Type}{A:List Nat}{e:Env}{live:X->List (Nat×Value)}{J:X->Mem->Prop}{μ:X->Nat}{k:Nat}{e':Env}{M':Mem}(x':X)(h4:J x' M')(h1:μ x'<k:=by first|omega|(simp only;omega))(h2:fE A e e':=by (repeat (first|exact km|refine kp rfl ?_|refine km' rfl ?_)))(h3:fl e' (live x'):=by simp(disch:=omega)) :
  Rnd A e live J μ k e' M':=⟨x',M',Sub.refl _,h1,h2,h3,h4⟩
theorem rndA{X:Type}{A:List Nat}{e:Env}{live:X->List (Nat×Value)}{J:X->Mem->Prop}{μ:X->Nat}{k:Nat}{e':Env}{M':Mem}(x':X)(h3:fl e' (live x'))(h4:J x' M')(h1:μ x'<k:=by first|omega|(simp only;omega))(h2:fE A e e':=by (repeat (first|exact km|refine kp rfl ?_|refine km' rfl ?_))) :
  Rnd A e live J μ k e' M':=⟨x',M',Sub.refl _,h1,h2,h3,h4⟩
theorem rndM{X:Type}{A:List Nat}{e:Env}{live:X->List (Nat×Value)}{J:X->Mem->Prop}{μ:X->Nat}{k:Nat}{e':Env}{M':Mem}(M1:Mem)(x':X)(hs:Sub M1 M')(h4:J x' M1)(h1:μ x'<k:=by first|omega|(simp only;omega))(h2:fE A e e':=by (repeat (first|exact km|refine kp rfl ?_|refine km' rfl ?_)))(h3:fl e' (live x'):=by simp(disch:=omega)) :
  Rnd A e live J μ k e' M':=⟨x',M1,hs,h1,h2,h3,h4⟩
theorem rndB{X:Type}{A:List Nat}{e:Env}{live:X->List (Nat×Value)}{J:X->Mem->Prop}{μ:X->Nat}{k:Nat}{e':Env}{M':Mem}(M1:Mem)(x':X)(hs:Sub M1 M')(h3:fl e' (live x'))(h4:J x' M1)(h1:μ x'<k:=by first|omega|(simp only;omega))(h2:fE A e e':=by (repeat (first|exact km|refine kp rfl ?_|refine km' rfl ?_))) :
  Rnd A e live J μ k e' M':=⟨x',M1,hs,h1,h2,h3,h4⟩
def Rd(M:Mem)(v:Value)(xs:List Value):Prop:=
 (∃ a c,v=.slice a 0 c/\xs=[])\/∃ b o c,v=.slice (some ⟨b,o,none⟩) xs.length c/\M.sub? b o xs.length=some xs/\xs.length<=c
theorem wA{M:Mem}{b o:Nat}{xs:List Value}(h:M.sub? b o xs.length=some xs){i:Nat}{x:Value}(hx:xs[i]?=some x):M.get? b (o+i)=some x:=by
 unfold Mem.sub? at h;unfold Mem.get?;split at h
 ·rename_i own ys tot hb;split at h
  ·rename_i hle;injection h with h
   have hi:i<xs.length:=by
    rcases Nat.lt_or_ge i xs.length with h|h
    ·exact h
    ·rw[getElem?_eq_none h]at hx;cases hx
   rw[<-h,getElem?_take_of_lt (by rw[<-h]at hi ⊢;rw[length_take]at hi ⊢;omega),getElem?_drop]at hx
   first|exact hx|(simp only[hb];exact hx)
  ·cases h
 ·cases h
theorem Rd.sub{M N:Mem}{v:Value}{xs:List Value}(h:Rd M v xs)(hs:Sub M N):Rd N v xs:=by
 rcases h with h|⟨b,o,c,h1,h2,h3⟩
 ·exact .inl h
 ·refine .inr ⟨b,o,c,h1,?_,h3⟩;unfold Mem.sub? at *;split at h2
  ·rename_i hb;rw[hs _ _ hb];exact h2
  ·cases h2
theorem Rd.put{M:Mem}{v:Value}{xs:List Value}(h:Rd M v xs){b:Nat}(hb:M b=none)(B:Blk):Rd (M.put b B) v xs:=h.sub ((Sub.refl M).put hb B)
theorem Rd.new{M:Mem}{b c n:Nat}{w:Bool}{xs:List Value}(hn:xs.length=n)(hc:n<=c):Rd (M.put b (.cells w xs c)) (.slice (some ⟨b,0,none⟩) n c) xs:=by
 subst hn;exact .inr ⟨b,0,c,rfl,by simp[Mem.sub?,ag],hc⟩
def Own(M:Mem)(v:Value)(xs:List Value)(M':Mem):Prop:=
 (v=.slice none 0 0/\xs=[]/\M'=M)\/∃ b c,v=.slice (some ⟨b,0,none⟩) xs.length c/\M b=none/\xs.length<=c/\M'=M.put b (.cells true xs c)
theorem Own.nil(M:Mem):Own M (.slice none 0 0) [] M:=.inl ⟨rfl,rfl,rfl⟩
theorem Own.new{M:Mem}{b c n:Nat}{xs:List Value}(hb:M b=none)(hn:xs.length=n)(hc:n<=c):Own M (.slice (some ⟨b,0,none⟩) n c) xs (M.put b (.cells true xs c)):=by
 subst hn;exact .inr ⟨b,c,rfl,hb,hc,rfl⟩
theorem Own.sub{M M':Mem}{v:Value}{xs:List Value}(h:Own M v xs M'):Sub M M':=by
 rcases h with ⟨_,_,rfl⟩|⟨b,c,_,hb,_,rfl⟩
 ·exact Sub.refl _
 ·exact(Sub.refl M).put hb _
theorem Own.rd{M M':Mem}{v:Value}{xs:List Value}(h:Own M v xs M'):Rd M' v xs:=by
 rcases h with ⟨h1,h2,rfl⟩|⟨b,c,rfl,hb,hc,rfl⟩
 ·exact .inl ⟨none,0,h1,h2⟩
 ·exact Rd.new rfl hc
def ints(zs:List Int):List Value:=zs.map (Value.int .i64)
def strs(ws:List (List UInt8)):List Value:=ws.map str
@[simp] theorem ay(zs:List Int):(ints zs).length=zs.length:=by simp[ints]
@[simp] theorem ah(ws:List (List UInt8)):(strs ws).length=ws.length:=by simp[strs]
@[simp] theorem UW:strs []=[]:=nr rfl
theorem Mc(z:List UInt8)(zs:List (List UInt8)):strs (z::zs)=str z::strs zs:=rfl
@[simp] theorem cJ{zs:List Int}{i:Nat}:(ints zs)[i]?=(zs[i]?).map (Value.int .i64):=by simp[ints]
@[simp] theorem bg{zs:List (List UInt8)}{i:Nat}:(strs zs)[i]?=(zs[i]?).map str:=by simp[strs]
@[simp] theorem kX{l:List UInt8}{i:Nat}:(av l)[i]?=(l[i]?).map fun u=>Value.int .u8 u.toNat:=by simp[av]
theorem ints_set(zs:List Int)(i:Nat)(z:Int):(ints zs).set i (.int .i64 z)=ints (zs.set i z):=by simp[ints,map_set]
theorem gG(zs:List (List UInt8))(i:Nat)(z:List UInt8):(strs zs).set i (str z)=strs (zs.set i z):=by simp[strs,map_set]
theorem F7(a b:List Int):ints a++ints b=ints (a++b):=by simp[ints]
theorem EV(a b:List (List UInt8)):strs a++strs b=strs (a++b):=by simp[strs]
theorem cw(a:List Int)(z:Int):ints a++[.int .i64 z]=ints (a++[z]):=by simp[ints]
theorem cO(a:List (List UInt8))(z:List UInt8):strs a++[str z]=strs (a++[z]):=by simp[strs]
theorem ES(n:Nat)(z:Int):replicate n (Value.int .i64 z)=ints (replicate n z):=by simp[ints]
theorem BY(zs:List Int):∀ v∈ints zs,bF v=true:=by intro v hv;obtain⟨_,_,rfl⟩:=List.mem_map.1 hv;rfl
theorem dz(zs:List (List UInt8)):∀ v∈strs zs,bF v=true:=by intro v hv;obtain⟨_,_,rfl⟩:=List.mem_map.1 hv;rfl
def nd(G:Mem->Prop):Prop:=∀ M b B,G M->M b=none->G (M.put b B)
theorem bT:nd fun _=>True:=fun _ _ _ _ _=>trivial
def lT(P:Program)(fv:Value)(xs:List Value)(p:Value->Bool)(G:Mem->Prop):Prop:=
 ∀ x∈xs,∀ M R,G M->R (.bool (p x)) M->fj P fv [x] R M
def Cn(P:Program)(fv:Value)(b:Bool)(G:Mem->Prop):Prop:=∀ M R,G M->R (.bool b) M->fj P fv [] R M
theorem bE(n lo hi:Int)(M:Mem)(R:VP)(h:R (.bool (decide (lo<=n/\n<=hi))) M):ar prog 84 [.int .i64 n,.int .i64 lo,.int .i64 hi] M R:=by
 refine fnS func84 rfl ntmps84 results84 ?_;by_cases h1:lo<=n
 ·simp(disch:=omega)[h1];exact ad (by simpa[h1] using h)
 ·simp(disch:=omega)[h1];exact ad (by simpa[h1] using h)
theorem pC(n:Int)(M:Mem)(R:VP)(h:R (.bool (decide (0<=n/\n<=60))) M):ar prog 216 [.int .i64 n] M R:=by
 refine fnS func216 rfl ntmps216 results216 ?_;simp(disch:=omega);refine bE _ _ _ _ _ ?_;simp(disch:=omega);exact ad (by simpa using h)
theorem bV(l:List UInt8)(M:Mem)(R:VP)(hl:l.length<=1099511627776)(h:R (.int .i64 l.length) M):ar prog 85 [str l] M R:=by
 refine fnS func85 rfl ntmps85 results85 ?_;simp(disch:=omega);exact ad h
theorem gS(u:UInt8)(M:Mem)(R:VP)(h:R (.int .i64 (u.toNat-97)) M):ar prog 142 [.int .u8 u.toNat] M R:=by
 have hu:=u.toNat_lt;refine fnS func142 rfl ntmps142 results142 ?_;simp(disch:=omega);exact ad h
theorem EK(M:Mem)(R:VP)(h:R (.bool true) M):ar prog 213 [] M R:=by
 refine fnS func213 rfl ntmps213 results213 ?_;simp(disch:=omega);exact ad h
theorem vN(v fv:Value)(xs:List Value)(p:Value->Bool)(G:Mem->Prop)(M:Mem)(R:VP)(hv:Rd M v xs)(hG:G M)(hf:lT prog fv xs p G)(hl:xs.length<=1099511627776)
  (h:∀ r:Int,decide (0<=r)=xs.any p->-1<=r->r<=xs.length->R (.int .i64 r) M):ar prog 206 [v,fv] M R:=by
 refine fnS func206 rfl ntmps206 results206 ?_;rcases hv with ⟨a0,c0,rfl,rfl⟩|⟨b,o,c,rfl,hs,hc⟩
 ·simp(disch:=omega);refine lupS [4,5,8,9,10,11,12,13,14,15,16,17,18] (fun i:Nat=>[(8,.int .i64 i)]) (fun i M'=>M'=M/\i=0) (fun i=>0) 0 ⟨rfl,rfl⟩ ?_
  rintro i M' g ⟨rfl,rfl⟩
  simp(disch:=omega);exact ad (h (-1) (by simp) (by omega) (by omega))
 ·simp(disch:=omega);refine lupS [4,5,8,9,10,11,12,13,14,15,16,17,18] (fun i:Nat=>[(8,.int .i64 i)]) (fun i M'=>M'=M/\i<=xs.length/\∀ x∈xs.take i,p x=false) (fun i=>xs.length-i) 0 ⟨rfl,by omega,by simp⟩ ?_
  rintro i M' g ⟨rfl,hi,hp⟩
  by_cases hlt:i<xs.length
  ·have hx:xs[i]?=some xs[i]:=getElem?_eq_getElem hlt;have hget:=wA hs hx;simp(disch:=omega)[hget];refine hf _ (getElem_mem hlt) _ _ hG ?_;cases hpx:p xs[i]
   ·simp(disch:=omega);refine rndS (i+1) ⟨rfl,by omega,?_⟩;rw[take_succ_eq_append_getElem hlt];intro x hx';rcases List.mem_append.1 hx' with h1|h1
    ·exact hp x h1
    ·rw[List.mem_singleton.1 h1];exact hpx
   ·simp(disch:=omega);refine ad (h i ?_ (by omega) (by omega));have:xs.any p=true:=List.any_eq_true.2 ⟨_,getElem_mem hlt,hpx⟩;rw[this];simp
  ·have hi':i=xs.length:=by omega
   subst hi';simp(disch:=omega);refine ad (h (-1) ?_ (by omega) (by omega));have:xs.any p=false:=by
    rw[any_eq_false];intro x hx';rw[hp x (by rwa[take_length])];simp
   rw[this];rfl
theorem v8(v fv:Value)(xs:List Value)(p:Value->Bool)(G:Mem->Prop)(M:Mem)(R:VP)(hv:Rd M v xs)(hG:G M)(hf:lT prog fv xs p G)(hl:xs.length<=1099511627776)
  (h:∀ r:Int,decide (0<=r)=xs.any p->-1<=r->r<=xs.length->R (.int .i64 r) M):ar prog 207 [v,fv] M R:=by
 refine fnS func207 rfl ntmps207 results207 ?_;rcases hv with ⟨a0,c0,rfl,rfl⟩|⟨b,o,c,rfl,hs,hc⟩
 ·simp(disch:=omega);refine lupS [4,5,8,9,10,11,12,13,14,15,16,17,18] (fun i:Nat=>[(8,.int .i64 i)]) (fun i M'=>M'=M/\i=0) (fun i=>0) 0 ⟨rfl,rfl⟩ ?_
  rintro i M' g ⟨rfl,rfl⟩
  simp(disch:=omega);exact ad (h (-1) (by simp) (by omega) (by omega))
 ·simp(disch:=omega);refine lupS [4,5,8,9,10,11,12,13,14,15,16,17,18] (fun i:Nat=>[(8,.int .i64 i)]) (fun i M'=>M'=M/\i<=xs.length/\∀ x∈xs.take i,p x=false) (fun i=>xs.length-i) 0 ⟨rfl,by omega,by simp⟩ ?_
  rintro i M' g ⟨rfl,hi,hp⟩
  by_cases hlt:i<xs.length
  ·have hx:xs[i]?=some xs[i]:=getElem?_eq_getElem hlt;have hget:=wA hs hx;simp(disch:=omega)[hget];refine hf _ (getElem_mem hlt) _ _ hG ?_;cases hpx:p xs[i]
   ·simp(disch:=omega);refine rndS (i+1) ⟨rfl,by omega,?_⟩;rw[take_succ_eq_append_getElem hlt];intro x hx';rcases List.mem_append.1 hx' with h1|h1
    ·exact hp x h1
    ·rw[List.mem_singleton.1 h1];exact hpx
   ·simp(disch:=omega);refine ad (h i ?_ (by omega) (by omega));have:xs.any p=true:=List.any_eq_true.2 ⟨_,getElem_mem hlt,hpx⟩;rw[this];simp
  ·have hi':i=xs.length:=by omega
   subst hi';simp(disch:=omega);refine ad (h (-1) ?_ (by omega) (by omega));have:xs.any p=false:=by
    rw[any_eq_false];intro x hx';rw[hp x (by rwa[take_length])];simp
   rw[this];rfl
theorem vL(v fv:Value)(xs:List Value)(p:Value->Bool)(G:Mem->Prop)(M:Mem)(R:VP)(hv:Rd M v xs)(hG:G M)(hf:lT prog fv xs p G)(hl:xs.length<=1099511627776)
  (h:∀ r:Int,decide (0<=r)=xs.any p->-1<=r->r<=xs.length->R (.int .i64 r) M):ar prog 448 [v,fv] M R:=by
 refine fnS func448 rfl ntmps448 results448 ?_;rcases hv with ⟨a0,c0,rfl,rfl⟩|⟨b,o,c,rfl,hs,hc⟩
 ·simp(disch:=omega);refine lupS [4,5,8,9,10,11,12,13,14,15,16,17,18] (fun i:Nat=>[(8,.int .i64 i)]) (fun i M'=>M'=M/\i=0) (fun i=>0) 0 ⟨rfl,rfl⟩ ?_
  rintro i M' g ⟨rfl,rfl⟩
  simp(disch:=omega);exact ad (h (-1) (by simp) (by omega) (by omega))
 ·simp(disch:=omega);refine lupS [4,5,8,9,10,11,12,13,14,15,16,17,18] (fun i:Nat=>[(8,.int .i64 i)]) (fun i M'=>M'=M/\i<=xs.length/\∀ x∈xs.take i,p x=false) (fun i=>xs.length-i) 0 ⟨rfl,by omega,by simp⟩ ?_
  rintro i M' g ⟨rfl,hi,hp⟩
  by_cases hlt:i<xs.length
  ·have hx:xs[i]?=some xs[i]:=getElem?_eq_getElem hlt;have hget:=wA hs hx;simp(disch:=omega)[hget];refine hf _ (getElem_mem hlt) _ _ hG ?_;cases hpx:p xs[i]
   ·simp(disch:=omega);refine rndS (i+1) ⟨rfl,by omega,?_⟩;rw[take_succ_eq_append_getElem hlt];intro x hx';rcases List.mem_append.1 hx' with h1|h1
    ·exact hp x h1
    ·rw[List.mem_singleton.1 h1];exact hpx
   ·simp(disch:=omega);refine ad (h i ?_ (by omega) (by omega));have:xs.any p=true:=List.any_eq_true.2 ⟨_,getElem_mem hlt,hpx⟩;rw[this];simp
  ·have hi':i=xs.length:=by omega
   subst hi';simp(disch:=omega);refine ad (h (-1) ?_ (by omega) (by omega));have:xs.any p=false:=by
    rw[any_eq_false];intro x hx';rw[hp x (by rwa[take_length])];simp
   rw[this];rfl
theorem qo(v fv:Value)(xs:List Value)(p:Value->Bool)(G:Mem->Prop)(M:Mem)(R:VP)(hv:Rd M v xs)(hG:G M)(hf:lT prog fv xs p G)(hl:xs.length<=1099511627776)
  (h:R (.bool (xs.any p)) M):ar prog 137 [v,fv] M R:=by
 refine fnS func137 rfl ntmps137 results137 ?_;simp(disch:=omega);refine vN v fv xs p G M _ hv hG hf hl fun r h1 h2 h3=>?_;simp(disch:=omega);rw[h1];exact ad h
theorem iY(v fv:Value)(xs:List Value)(p:Value->Bool)(G:Mem->Prop)(M:Mem)(R:VP)(hv:Rd M v xs)(hG:G M)(hf:lT prog fv xs p G)(hl:xs.length<=1099511627776)
  (h:R (.bool (xs.any p)) M):ar prog 139 [v,fv] M R:=by
 refine fnS func139 rfl ntmps139 results139 ?_;simp(disch:=omega);refine v8 v fv xs p G M _ hv hG hf hl fun r h1 h2 h3=>?_;simp(disch:=omega);rw[h1];exact ad h
theorem p7(v fv:Value)(xs:List Value)(p:Value->Bool)(G:Mem->Prop)(M:Mem)(R:VP)(hv:Rd M v xs)(hG:G M)(hf:lT prog fv xs p G)(hl:xs.length<=1099511627776)
  (h:R (.bool (xs.any p)) M):ar prog 439 [v,fv] M R:=by
 refine fnS func439 rfl ntmps439 results439 ?_;simp(disch:=omega);refine vL v fv xs p G M _ hv hG hf hl fun r h1 h2 h3=>?_;simp(disch:=omega);rw[h1];exact ad h
theorem kY(v fv:Value)(xs:List Value)(p:Value->Bool)(G:Mem->Prop)(M:Mem)(R:VP)(hv:Rd M v xs)(hG:G M)(hst:nd G)(hf:lT prog fv xs p G)(hff:bF fv=true)(hl:xs.length<=1099511627776)
  (h:R (.bool (xs.all p)) M):ar prog 82 [v,fv] M R:=by
 refine fnS func82 rfl ntmps82 results82 ?_;simp(disch:=omega);intro b hb;simp(disch:=omega);refine qo v _ xs (fun x=>!p x) (fun M'=>G M'/\M'.get? b 0=some fv) _ _ (hv.put hb _) ⟨hst _ _ _ hG hb,by simp(disch:=omega)⟩ ?_ hl ?_
 ·rintro x hx M' R' ⟨h1,h2⟩ h3
  simp(disch:=omega);refine fnS func138 rfl ntmps138 results138 ?_;simp(disch:=omega)[h2];refine hf x hx _ _ h1 ?_;simp(disch:=omega);exact ad h3
 ·simp(disch:=omega);refine ae ((Sub.refl M).put hb _) ?_;have e:(!xs.any fun x=>!p x)=xs.all p:=by rw[all_eq_not_any_not]
  rw[e];exact h
theorem lM(v fv:Value)(xs:List Value)(p:Value->Bool)(G:Mem->Prop)(M:Mem)(R:VP)(hv:Rd M v xs)(hG:G M)(hst:nd G)(hf:lT prog fv xs p G)(hff:bF fv=true)(hl:xs.length<=1099511627776)
  (h:R (.bool (xs.all p)) M):ar prog 89 [v,fv] M R:=by
 refine fnS func89 rfl ntmps89 results89 ?_;simp(disch:=omega);intro b hb;simp(disch:=omega);refine iY v _ xs (fun x=>!p x) (fun M'=>G M'/\M'.get? b 0=some fv) _ _ (hv.put hb _) ⟨hst _ _ _ hG hb,by simp(disch:=omega)⟩ ?_ hl ?_
 ·rintro x hx M' R' ⟨h1,h2⟩ h3
  simp(disch:=omega);refine fnS func140 rfl ntmps140 results140 ?_;simp(disch:=omega)[h2];refine hf x hx _ _ h1 ?_;simp(disch:=omega);exact ad h3
 ·simp(disch:=omega);refine ae ((Sub.refl M).put hb _) ?_;have e:(!xs.any fun x=>!p x)=xs.all p:=by rw[all_eq_not_any_not]
  rw[e];exact h
theorem CT(v fv:Value)(xs:List Value)(p:Value->Bool)(G:Mem->Prop)(M:Mem)(R:VP)(hv:Rd M v xs)(hG:G M)(hst:nd G)(hf:lT prog fv xs p G)(hff:bF fv=true)(hl:xs.length<=1099511627776)
  (h:R (.bool (xs.all p)) M):ar prog 424 [v,fv] M R:=by
 refine fnS func424 rfl ntmps424 results424 ?_;simp(disch:=omega);intro b hb;simp(disch:=omega);refine p7 v _ xs (fun x=>!p x) (fun M'=>G M'/\M'.get? b 0=some fv) _ _ (hv.put hb _) ⟨hst _ _ _ hG hb,by simp(disch:=omega)⟩ ?_ hl ?_
 ·rintro x hx M' R' ⟨h1,h2⟩ h3
  simp(disch:=omega);refine fnS func440 rfl ntmps440 results440 ?_;simp(disch:=omega)[h2];refine hf x hx _ _ h1 ?_;simp(disch:=omega);exact ad h3
 ·simp(disch:=omega);refine ae ((Sub.refl M).put hb _) ?_;have e:(!xs.any fun x=>!p x)=xs.all p:=by rw[all_eq_not_any_not]
  rw[e];exact h
def isL(u:UInt8):Bool:=decide (97<=u.toNat)&&decide (u.toNat<102)
def isWord(l:List UInt8):Bool:=decide (l.length<=60)&&l.all isL
def onB(q:UInt8->Bool):Value->Bool
 | .int _ n=>q (UInt8.ofNat n.toNat)
 | _=>false
theorem sV(q:UInt8->Bool)(u:UInt8):onB q (.int .u8 u.toNat)=q u:=by simp[onB]
theorem tC(q:UInt8->Bool)(l:List UInt8):(av l).all (onB q)=l.all q:=by
 induction l with
 | nil=>rfl
 | cons u l ih=>simp only[av,map_cons,all_cons,sV]at *;rw[ih]
theorem tK{l:List UInt8}{x:Value}(h:x∈av l):∃ u∈l,x=.int .u8 u.toNat:=by
 obtain⟨u,h1,h2⟩:=List.mem_map.1 h;exact⟨u,h1,h2.symm⟩
theorem zH(l:List UInt8):lT prog (.func (.func 83) #[] #[]) (av l) (onB isL) (fun _=>True):=by
 intro x hx M R _ h;obtain⟨u,_,rfl⟩:=tK hx;rw[sV]at h;simp(disch:=omega);refine fnS func83 rfl ntmps83 results83 ?_;by_cases h1:97<=(u.toNat:Int)
 ·have e:isL u=decide ((u.toNat:Int)<102):=by unfold isL;rw[decide_eq_true (by omega:97<=u.toNat)];simp only[Bool.true_and,decide_eq_decide];omega
  rw[e]at h;simp(disch:=omega)[h1];exact ad h
 ·have e:isL u=false:=by unfold isL;rw[decide_eq_false (by omega:¬ 97<=u.toNat)];rfl
  rw[e]at h;simp(disch:=omega)[h1];exact ad h
theorem gI(l:List UInt8)(M:Mem)(R:VP)(hl:l.length<=1099511627776)(h:R (.bool (isWord l)) M):ar prog 44 [str l] M R:=by
 refine fnS func44 rfl ntmps44 results44 ?_;by_cases h1:l.length<=60
 ·have e:isWord l=l.all isL:=by unfold isWord;rw[decide_eq_true h1];rfl
  rw[e]at h;have h1':(l.length:Int)<=60:=by omega
  simp(disch:=omega)[h1'];intro b c hb hc;simp(disch:=omega);refine kY _ _ (av l) (onB isL) (fun _=>True) _ _ (Rd.new (aS l) (by simp(disch:=omega) at hc;omega)) trivial bT (zH l) rfl (by rw[aS];omega) ?_;rw[tC];simp(disch:=omega);exact ae ((Sub.refl M).put hb _) h
 ·have e:isWord l=false:=by unfold isWord;rw[decide_eq_false h1];rfl
  rw[e]at h;have h1':¬(l.length:Int)<=60:=by omega
  simp(disch:=omega)[h1'];exact ad h
theorem Ec(n:Int)(M:Mem)(R:VP)(h0:0<=n)(h1:n<=4)(h:R (str [UInt8.ofNat (97+n.toNat)]) M):ar prog 229 [.int .i64 n] M R:=by
 refine fnS func229 rfl ntmps229 results229 ?_;simp(disch:=omega);intro b hb;simp(disch:=omega);have e:(97+n).toNat=97+n.toNat:=by omega
 rw[<-e]at h;exact ae ((Sub.refl M).put hb _) h
def onS(q:List UInt8->Bool):Value->Bool
 | .string s=>q (sl s)
 | _=>false
theorem wE(q:List UInt8->Bool)(l:List UInt8):onS q (str l)=q l:=rfl
theorem xU(q:List UInt8->Bool)(ws:List (List UInt8)):(strs ws).all (onS q)=ws.all q:=by
 induction ws with
 | nil=>rfl
 | cons w ws ih=>rw[Mc,all_cons,all_cons,wE,ih]
theorem yY{ws:List (List UInt8)}{x:Value}(h:x∈strs ws):∃ w∈ws,x=str w:=by
 obtain⟨u,h1,h2⟩:=List.mem_map.1 h;exact⟨u,h1,h2.symm⟩
def df(ws:List (List UInt8)):Prop:=∀ w∈ws,w.length<=1099511627776
def codeOf(ws:List (List UInt8))(b:Bool):Int:=if ws.all isWord then (if b then 0 else 2) else 1
theorem Ds(ws:List (List UInt8))(hw:df ws)(G:Mem->Prop):lT prog (.func (.func 44) #[] #[]) (strs ws) (onS isWord) G:=by
 intro x hx M R _ h;obtain⟨w,hm,rfl⟩:=yY hx;simp(disch:=omega);exact gI w M R (hw w hm) h
theorem bG(G:Mem->Prop):Cn prog (.func (.func 213) #[] #[]) true G:=fun M R _ h=>by
 simp(disch:=omega);exact EK M R h
theorem mN(fv v:Value)(ws:List (List UInt8))(b:Bool)(G:Mem->Prop)(M:Mem)(R:VP)(hv:Rd M v (strs ws))(hw:df ws)(hn:ws.length<=1099511627776)(hG:G M)(hst:nd G)
  (hf:ws.all isWord=true->Cn prog fv b G) (h:R (.int .i64 (codeOf ws b)) M):ar prog 174 [fv,v] M R:=by
 refine fnS func174 rfl ntmps174 results174 ?_;simp(disch:=omega);refine lM _ _ (strs ws) (onS isWord) G _ _ hv hG hst (Ds ws hw G) rfl (by rw[ah];exact hn) ?_;rw[xU];unfold codeOf at h;cases hb:ws.all isWord
 ·rw[hb]at h;simp(disch:=omega);exact ad h
 ·rw[hb]at h;simp(disch:=omega);refine hf hb _ _ hG ?_;cases b
  ·simp(disch:=omega);exact ad h
  ·simp(disch:=omega);exact ad h
theorem bq(fv v:Value)(ws:List (List UInt8))(b:Bool)(G:Mem->Prop)(M:Mem)(R:VP)(hv:Rd M v (strs ws))(hw:df ws)(hn:ws.length<=1099511627776)(hG:G M)(hst:nd G)
  (hf:Cn prog fv b G) (h:R (.int .i64 (codeOf ws b)) M):ar prog 174 [fv,v] M R:=mN fv v ws b G M R hv hw hn hG hst (fun _=>hf) h
def cnt(l:List UInt8)(k:Nat):Int:=(l.countP fun u=>u.toNat==97+k)
def counts(l:List UInt8):List Int:=[cnt l 0,cnt l 1,cnt l 2,cnt l 3,cnt l 4]
theorem G6:counts []=[0,0,0,0,0]:=rfl
theorem dT(l:List UInt8):(counts l).length=5:=rfl
theorem dS{u:UInt8}(h:isL u=true):97<=u.toNat/\u.toNat<=101:=by
 unfold isL at h;simp only[Bool.and_eq_true,decide_eq_true_eq]at h;omega
theorem Ow(l:List UInt8)(u:UInt8)(k:Nat):cnt (l++[u]) k=cnt l k+if u.toNat=97+k then 1 else 0:=by
 unfold cnt;rw[countP_append];simp only[countP_cons,countP_nil,beq_iff_eq];split<;>simp
theorem DV(l:List UInt8)(k:Nat):0<=cnt l k/\cnt l k<=l.length:=by
 unfold cnt;have:=countP_le_length (p:=fun u:UInt8=>u.toNat==97+k) (l:=l);omega
theorem np(l:List UInt8)(u:UInt8)(h:isL u=true):counts (l++[u])=(counts l).set (u.toNat-97) (cnt l (u.toNat-97)+1):=by
 have hr:=dS h;unfold counts;simp only[Ow];have:u.toNat=97\/u.toNat=98\/u.toNat=99\/u.toNat=100\/u.toNat=101:=by omega
 rcases this with e|e|e|e|e<;>simp[e]
theorem qv(l:List UInt8){k:Nat}(h:k<5):(counts l)[k]?=some (cnt l k):=by
 match k,h with
 | 0,_=>rfl
 | 1,_=>rfl
 | 2,_=>rfl
 | 3,_=>rfl
 | 4,_=>rfl
theorem az{α:Type}(l:List α){i:Nat}(h:i<l.length):l.take (i+1)=l.take i++[l[i]]:=take_succ_eq_append_getElem h
theorem iS(l:List UInt8)(M:Mem)(R:VP)(hl:l.length<=1099511627776)(hw:l.all isL=true)
  (h:∀ v M',Own M v (ints (counts l)) M'->R v M'):ar prog 327 [str l] M R:=by
 refine fnS func327 rfl ntmps327 results327 ?_;simp(disch:=omega);intro b1 hb1;simp(disch:=omega);intro b2 c hb2 hc;rw[aF]at hb2;obtain⟨h12,hb2⟩:=hb2;simp(disch:=omega);have hb2':(M.put b1 (.cells true (ints (counts l)) 5)) b2=none:=by rw[aF];exact⟨h12,hb2⟩
 refine aQ aR [5,10,11,12,13,14,15,16,17,18,19,20,21] (fun i:Nat=>[(10,.int .i64 i)])
  (fun i M'=>i<=l.length/\M'=(M.put b1 (.cells true (ints (counts (l.take i))) 5)).put b2 (.cells true (av l) c)) (fun i=>l.length-i) 0 (by kernel_rfl) (by simp(disch:=omega)) ⟨by omega,?_⟩ ?_
 ·rfl
 rintro i M' g ⟨hi,rfl⟩
 by_cases hlt:i<l.length
 ·have hx:l[i]?=some l[i]:=getElem?_eq_getElem hlt;have hu:=l[i].toNat_lt;have hL:isL l[i]=true:=List.all_eq_true.1 hw _ (getElem_mem hlt);have hr:=dS hL;have hk:((l[i].toNat:Int)-97).toNat=l[i].toNat-97:=by omega
  have hg:=qv (l.take i) (k:=l[i].toNat-97) (by omega);have hcl:=DV (l.take i) (l[i].toNat-97);have htl:(l.take i).length<=l.length:=by rw[length_take];omega
  simp(disch:=omega);refine gS _ _ _ ?_;simp(disch:=omega)[hk,hg,dT];refine rndS (i+1) ⟨by omega,?_⟩;rw[ints_set,az l hlt,np _ _ hL]
 ·have hi':i=l.length:=by omega
  subst hi';simp(disch:=omega);refine ae ?_ (h _ _ (Own.new (c:=5) hb1 rfl (Nat.le_refl 5)));exact(Sub.refl _).put hb2' _
theorem yf{M:Mem}{b o:Nat}{xs:List Value}(h:M.sub? b o xs.length=some xs){i:Nat}:i<xs.length->M.get? b (o+i)=xs[i]?:=by
 intro hi;rw[wA h (getElem?_eq_getElem hi),getElem?_eq_getElem hi]
theorem aN{M M' N:Mem}{v x:Value}{xs news:List Value}{e bytes s:Nat}{z zz:Value}{d:Option TI}{K:VP}(h:Own M v xs M')(hs:Sub M' N)(hsrc:dp N x=some news)(hok:vA d=true)(hz:bF z=true)(hb:1<=bytes/\bytes<=32)
  (hfl:∀ v∈news,bF v=true) (hbd:(xs.length+news.length)*bytes<=70368744177664) (hk:∀ v' M'' N'',Own M v' (xs++news) M''->Sub M'' N''->K v' N'') :
  AZ (some ⟨.slc e 1 bytes z,s,zz⟩) d v x K N:=by
 rcases h with ⟨rfl,rfl,rfl⟩|⟨b,c,rfl,hM,hc,rfl⟩
 ·rw[MH];refine⟨⟨hok,hz,hb⟩,?_⟩;rw[hsrc];cases news with
  | nil=>rw[Me];exact hk _ _ _ (Own.nil _) hs
  | cons y ys=>
   rw[Ig];refine⟨by simpa using hbd,?_⟩;intro b c hN hc;have hM:M' b=none:=by
    cases hMb:M' b with
    | none=>rfl
    | some B=>rw[hs _ _ hMb]at hN;cases hN
   exact hk _ _ _ (Own.new hM rfl hc) (hs.both b _)
 ·have hN:=hs b _ (ag _ _ _);rw[Pv];refine⟨⟨hok,hz,hb⟩,?_⟩;rw[hN,hsrc,K5];refine⟨⟨rfl,rfl,hbd,hfl⟩,?_⟩;intro b' c' hN' hc';have hs':Sub M (N.del b):=by
   intro i B hi;have hne:i≠b:=by rintro rfl;rw[hM]at hi;cases hi
   simp only[Mem.del,if_neg hne];exact hs _ _ ((Sub.refl M).put hM _ _ _ hi)
  have hM':M b'=none:=by
   cases hMb:M b' with
   | none=>rfl
   | some B=>rw[hs' _ _ hMb]at hN';cases hN'
  exact hk _ _ _ (Own.new hM' (by rw[length_append]) hc') (hs'.both b' _)
theorem ba(l:List UInt8)(M:Mem)(R:VP)(hl:l.length<=1099511627776)(h:R (.bool (isWord l)) M):ar prog 47 [str l] M R:=by
 refine fnS func47 rfl ntmps47 results47 ?_;simp(disch:=omega);refine lupS [2,3,4,5,6,7,8,9,10,11,12,13,14,15,16,17,18,19] (fun i:Nat=>[(3,.int .i64 i)]) (fun i M'=>M'=M/\i<=l.length/\∀ u∈l.take i,isL u=true) (fun i=>l.length-i) 0 ⟨rfl,by omega,by simp⟩ ?_
 rintro i M' g ⟨rfl,hi,hp⟩
 by_cases hlt:i<l.length
 ·have hx:l[i]?=some l[i]:=getElem?_eq_getElem hlt;have hu:=l[i].toNat_lt;have bad:isL l[i]=false->isWord l=false:=by
   intro hb;have:l.all isL=false:=List.all_eq_false.2 ⟨_,getElem_mem hlt,by rw[hb];simp⟩;unfold isWord;rw[this,Bool.and_false]
  by_cases h1:(l[i].toNat:Int)<97
  ·have hb:isL l[i]=false:=by unfold isL;rw[decide_eq_false (by omega:¬ 97<=l[i].toNat)];rfl
   rw[bad hb]at h;simp(disch:=omega)[h1];exact ad h
  ·by_cases h2:101<(l[i].toNat:Int)
   ·have hb:isL l[i]=false:=by unfold isL;rw[decide_eq_false (by omega:¬ l[i].toNat<102),Bool.and_false]
    rw[bad hb]at h;simp(disch:=omega)[h1,h2];exact ad h
   ·have hb:isL l[i]=true:=by unfold isL;rw[decide_eq_true (by omega:97<=l[i].toNat),decide_eq_true (by omega:l[i].toNat<102)];rfl
    simp(disch:=omega)[h1,h2];refine rndS (i+1) ⟨rfl,by omega,?_⟩;rw[az l hlt];intro u hu;rcases List.mem_append.1 hu with hu|hu
    ·exact hp u hu
    ·rw[List.mem_singleton.1 hu];exact hb
 ·have hi':i=l.length:=by omega
  subst hi';rw[take_length]at hp;have e:isWord l=decide (l.length<=60):=by unfold isWord;rw[List.all_eq_true.2 hp,Bool.and_true]
  rw[e]at h;by_cases h6:l.length<=60
  ·have h6':(l.length:Int)<=60:=by omega
   rw[decide_eq_true h6]at h;simp(disch:=omega)[h6'];exact ad h
  ·have h6':¬(l.length:Int)<=60:=by omega
   rw[decide_eq_false h6]at h;simp(disch:=omega)[h6'];exact ad h
theorem ji(l:List UInt8)(i:Nat)(u:UInt8)(M:Mem)(R:VP)(hl:l.length<=1099511627776)(hx:l[i]?=some u)(h:R (.int .i64 (u.toNat-97)) M):ar prog 178 [str l,.int .i64 i] M R:=by
 obtain⟨hi,rfl⟩:=List.getElem?_eq_some_iff.1 hx;have hu:=l[i].toNat_lt;refine fnS func178 rfl ntmps178 results178 ?_;simp(disch:=omega);exact ad h
theorem au{l:List UInt8}(h:isWord l=true):l.length<=60:=by
 unfold isWord at h;simp only[Bool.and_eq_true,decide_eq_true_eq]at h;exact h.1
theorem aV{l:List UInt8}(h:isWord l=true):l.all isL=true:=by
 unfold isWord at h;simp only[Bool.and_eq_true,decide_eq_true_eq]at h;exact h.2
def Lst(c:Int)(xs:List Value)(M:Mem)(R:VP):Prop:=∀ v M',Own M v xs M'->R (.tuple #[v,.int .i64 c]) M'
def aJ(l:List UInt8):Int:=if isWord l then 0 else 1
theorem aj{M:Mem}{b tot:Nat}{w:Bool}{xs:List Value}(h:M b=some (.cells w xs tot))(i:Nat):M.get? b i=xs[i]?:=by simp[Mem.get?,h]
theorem aq{M:Mem}{b tot:Nat}{w:Bool}{xs:List Value}(h:M b=some (.cells w xs tot))(o n:Nat):M.sub? b o n=lO (o+n<=xs.length) ((xs.drop o).take n):=by
 simp only[Mem.sub?,lO,h];by_cases hq:o+n<=xs.length
 ·rw[if_pos hq,if_pos hq]
 ·rw[if_neg hq,if_neg hq]
theorem bM{M N:Mem}{b:Nat}(hs:Sub M N)(h:N b=none):M b=none:=by
 cases hM:M b with
 | none=>rfl
 | some B=>rw[hs _ _ hM]at h;cases h
theorem Sub.putN{M N:Mem}{b:Nat}(h:Sub M N)(hb:N b=none)(B:Blk):Sub M (N.put b B):=h.trans ((Sub.refl N).put hb B)
theorem Own.base{M N M':Mem}{v:Value}{xs:List Value}(h:Own N v xs M')(hs:Sub M N):∃ M'',Own M v xs M''/\Sub M'' M':=by
 rcases h with ⟨rfl,rfl,rfl⟩|⟨b,c,rfl,hN,hc,rfl⟩
 ·exact⟨M,Own.nil _,hs⟩
 ·have hM:M b=none:=by
   cases hMb:M b with
   | none=>rfl
   | some B=>rw[hs _ _ hMb]at hN;cases hN
  exact⟨_,Own.new hM rfl hc,hs.both b _⟩
theorem cV(l:List UInt8)(b:Bool):codeOf [l] b=if isWord l then (if b then 0 else 2) else 1:=by simp[codeOf]
theorem fM{l:List UInt8}(h:l.length<=1099511627776):df [l]:=by intro w hw;rw[List.mem_singleton.1 hw];exact h
theorem Rd.opened{M:Mem}{v:Value}{xs:List Value}(h:Rd M v xs):∃ a c,v=.slice a xs.length c/\(xs.length=0\/∃ b o,a=some ⟨b,o,none⟩/\∀ i,i<xs.length->M.get? b (o+i)=xs[i]?):=by
 rcases h with ⟨a0,c0,rfl,h2⟩|⟨b,o,c,rfl,h2,h3⟩
 ·exact⟨a0,c0,by rw[h2];rfl,.inl (by rw[h2];rfl)⟩
 ·exact⟨_,c,rfl,.inr ⟨b,o,rfl,fun i hi=>yf h2 hi⟩⟩
theorem bZ(n lo hi:Int)(M:Mem)(R:VP)(h:R (.bool (decide (lo<=n/\n<=hi))) M):ar prog 112 [.int .i64 n,.int .i64 lo,.int .i64 hi] M R:=by
 refine fnS func112 rfl ntmps112 results112 ?_;by_cases h1:lo<=n
 ·simp(disch:=omega)[h1];exact ad (by simpa[h1] using h)
 ·simp(disch:=omega)[h1];exact ad (by simpa[h1] using h)
theorem gu(l:List UInt8)(M:Mem)(R:VP)(hl:l.length<=1099511627776)(hw:l.all isL=true)
  (h:∀ v M',Own M v (ints (counts l)) M'->R v M'):ar prog 362 [str l] M R:=by
 refine fnS func362 rfl ntmps362 results362 ?_;simp(disch:=omega);intro b1 hb1;simp(disch:=omega);refine aQ aR [4,6,7,8,9,10,11,12,13,14,15,16,17,18,19] (fun i:Nat=>[(4,.int .i64 i)])
  (fun i M'=>i<=l.length/\M'=M.put b1 (.cells true (ints (counts (l.take i))) 5)) (fun i=>l.length-i) 0 (by kernel_rfl) (by simp(disch:=omega)) ⟨by omega,?_⟩ ?_
 ·rfl
 rintro i M' g ⟨hi,rfl⟩
 by_cases hlt:i<l.length
 ·have hx:l[i]?=some l[i]:=getElem?_eq_getElem hlt;have hu:=l[i].toNat_lt;have hL:isL l[i]=true:=List.all_eq_true.1 hw _ (getElem_mem hlt);have hr:=dS hL;have hk:((l[i].toNat:Int)-97).toNat=l[i].toNat-97:=by omega
  have hg:=qv (l.take i) (k:=l[i].toNat-97) (by omega);have hcl:=DV (l.take i) (l[i].toNat-97);have htl:(l.take i).length<=l.length:=by rw[length_take];omega
  simp(disch:=omega);refine ji l i _ _ _ hl hx ?_;simp(disch:=omega)[hk,hg,dT];refine rndS (i+1) ⟨by omega,?_⟩;rw[ints_set,az l hlt,np _ _ hL]
 ·have hi':i=l.length:=by omega
  subst hi';simp(disch:=omega);exact ad (h _ _ (Own.new (c:=5) hb1 rfl (Nat.le_refl 5)))
def aB(vs:List Nat):List Value:=vs.map fun (n:Nat)=>Value.int .i64 n
theorem aA(vs:List Nat):(aB vs).length=vs.length:=by simp[aB]
theorem bS{vs:List Nat}{i:Nat}:(aB vs)[i]?=(vs[i]?).map fun (n:Nat)=>Value.int .i64 n:=by simp[aB]
theorem Em(vs:List Nat)(i:Nat)(h:i<vs.length):(vs.take i).sum+vs[i]<=vs.sum:=by
 have h1:=sum_append (l₁:=vs.take i) (l₂:=vs.drop i);rw[take_append_drop,drop_eq_getElem_cons h,sum_cons]at h1;omega
theorem ve(vs:List Nat)(i:Nat):(vs.take i).sum<=vs.sum:=by
 have h1:=sum_append (l₁:=vs.take i) (l₂:=vs.drop i);rw[take_append_drop]at h1;omega
def rH(l:List UInt8):List Nat:=(range 5).map fun k=>l.countP fun u=>u.toNat==97+k
theorem EH(l:List UInt8):ints (counts l)=aB (rH l):=rfl
def aD(v:Value)(c:Int):Value:=.tuple #[v,.int .i64 c]
theorem qP(l:List UInt8)(M:Mem)(R:VP)(hl:l.length<=1099511627776)(h:Lst (aJ l) (ints (if isWord l then counts l else [])) M R):ar prog 233 [str l] M R:=by
 refine fnS func233 rfl ntmps233 results233 ?_;simp(disch:=omega);intro b1 hb1;simp(disch:=omega);have hs1:Sub M (M.put b1 (.cells true [str l] 1)):=(Sub.refl _).put hb1 _;refine bq _ _ [l] true (fun _=>True) _ _ (Rd.new rfl (Nat.le_refl 1)) (fM hl) (by simp) trivial bT (bG _) ?_;rw[cV];cases hw:isWord l
 ·simp(disch:=omega);unfold aJ at h;rw[hw]at h;have:=h _ _ (Own.nil M);exact ae hs1 this
 ·unfold aJ at h;rw[hw]at h;simp(disch:=omega);refine iS l _ _ hl (aV hw) ?_;intro v1 M1 o1;simp(disch:=omega);obtain⟨M'',ho',hs'⟩:=o1.base hs1;exact ae hs' (h v1 M'' ho')
theorem rJ(l:List UInt8)(M:Mem)(R:VP)(hl:l.length<=1099511627776)(h:Lst (aJ l) (ints (if isWord l then counts l else [])) M R):ar prog 283 [str l] M R:=by
 refine fnS func283 rfl ntmps283 results283 ?_;simp(disch:=omega);refine ba l _ _ hl ?_;unfold aJ at h;cases hw:isWord l
 ·rw[hw]at h;simp(disch:=omega);exact ad (h _ _ (Own.nil M))
 ·rw[hw]at h;simp(disch:=omega);refine gu l _ _ hl (aV hw) ?_;intro v1 M1 o1;simp(disch:=omega);exact ad (h v1 M1 o1)
end Go.Proofs.YtapimhjbilkfpaaGreatDoor
namespace Go.Proofs.YtapimhjbilkfpaaGreatDoor
open Go Go.ChangeShapes Go.Proofs.Tryz Go.RowKit List
theorem Nr{P:Program}{f:FuncId}{args:List Value}{W:World}(M:Mem)(hM:Rep M W)(ho:∀ b,¬ owns M b)(h:ar P f args M (fun v _=>v=.bool true)):Calls P f args.toArray W (fun e W'=>e=.returned (.bool true)/\Below W.heap.size W W'):=by
 refine(h.2 W hM).mono ?_
 rintro e W' ⟨v,M',rfl,_,hx,rfl⟩
 exact⟨rfl,hx.os,hx.tape,hx.output,hx.size,fun k hk=>hx.block k hk (ho k)⟩
def reads(W:World):Mem:=fun b=>match W.heap[b]? with
 | some (.cells c _ _)=>some (.cells false c.toList c.size)
 | _=>none
theorem KW(W:World):Rep (reads W) W:=by
 intro b B hB;unfold reads at hB;split at hB
 ·rename_i c e fr hh;injection hB with hB
  subst hB;exact⟨c,e,fr,hh,rfl,⟨[],by simp⟩,fun h=>by cases h⟩
 ·cases hB
theorem K9(W:World)(b:Nat):¬ owns (reads W) b:=by
 rintro⟨B,hB,ho⟩
 unfold reads at hB;split at hB
 ·injection hB with hB
  subst hB;cases ho
 ·cases hB
theorem LC{P:Program}{f:FuncId}{args:List Value}{W:World}(h:ar P f args (reads W) (fun v _=>v=.bool true)):Calls P f args.toArray W (fun e W'=>e=.returned (.bool true)/\Below W.heap.size W W'):=
 Nr (reads W) (KW W) (K9 W) h
end Go.Proofs.YtapimhjbilkfpaaGreatDoor
