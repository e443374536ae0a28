/- Lemmas for FnExactDeskAfter, part 5 of 33. -/
import Derived.Test.YtapimhjbilkfpaaGreatDoorZ03
import Derived.Below
import Derived.SliceStrings
import Derived.ChangeSame
import Derived.WideShapes
import Derived.Deep.Strs
set_option linter.unusedVariables false
set_option linter.unusedSimpArgs false
namespace Go.Proofs.YtapimhjbilkfpaaGreatDoor
open Go Go.Proofs.Tryz List
def Rd(M:Mem)(v:Value)(xs:List Value):Prop:=
 (∃ a c,v=.slice a 0 c/\xs=[])\/∃ b o c,v=.slice (some ⟨b,o,none⟩) xs.length c/\M.sub? b o xs.length=some xs/\xs.length<=c
theorem sO{M:Mem}{b o:Nat}{xs:List Value}(h:M.sub? b o xs.length=some xs){i:Nat}{x:Value}(hx:xs[i]?=some x):M.get? b (o+i)=some x:=by
 unfold Mem.sub? at h;unfold Mem.get?;split at h
 ·rename_i own ys tot hb;split at h
  ·rename_i hle;injection h with h
   have hi:i<xs.length:=by
    rcases Nat.lt_or_ge i xs.length with h|h
    ·exact h
    ·rw[getElem?_eq_none h]at hx;cases hx
   rw[<-h,getElem?_take_of_lt (by rw[<-h]at hi ⊢;rw[lTa]at hi ⊢;omega),getElem?_drop]at hx
   first|exact hx|(simp only[hb];exact hx)
  ·cases h
 ·cases h
theorem Rd.sub{M N:Mem}{v:Value}{xs:List Value}(h:Rd M v xs)(hs:Sub M N):Rd N v xs:=by
 rcases h with h|⟨b,o,c,h1,h2,h3⟩
 ·exact .inl h
 ·refine .inr ⟨b,o,c,h1,?_,h3⟩;unfold Mem.sub? at *;split at h2
  ·rename_i hb;rw[hs _ _ hb];exact h2
  ·cases h2
theorem Rd.put{M:Mem}{v:Value}{xs:List Value}(h:Rd M v xs){b:Nat}(hb:M b=none)(B:Blk):Rd (M.put b B) v xs:=h.sub ((Sub.refl M).put hb B)
theorem Rd.new{M:Mem}{b c n:Nat}{w:Bool}{xs:List Value}(hn:xs.length=n)(hc:n<=c):Rd (M.put b (.cells w xs c)) (.slice (some ⟨b,0,none⟩) n c) xs:=by
 subst hn;exact .inr ⟨b,0,c,rfl,by simp[Mem.sub?,ag],hc⟩
def Own(M:Mem)(v:Value)(xs:List Value)(M':Mem):Prop:=
 (v=.slice none 0 0/\xs=[]/\M'=M)\/∃ b c,v=.slice (some ⟨b,0,none⟩) xs.length c/\M b=none/\xs.length<=c/\M'=M.put b (.cells true xs c)
theorem Own.nil(M:Mem):Own M (.slice none 0 0) [] M:=.inl ⟨rfl,rfl,rfl⟩
theorem Own.new{M:Mem}{b c n:Nat}{xs:List Value}(hb:M b=none)(hn:xs.length=n)(hc:n<=c):Own M (.slice (some ⟨b,0,none⟩) n c) xs (M.put b (.cells true xs c)):=by
 subst hn;exact .inr ⟨b,c,rfl,hb,hc,rfl⟩
theorem Own.sub{M M':Mem}{v:Value}{xs:List Value}(h:Own M v xs M'):Sub M M':=by
 rcases h with ⟨_,_,rfl⟩|⟨b,c,_,hb,_,rfl⟩
 ·exact Sub.refl _
 ·exact(Sub.refl M).put hb _
theorem Own.rd{M M':Mem}{v:Value}{xs:List Value}(h:Own M v xs M'):Rd M' v xs:=by
 rcases h with ⟨h1,h2,rfl⟩|⟨b,c,rfl,hb,hc,rfl⟩
 ·exact .inl ⟨none,0,h1,h2⟩
 ·exact Rd.new rfl hc
def ints(zs:List Int):List Value:=zs.map (Value.int .i64)
def strs(ws:List B8):List Value:=ws.map str
@[simp] theorem az(zs:List Int):(ints zs).length=zs.length:=by simp[ints]
@[simp] theorem ah(ws:List B8):(strs ws).length=ws.length:=by simp[strs]
@[simp] theorem Wh:strs []=[]:=nr rfl
theorem MU(z:B8)(zs:List B8):strs (z::zs)=str z::strs zs:=rfl
@[simp] theorem cD{zs:List Int}{i:Nat}:(ints zs)[i]?=(zs[i]?).map (Value.int .i64):=by simp[ints]
@[simp] theorem ba{zs:List B8}{i:Nat}:(strs zs)[i]?=(zs[i]?).map str:=by simp[strs]
@[simp] theorem lF{l:B8}{i:Nat}:(av l)[i]?=(l[i]?).map fun u=>Value.int .u8 u.toNat:=by simp[av]
theorem ints_set(zs:List Int)(i:Nat)(z:Int):(ints zs).set i (.int .i64 z)=ints (zs.set i z):=by simp[ints,map_set]
theorem ix(zs:List B8)(i:Nat)(z:B8):(strs zs).set i (str z)=strs (zs.set i z):=by simp[strs,map_set]
theorem FD(a b:List Int):ints a++ints b=ints (a++b):=by simp[ints]
theorem FN(a b:List B8):strs a++strs b=strs (a++b):=by simp[strs]
theorem cv(a:List Int)(z:Int):ints a++[.int .i64 z]=ints (a++[z]):=by simp[ints]
theorem cK(a:List B8)(z:B8):strs a++[str z]=strs (a++[z]):=by simp[strs]
theorem HF(n:Nat)(z:Int):replicate n (Value.int .i64 z)=ints (replicate n z):=by simp[ints]
theorem Cn(zs:List Int):∀ v∈ints zs,bH v=true:=by intro v hv;obtain⟨_,_,rfl⟩:=List.mem_map.1 hv;rfl
theorem dB(zs:List B8):∀ v∈strs zs,bH v=true:=by intro v hv;obtain⟨_,_,rfl⟩:=List.mem_map.1 hv;rfl
def ng(G:Mem->Prop):Prop:=∀ M b B,G M->M b=none->G (M.put b B)
theorem bV:ng fun _=>True:=fun _ _ _ _ _=>trivial
def mF(P:Program)(fv:Value)(xs:List Value)(p:Value->Bool)(G:Mem->Prop):Prop:=
 ∀ x∈xs,∀ M R,G M->R (.bool (p x)) M->fq P fv [x] R M
def Dt(P:Program)(fv:Value)(b:Bool)(G:Mem->Prop):Prop:=∀ M R,G M->R (.bool b) M->fq P fv [] R M
theorem bF(n lo hi:Int)(M:Mem)(R:VP)(h:R (.bool (decide (lo<=n/\n<=hi))) M):ar prog 84 [.int .i64 n,.int .i64 lo,.int .i64 hi] M R:=by
 refine fnS func84 rfl ntmps84 results84 ?_;by_cases h1:lo<=n
 ·simp(disch:=omega)[h1];exact ad (by simpa[h1] using h)
 ·simp(disch:=omega)[h1];exact ad (by simpa[h1] using h)
theorem pR(n:Int)(M:Mem)(R:VP)(h:R (.bool (decide (0<=n/\n<=60))) M):ar prog 216 [.int .i64 n] M R:=by
 refine fnS func216 rfl ntmps216 results216 ?_;simp(disch:=omega);refine bF _ _ _ _ _ ?_;simp(disch:=omega);exact ad (by simpa using h)
theorem bY(l:B8)(M:Mem)(R:VP)(hl:l.length<=1099511627776)(h:R (.int .i64 l.length) M):ar prog 85 [str l] M R:=by
 refine fnS func85 rfl ntmps85 results85 ?_;simp(disch:=omega);exact ad h
theorem ia(u:UInt8)(M:Mem)(R:VP)(h:R (.int .i64 (u.toNat-97)) M):ar prog 142 [.int .u8 u.toNat] M R:=by
 have hu:=u.toNat_lt;refine fnS func142 rfl ntmps142 results142 ?_;simp(disch:=omega);exact ad h
theorem G3(M:Mem)(R:VP)(h:R (.bool true) M):ar prog 213 [] M R:=by
 refine fnS func213 rfl ntmps213 results213 ?_;simp(disch:=omega);exact ad h
theorem xd(v fv:Value)(xs:List Value)(p:Value->Bool)(G:Mem->Prop)(M:Mem)(R:VP)(hv:Rd M v xs)(hG:G M)(hf:mF prog fv xs p G)(hl:xs.length<=1099511627776)
  (h:∀ r:Int,decide (0<=r)=xs.any p->-1<=r->r<=xs.length->R (.int .i64 r) M):ar prog 206 [v,fv] M R:=by
 refine fnS func206 rfl ntmps206 results206 ?_;rcases hv with ⟨a0,c0,rfl,rfl⟩|⟨b,o,c,rfl,hs,hc⟩
 ·simp(disch:=omega);refine lupS (rlA [4,5] 8 11) (fun i:Nat=>[(8,.int .i64 i)]) (fun i M'=>M'=M/\i=0) (fun i=>0) 0 ⟨rfl,rfl⟩ ?_
  rintro i M' g ⟨rfl,rfl⟩
  simp(disch:=omega);exact ad (h (-1) (by simp) (by omega) (by omega))
 ·simp(disch:=omega);refine lupS (rlA [4,5] 8 11) (fun i:Nat=>[(8,.int .i64 i)]) (fun i M'=>M'=M/\i<=xs.length/\∀ x∈xs.take i,p x=false) (fun i=>xs.length-i) 0 ⟨rfl,by omega,by simp⟩ ?_
  rintro i M' g ⟨rfl,hi,hp⟩
  by_cases hlt:i<xs.length
  ·have hx:xs[i]?=some xs[i]:=gEl hlt;have hget:=sO hs hx;simp(disch:=omega)[hget];refine hf _ (getElem_mem hlt) _ _ hG ?_;cases hpx:p xs[i]
   ·simp(disch:=omega);refine rndS (i+1) ⟨rfl,by omega,?_⟩;rw[take_succ_eq_append_getElem hlt];intro x hx';rcases List.mem_append.1 hx' with h1|h1
    ·exact hp x h1
    ·rw[List.mem_singleton.1 h1];exact hpx
   ·simp(disch:=omega);refine ad (h i ?_ (by omega) (by omega));have:xs.any p=true:=List.any_eq_true.2 ⟨_,getElem_mem hlt,hpx⟩;rw[this];simp
  ·have hi':i=xs.length:=by omega
   subst hi';simp(disch:=omega);refine ad (h (-1) ?_ (by omega) (by omega));have:xs.any p=false:=by
    rw[any_eq_false];intro x hx';rw[hp x (by rwa[take_length])];simp
   rw[this];rfl
theorem xa(v fv:Value)(xs:List Value)(p:Value->Bool)(G:Mem->Prop)(M:Mem)(R:VP)(hv:Rd M v xs)(hG:G M)(hf:mF prog fv xs p G)(hl:xs.length<=1099511627776)
  (h:∀ r:Int,decide (0<=r)=xs.any p->-1<=r->r<=xs.length->R (.int .i64 r) M):ar prog 207 [v,fv] M R:=by
 refine fnS func207 rfl ntmps207 results207 ?_;rcases hv with ⟨a0,c0,rfl,rfl⟩|⟨b,o,c,rfl,hs,hc⟩
 ·simp(disch:=omega);refine lupS (rlA [4,5] 8 11) (fun i:Nat=>[(8,.int .i64 i)]) (fun i M'=>M'=M/\i=0) (fun i=>0) 0 ⟨rfl,rfl⟩ ?_
  rintro i M' g ⟨rfl,rfl⟩
  simp(disch:=omega);exact ad (h (-1) (by simp) (by omega) (by omega))
 ·simp(disch:=omega);refine lupS (rlA [4,5] 8 11) (fun i:Nat=>[(8,.int .i64 i)]) (fun i M'=>M'=M/\i<=xs.length/\∀ x∈xs.take i,p x=false) (fun i=>xs.length-i) 0 ⟨rfl,by omega,by simp⟩ ?_
  rintro i M' g ⟨rfl,hi,hp⟩
  by_cases hlt:i<xs.length
  ·have hx:xs[i]?=some xs[i]:=gEl hlt;have hget:=sO hs hx;simp(disch:=omega)[hget];refine hf _ (getElem_mem hlt) _ _ hG ?_;cases hpx:p xs[i]
   ·simp(disch:=omega);refine rndS (i+1) ⟨rfl,by omega,?_⟩;rw[take_succ_eq_append_getElem hlt];intro x hx';rcases List.mem_append.1 hx' with h1|h1
    ·exact hp x h1
    ·rw[List.mem_singleton.1 h1];exact hpx
   ·simp(disch:=omega);refine ad (h i ?_ (by omega) (by omega));have:xs.any p=true:=List.any_eq_true.2 ⟨_,getElem_mem hlt,hpx⟩;rw[this];simp
  ·have hi':i=xs.length:=by omega
   subst hi';simp(disch:=omega);refine ad (h (-1) ?_ (by omega) (by omega));have:xs.any p=false:=by
    rw[any_eq_false];intro x hx';rw[hp x (by rwa[take_length])];simp
   rw[this];rfl
theorem wL(v fv:Value)(xs:List Value)(p:Value->Bool)(G:Mem->Prop)(M:Mem)(R:VP)(hv:Rd M v xs)(hG:G M)(hf:mF prog fv xs p G)(hl:xs.length<=1099511627776)
  (h:∀ r:Int,decide (0<=r)=xs.any p->-1<=r->r<=xs.length->R (.int .i64 r) M):ar prog 448 [v,fv] M R:=by
 refine fnS func448 rfl ntmps448 results448 ?_;rcases hv with ⟨a0,c0,rfl,rfl⟩|⟨b,o,c,rfl,hs,hc⟩
 ·simp(disch:=omega);refine lupS (rlA [4,5] 8 11) (fun i:Nat=>[(8,.int .i64 i)]) (fun i M'=>M'=M/\i=0) (fun i=>0) 0 ⟨rfl,rfl⟩ ?_
  rintro i M' g ⟨rfl,rfl⟩
  simp(disch:=omega);exact ad (h (-1) (by simp) (by omega) (by omega))
 ·simp(disch:=omega);refine lupS (rlA [4,5] 8 11) (fun i:Nat=>[(8,.int .i64 i)]) (fun i M'=>M'=M/\i<=xs.length/\∀ x∈xs.take i,p x=false) (fun i=>xs.length-i) 0 ⟨rfl,by omega,by simp⟩ ?_
  rintro i M' g ⟨rfl,hi,hp⟩
  by_cases hlt:i<xs.length
  ·have hx:xs[i]?=some xs[i]:=gEl hlt;have hget:=sO hs hx;simp(disch:=omega)[hget];refine hf _ (getElem_mem hlt) _ _ hG ?_;cases hpx:p xs[i]
   ·simp(disch:=omega);refine rndS (i+1) ⟨rfl,by omega,?_⟩;rw[take_succ_eq_append_getElem hlt];intro x hx';rcases List.mem_append.1 hx' with h1|h1
    ·exact hp x h1
    ·rw[List.mem_singleton.1 h1];exact hpx
   ·simp(disch:=omega);refine ad (h i ?_ (by omega) (by omega));have:xs.any p=true:=List.any_eq_true.2 ⟨_,getElem_mem hlt,hpx⟩;rw[this];simp
  ·have hi':i=xs.length:=by omega
   subst hi';simp(disch:=omega);refine ad (h (-1) ?_ (by omega) (by omega));have:xs.any p=false:=by
    rw[any_eq_false];intro x hx';rw[hp x (by rwa[take_length])];simp
   rw[this];rfl
theorem qX(v fv:Value)(xs:List Value)(p:Value->Bool)(G:Mem->Prop)(M:Mem)(R:VP)(hv:Rd M v xs)(hG:G M)(hf:mF prog fv xs p G)(hl:xs.length<=1099511627776)
  (h:R (.bool (xs.any p)) M):ar prog 137 [v,fv] M R:=by
 refine fnS func137 rfl ntmps137 results137 ?_;simp(disch:=omega);refine xd v fv xs p G M _ hv hG hf hl fun r h1 h2 h3=>?_;simp(disch:=omega);rw[h1];exact ad h
theorem jf(v fv:Value)(xs:List Value)(p:Value->Bool)(G:Mem->Prop)(M:Mem)(R:VP)(hv:Rd M v xs)(hG:G M)(hf:mF prog fv xs p G)(hl:xs.length<=1099511627776)
  (h:R (.bool (xs.any p)) M):ar prog 139 [v,fv] M R:=by
 refine fnS func139 rfl ntmps139 results139 ?_;simp(disch:=omega);refine xa v fv xs p G M _ hv hG hf hl fun r h1 h2 h3=>?_;simp(disch:=omega);rw[h1];exact ad h
theorem qG(v fv:Value)(xs:List Value)(p:Value->Bool)(G:Mem->Prop)(M:Mem)(R:VP)(hv:Rd M v xs)(hG:G M)(hf:mF prog fv xs p G)(hl:xs.length<=1099511627776)
  (h:R (.bool (xs.any p)) M):ar prog 439 [v,fv] M R:=by
 refine fnS func439 rfl ntmps439 results439 ?_;simp(disch:=omega);refine wL v fv xs p G M _ hv hG hf hl fun r h1 h2 h3=>?_;simp(disch:=omega);rw[h1];exact ad h
theorem l6(v fv:Value)(xs:List Value)(p:Value->Bool)(G:Mem->Prop)(M:Mem)(R:VP)(hv:Rd M v xs)(hG:G M)(hst:ng G)(hf:mF prog fv xs p G)(hff:bH fv=true)(hl:xs.length<=1099511627776)
  (h:R (.bool (xs.all p)) M):ar prog 82 [v,fv] M R:=by
 refine fnS func82 rfl ntmps82 results82 ?_;simp(disch:=omega);intro b hb;simp(disch:=omega);refine qX v _ xs (fun x=>!p x) (fun M'=>G M'/\M'.get? b 0=some fv) _ _ (hv.put hb _) ⟨hst _ _ _ hG hb,by simp(disch:=omega)⟩ ?_ hl ?_
 ·rintro x hx M' R' ⟨h1,h2⟩ h3
  simp(disch:=omega);refine fnS func138 rfl ntmps138 results138 ?_;simp(disch:=omega)[h2];refine hf x hx _ _ h1 ?_;simp(disch:=omega);exact ad h3
 ·simp(disch:=omega);refine ae ((Sub.refl M).put hb _) ?_;have e:(!xs.any fun x=>!p x)=xs.all p:=by rw[all_eq_not_any_not]
  rw[e];exact h
theorem lL(v fv:Value)(xs:List Value)(p:Value->Bool)(G:Mem->Prop)(M:Mem)(R:VP)(hv:Rd M v xs)(hG:G M)(hst:ng G)(hf:mF prog fv xs p G)(hff:bH fv=true)(hl:xs.length<=1099511627776)
  (h:R (.bool (xs.all p)) M):ar prog 89 [v,fv] M R:=by
 refine fnS func89 rfl ntmps89 results89 ?_;simp(disch:=omega);intro b hb;simp(disch:=omega);refine jf v _ xs (fun x=>!p x) (fun M'=>G M'/\M'.get? b 0=some fv) _ _ (hv.put hb _) ⟨hst _ _ _ hG hb,by simp(disch:=omega)⟩ ?_ hl ?_
 ·rintro x hx M' R' ⟨h1,h2⟩ h3
  simp(disch:=omega);refine fnS func140 rfl ntmps140 results140 ?_;simp(disch:=omega)[h2];refine hf x hx _ _ h1 ?_;simp(disch:=omega);exact ad h3
 ·simp(disch:=omega);refine ae ((Sub.refl M).put hb _) ?_;have e:(!xs.any fun x=>!p x)=xs.all p:=by rw[all_eq_not_any_not]
  rw[e];exact h
theorem El(v fv:Value)(xs:List Value)(p:Value->Bool)(G:Mem->Prop)(M:Mem)(R:VP)(hv:Rd M v xs)(hG:G M)(hst:ng G)(hf:mF prog fv xs p G)(hff:bH fv=true)(hl:xs.length<=1099511627776)
  (h:R (.bool (xs.all p)) M):ar prog 424 [v,fv] M R:=by
 refine fnS func424 rfl ntmps424 results424 ?_;simp(disch:=omega);intro b hb;simp(disch:=omega);refine qG v _ xs (fun x=>!p x) (fun M'=>G M'/\M'.get? b 0=some fv) _ _ (hv.put hb _) ⟨hst _ _ _ hG hb,by simp(disch:=omega)⟩ ?_ hl ?_
 ·rintro x hx M' R' ⟨h1,h2⟩ h3
  simp(disch:=omega);refine fnS func440 rfl ntmps440 results440 ?_;simp(disch:=omega)[h2];refine hf x hx _ _ h1 ?_;simp(disch:=omega);exact ad h3
 ·simp(disch:=omega);refine ae ((Sub.refl M).put hb _) ?_;have e:(!xs.any fun x=>!p x)=xs.all p:=by rw[all_eq_not_any_not]
  rw[e];exact h
def isL(u:UInt8):Bool:=decide (97<=u.toNat)&&decide (u.toNat<102)
def isWord(l:B8):Bool:=decide (l.length<=60)&&l.all isL
def onB(q:UInt8->Bool):Value->Bool
 | .int _ n=>q (UInt8.ofNat n.toNat)
 | _=>false
theorem r8(q:UInt8->Bool)(u:UInt8):onB q (.int .u8 u.toNat)=q u:=by simp[onB]
theorem uq(q:UInt8->Bool)(l:B8):(av l).all (onB q)=l.all q:=by
 induction l with
 | nil=>rfl
 | cons u l ih=>simp only[av,map_cons,all_cons,r8]at *;rw[ih]
theorem vg{l:B8}{x:Value}(h:x∈av l):∃ u∈l,x=.int .u8 u.toNat:=by
 obtain⟨u,h1,h2⟩:=List.mem_map.1 h;exact⟨u,h1,h2.symm⟩
theorem Bz(l:B8):mF prog (.func (.func 83) #[] #[]) (av l) (onB isL) (fun _=>True):=by
 intro x hx M R _ h;obtain⟨u,_,rfl⟩:=vg hx;rw[r8]at h;simp(disch:=omega);refine fnS func83 rfl ntmps83 results83 ?_;by_cases h1:97<=(u.toNat:Int)
 ·have e:isL u=decide ((u.toNat:Int)<102):=by unfold isL;rw[decide_eq_true (by omega:97<=u.toNat)];simp only[Bool.true_and,decide_eq_decide];omega
  rw[e]at h;simp(disch:=omega)[h1];exact ad h
 ·have e:isL u=false:=by unfold isL;rw[decide_eq_false (by omega:¬ 97<=u.toNat)];rfl
  rw[e]at h;simp(disch:=omega)[h1];exact ad h
theorem fG(l:B8)(M:Mem)(R:VP)(hl:l.length<=1099511627776)(h:R (.bool (isWord l)) M):ar prog 44 [str l] M R:=by
 refine fnS func44 rfl ntmps44 results44 ?_;by_cases h1:l.length<=60
 ·have e:isWord l=l.all isL:=by unfold isWord;rw[decide_eq_true h1];rfl
  rw[e]at h;have h1':(l.length:Int)<=60:=by omega
  simp(disch:=omega)[h1'];intro b c hb hc;simp(disch:=omega);refine l6 _ _ (av l) (onB isL) (fun _=>True) _ _ (Rd.new (aS l) (by simp(disch:=omega) at hc;omega)) trivial bV (Bz l) rfl (by rw[aS];omega) ?_;rw[uq];simp(disch:=omega);exact ae ((Sub.refl M).put hb _) h
 ·have e:isWord l=false:=by unfold isWord;rw[decide_eq_false h1];rfl
  rw[e]at h;have h1':¬(l.length:Int)<=60:=by omega
  simp(disch:=omega)[h1'];exact ad h
theorem Hn(n:Int)(M:Mem)(R:VP)(h0:0<=n)(h1:n<=4)(h:R (str [UInt8.ofNat (97+n.toNat)]) M):ar prog 229 [.int .i64 n] M R:=by
 refine fnS func229 rfl ntmps229 results229 ?_;simp(disch:=omega);intro b hb;simp(disch:=omega);have e:(97+n).toNat=97+n.toNat:=by omega
 rw[<-e]at h;exact ae ((Sub.refl M).put hb _) h
def onS(q:B8->Bool):Value->Bool
 | .string s=>q (sl s)
 | _=>false
theorem xy(q:B8->Bool)(l:B8):onS q (str l)=q l:=rfl
theorem zS(q:B8->Bool)(ws:List B8):(strs ws).all (onS q)=ws.all q:=by
 induction ws with
 | nil=>rfl
 | cons w ws ih=>rw[MU,all_cons,all_cons,xy,ih]
theorem yA{ws:List B8}{x:Value}(h:x∈strs ws):∃ w∈ws,x=str w:=by
 obtain⟨u,h1,h2⟩:=List.mem_map.1 h;exact⟨u,h1,h2.symm⟩
def cP(ws:List B8):Prop:=∀ w∈ws,w.length<=1099511627776
def gn(ws:List B8)(b:Bool):Int:=if ws.all isWord then (if b then 0 else 2) else 1
theorem D8(ws:List B8)(hw:cP ws)(G:Mem->Prop):mF prog (.func (.func 44) #[] #[]) (strs ws) (onS isWord) G:=by
 intro x hx M R _ h;obtain⟨w,hm,rfl⟩:=yA hx;simp(disch:=omega);exact fG w M R (hw w hm) h
theorem bI(G:Mem->Prop):Dt prog (.func (.func 213) #[] #[]) true G:=fun M R _ h=>by
 simp(disch:=omega);exact G3 M R h
theorem oE(fv v:Value)(ws:List B8)(b:Bool)(G:Mem->Prop)(M:Mem)(R:VP)(hv:Rd M v (strs ws))(hw:cP ws)(hn:ws.length<=1099511627776)(hG:G M)(hst:ng G)
  (hf:ws.all isWord=true->Dt prog fv b G) (h:R (.int .i64 (gn ws b)) M):ar prog 174 [fv,v] M R:=by
 refine fnS func174 rfl ntmps174 results174 ?_;simp(disch:=omega);refine lL _ _ (strs ws) (onS isWord) G _ _ hv hG hst (D8 ws hw G) rfl (by rw[ah];exact hn) ?_;rw[zS];unfold gn at h;cases hb:ws.all isWord
 ·rw[hb]at h;simp(disch:=omega);exact ad h
 ·rw[hb]at h;simp(disch:=omega);refine hf hb _ _ hG ?_;cases b
  ·simp(disch:=omega);exact ad h
  ·simp(disch:=omega);exact ad h
theorem bt(fv v:Value)(ws:List B8)(b:Bool)(G:Mem->Prop)(M:Mem)(R:VP)(hv:Rd M v (strs ws))(hw:cP ws)(hn:ws.length<=1099511627776)(hG:G M)(hst:ng G)
  (hf:Dt prog fv b G) (h:R (.int .i64 (gn ws b)) M):ar prog 174 [fv,v] M R:=oE fv v ws b G M R hv hw hn hG hst (fun _=>hf) h
def cnt(l:B8)(k:Nat):Int:=(l.countP fun u=>u.toNat==97+k)
def counts(l:B8):List Int:=[cnt l 0,cnt l 1,cnt l 2,cnt l 3,cnt l 4]
theorem I5:counts []=[0,0,0,0,0]:=rfl
theorem eg(l:B8):(counts l).length=5:=rfl
theorem ee{u:UInt8}(h:isL u=true):97<=u.toNat/\u.toNat<=101:=by
 unfold isL at h;simp only[Bool.and_eq_true,decide_eq_true_eq]at h;omega
theorem Rf(l:B8)(u:UInt8)(k:Nat):cnt (l++[u]) k=cnt l k+if u.toNat=97+k then 1 else 0:=by
 unfold cnt;rw[countP_append];simp only[countP_cons,countP_nil,beq_iff_eq];split<;>simp
theorem Ea(l:B8)(k:Nat):0<=cnt l k/\cnt l k<=l.length:=by
 unfold cnt;have:=countP_le_length (p:=fun u:UInt8=>u.toNat==97+k) (l:=l);omega
theorem mU(l:B8)(u:UInt8)(h:isL u=true):counts (l++[u])=(counts l).set (u.toNat-97) (cnt l (u.toNat-97)+1):=by
 have hr:=ee h;unfold counts;simp only[Rf];have:u.toNat=97\/u.toNat=98\/u.toNat=99\/u.toNat=100\/u.toNat=101:=by omega
 rcases this with e|e|e|e|e<;>simp[e]
theorem qL(l:B8){k:Nat}(h:k<5):(counts l)[k]?=some (cnt l k):=by
 match k,h with
 | 0,_=>rfl
 | 1,_=>rfl
 | 2,_=>rfl
 | 3,_=>rfl
 | 4,_=>rfl
theorem aw{α:Type}(l:List α){i:Nat}(h:i<l.length):l.take (i+1)=l.take i++[l[i]]:=take_succ_eq_append_getElem h
theorem jj(l:B8)(M:Mem)(R:VP)(hl:l.length<=1099511627776)(hw:l.all isL=true)
  (h:∀ v M',Own M v (ints (counts l)) M'->R v M'):ar prog 327 [str l] M R:=by
 refine fnS func327 rfl ntmps327 results327 ?_;simp(disch:=omega);intro b1 hb1;simp(disch:=omega);intro b2 c hb2 hc;rw[aA]at hb2;obtain⟨h12,hb2⟩:=hb2;simp(disch:=omega);have hb2':(M.put b1 (.cells true (ints (counts l)) 5)) b2=none:=by rw[aA];exact⟨h12,hb2⟩
 refine aP aR (rlA [5] 10 12) (fun i:Nat=>[(10,.int .i64 i)])
  (fun i M'=>i<=l.length/\M'=(M.put b1 (.cells true (ints (counts (l.take i))) 5)).put b2 (.cells true (av l) c)) (fun i=>l.length-i) 0 (by kernel_rfl) (by simp(disch:=omega)) ⟨by omega,?_⟩ ?_
 ·rfl
 rintro i M' g ⟨hi,rfl⟩
 by_cases hlt:i<l.length
 ·have hx:l[i]?=some l[i]:=gEl hlt;have hu:=l[i].toNat_lt;have hL:isL l[i]=true:=List.all_eq_true.1 hw _ (getElem_mem hlt);have hr:=ee hL;have hk:((l[i].toNat:Int)-97).toNat=l[i].toNat-97:=by omega
  have hg:=qL (l.take i) (k:=l[i].toNat-97) (by omega);have hcl:=Ea (l.take i) (l[i].toNat-97);have htl:(l.take i).length<=l.length:=by rw[lTa];omega
  simp(disch:=omega);refine ia _ _ _ ?_;simp(disch:=omega)[hk,hg,eg];refine rndS (i+1) ⟨by omega,?_⟩;rw[ints_set,aw l hlt,mU _ _ hL]
 ·have hi':i=l.length:=by omega
  subst hi';simp(disch:=omega);refine ae ?_ (h _ _ (Own.new (c:=5) hb1 rfl (lRf 5)));exact(Sub.refl _).put hb2' _
theorem ni{M:Mem}{b o:Nat}{xs:List Value}(h:M.sub? b o xs.length=some xs){i:Nat}:i<xs.length->M.get? b (o+i)=xs[i]?:=by
 intro hi;rw[sO h (gEl hi),gEl hi]
theorem GO{α:Type}[BEq α][LawfulBEq α]{xs ys:List α}(hl:xs.length=ys.length)(h:xs.take xs.length=ys.take xs.length):xs=ys:=by
 rw[take_length,hl,take_length]at h;exact h
theorem yG(v v':Value)(xs ys:List B8)(M:Mem)(R:VP)(hx:Rd M v (strs xs))(hy:Rd M v' (strs ys))(hl:xs.length<=1099511627776)(hl':ys.length<=1099511627776)
  (h:R (.bool (xs==ys)) M):ar prog 70 [v,v'] M R:=by
 refine fnS func70 rfl ntmps70 results70 ?_;have lenv:∀(v:Value) (zs:List B8),Rd M v (strs zs)->∃ a c,v=.slice a zs.length c/\(zs.length=0\/∃ b o,a=some ⟨b,o,none⟩/\M.sub? b o (strs zs).length=some (strs zs)):=by
  rintro v zs (⟨a0,c0,rfl,h2⟩|⟨b,o,c,rfl,h2,h3⟩)
  ·have:zs.length=0:=by have:=congrArg length h2;simpa using this
   exact⟨a0,c0,by rw[this],.inl this⟩
  ·exact⟨_,c,by rw[ah],.inr ⟨b,o,rfl,h2⟩⟩
 obtain⟨a,c,rfl,ha⟩:=lenv v xs hx;obtain⟨a',c',rfl,ha'⟩:=lenv v' ys hy;by_cases hne:xs.length=ys.length
 ·simp(disch:=omega)[hne];refine lupS (rlA [4,5] 11 15) (fun i:Nat=>[(5,.int .i64 i)]) (fun i M'=>M'=M/\i<=xs.length/\xs.take i=ys.take i) (fun i=>xs.length-i) 0 ⟨rfl,by omega,rfl⟩ ?_
  rintro i M' g ⟨rfl,hi,he⟩
  by_cases hlt:i<xs.length
  ·rcases ha with h0|⟨b,o,rfl,hs⟩
   ·omega
   rcases ha' with h0|⟨b',o',rfl,hs'⟩
   ·omega
   have hg:=ni hs (i:=i) (by rw[ah];omega);have hg':=ni hs' (i:=i) (by rw[ah];omega);have hx:xs[i]?=some xs[i]:=gEl hlt;have hlt':i<ys.length:=by omega
   have hy:ys[i]?=some ys[i]:=gEl hlt';simp(disch:=omega)[hne];refine drwS ?_;simp(disch:=omega)[hg,hg'];by_cases hq:xs[i]=ys[i]
   ·have hq':(xs[i]==ys[i])=true:=by rw[hq];exact beq_self_eq_true _
    simp(disch:=omega)[hq'];refine rndS (i+1) ⟨rfl,by omega,?_⟩;rw[aw xs hlt,aw ys hlt',he,hq]
   ·have hq':(xs[i]==ys[i])=false:=bNe.2 hq;simp(disch:=omega)[hq'];refine ad ?_;have:(xs==ys)=false:=by
     rw[bNe];rintro rfl;exact hq rfl
    rw[this]at h;exact h
  ·have hi':i=xs.length:=by omega
   subst hi';simp(disch:=omega)[hne];refine ad ?_;have:xs=ys:=GO hne he;subst this;simpa using h
 ·simp(disch:=omega);refine ad ?_;have:(xs==ys)=false:=by
   rw[bNe];rintro rfl;exact hne rfl
  rw[this]at h;exact h
theorem KO{α:Type}(A B:List α)(x v:α):(A++x::B).set A.length v=A++v::B:=by
 rw[set_append_right _ _ (lRf _)];simp
def digits:Nat->Nat->B8->B8
 | 0,_,acc=>acc
 | fuel+1,k,acc=>if k=0 then acc else digits fuel (k/10) (UInt8.ofNat (48+k%10)::acc)
def y4(k:Int):B8:=if k<=0 then [109,48] else 109::digits k.toNat k.toNat []
def fa(k:Int)(n:Nat):List Value:=(range n).map fun (j:Nat)=>str (y4 (k+j))
@[simp] theorem dT(k:Int)(n:Nat):(fa k n).length=n:=by simp[fa]
theorem IZ(k:Int)(n:Nat):fa k (n+1)=fa k n++[str (y4 (k+n))]:=by simp[fa,range_succ]
theorem Ng(k:Int){n i:Nat}(h:i<n):(fa k n)[i]?=some (str (y4 (k+i))):=by simp[fa,h]
theorem wC:∀(f g k:Nat) (acc:B8),k<=f->k<=g->digits f k acc=digits g k acc
 | 0,g,k,acc,h1,h2=>by
  have:k=0:=by omega
  subst this;cases g<;>simp[digits]
 | f+1,0,k,acc,h1,h2=>by
  have:k=0:=by omega
  subst this;simp[digits]
 | f+1,g+1,k,acc,h1,h2=>by
  unfold digits;split
  ·rfl
  ·exact wC f g (k/10) _ (by omega) (by omega)
theorem Fu(k:Nat)(acc:B8)(h:0<k):digits k k acc=digits (k/10) (k/10) (UInt8.ofNat (48+k%10)::acc):=by
 match k,h with
 | k+1,_=>
  conv=>lhs;unfold digits
  rw[if_neg (by omega)];exact wC _ _ _ _ (by omega) (lRf _)
theorem Uy(x:Nat):UInt8.ofNat (48+(x:Int)%10).toNat=48+UInt8.ofNat (x%10):=by
 have:(48+(x:Int)%10).toNat=48+x%10:=by omega
 rw[this,UInt8.ofNat_add];rfl
theorem qa(k:Int)(M:Mem)(R:VP)(hk:k<=4611686018427387904)(h:R (str (y4 k)) M):ar prog 131 [.int .i64 k] M R:=by
 refine fnS func131 rfl ntmps131 results131 ?_;by_cases h0:k<=0
 ·simp(disch:=omega)[h0];refine ad ?_;unfold y4 at h;rw[if_pos h0]at h;exact h
 ·unfold y4 at h;rw[if_neg h0]at h;simp(disch:=omega)[h0];refine aP aR (rlA [0,3] 6 12) (fun x:Nat×B8=>[(0,.int .i64 x.1),(3,str x.2)]) (fun x M'=>M'=M/\(x.1:Int)<=k/\digits x.1 x.1 x.2=digits k.toNat k.toNat []/\x.2.length+x.1<=k.toNat) (fun x=>x.1) (k.toNat,[]) (by kernel_rfl) (by simp(disch:=omega);omega) ⟨rfl,by omega,rfl,by simp⟩ ?_
  rintro⟨x,acc⟩ M' g ⟨rfl,hx,hd,hl⟩
  simp only at hx hd hl;by_cases hp:0<x
  ·have hm:(x:Int).tmod 10=x%10:=by rw[Int.tmod_eq_emod_of_nonneg (by omega)]
   have hq:(x:Int).tdiv 10=x/10:=by rw[Int.tdiv_eq_ediv_of_nonneg (by omega)]
   simp(disch:=omega)[hm];intro b hb;simp(disch:=omega)[hq];refine rndB M' (x/10,UInt8.ofNat (48+x%10)::acc) (Sub.put (Sub.refl _) hb _) ?_ ⟨rfl,by simp only;omega,?_,?_⟩
   ·simp(disch:=omega)[Uy]
   ·rw[<-hd];exact(Fu x acc hp).symm
   ·simp only[length_cons];omega
  ·have hx0:x=0:=by omega
   subst hx0;simp(disch:=omega);refine ad ?_;rw[<-hd]at h;exact h
theorem lA(v:Value)(xs:List Value)(k:Int)(M M1:Mem)(R:VP)(hv:Own M v xs M1)(hl:xs.length<=1099511627776)(h0:0<=k)(hk:k<=1099511627776)
  (h:∀ M2,Own M v (fa k xs.length) M2->R (.int .i64 (k+xs.length)) M2):ar prog 71 [v,.int .i64 k] M1 R:=by
 refine fnS func71 rfl ntmps71 results71 ?_;rcases hv with ⟨rfl,rfl,rfl⟩|⟨b,c,rfl,hb,hc,rfl⟩
 ·simp(disch:=omega);refine lupS (rlA [1] 5 14) (fun i:Nat=>[(5,.int .i64 i),(1,.int .i64 (k+i))]) (fun i M'=>M'=M1/\i=0) (fun i=>0) 0 ⟨rfl,rfl⟩ ?_
  rintro i M' g ⟨rfl,rfl⟩
  simp(disch:=omega);have:=h M' (by rw[show (fa k ([]:List Value).length)=[] from rfl];exact Own.nil _);exact ad (by simpa using this)
 ·simp(disch:=omega);refine lupS (rlA [1] 5 14) (fun i:Nat=>[(5,.int .i64 i),(1,.int .i64 (k+i))]) (fun i M'=>i<=xs.length/\M'=M.put b (.cells true (fa k i++xs.drop i) c)) (fun i=>xs.length-i) 0 ⟨by omega,by simp[fa]⟩ ?_
  rintro i M' g ⟨hi,rfl⟩
  by_cases hlt:i<xs.length
  ·simp(disch:=omega);refine qa _ _ _ (by omega) ?_;simp(disch:=omega);refine rndA (i+1) (by simp(disch:=omega);omega) ⟨by omega,?_⟩;rw[drop_eq_getElem_cons hlt];have:=KO (fa k i) (xs.drop (i+1)) xs[i] (str (y4 (k+i)));rw[dT]at this;rw[this,IZ];simp
  ·have hi':i=xs.length:=by omega
   subst hi';simp(disch:=omega);refine ad ?_;have:=h _ (Own.new hb (dT k xs.length) hc);simpa using this
theorem uU(v:Value)(n:Nat)(k:Int)(M:Mem)(R:VP)(hv:Rd M v (fa k n))(hl:n<=1099511627776)(h0:0<=k)(hk:k<=1099511627776)
  (h:R (.int .i64 (k+n)) M):ar prog 72 [v,.int .i64 k] M R:=by
 refine fnS func72 rfl ntmps72 results72 ?_;have hv':∃ a c,v=.slice a n c/\(n=0\/∃ b o,a=some ⟨b,o,none⟩/\M.sub? b o (fa k n).length=some (fa k n)):=by
  rcases hv with ⟨a0,c0,rfl,h2⟩|⟨b,o,c,rfl,h2,h3⟩
  ·have:n=0:=by have:=congrArg length h2;simpa using this
   exact⟨a0,c0,by rw[this],.inl this⟩
  ·exact⟨_,c,by rw[dT],.inr ⟨b,o,rfl,h2⟩⟩
 obtain⟨a,c,rfl,ha⟩:=hv';simp(disch:=omega);refine lupS (rlA [1] 4 17) (fun i:Nat=>[(5,.int .i64 i),(1,.int .i64 (k+i))]) (fun i M'=>M'=M/\i<=n) (fun i=>n-i) 0 ⟨rfl,by omega⟩ ?_
 rintro i M' g ⟨rfl,hi⟩
 by_cases hlt:i<n
 ·rcases ha with h0|⟨b,o,rfl,hs⟩
  ·omega
  have hg:=sO hs (Ng k hlt);simp(disch:=omega);refine drwS ?_;simp(disch:=omega)[hg];refine aU (a:=[]) (c:=[]) (qa _ _ _ (by omega) ⟨rfl,rfl⟩) ?_;simp(disch:=omega);refine rndA (i+1) (by simp(disch:=omega);omega) ⟨rfl,by omega⟩
 ·have hi':i=n:=by omega
  subst hi';simp(disch:=omega);exact ad h
theorem aN{M M' N:Mem}{v x:Value}{xs news:List Value}{e bytes s:Nat}{z zz:Value}{d:Option TI}{K:VP}(h:Own M v xs M')(hs:Sub M' N)(hsrc:dw N x=some news)(hok:wg d=true)(hz:bH z=true)(hb:1<=bytes/\bytes<=32)
  (hfl:∀ v∈news,bH v=true) (hbd:(xs.length+news.length)*bytes<=70368744177664) (hk:∀ v' M'' N'',Own M v' (xs++news) M''->Sub M'' N''->K v' N'') :
  Ck (some ⟨.slc e 1 bytes z,s,zz⟩) d v x K N:=by
 rcases h with ⟨rfl,rfl,rfl⟩|⟨b,c,rfl,hM,hc,rfl⟩
 ·rw[PZ];refine⟨⟨hok,hz,hb⟩,?_⟩;rw[hsrc];cases news with
  | nil=>rw[Nz];exact hk _ _ _ (Own.nil _) hs
  | cons y ys=>
   rw[JH];refine⟨by simpa using hbd,?_⟩;intro b c hN hc;have hM:M' b=none:=by
    cases hMb:M' b with
    | none=>rfl
    | some B=>rw[hs _ _ hMb]at hN;cases hN
   exact hk _ _ _ (Own.new hM rfl hc) (hs.both b _)
 ·have hN:=hs b _ (ag _ _ _);rw[PE];refine⟨⟨hok,hz,hb⟩,?_⟩;rw[hN,hsrc,Nc];refine⟨⟨rfl,rfl,hbd,hfl⟩,?_⟩;intro b' c' hN' hc';have hs':Sub M (N.del b):=by
   intro i B hi;have hne:i≠b:=by rintro rfl;rw[hM]at hi;cases hi
   simp only[Mem.del,if_neg hne];exact hs _ _ ((Sub.refl M).put hM _ _ _ hi)
  have hM':M b'=none:=by
   cases hMb:M b' with
   | none=>rfl
   | some B=>rw[hs' _ _ hMb]at hN';cases hN'
  exact hk _ _ _ (Own.new hM' (by rw[lAp]) hc') (hs'.both b' _)
theorem bg(l:B8)(M:Mem)(R:VP)(hl:l.length<=1099511627776)(h:R (.bool (isWord l)) M):ar prog 47 [str l] M R:=by
 refine fnS func47 rfl ntmps47 results47 ?_;simp(disch:=omega);refine lupS (rlA [] 2 18) (fun i:Nat=>[(3,.int .i64 i)]) (fun i M'=>M'=M/\i<=l.length/\∀ u∈l.take i,isL u=true) (fun i=>l.length-i) 0 ⟨rfl,by omega,by simp⟩ ?_
 rintro i M' g ⟨rfl,hi,hp⟩
 by_cases hlt:i<l.length
 ·have hx:l[i]?=some l[i]:=gEl hlt;have hu:=l[i].toNat_lt;have bad:isL l[i]=false->isWord l=false:=by
   intro hb;have:l.all isL=false:=List.all_eq_false.2 ⟨_,getElem_mem hlt,by rw[hb];simp⟩;unfold isWord;rw[this,Bool.and_false]
  by_cases h1:(l[i].toNat:Int)<97
  ·have hb:isL l[i]=false:=by unfold isL;rw[decide_eq_false (by omega:¬ 97<=l[i].toNat)];rfl
   rw[bad hb]at h;simp(disch:=omega)[h1];exact ad h
  ·by_cases h2:101<(l[i].toNat:Int)
   ·have hb:isL l[i]=false:=by unfold isL;rw[decide_eq_false (by omega:¬ l[i].toNat<102),Bool.and_false]
    rw[bad hb]at h;simp(disch:=omega)[h1,h2];exact ad h
   ·have hb:isL l[i]=true:=by unfold isL;rw[decide_eq_true (by omega:97<=l[i].toNat),decide_eq_true (by omega:l[i].toNat<102)];rfl
    simp(disch:=omega)[h1,h2];refine rndS (i+1) ⟨rfl,by omega,?_⟩;rw[aw l hlt];intro u hu;rcases List.mem_append.1 hu with hu|hu
    ·exact hp u hu
    ·rw[List.mem_singleton.1 hu];exact hb
 ·have hi':i=l.length:=by omega
  subst hi';rw[take_length]at hp;have e:isWord l=decide (l.length<=60):=by unfold isWord;rw[List.all_eq_true.2 hp,Bool.and_true]
  rw[e]at h;by_cases h6:l.length<=60
  ·have h6':(l.length:Int)<=60:=by omega
   rw[decide_eq_true h6]at h;simp(disch:=omega)[h6'];exact ad h
  ·have h6':¬(l.length:Int)<=60:=by omega
   rw[decide_eq_false h6]at h;simp(disch:=omega)[h6'];exact ad h
theorem ji(l:B8)(i:Nat)(u:UInt8)(M:Mem)(R:VP)(hl:l.length<=1099511627776)(hx:l[i]?=some u)(h:R (.int .i64 (u.toNat-97)) M):ar prog 178 [str l,.int .i64 i] M R:=by
 obtain⟨hi,rfl⟩:=List.getElem?_eq_some_iff.1 hx;have hu:=l[i].toNat_lt;refine fnS func178 rfl ntmps178 results178 ?_;simp(disch:=omega);exact ad h
theorem au{l:B8}(h:isWord l=true):l.length<=60:=by
 unfold isWord at h;simp only[Bool.and_eq_true,decide_eq_true_eq]at h;exact h.1
theorem aZ{l:B8}(h:isWord l=true):l.all isL=true:=by
 unfold isWord at h;simp only[Bool.and_eq_true,decide_eq_true_eq]at h;exact h.2
def Lst(c:Int)(xs:List Value)(M:Mem)(R:VP):Prop:=∀ v M',Own M v xs M'->R (.tuple #[v,.int .i64 c]) M'
def aJ(l:B8):Int:=if isWord l then 0 else 1
theorem al{M:Mem}{b tot:Nat}{w:Bool}{xs:List Value}(h:M b=some (.cells w xs tot))(i:Nat):M.get? b i=xs[i]?:=by simp[Mem.get?,h]
theorem aq{M:Mem}{b tot:Nat}{w:Bool}{xs:List Value}(h:M b=some (.cells w xs tot))(o n:Nat):M.sub? b o n=mq (o+n<=xs.length) ((xs.drop o).take n):=by
 simp only[Mem.sub?,mq,h];by_cases hq:o+n<=xs.length
 ·rw[if_pos hq,if_pos hq]
 ·rw[if_neg hq,if_neg hq]
theorem bA{M N:Mem}{b:Nat}(hs:Sub M N)(h:N b=none):M b=none:=by
 cases hM:M b with
 | none=>rfl
 | some B=>rw[hs _ _ hM]at h;cases h
theorem Sub.putN{M N:Mem}{b:Nat}(h:Sub M N)(hb:N b=none)(B:Blk):Sub M (N.put b B):=h.trans ((Sub.refl N).put hb B)
theorem Own.base{M N M':Mem}{v:Value}{xs:List Value}(h:Own N v xs M')(hs:Sub M N):∃ M'',Own M v xs M''/\Sub M'' M':=by
 rcases h with ⟨rfl,rfl,rfl⟩|⟨b,c,rfl,hN,hc,rfl⟩
 ·exact⟨M,Own.nil _,hs⟩
 ·have hM:M b=none:=by
   cases hMb:M b with
   | none=>rfl
   | some B=>rw[hs _ _ hMb]at hN;cases hN
  exact⟨_,Own.new hM rfl hc,hs.both b _⟩
theorem db(l:B8)(b:Bool):gn [l] b=if isWord l then (if b then 0 else 2) else 1:=by simp[gn]
theorem gg{l:B8}(h:l.length<=1099511627776):cP [l]:=by intro w hw;rw[List.mem_singleton.1 hw];exact h
theorem Rd.opened{M:Mem}{v:Value}{xs:List Value}(h:Rd M v xs):∃ a c,v=.slice a xs.length c/\(xs.length=0\/∃ b o,a=some ⟨b,o,none⟩/\∀ i,i<xs.length->M.get? b (o+i)=xs[i]?):=by
 rcases h with ⟨a0,c0,rfl,h2⟩|⟨b,o,c,rfl,h2,h3⟩
 ·exact⟨a0,c0,by rw[h2];rfl,.inl (by rw[h2];rfl)⟩
 ·exact⟨_,c,rfl,.inr ⟨b,o,rfl,fun i hi=>ni h2 hi⟩⟩
theorem cg(n lo hi:Int)(M:Mem)(R:VP)(h:R (.bool (decide (lo<=n/\n<=hi))) M):ar prog 112 [.int .i64 n,.int .i64 lo,.int .i64 hi] M R:=by
 refine fnS func112 rfl ntmps112 results112 ?_;by_cases h1:lo<=n
 ·simp(disch:=omega)[h1];exact ad (by simpa[h1] using h)
 ·simp(disch:=omega)[h1];exact ad (by simpa[h1] using h)
theorem gZ(l:B8)(M:Mem)(R:VP)(hl:l.length<=1099511627776)(hw:l.all isL=true)
  (h:∀ v M',Own M v (ints (counts l)) M'->R v M'):ar prog 362 [str l] M R:=by
 refine fnS func362 rfl ntmps362 results362 ?_;simp(disch:=omega);intro b1 hb1;simp(disch:=omega);refine aP aR (rlA [4] 6 14) (fun i:Nat=>[(4,.int .i64 i)])
  (fun i M'=>i<=l.length/\M'=M.put b1 (.cells true (ints (counts (l.take i))) 5)) (fun i=>l.length-i) 0 (by kernel_rfl) (by simp(disch:=omega)) ⟨by omega,?_⟩ ?_
 ·rfl
 rintro i M' g ⟨hi,rfl⟩
 by_cases hlt:i<l.length
 ·have hx:l[i]?=some l[i]:=gEl hlt;have hu:=l[i].toNat_lt;have hL:isL l[i]=true:=List.all_eq_true.1 hw _ (getElem_mem hlt);have hr:=ee hL;have hk:((l[i].toNat:Int)-97).toNat=l[i].toNat-97:=by omega
  have hg:=qL (l.take i) (k:=l[i].toNat-97) (by omega);have hcl:=Ea (l.take i) (l[i].toNat-97);have htl:(l.take i).length<=l.length:=by rw[lTa];omega
  simp(disch:=omega);refine ji l i _ _ _ hl hx ?_;simp(disch:=omega)[hk,hg,eg];refine rndS (i+1) ⟨by omega,?_⟩;rw[ints_set,aw l hlt,mU _ _ hL]
 ·have hi':i=l.length:=by omega
  subst hi';simp(disch:=omega);exact ad (h _ _ (Own.new (c:=5) hb1 rfl (lRf 5)))
def aD(vs:List Nat):List Value:=vs.map fun (n:Nat)=>Value.int .i64 n
theorem aB(vs:List Nat):(aD vs).length=vs.length:=by simp[aD]
theorem bU{vs:List Nat}{i:Nat}:(aD vs)[i]?=(vs[i]?).map fun (n:Nat)=>Value.int .i64 n:=by simp[aD]
theorem Hj(vs:List Nat)(i:Nat)(h:i<vs.length):(vs.take i).sum+vs[i]<=vs.sum:=by
 have h1:=sum_append (l₁:=vs.take i) (l₂:=vs.drop i);rw[take_append_drop,drop_eq_getElem_cons h,sum_cons]at h1;omega
theorem vU(vs:List Nat)(i:Nat):(vs.take i).sum<=vs.sum:=by
 have h1:=sum_append (l₁:=vs.take i) (l₂:=vs.drop i);rw[take_append_drop]at h1;omega
def sd(l:B8):List Nat:=(range 5).map fun k=>l.countP fun u=>u.toNat==97+k
theorem G1(l:B8):ints (counts l)=aD (sd l):=rfl
def aE(v:Value)(c:Int):Value:=.tuple #[v,.int .i64 c]
theorem tD(l:B8)(M:Mem)(R:VP)(hl:l.length<=1099511627776)(h:Lst (aJ l) (ints (if isWord l then counts l else [])) M R):ar prog 233 [str l] M R:=by
 refine fnS func233 rfl ntmps233 results233 ?_;simp(disch:=omega);intro b1 hb1;simp(disch:=omega);have hs1:Sub M (M.put b1 (.cells true [str l] 1)):=(Sub.refl _).put hb1 _;refine bt _ _ [l] true (fun _=>True) _ _ (Rd.new rfl (lRf 1)) (gg hl) (by simp) trivial bV (bI _) ?_;rw[db];cases hw:isWord l
 ·simp(disch:=omega);unfold aJ at h;rw[hw]at h;have:=h _ _ (Own.nil M);exact ae hs1 this
 ·unfold aJ at h;rw[hw]at h;simp(disch:=omega);refine jj l _ _ hl (aZ hw) ?_;intro v1 M1 o1;simp(disch:=omega);obtain⟨M'',ho',hs'⟩:=o1.base hs1;exact ae hs' (h v1 M'' ho')
theorem sy(l:B8)(M:Mem)(R:VP)(hl:l.length<=1099511627776)(h:Lst (aJ l) (ints (if isWord l then counts l else [])) M R):ar prog 283 [str l] M R:=by
 refine fnS func283 rfl ntmps283 results283 ?_;simp(disch:=omega);refine bg l _ _ hl ?_;unfold aJ at h;cases hw:isWord l
 ·rw[hw]at h;simp(disch:=omega);exact ad (h _ _ (Own.nil M))
 ·rw[hw]at h;simp(disch:=omega);refine gZ l _ _ hl (aZ hw) ?_;intro v1 M1 o1;simp(disch:=omega);exact ad (h v1 M1 o1)
end Go.Proofs.YtapimhjbilkfpaaGreatDoor
namespace Go.Proofs.YtapimhjbilkfpaaGreatDoor
open Go Go.ChangeShapes Go.Proofs.Tryz Go.RowKit List
def nothing:Mem:=fun _=>none
theorem YT{P:Program}{f:FuncId}{args:List Value}{W:World}(h:ar P f args nothing (fun v _=>v=.bool true)):Calls P f args.toArray W (fun e W'=>e=.returned (.bool true)/\Below W.heap.size W W'):=by
 refine(h.2 W (fun b B hb=>by cases hb)).mono ?_
 rintro e W' ⟨v,M',rfl,_,hx,rfl⟩
 exact⟨rfl,hx.os,hx.tape,hx.output,hx.size,fun k hk=>hx.block k hk (fun ⟨B,hB,_⟩=>by cases hB)⟩
theorem Q3{P:Program}{f:FuncId}{args:List Value}{W:World}(M:Mem)(hM:Rep M W)(ho:∀ b,¬ owns M b)(h:ar P f args M (fun v _=>v=.bool true)):Calls P f args.toArray W (fun e W'=>e=.returned (.bool true)/\Below W.heap.size W W'):=by
 refine(h.2 W hM).mono ?_
 rintro e W' ⟨v,M',rfl,_,hx,rfl⟩
 exact⟨rfl,hx.os,hx.tape,hx.output,hx.size,fun k hk=>hx.block k hk (ho k)⟩
def reads(W:World):Mem:=fun b=>match W.heap[b]? with
 | some (.cells c _ _)=>some (.cells false c.toList c.size)
 | _=>none
theorem MI(W:World):Rep (reads W) W:=by
 intro b B hB;unfold reads at hB;split at hB
 ·rename_i c e fr hh;injection hB with hB
  subst hB;exact⟨c,e,fr,hh,rfl,⟨[],by simp⟩,fun h=>by cases h⟩
 ·cases hB
theorem Mi(W:World)(b:Nat):¬ owns (reads W) b:=by
 rintro⟨B,hB,ho⟩
 unfold reads at hB;split at hB
 ·injection hB with hB
  subst hB;cases ho
 ·cases hB
theorem vJ{P:Program}{f:FuncId}{args:List Value}{W:World}(h:ar P f args (reads W) (fun v _=>v=.bool true)):Calls P f args.toArray W (fun e W'=>e=.returned (.bool true)/\Below W.heap.size W W'):=
 Q3 (reads W) (MI W) (Mi W) h
theorem yN{W:World}{x:Addr}{len cap:Nat}{xs:List Value}(hl:xs.length=len)(hle:len<=cap)(h:∀ i,i<len->W.cell? (x.add i)=xs[i]?):Rd (reads W) (.slice (some x) len cap) xs:=by
 subst hl;by_cases h0:xs.length=0
 ·rw[h0];exact .inl ⟨_,_,rfl,eq_nil_of_length_eq_zero h0⟩
 ·have hx:x.spot=none:=by
   have h1:=h 0 (by omega);rw[gEl (by omega),Addr.add,if_pos rfl]at h1;unfold World.cell? at h1;split at h1
   ·cases hs:x.spot with
    | none=>rfl
    | some s=>rw[hs]at h1;simp at h1
   ·cases h1
  obtain⟨b,o,sp⟩:=x;simp only at hx;subst hx;have ha:∀ i,(⟨b,o,none⟩:Addr).add i=⟨b,o+i,none⟩:=by
   intro i;unfold Addr.add;split
   ·rename_i e;rw[e];rfl
   ·rfl
  simp only[ha]at h;refine .inr ⟨b,o,cap,rfl,?_,hle⟩;have key:∃ c e fr,W.heap[b]?=some (.cells c e fr):=by
   have h1:=h 0 (by omega);rw[gEl (by omega)]at h1;unfold World.cell? at h1;simp only[Option.isSome_none,Bool.false_eq_true,if_false]at h1;split at h1
   ·rename_i c e fr hh;exact⟨c,e,fr,hh⟩
   ·cases h1
  obtain⟨c,e,fr,hh⟩:=key;have hc:∀ i,i<xs.length->c.toList[o+i]?=xs[i]?:=by
   intro i hi;have h1:=h i hi;unfold World.cell? at h1;simp only[Option.isSome_none,Bool.false_eq_true,if_false,hh]at h1;rw[Array.getElem?_toList];exact h1
  have hm:reads W b=some (.cells false c.toList c.size):=by unfold reads;rw[hh]
  have hlen:o+xs.length<=c.toList.length:=by
   have h1:=hc (xs.length-1) (by omega);have h3:xs.length-1<xs.length:=by omega
   rw[gEl h3]at h1;obtain⟨h2,_⟩:=List.getElem?_eq_some_iff.1 h1;omega
  unfold Mem.sub?;rw[hm];simp only[if_pos hlen]
  congr 1
  apply ext_getElem?;intro i;by_cases hi:i<xs.length
  ·rw[getElem?_take_of_lt hi,getElem?_drop,hc i hi]
  ·rw[getElem?_eq_none (by rw[lTa];omega),getElem?_eq_none (by omega)]
theorem RJ{W:World}{x:Addr}{len cap:Nat}{zs:List Int}(hle:len<=cap)(hz:zs.length=cap)(h:∀ i,i<zs.length->W.cell? (x.add i)=some (.int .i64 (zs.getD i 0))):Rd (reads W) (.slice (some x) len cap) (ints (zs.take len)):=by
 refine yN (by rw[az,lTa];omega) hle fun i hi=>?_;rw[h i (by omega),cD,getElem?_take_of_lt hi,gDe,gEl (by omega)];rfl
theorem Rp{W:World}{x:Addr}{len cap:Nat}{ss:List ByteArray}(hle:len<=cap)(hz:ss.length=cap)(h:∀ i,i<ss.length->W.cell? (x.add i)=some (.string (ss.getD i ByteArray.empty))):Rd (reads W) (.slice (some x) len cap) (strs ((ss.take len).map fun s=>s.data.toList)):=by
 refine yN (by rw[ah,length_map,lTa];omega) hle fun i hi=>?_;rw[h i (by omega),ba,getElem?_map,getElem?_take_of_lt hi,gDe,gEl (by omega)];rfl
theorem D0(W:World):Rd (reads W) (.slice none 0 0) []:=.inl ⟨none,0,rfl,rfl⟩
theorem open_strs{P:Program}{H:Type}{enc:TypeId×Value->H}{W:World}{t e:TypeId}{fuel:Nat}{x:Value}{y:DataW H×List MemPlace}(ht:P.underlying t=some (.slice e))(he:P.underlying e=some .string)(hc:P.cellsOf e=1)
  (h:DataW.trod enc P W 0 (fun _=>true) true fuel t [x]=some y):∃ ws:List B8,Rd (reads W) x (strs ws)/\ws.length<=9223372036854775807/\∀ w∈ws,w.length<=9223372036854775807:=by
 rcases open_strings ht he hc h with ⟨h1,_⟩|⟨a,len,cap,ss,h1,_,hle,hm,hl,_,hcell,hss⟩
 ·injection h1 with h1
  subst h1;exact⟨[],D0 W,by simp,by simp⟩
 ·injection h1 with h1
  subst h1;simp only[if_true]at hl;have hml:maxLen<=9223372036854775807:=by decide
  refine⟨(ss.take len).map fun s=>s.data.toList,Rp hle hl hcell,?_,?_⟩
  ·rw[length_map,lTa];omega
  ·intro w hw;obtain⟨s,hs,rfl⟩:=List.mem_map.1 hw;exact Nat.le_trans (hss s (mem_of_mem_take hs)) hml
def I64(n:Int):Prop:=-9223372036854775808<=n/\n<=9223372036854775807
theorem QQ{n:Int}(h:(Lit.int .i64 n).wf=true):I64 n:=by
 simp only[Lit.wf,Bool.and_eq_true,decide_eq_true_eq]at h;have h1:IntKind.i64.min = -9223372036854775808:=by decide
 have h2:IntKind.i64.max=9223372036854775807:=by decide
 rw[h1,h2]at h;unfold I64;omega
theorem UZ{P:Program}{H:Type}{enc:TypeId×Value->H}{W:World}{b0:Nat}{t e:TypeId}{v:Value}{d:DataW H}{p:List MemPlace}(ht:P.underlying t=some (.slice e))(he:P.underlying e=some (.int .i64))(hc:P.cellsOf e=1)(hv:Value.okWide P W .any b0 t v)
  (h:DataW.Trod enc P W 0 (fun _=>true) true t v d p):∃ zs:List Int,Rd (reads W) v (ints zs)/\zs.length<=9223372036854775807/\∀ z∈zs,-9223372036854775808<=z/\z<=9223372036854775807:=by
 obtain⟨a,len,cap,rfl⟩:=Go.WideShapes.okWide_slice ht hv;obtain⟨fuel,h⟩:=h;rcases open_ints ht he hc h with ⟨h1,_⟩|⟨x,l,c,zs,h1,_,hl,hm,hz,_,hcell,hwz⟩
 ·simp[Value.cells]at h1;obtain⟨rfl,rfl,rfl⟩:=h1;exact⟨[],D0 W,by simp,by simp⟩
 ·simp[Value.cells]at h1;obtain⟨rfl,rfl,rfl⟩:=h1;simp only[if_true]at hz;have hml:maxLen<=9223372036854775807:=by decide
  refine⟨zs.take len,RJ hl hz hcell,by rw[lTa];omega,fun z hz'=>?_⟩;exact QQ (hwz z (mem_of_mem_take hz'))
theorem Vt{P:Program}{H:Type}{enc:TypeId×Value->H}{W:World}{b0:Nat}{t t2 e:TypeId}{f0:Field}{v:Value}{d:DataW H}{p:List MemPlace}(hs:P.underlying t=some (.struct #[f0]))(hC:P.cellsOf t=1)(hf:f0.type=t2)(ho:f0.offset=0)(ht:P.underlying t2=some (.slice e))(hc2:P.cellsOf t2=1)
  (he:P.underlying e=some .string) (hc:P.cellsOf e=1) (hv:Value.okWide P W .any b0 t v) (h:DataW.Trod enc P W 0 (fun _=>true) true t v d p) :
  ∃(x:Value) (ws:List B8),v=.agg #[x]/\Rd (reads W) x (strs ws)/\ws.length<=9223372036854775807/\∀ w∈ws,w.length<=9223372036854775807:=by
 simp only[Value.okWide,hs]at hv;obtain⟨cs,rfl,hsz,_⟩:=hv;rw[hC]at hsz;obtain⟨x,rfl⟩:∃ x,cs = #[x]:=by
  obtain⟨l⟩:=cs
  match l,hsz with
  | [x],_=>exact⟨x,rfl⟩
 obtain⟨fuel,h⟩:=h;obtain⟨y0,n,_,_,h2⟩:=trod_struct1 hs h;rw[ho,hf,hc2]at h2;obtain⟨ws,k1,k2,k3⟩:=open_strs ht he hc (x:=x) (by simpa[Value.cells] using h2);exact⟨x,ws,rfl,k1,k2,k3⟩
theorem Mo{P:Program}{H:Type}{enc:TypeId×Value->H}{W:World}{b0:Nat}{t t1 t2 e g:TypeId}{f0 f1 f2 m0:Field}{v:Value}{d:DataW H}{p:List MemPlace}(hs:P.underlying t=some (.struct #[f0,f1,f2]))(hC:P.cellsOf t=3)
  (q0:f0.type=g/\f0.offset=0) (q1:f1.type=g/\f1.offset=1) (q2:f2.type=t1/\f2.offset=2) (hg:P.underlying g=some .string) (hgc:P.cellsOf g=1)
  (hm:P.underlying t1=some (.struct #[m0])) (hmc:P.cellsOf t1=1) (qm:m0.type=t2/\m0.offset=0) (ht:P.underlying t2=some (.slice e)) (hc2:P.cellsOf t2=1)
  (he:P.underlying e=some .string) (hc:P.cellsOf e=1) (hv:Value.okWide P W .any b0 t v) (h:DataW.Trod enc P W 0 (fun _=>true) true t v d p) :
  ∃(l k:B8) (x:Value) (ws:List B8),v=.agg #[str l,str k,x]/\l.length<=9223372036854775807/\k.length<=9223372036854775807/\Rd (reads W) x (strs ws)/\ws.length<=9223372036854775807/\∀ w∈ws,w.length<=9223372036854775807:=by
 simp only[Value.okWide,hs]at hv;obtain⟨cs,rfl,hsz,_⟩:=hv;rw[hC]at hsz;obtain⟨x0,x1,x2,rfl⟩:∃ x0 x1 x2,cs = #[x0,x1,x2]:=by
  obtain⟨l⟩:=cs
  match l,hsz with
  | [x0,x1,x2],_=>exact⟨x0,x1,x2,rfl⟩
 obtain⟨fuel,h⟩:=h;obtain⟨y0,y1,y2,n,_,_,h0,h1,h2⟩:=Go.Deep.trod_struct3 hs h;rw[q0.1,q0.2,hgc]at h0;rw[q1.1,q1.2,hgc]at h1;rw[q2.1,q2.2,hmc]at h2;have hml:maxLen<=9223372036854775807:=by decide
 obtain⟨s0,e0,_,z0⟩:=DataW.trod_string hg h0;obtain⟨s1,e1,_,z1⟩:=DataW.trod_string hg h1;obtain⟨y,n',_,_,h3⟩:=trod_struct1 hm h2;rw[qm.1,qm.2,hc2]at h3;obtain⟨ws,k1,k2,k3⟩:=open_strs ht he hc (x:=x2) (by simpa[Value.cells] using h3);simp[Value.cells]at e0 e1;subst e0;subst e1;exact⟨s0.data.toList,s1.data.toList,x2,ws,rfl,Nat.le_trans z0 hml,Nat.le_trans z1 hml,k1,k2,k3⟩
end Go.Proofs.YtapimhjbilkfpaaGreatDoor
