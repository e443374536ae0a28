/- Lemmas for FnExactConsole, part 15 of 46. -/
import Derived.Test.YtapimhjbilkfpaaGreatDoorZ10
import Derived.Test.YtapimhjbilkfpaaGreatDoorZ05
import Derived.Test.YtapimhjbilkfpaaGreatDoorZ04
import Derived.Test.YtapimhjbilkfpaaGreatDoorZ06
import Derived.Test.YtapimhjbilkfpaaGreatDoorZ08
import Derived.Test.YtapimhjbilkfpaaGreatDoorZ09
import Derived.Test.YtapimhjbilkfpaaGreatDoorZ03
set_option linter.unusedVariables false
set_option linter.unusedSimpArgs false
namespace Go.Proofs.YtapimhjbilkfpaaGreatDoor
open Go Go.Proofs.Tryz Go.RowKit List
theorem uK(v:Value)(ws:List (List UInt8))(sep:List UInt8)(M:Mem)(R:VP)(hv:Rd M v (strs ws))(h1:1<=ws.length)(hn:ws.length<=1000000)(hlen:(Lib.join ws sep).length<=140737488355328)(h:R (str (Lib.join ws sep)) M):ar prog 300 [v,str sep] M R:=by
 rcases hv with ⟨_,_,_,h0⟩|⟨b,o,c,rfl,hs,hc⟩
 ·have:=congrArg length h0;rw[ah,length_nil]at this;omega
 rw[ah]at hc ⊢;refine dk (str (Lib.join ws sep)) ⟨_,func300,by kernel_rfl,by kernel_rfl⟩ (fun w hw=>?_) h;have hml:(ws.map fun l:List UInt8=>(⟨⟨l⟩⟩:ByteArray)).length=ws.length:=by simp
 have hmm:(ws.map fun l:List UInt8=>(⟨⟨l⟩⟩:ByteArray)).map (·.data.toList)=ws:=by
  rw[map_map];show ws.map (fun l=>l)=ws;simp
 have hg:∀ j,j<ws.length->M.get? b (o+j)=(strs ws)[j]?:=fun j hj=>yf hs (by rw[ah];exact hj);have h0:=hg 0 (by omega);rw[bg,getElem?_eq_getElem (by omega)]at h0;obtain⟨B,hB⟩:=O1 h0;have:=Tryz.strings_Join b o c (ws.map fun l:List UInt8=>(⟨⟨l⟩⟩:ByteArray)) ⟨⟨sep⟩⟩ w ?_ (jI hw hB) (by rw[hml];omega) (by rw[hml];exact hc) (by rw[hmm];exact hlen)
 ·rw[hml,hmm]at this;exact this
 ·intro j x hx;rw[getElem?_map]at hx;cases hw2:ws[j]? with
  | none=>rw[hw2]at hx;cases hx
  | some l=>
   rw[hw2]at hx;injection hx with hx
   subst hx;have hj:=(List.getElem?_eq_some_iff.1 hw2).1;have:=hg j hj;rw[bg,hw2]at this;exact hw.cell this
def txt:List (List UInt8)->List UInt8
 | []=>[]
 | x::r=>x++Lib.joinTail [44] r
theorem Fh(ws:List (List UInt8)):Lib.join ws [44]=txt ws:=by
 cases ws with
 | nil=>rfl
 | cons x r=>exact Lib.join_cons x r [44]
theorem Qo(w:List UInt8):txt [w]=w:=by simp[txt,Lib.joinTail]
theorem PJ(ws:List (List UInt8))(w:List UInt8)(h:1<=ws.length):txt (ws++[w])=txt ws++[44]++w:=by
 cases ws with
 | nil=>simp at h
 | cons x r=>simp[txt,Lib.joinTail]
theorem Jn{ws:List (List UInt8)}{n:Nat}(h:∀ w∈ws,w.length<=n):(txt ws).length<=ws.length*(n+1):=by
 cases ws with
 | nil=>exact Nat.zero_le _
 | cons x r=>
  have h1:=h x (mem_cons_self ..);have h2:∀(l:List (List UInt8)),(∀ w∈l,w.length<=n)->(Lib.joinTail [44] l).length<=l.length*(n+1):=by
   intro l hl
   induction l with
   | nil=>simp[Lib.joinTail]
   | cons a l ih=>
    have h3:=hl a (mem_cons_self ..);have h4:=ih fun w hw=>hl w (mem_cons_of_mem _ hw);have e:Lib.joinTail [44] (a::l)=[44]++a++Lib.joinTail [44] l:=by simp[Lib.joinTail]
    rw[e,length_append,length_append,length_singleton,length_cons,Nat.succ_mul];omega
  have h3:=h2 r fun w hw=>h w (mem_cons_of_mem _ hw);unfold txt;rw[length_append,length_cons,Nat.succ_mul];omega
def nf(ws:List (List UInt8)):List UInt8:=if aW ws then txt ws else []
theorem sj(v:Value)(ws:List (List UInt8))(M:Mem)(R:VP)(hv:Rd M v (strs ws))(hf:df ws)(hn:ws.length<=1099511627776)(h:R (aD (str (nf ws)) (kC ws)) M):ar prog 215 [.agg #[v]] M R:=by
 refine fnS func215 rfl ntmps215 results215 ?_;obtain⟨a,c,rfl,ha⟩:=hv.opened;rw[ah]at hv ⊢;simp(disch:=omega);intro b1 hb1;have hs1:Sub M (M.put b1 (.cells true [.slice a ws.length c] 1)):=(Sub.refl M).put hb1 _;have hv1:=hv.put hb1 (.cells true [.slice a ws.length c] 1);have k1:(M.put b1 (.cells true [.slice a ws.length c] 1)) b1=some (.cells true [.slice a ws.length c] 1):=ag _ _ _;simp(disch:=omega);generalize M.put b1 (.cells true [.slice a ws.length c] 1)=N at *;refine ff _ ws _ _ hv1 hf hn ?_;unfold nf kC at h;unfold kC;cases hm:aW ws
 ·rw[hm]at h;simp(disch:=omega);exact ae hs1 h
 ·rw[hm,if_pos rfl,if_pos rfl,<-Fh]at h;have h15:=aX hm;have hl:=Jn (n:=12) fun w hw=>(bL hm hw).1;have hl5:ws.length*13<=65:=Nat.mul_le_mul_right 13 h15.2;simp(disch:=omega)[aj k1];refine uK _ ws [44] _ _ hv1 h15.1 (by omega) (by rw[Fh];omega) ?_;simp(disch:=omega);exact ae hs1 h
theorem DG(v:Value)(ws:List (List UInt8))(M:Mem)(R:VP)(hv:Rd M v (strs ws))(hm:aW ws=true)(h:R (str (txt ws)) M):ar prog 77 [.agg #[v]] M R:=by
 refine fnS func77 rfl ntmps77 results77 ?_;obtain⟨a,c,rfl,ha⟩:=hv.opened;have h15:=aX hm;rw[ah]at ha hv ⊢;simp(disch:=omega);intro b1 hb1;have hs1:Sub M (M.put b1 (.cells true [.slice a ws.length c] 1)):=(Sub.refl M).put hb1 _;have k1:(M.put b1 (.cells true [.slice a ws.length c] 1)) b1=some (.cells true [.slice a ws.length c] 1):=ag _ _ _;rcases ha with h0|⟨b,o,rfl,ha⟩
 ·omega
 simp(disch:=omega);generalize M.put b1 (.cells true [.slice (some ⟨b,o,none⟩) ws.length c] 1)=N at *;refine aQ aR [3,4,5,6,7,8,9,10,11,12,13,14,15,16,17,18,19,20,21,22] (fun i:Nat=>[(4,.int .i64 i),(3,str (txt (ws.take i)))]) (fun i M'=>M'=N/\i<=ws.length) (fun i=>ws.length-i) 0 (by kernel_rfl) (by simp(disch:=omega)[txt]) ⟨rfl,by omega⟩ ?_
 rintro i M' g ⟨rfl,hi⟩
 have hlt0:=Jn (ws:=ws.take i) (n:=12) fun w hw=>(bL hm (mem_of_mem_take hw)).1;have hti:(ws.take i).length=i:=by rw[length_take];omega
 rw[hti]at hlt0;have hl5:i*13<=65:=Nat.mul_le_mul (show i<=5 by omega) (Nat.le_refl 13);by_cases hlt:i<ws.length
 ·have hg0:=ha i hlt;rw[bg,getElem?_eq_getElem hlt]at hg0;have hg:=aT hg0 hs1;have hwo:=bL hm (getElem_mem hlt);by_cases h0:i=0
  ·subst h0;have e:txt (ws.take (0+1))=ws[0]:=by rw[take_one hlt,Qo]
   have e0:txt []=[]:=rfl;rw[Nat.add_zero]at hg;simp(disch:=omega)[aj k1,hg,e0];exact rndA (0+1) (by simp(disch:=omega)[e]) ⟨rfl,by omega⟩
  ·have hpos:(0:Int)<i:=by omega
   have e:txt (ws.take (i+1))=txt (ws.take i)++[44]++ws[i]:=by rw[az ws hlt,PJ _ _ (by omega)]
   simp(disch:=omega)[aj k1,hg];exact rndA (i+1) (by simp(disch:=omega)[e]) ⟨rfl,by omega⟩
 ·have hi':i=ws.length:=by omega
  subst hi';rw[take_length];simp(disch:=omega)[aj k1];exact ae hs1 h
end Go.Proofs.YtapimhjbilkfpaaGreatDoor
namespace Go.Proofs.YtapimhjbilkfpaaGreatDoor
open Go Go.Proofs.Tryz List
theorem Sub.ovr{M N:Mem}{b:Nat}(h:Sub M N)(hb:M b=none)(B:Blk):Sub M (N.put b B):=by
 intro i Bi hi;have hne:i≠b:=by rintro rfl;rw[hb]at hi;cases hi
 rw[ai _ _ hne];exact h _ _ hi
def mnF(x y:Int):Int:=if y<x then y else x
def mxF(x y:Int):Int:=if x<y then y else x
def vec(g:Nat->Int):List Int:=[g 0,g 1,g 2,g 3,g 4]
theorem lL(l:List UInt8):counts l=vec (cnt l):=rfl
theorem P4(g:Nat->Int){i:Nat}(h:i<5):(vec g)[i]?=some (g i):=by
 match i,h with
 | 0,_=>rfl
 | 1,_=>rfl
 | 2,_=>rfl
 | 3,_=>rfl
 | 4,_=>rfl
def eR(f:Int->Int->Int)(g:Nat->Int)(u:List UInt8)(i:Nat):Nat->Int:=fun k=>if k<i then f (g k) (cnt u k) else g k
theorem nU(f:Int->Int->Int)(g:Nat->Int)(u:List UInt8):eR f g u 0=g:=by
 funext k
 simp[eR]
theorem Jz(f:Int->Int->Int)(g:Nat->Int)(u:List UInt8)(i:Nat):eR f g u i i=g i:=by simp[eR]
theorem Ql(f:Int->Int->Int)(g:Nat->Int)(u:List UInt8){i:Nat}(h:i<5):(vec (eR f g u i)).set i (f (g i) (cnt u i))=vec (eR f g u (i+1)):=by
 match i,h with
 | 0,_=>rfl
 | 1,_=>rfl
 | 2,_=>rfl
 | 3,_=>rfl
 | 4,_=>rfl
def cF(f:Int->Int->Int)(g:Nat->Int)(L:List (List UInt8)):Nat->Int:=fun k=>L.foldl (fun a u=>f a (cnt u k)) (g k)
theorem re(f:Int->Int->Int)(g:Nat->Int)(L:List (List UInt8))(u:List UInt8):vec (eR f (cF f g L) u 5)=vec (cF f g (L++[u])):=by
 unfold cF;simp only[foldl_append,foldl_cons,foldl_nil];rfl
def spr(best:Int)(lo hi:Nat->Int):Nat->Int
 | 0=>best
 | i+1=>mxF (spr best lo hi i) (hi i-lo i)
theorem iZ{u:List UInt8}(h:u.length<=60)(k:Nat):0<=cnt u k/\cnt u k<=60:=by
 have:=DV u k;omega
theorem kL{f:Int->Int->Int}(hf:∀ a b,0<=a/\a<=60->0<=b/\b<=60->0<=f a b/\f a b<=60){g:Nat->Int}{L:List (List UInt8)}(hg:∀ k,0<=g k/\g k<=60)(hL:∀ u∈L,u.length<=60)(k:Nat):0<=cF f g L k/\cF f g L k<=60:=by
 unfold cF;have:∀(L:List (List UInt8)) (a:Int),(∀ u∈L,u.length<=60)->0<=a/\a<=60->0<=L.foldl (fun a u=>f a (cnt u k)) a/\L.foldl (fun a u=>f a (cnt u k)) a<=60:=by
  intro L
  induction L with
  | nil=>intro a _ h;exact h
  | cons u r ih=>intro a hL h;exact ih _ (fun x hx=>hL x (mem_cons_of_mem _ hx)) (hf _ _ h (iZ (hL u mem_cons_self) k))
 exact this L _ hL (hg k)
theorem HG(a b:Int)(ha:0<=a/\a<=60)(hb:0<=b/\b<=60):0<=mnF a b/\mnF a b<=60:=by unfold mnF;split<;>omega
theorem I3(a b:Int)(ha:0<=a/\a<=60)(hb:0<=b/\b<=60):0<=mxF a b/\mxF a b<=60:=by unfold mxF;split<;>omega
theorem B8{best:Int}{lo hi:Nat->Int}(hb:0<=best/\best<=60)(hlo:∀ k,0<=lo k/\lo k<=60)(hhi:∀ k,0<=hi k/\hi k<=60):∀ i,0<=spr best lo hi i/\spr best lo hi i<=60
 | 0=>hb
 | i+1=>by
  have h0:=B8 hb hlo hhi i;have h1:=hlo i;have h2:=hhi i;unfold spr mxF;split<;>omega
def ew(w:List UInt8)(m i:Nat):List (List UInt8):=(range i).map fun t=>seg w (t+1) m
theorem I1(w:List UInt8)(m i:Nat):ew w m (i+1)=ew w m i++[seg w (i+1) m]:=by simp[ew,range_succ]
def dq(w:List UInt8)(m i:Nat):List (List UInt8):=(range i).map fun t=>seg w t m
theorem qx(w:List UInt8)(m i:Nat):dq w m (i+1)=dq w m i++[seg w i m]:=by simp[dq,range_succ]
theorem fD(w:List UInt8)(m i:Nat):(dq w m i).length=i:=by simp[dq]
def loW(w:List UInt8)(m:Nat):Nat->Int:=cF mnF (cnt (w.take m)) (ew w m (w.length-m))
def hiW(w:List UInt8)(m:Nat):Nat->Int:=cF mxF (cnt (w.take m)) (ew w m (w.length-m))
def kn(w:List UInt8):Nat->Int
 | 0=>0
 | m+1=>spr (kn w m) (loW w (m+1)) (hiW w (m+1)) 5
theorem tZ{w:List UInt8}{m i:Nat}(hw:w.length<=60):∀ u∈ew w m i,u.length<=60:=by
 intro u hu;obtain⟨t,_,rfl⟩:=List.mem_map.1 hu;unfold seg;rw[length_drop,length_take];omega
theorem Hr{w:List UInt8}(hw:w.length<=60)(m k:Nat):0<=loW w m k/\loW w m k<=60:=kL HG (fun k=>iZ (by rw[length_take];omega) k) (tZ hw) k
theorem HH{w:List UInt8}(hw:w.length<=60)(m k:Nat):0<=hiW w m k/\hiW w m k<=60:=kL I3 (fun k=>iZ (by rw[length_take];omega) k) (tZ hw) k
theorem Cy{w:List UInt8}(hw:w.length<=60):∀ m,0<=kn w m/\kn w m<=60
 | 0=>by unfold kn;omega
 | m+1=>B8 (Cy hw m) (Hr hw _) (HH hw _) 5
theorem wG(k:Nat):∀(L:List (List UInt8)) (b:Int),L.foldl (fun a u=>mnF a (cnt u k)) b<=b/\(∀ u∈L,L.foldl (fun a u=>mnF a (cnt u k)) b<=cnt u k)/\(L.foldl (fun a u=>mnF a (cnt u k)) b=b\/∃ u∈L,L.foldl (fun a u=>mnF a (cnt u k)) b=cnt u k)
 | [],b=>⟨Int.le_refl b,by simp,.inl rfl⟩
 | u::r,b=>by
  obtain⟨h1,h2,h3⟩:=wG k r (mnF b (cnt u k));rw[foldl_cons];have hm:mnF b (cnt u k)<=b/\mnF b (cnt u k)<=cnt u k/\(mnF b (cnt u k)=b\/mnF b (cnt u k)=cnt u k):=by unfold mnF;split<;>simp<;>omega
  refine⟨by omega,?_,?_⟩
  ·intro x hx;rcases List.mem_cons.1 hx with rfl|hx
   ·omega
   ·exact h2 x hx
  ·rcases h3 with h3|⟨x,hx,h3⟩
   ·rcases hm.2.2 with e|e
    ·exact .inl (h3.trans e)
    ·exact .inr ⟨u,mem_cons_self,h3.trans e⟩
   ·exact .inr ⟨x,mem_cons_of_mem _ hx,h3⟩
theorem wz(k:Nat):∀(L:List (List UInt8)) (b:Int),b<=L.foldl (fun a u=>mxF a (cnt u k)) b/\(∀ u∈L,cnt u k<=L.foldl (fun a u=>mxF a (cnt u k)) b)/\(L.foldl (fun a u=>mxF a (cnt u k)) b=b\/∃ u∈L,L.foldl (fun a u=>mxF a (cnt u k)) b=cnt u k)
 | [],b=>⟨Int.le_refl b,by simp,.inl rfl⟩
 | u::r,b=>by
  obtain⟨h1,h2,h3⟩:=wz k r (mxF b (cnt u k));rw[foldl_cons];have hm:b<=mxF b (cnt u k)/\cnt u k<=mxF b (cnt u k)/\(mxF b (cnt u k)=b\/mxF b (cnt u k)=cnt u k):=by unfold mxF;split<;>simp<;>omega
  refine⟨by omega,?_,?_⟩
  ·intro x hx;rcases List.mem_cons.1 hx with rfl|hx
   ·omega
   ·exact h2 x hx
  ·rcases h3 with h3|⟨x,hx,h3⟩
   ·rcases hm.2.2 with e|e
    ·exact .inl (h3.trans e)
    ·exact .inr ⟨u,mem_cons_self,h3.trans e⟩
   ·exact .inr ⟨x,mem_cons_of_mem _ hx,h3⟩
theorem Dg{b:List UInt8}{L L':List (List UInt8)}(h1:∀ u∈L,u∈L'\/u=b)(h2:∀ u∈L',u∈L):cF mnF (cnt b) L=cF mnF (cnt b) L':=by
 funext k
 unfold cF;obtain⟨a1,a2,a3⟩:=wG k L (cnt b k);obtain⟨b1,b2,b3⟩:=wG k L' (cnt b k);refine Int.le_antisymm ?_ ?_
 ·rcases b3 with e|⟨u,hu,e⟩
  ·rw[e];exact a1
  ·rw[e];exact a2 u (h2 u hu)
 ·rcases a3 with e|⟨u,hu,e⟩
  ·rw[e];exact b1
  ·rw[e];rcases h1 u hu with h|rfl
   ·exact b2 u h
   ·exact b1
theorem Cf{b:List UInt8}{L L':List (List UInt8)}(h1:∀ u∈L,u∈L'\/u=b)(h2:∀ u∈L',u∈L):cF mxF (cnt b) L=cF mxF (cnt b) L':=by
 funext k
 unfold cF;obtain⟨a1,a2,a3⟩:=wz k L (cnt b k);obtain⟨b1,b2,b3⟩:=wz k L' (cnt b k);refine Int.le_antisymm ?_ ?_
 ·rcases a3 with e|⟨u,hu,e⟩
  ·rw[e];exact b1
  ·rw[e];rcases h1 u hu with h|rfl
   ·exact b2 u h
   ·exact b1
 ·rcases b3 with e|⟨u,hu,e⟩
  ·rw[e];exact a1
  ·rw[e];exact a2 u (h2 u hu)
theorem PL{w:List UInt8}{m:Nat}{L:List (List UInt8)}(hm:m<=w.length)(hL:∀ u,u∈L↔u∈dq w m (w.length-m+1)):cF mnF (cnt (w.take m)) L=loW w m/\cF mxF (cnt (w.take m)) L=hiW w m:=by
 have h1:∀ u∈L,u∈ew w m (w.length-m)\/u=w.take m:=by
  intro u hu;obtain⟨t,ht,rfl⟩:=List.mem_map.1 ((hL u).1 hu);have ht:=List.mem_range.1 ht;cases t with
  | zero=>exact .inr (mn w m)
  | succ t=>exact .inl (List.mem_map.2 ⟨t,List.mem_range.2 (by omega),rfl⟩)
 have h2:∀ u∈ew w m (w.length-m),u∈L:=by
  intro u hu;obtain⟨t,ht,rfl⟩:=List.mem_map.1 hu;have ht:=List.mem_range.1 ht;exact(hL _).2 (List.mem_map.2 ⟨t+1,List.mem_range.2 (by omega),rfl⟩)
 exact⟨Dg h1 h2,Cf h1 h2⟩
theorem MC(w:List UInt8):spr 0 (loW w 0) (hiW w 0) 5=0:=by
 have hc:∀ k,cnt [] k=0:=fun k=>rfl;have hs:∀ i,∀ u∈ew w 0 i,u=[]:=by
  intro i u hu;obtain⟨t,_,rfl⟩:=List.mem_map.1 hu;unfold seg;rw[Nat.add_zero];exact drop_eq_nil_of_le (by rw[length_take];omega)
 have h1:loW w 0=fun _=>0:=by
  funext k
  obtain⟨_,_,h|⟨u,hu,h⟩⟩:=wG k (ew w 0 (w.length-0)) (cnt (w.take 0) k)
  ·exact h
  ·rw[hs _ u hu]at h;exact h
 have h2:hiW w 0=fun _=>0:=by
  funext k
  obtain⟨_,_,h|⟨u,hu,h⟩⟩:=wz k (ew w 0 (w.length-0)) (cnt (w.take 0) k)
  ·exact h
  ·rw[hs _ u hu]at h;exact h
 rw[h1,h2];rfl
theorem jU(g:Nat->Int){i:Nat}(h:i<5):(ints (vec g))[i]?=some (.int .i64 (g i)):=by rw[cJ,P4 g h];rfl
theorem wO(f:Int->Int->Int)(g:Nat->Int)(u:List UInt8){i:Nat}(h:i<5):(ints (vec (eR f g u i))).set i (.int .i64 (f (g i) (cnt u i)))=ints (vec (eR f g u (i+1))):=by rw[ints_set,Ql f g u h]
theorem wI(g:Nat->Int):(ints (vec g)).length=5:=rfl
theorem qT{L:List UInt8}{j:Nat}{v:UInt8}(h:L[j]?=some v)(hj:j<L.length):L[j]=v:=by
 rw[getElem?_eq_getElem hj]at h;injection h
theorem J9{L:List Value}{j:Nat}{v:Value}(h:L[j]?=some v)(hj:j<L.length):L[j]=v:=by
 rw[getElem?_eq_getElem hj]at h;exact Option.some.inj h
theorem Own.block{M M':Mem}{v:Value}{g:Nat->Int}(o:Own M v (ints (vec g)) M'):∃ b c,v=.slice (some ⟨b,0,none⟩) 5 c/\M b=none/\5<=c/\M'=M.put b (.cells true (ints (vec g)) c):=by
 rcases o with ⟨_,e,_⟩|⟨b,c,rfl,hb,hc,rfl⟩
 ·cases e
 ·exact⟨b,c,rfl,hb,hc,rfl⟩
theorem vE(w:List UInt8)(M:Mem)(R:VP)(hw:isWord w=true)(h:∀ M',Sub M M'->R (.int .i64 (kn w w.length)) M'):ar prog 367 [str w] M R:=by
 have h60:=au hw;have hall:=aV hw;refine fnS func367 rfl ntmps367 results367 ?_;simp(disch:=omega);refine aQ aR [3,4,5,6,7,8,9,10,11,12,13,14,15,16,17,18,19,20,21,22,23,24,25,26,27,28,29,30,31,32,33,34,35,36,37,38,39,40,41,42,43,44,45,46,47,48,49,50,51,52,53,54,55,56,57,58,59,60,61,62,63,64,65,66,67,68,69,70,71,72,73,74,75,76,77,78,79,80,81,82,83,84,85,86] (fun m:Nat=>[(4,.int .i64 ((m:Int)+1)),(3,.int .i64 (kn w m))]) (fun m M'=>m<=w.length/\Sub M M') (fun m=>w.length-m) 0 (by kernel_rfl) (by simp(disch:=omega);rfl) ⟨Nat.zero_le _,Sub.refl _⟩ ?_
 rintro m N g ⟨hm,hs⟩
 have hbal:=Cy h60 m;by_cases hlt:m<w.length
 ·have hbs:kn w (m+1)=spr (kn w m) (loW w (m+1)) (hiW w (m+1)) 5:=rfl;have elo:loW w (m+1)=cF mnF (cnt (w.take (m+1))) (ew w (m+1) (w.length-(m+1))):=rfl;have ehi:hiW w (m+1)=cF mxF (cnt (w.take (m+1))) (ew w (m+1) (w.length-(m+1))):=rfl;have hlo:=Hr h60 (m+1);have hhi:=HH h60 (m+1);have hsl:=fun i=>tZ (w:=w) (m:=m+1) (i:=i) h60;have et:(((m:Int)+1)).toNat=m+1:=by omega
  have htl:(w.take (m+1)).length<=1099511627776:=by rw[length_take];omega
  have hta:(w.take (m+1)).all isL=true:=by have:=rk hall 0 (m+1);rw[mn]at this;exact this
  generalize kn w m=best at *;simp(disch:=omega);refine plyS (ak [0,1,2,4,5,6] (.one 3 1 (.one 7 1 (ak [8,9] .fin)))) ?_;simp(disch:=omega)[et];refine gu (w.take (m+1)) _ _ htl hta ?_;intro v1 N1 o1;have q1:=o1.sub;simp(disch:=omega);refine⟨q1,?_⟩;refine gu (w.take (m+1)) _ _ htl hta ?_;intro v2 N2 o2;have q2:=o2.sub;simp(disch:=omega);refine⟨q2,?_⟩;rw[lL]at o1 o2;obtain⟨b1,c1,rfl,hb1,hc1,rfl⟩:=o1.block;obtain⟨b2,c2,rfl,hb2,hc2,rfl⟩:=o2.block;have sN:=q1.trans q2;have h12:b1≠b2:=by rintro rfl;rw[ag]at hb2;cases hb2
  have hb2':N b2=none:=by rw[ai _ _ (Ne.symm h12)]at hb2;exact hb2
  have k1:((N.put b1 (.cells true (ints (vec (cnt (w.take (m+1))))) c1)).put b2 (.cells true (ints (vec (cnt (w.take (m+1))))) c2)) b1=some (.cells true (ints (vec (cnt (w.take (m+1))))) c1):=by rw[ai _ _ h12,ag]
  have k2:((N.put b1 (.cells true (ints (vec (cnt (w.take (m+1))))) c1)).put b2 (.cells true (ints (vec (cnt (w.take (m+1))))) c2)) b2=some (.cells true (ints (vec (cnt (w.take (m+1))))) c2):=ag _ _ _;generalize (N.put b1 (.cells true (ints (vec (cnt (w.take (m+1))))) c1)).put b2 (.cells true (ints (vec (cnt (w.take (m+1))))) c2)=N2 at *;clear q1 q2 o1 o2 hb2;have hbase:∀ k,0<=cnt (w.take (m+1)) k/\cnt (w.take (m+1)) k<=60:=fun k=>iZ (by rw[length_take];omega) k;generalize cnt (w.take (m+1))=base at *;refine lupS [7,8,9,25,26,27,28,29,30,31,32,33,34,35,36,37,38,39,40,41,42,43,44,45,46,47,48,49,50,51,52,53,54,55,56,57,58,59,60,61,62,63,64,65,66,67,68,69] (fun i:Nat=>[(7,.int .i64 ((i:Int)+1))]) (fun i M1=>i<=w.length-(m+1)/\Sub N M1/\M1 b1=some (.cells true (ints (vec (cF mnF base (ew w (m+1) i)))) c1)/\M1 b2=some (.cells true (ints (vec (cF mxF base (ew w (m+1) i)))) c2)) (fun i=>w.length-i) 0 ⟨by omega,sN,k1,k2⟩ ?_
  rintro i M1 g1 ⟨hi,s1,l1,l2⟩
  have hlo1:∀ k,0<=cF mnF base (ew w (m+1) i) k/\cF mnF base (ew w (m+1) i) k<=60:=kL HG hbase (hsl i);have hhi1:∀ k,0<=cF mxF base (ew w (m+1) i) k/\cF mxF base (ew w (m+1) i) k<=60:=kL I3 hbase (hsl i);by_cases hil:i<w.length-(m+1)
  ·have e1:=re mnF base (ew w (m+1) i) (seg w (i+1) (m+1));have e2:=re mxF base (ew w (m+1) i) (seg w (i+1) (m+1));rw[<-I1]at e1 e2;have hsg:(w.take ((i:Int)+1+(m+1)).toNat).drop (i+1)=seg w (i+1) (m+1):=by
    unfold seg;rw[show ((i:Int)+1+(m+1)).toNat=i+1+(m+1) by omega]
   have hsL:=ef (w:=w) (a:=i+1) (m:=m+1) (by omega);have hsA:=rk hall (i+1) (m+1);generalize seg w (i+1) (m+1)=u at *;have hu60:u.length<=60:=by omega
   have hcu:=fun k=>iZ hu60 k;generalize cF mnF base (ew w (m+1) i)=lo at *;generalize cF mxF base (ew w (m+1) i)=hi' at *;simp(disch:=omega)[hsg];refine gu u _ _ (by omega) hsA ?_;intro v3 M2 o3;rw[lL]at o3;obtain⟨b3,c3,rfl,hb3,hc3,rfl⟩:=o3.block;have h13:b1≠b3:=by rintro rfl;rw[l1]at hb3;cases hb3
   have h23:b2≠b3:=by rintro rfl;rw[l2]at hb3;cases hb3
   have z1:=o3.sub _ _ l1;have z2:=o3.sub _ _ l2;have z3:(M1.put b3 (.cells true (ints (vec (cnt u))) c3)) b3=some (.cells true (ints (vec (cnt u))) c3):=ag _ _ _;have zs:=s1.trans o3.sub;generalize M1.put b3 (.cells true (ints (vec (cnt u))) c3)=M2 at *;clear o3;simp(disch:=omega);refine lupS [9,40,41,42,43,44,45,46,47,48,49,50,51,52,53,54,55,56,57,58,59,60,61,62,63,64,65,66,67,68,69] (fun j:Nat=>[(9,.int .i64 j)]) (fun j M3=>j<=5/\Sub N M3/\M3 b1=some (.cells true (ints (vec (eR mnF lo u j))) c1)/\M3 b2=some (.cells true (ints (vec (eR mxF hi' u j))) c2)/\M3 b3=some (.cells true (ints (vec (cnt u))) c3)) (fun j=>5-j) 0 ⟨by omega,zs,by rw[nU];exact z1,by rw[nU];exact z2,z3⟩ ?_
   rintro j M3 g2 ⟨hj,s3,y1,y2,y3⟩
   by_cases hj5:j<5
   ·obtain⟨L1,hL1⟩:∃ x,x=ints (vec (eR mnF lo u (j+1))):=⟨_,rfl⟩;obtain⟨L2,hL2⟩:∃ x,x=ints (vec (eR mxF hi' u (j+1))):=⟨_,rfl⟩;have p1:(ints (vec (eR mnF lo u j))).set j (.int .i64 (if cnt u j<lo j then cnt u j else lo j))=L1:=by rw[hL1];exact wO mnF lo u hj5
    have p2:(ints (vec (eR mxF hi' u j))).set j (.int .i64 (if hi' j<cnt u j then cnt u j else hi' j))=L2:=by rw[hL2];exact wO mxF hi' u hj5
    have t1:=jU (eR mnF lo u j) hj5;have t2:=jU (eR mxF hi' u j) hj5;have t3:=jU (cnt u) hj5;rw[Jz]at t1 t2;have r1:=wI (eR mnF lo u j);have r2:=wI (eR mxF hi' u j);have aL:=hlo1 j;have aH:=hhi1 j;have aC:=hcu j;generalize ints (vec (eR mnF lo u j))=V1 at *;generalize ints (vec (eR mxF hi' u j))=V2 at *;generalize ints (vec (cnt u))=V3 at *;generalize cnt u j=x3 at *;generalize lo j=x1 at *;generalize hi' j=x2 at *;simp(disch:=omega);refine plyS (ak [0,1,2,3,4,5,6,7,8,9,10,11] (.one 12 2 .fin)) ?_;simp(disch:=omega)[aj y1,aj y3,t3,J9 t1,y1,p1]
    try simp only[al]
    have s4:=s3.ovr hb1 (.cells true L1 c1);have z1:(M3.put b1 (.cells true L1 c1)) b1=some (.cells true L1 c1):=ag _ _ _;have z2:(M3.put b1 (.cells true L1 c1)) b2=some (.cells true V2 c2):=by rw[ai _ _ (Ne.symm h12)];exact y2
    have z3:(M3.put b1 (.cells true L1 c1)) b3=some (.cells true V3 c3):=by rw[ai _ _ (Ne.symm h13)];exact y3
    generalize M3.put b1 (.cells true L1 c1)=M4 at *
    try simp(disch:=omega)
    refine plyS (ak [0,1,2,3,4,5,6,7,8,9,10,11] (.one 12 2 .fin)) ?_;simp(disch:=omega)[aj z2,aj z3,t3,J9 t2,z2,p2]
    try simp only[al]
    try simp(disch:=omega)
    refine rndS (j+1) ⟨by omega,s4.ovr hb2' _,?_,?_,?_⟩
    ·rw[ai _ _ h12,<-hL1];exact z1
    ·rw[<-hL2];exact ag _ _ _
    ·rw[ai _ _ (Ne.symm h23)];exact z3
   ·have hj':j=5:=by omega
    subst hj';simp(disch:=omega);rw[e1]at y1;rw[e2]at y2;exact rndS (i+1) ⟨by omega,s3,y1,y2⟩
  ·have hi':i=w.length-(m+1):=by omega
   subst hi';rw[<-elo]at l1 hlo1;rw[<-ehi]at l2 hhi1;generalize loW w (m+1)=lo at *;generalize hiW w (m+1)=hi' at *;simp(disch:=omega);refine aQ aR [3,10,70,71,72,73,74,75,76,77,78,79,80,81,82,83,84,85,86] (fun j:Nat=>[(10,.int .i64 j),(3,.int .i64 (spr best lo hi' j))]) (fun j M3=>j<=5/\M3=M1) (fun j=>5-j) 0 (by kernel_rfl) (by simp(disch:=omega);rfl) ⟨by omega,rfl⟩ ?_
   rintro j M3 g2 ⟨hj,rfl⟩
   have hsp:=B8 hbal hlo1 hhi1 j;have ess:spr best lo hi' (j+1)=mxF (spr best lo hi' j) (hi' j-lo j):=rfl;unfold mxF at ess;by_cases hj5:j<5
   ·generalize spr best lo hi' j=bj at *;have t1:=jU lo hj5;have t2:=jU hi' hj5;have a1:=hlo1 j;have a2:=hhi1 j;generalize lo j=x at *;generalize hi' j=y at *;simp(disch:=omega);refine plyS (ak [0,1,2,3,4,5,6,7,8,9,10,11] .fin) ?_;simp(disch:=omega)[aj l1,aj l2,t1,t2];exact rndA (j+1) (by simp(disch:=omega)[ess]) ⟨by omega,rfl⟩
   ·have hj':j=5:=by omega
    subst hj';simp(disch:=omega);exact rndA (m+1) (by simp(disch:=omega)[hbs]) ⟨by omega,hs.trans s1⟩
 ·have hm':m=w.length:=by omega
  subst hm';simp(disch:=omega);exact ae (Sub.refl _) (h _ hs)
end Go.Proofs.YtapimhjbilkfpaaGreatDoor
namespace Go.Proofs.YtapimhjbilkfpaaGreatDoor
open Go Go.Proofs.Tryz Go.RowKit List
theorem zv{α:Type}[Inhabited α](enc:α->Value)(w:World)(b n:Nat)(d:Array α)(os:Array Obj){k:Nat}(hk:k<w.heap.size) :
  (Sort.grow (Sort.putRow enc (Sort.ahead w n) b 0 d) os).heap[k]?=if b=k then (w.heap[k]?).map (Sort.onCells (Sort.putCells enc 0 d)) else w.heap[k]?:=by
 rw[Sort.heap_grow_old _ _ (by simpa[Sort.ahead] using hk)];simp only[Sort.putRow,Sort.mapBlock,Array.getElem?_modify,Sort.ahead]
theorem P9{α:Type}[Inhabited α]{M:Mem}{w:World}(enc:α->Value)(hw:Rep M w){b c:Nat}{xs:List Value}(hM:M b=some (.cells true xs c))(d:Array α)(hd:d.size=xs.length)(n:Nat)(os:Array Obj) :
  Rep (M.put b (.cells true (d.toList.map enc) c)) (Sort.grow (Sort.putRow enc (Sort.ahead w n) b 0 d) os)/\Ext M w (M.put b (.cells true (d.toList.map enc) c)) (Sort.grow (Sort.putRow enc (Sort.ahead w n) b 0 d) os):=by
 have hb:=jI hw hM;refine⟨?_,rfl,rfl,rfl,?_,?_,?_⟩
 ·intro i B hB;by_cases hi:i=b
  ·subst hi;rw[ag]at hB;injection hB with hB
   subst hB;obtain⟨cc,e,fr,h1,h2,⟨ys,h3⟩,h4⟩:=hw i _ hM;refine⟨Sort.putCells enc 0 d cc,e,fr,?_,by simpa[Sort.putCells] using h2,⟨ys,?_⟩,h4⟩
   ·rw[zv enc w i n d os hb,if_pos rfl,h1];rfl
   ·apply ext_getElem?;intro k;have h3':cc[k]?=(xs++ys)[k]?:=by rw[<-h3];simp
    rw[Array.getElem?_toList];simp only[Sort.putCells,Array.getElem?_mapIdx,h3'];by_cases hk:k<d.size
    ·rw[getElem?_append_left (by omega),getElem?_append_left (by simpa using hk),getElem?_eq_getElem (by omega),Option.map_some,if_pos ⟨Nat.zero_le _,by omega⟩,getElem?_map];simp[hk]
    ·rw[getElem?_append_right (by omega),getElem?_append_right (by simp;omega)];simp only[length_map,Array.length_toList,hd];cases ys[k-xs.length]? with
     | none=>rfl
     | some y=>rw[Option.map_some,if_neg (by omega)]
  ·rw[ai _ _ hi]at hB;exact Blk.holds_of (by rw[zv enc w b n d os (jI hw hB),if_neg (Ne.symm hi)]) (hw i B hB)
 ·simp[Sort.ahead]
 ·intro k hk ho;have hne:b≠k:=by rintro rfl;exact ho ⟨_,hM,rfl⟩
  rw[zv enc w b n d os hk,if_neg hne]
 ·rintro k ⟨B,h1,h2⟩
  by_cases hi:k=b
  ·subst hi;exact .inl ⟨_,hM,rfl⟩
  ·rw[ai _ _ hi]at h1;exact .inl ⟨B,h1,h2⟩
theorem Fe{α:Type}[Inhabited α]{P:Program}{f:FuncId}{args:List Value}{M:Mem}{R:VP}(v:Value)(hb:rR P f)(enc:α->Value){b c:Nat}{xs:List Value}(hM:M b=some (.cells true xs c))(d:Array α)(hd:d.size=xs.length)
  (h:∀ w,Rep M w->Calls P f args.toArray w fun e w'=>e=.returned v/\∃ n os,w'=Sort.grow (Sort.putRow enc (Sort.ahead w n) b 0 d) os) (hR:R v (M.put b (.cells true (d.toList.map enc) c))):ar P f args M R:=
 ⟨hb,fun w hw=>(h w hw).mono fun e w' ⟨he,n,os,hw'⟩=>by
  subst hw';obtain⟨h1,h2⟩:=P9 enc hw hM d hd n os;exact⟨v,_,he,h1,h2,hR⟩⟩
theorem Bf{M:Mem}{w:World}(hw:Rep M w){b c:Nat}{ss:List (List UInt8)}(hM:M b=some (.cells true (strs ss) c)):Sort.Holds encStr w b 0 ss.toArray:=by
 intro j hj;have hj':j<ss.length:=by simpa using hj
 have hg:M.get? b (0+j)=some (str ss[j]):=by rw[aj hM,Nat.zero_add,bg,getElem?_eq_getElem hj'];rfl
 refine⟨?_,?_⟩
 ·rw[hw.cell hg,getElem!_pos _ j hj];rfl
 ·obtain⟨cc,e,fr,h1,h2,⟨ys,h3⟩,h4⟩:=hw b _ hM;have hle:=hw.le hM;rw[ah]at hle;have:=h4 rfl;obtain⟨lo,hi⟩:=fr;simp only[World.frozen?,h1,Nat.zero_add,Bool.and_eq_false_iff,decide_eq_false_iff_not];simp only at this;omega
theorem Gp(ss:List (List UInt8)):ss.map encStr=strs ss:=by
 unfold strs;apply map_congr_left;intro l _;rfl
def srt(ss:List (List UInt8)):List (List UInt8):=Lib.compact (ss.mergeSort fun x y=>decide (x<=y))
theorem yK{α:Type}[Inhabited α][DecidableEq α](d:Array α):∀ m,∀ x,x∈Lib.compactUpTo d m↔∃ j,j<m/\d[j]! = x
 | 0,x=>by simp[Lib.compactUpTo]
 | m+1,x=>by
  rw[Lib.compactUpTo_succ,mem_append,yK d m x];constructor
  ·rintro(⟨j,h1,h2⟩|h)
   ·exact⟨j,by omega,h2⟩
   ·split at h
    ·exact⟨m,by omega,(List.mem_singleton.1 h).symm⟩
    ·simp at h
  ·rintro⟨j,h1,h2⟩
   by_cases hj:j<m
   ·exact .inl ⟨j,hj,h2⟩
   ·have hj':j=m:=by omega
    subst hj';cases hk:Lib.keeps d j with
    | true=>exact .inr (by rw[if_pos rfl];simp[h2])
    | false=>
     simp only[Lib.keeps,decide_eq_false_iff_not,not_or,ne_eq,Decidable.not_not]at hk;exact .inl ⟨j-1,by omega,by rw[<-hk.2];exact h2⟩
theorem Gf{α:Type}[Inhabited α][DecidableEq α](zs:List α)(x:α):x∈Lib.compact zs↔x∈zs:=by
 unfold Lib.compact;rw[yK];constructor
 ·rintro⟨j,h1,h2⟩
  rw[getElem!_pos _ j (by simpa using h1)]at h2;rw[<-h2];simp
 ·intro h;obtain⟨j,h1,h2⟩:=List.mem_iff_getElem.1 h;exact⟨j,h1,by rw[getElem!_pos _ j (by simpa using h1)];simpa using h2⟩
theorem lx{α:Type}[Inhabited α][DecidableEq α](zs:List α):(Lib.compact zs).length<=zs.length:=by
 unfold Lib.compact Lib.compactUpTo;rw[length_map];have:=length_filter_le (Lib.keeps zs.toArray) (range zs.length);rw[length_range]at this;exact this
theorem oD(ss:List (List UInt8))(x:List UInt8):x∈srt ss↔x∈ss:=by
 unfold srt;rw[Gf];exact mem_mergeSort
theorem NF(ss:List (List UInt8)):(srt ss).length<=ss.length:=by
 unfold srt;have:=lx (ss.mergeSort fun x y=>decide (x<=y));rw[length_mergeSort]at this;exact this
theorem lY(b c:Nat)(ss:List (List UInt8))(M:Mem)(R:VP)(hM:M b=some (.cells true (strs ss) c))(hn:ss.length<=1000000)
  (h:R (.tuple #[]) (M.put b (.cells true (strs (ss.mergeSort fun x y=>decide (x<=y))) c))):ar prog 433 [.slice (some ⟨b,0,none⟩) ss.length c] M R:=by
 refine Fe (.tuple #[]) ⟨_,func433,by kernel_rfl,by kernel_rfl⟩ encStr hM (ss.mergeSort fun x y=>decide (x<=y)).toArray (by simp[ah]) (fun w hw=>?_) ?_
 ·exact Tryz.slices_Sort_string b 0 c ss w (Bf hw hM) (jI hw hM) (by omega)
 ·simp only[Gp];exact h
theorem iP(b c:Nat)(ss:List (List UInt8))(M:Mem)(R:VP)(hM:M b=some (.cells true (strs ss) c))(hc:ss.length<=c)(hn:ss.length<=1000000)
  (h:R (.slice (some ⟨b,0,none⟩) (Lib.compact ss).length c) (M.put b (.cells true (strs (Lib.compact ss++replicate (ss.length-(Lib.compact ss).length) [])) c))):ar prog 434 [.slice (some ⟨b,0,none⟩) ss.length c] M R:=by
 have hle:=lx ss;refine Fe (.slice (some ⟨b,0,none⟩) (Lib.compact ss).length c) ⟨_,func434,by kernel_rfl,by kernel_rfl⟩ encStr hM (Lib.compact ss++replicate (ss.length-(Lib.compact ss).length) []).toArray (by simp[ah];omega) (fun w hw=>?_) ?_
 ·refine(Tryz.slices_Compact_string b 0 c ss w (Bf hw hM) (by omega) hc).mono fun e w' ⟨h1,q,h2⟩=>⟨h1,q,#[],?_⟩;rw[Sort.grow_empty];exact h2
 ·simp only[Gp];exact h
theorem EE(v:Value)(ss:List (List UInt8))(M0 M:Mem)(R:VP)(ho:Own M0 v (strs ss) M)(h1:1<=ss.length)(hn:ss.length<=1000000)
  (h:∀ v' M',Rd M' v' (strs (srt ss))->Sub M0 M'->R v' M'):ar prog 413 [v] M R:=by
 rcases ho with ⟨_,e,_⟩|⟨b,c,rfl,hb,hc,rfl⟩
 ·have:=congrArg length e;rw[ah,length_nil]at this;omega
 rw[ah]at hc ⊢;refine fnS func413 rfl ntmps413 results413 ?_;simp(disch:=omega);have hm:(ss.mergeSort fun x y=>decide (x<=y)).length=ss.length:=length_mergeSort _;have hsr:srt ss=Lib.compact (ss.mergeSort fun x y=>decide (x<=y)):=rfl;have hle:=lx (ss.mergeSort fun x y=>decide (x<=y));refine lY b c ss _ _ (ag _ _ _) hn ?_;simp(disch:=omega);generalize (ss.mergeSort fun x y=>decide (x<=y))=zs at *;rw[<-hm];refine iP b c zs _ _ (ag _ _ _) (by omega) (by omega) ?_;simp(disch:=omega);refine ad (h _ _ ?_ ?_)
 ·rw[hsr];refine .inr ⟨b,0,c,by rw[ah],?_,by rw[ah];omega⟩;rw[aq (ag _ _ _)];simp[strs,lO]
 ·exact(((Sub.refl _).put hb _).ovr hb _).ovr hb _
theorem DW(w:List UInt8)(m:Nat)(M:Mem)(R:VP)(hl:w.length<=60)(hm:m<=w.length)
  (h:∀ v' M',Rd M' v' (strs (srt (dq w m (w.length-m+1))))->Sub M M'->R v' M'):ar prog 385 [str w,.int .i64 m] M R:=by
 refine fnS func385 rfl ntmps385 results385 ?_;simp(disch:=omega);refine lupS [5,6,7,8,9,10,11,12,13,14,15,16,17,18,19,20,21,22,23] (fun x:Nat×Value=>[(6,.int .i64 x.1),(5,x.2)]) (fun x M'=>x.1<=w.length-m+1/\Own M x.2 (strs (dq w m x.1)) M') (fun x=>w.length-m+1-x.1) (0,.slice none 0 0) ⟨by omega,Own.nil _⟩ ?_
 rintro⟨i,v⟩ M' g ⟨hi,ho⟩
 simp only at hi ho;have hln:=fD w m i;by_cases hlt:i<w.length-m+1
 ·have hsg:=fK (w:=w) (a:=i) (m:=m);have hsu:=qx w m i;generalize seg w i m=u at *;generalize dq w m i=L at *;simp(disch:=omega)[hsg];intro b' hb';simp(disch:=omega);refine aN ho ((Sub.refl _).put hb' _) (by simp(disch:=omega);rfl) rfl rfl (by omega) (by simp(disch:=omega)) (by simp(disch:=omega);omega) ?_;intro v' M'' N'' ho' hs';simp(disch:=omega);refine rndM M'' (i+1,v') hs' ⟨by simp only;omega,?_⟩;simp only;rw[hsu,<-cO];exact ho'
 ·have hi':i=w.length-m+1:=by omega
  subst hi';generalize dq w m (w.length-m+1)=L at *;simp(disch:=omega);refine EE v L M _ _ ho (by omega) (by omega) ?_;intro v' M1 hr hs;simp(disch:=omega);exact ad (h v' M1 hr hs)
end Go.Proofs.YtapimhjbilkfpaaGreatDoor
namespace Go.Proofs.YtapimhjbilkfpaaGreatDoor
open Go Go.Proofs.Tryz List
theorem qS{L:List Int}{k:Nat}{u:List UInt8}(h:(ints L)[k]?=some (str u)):False:=by
 rw[cJ]at h;cases hk:L[k]? with
 | none=>rw[hk]at h;cases h
 | some x=>rw[hk]at h;cases h
theorem Sub.del{M N:Mem}{b:Nat}(h:Sub M N)(hb:M b=none):Sub M (N.del b):=by
 intro i B hi;have hne:i≠b:=by rintro rfl;rw[hb]at hi;cases hi
 simp only[Mem.del,if_neg hne];exact h _ _ hi
theorem Kn(M:Mem)(b:Nat):Sub (M.del b) M:=by
 intro i B hi;by_cases e:i=b
 ·simp[Mem.del,e]at hi
 ·simpa[Mem.del,e] using hi
theorem JZ{M:Mem}{b i k:Nat}(h:i≠b):(M.del b).get? i k=M.get? i k:=by simp[Mem.get?,Mem.del,h]
theorem CR(w:List UInt8)(M:Mem)(R:VP)(hw:isWord w=true)(h:∀ M',Sub M M'->R (.int .i64 (kn w w.length)) M'):ar prog 398 [str w] M R:=by
 have h60:=au hw;have hall:=aV hw;refine fnS func398 rfl ntmps398 results398 ?_;simp(disch:=omega);refine aQ aR [3,4,5,6,8,9,10,11,15,16,17,18,19,20,21,22,23,24,25,26,27,28,29,30,31,32,33,34,35,36,37,38,39,40,41,42,43,44,45,46,47,48,49,50,51,52,53,54,55,56,57,58,59,60,61,62,63,64,65,66,67,68,69,70,71,72,73,74,75,76,77,78,79] (fun m:Nat=>[(15,.int .i64 m),(3,.int .i64 (kn w (m-1)))]) (fun m M'=>m<=w.length+1/\Sub M M') (fun m=>w.length+1-m) 0 (by kernel_rfl) (by simp(disch:=omega);rfl) ⟨Nat.zero_le _,Sub.refl _⟩ ?_
 rintro m N g ⟨hm,hs⟩
 have hbal:=Cy h60 (m-1);by_cases hlt:m<w.length+1
 ·have hnext:spr (kn w (m-1)) (loW w m) (hiW w m) 5=kn w (m+1-1):=by
   cases m with
   | zero=>exact MC w
   | succ m=>rfl
  have hsame:=fun L=>PL (w:=w) (m:=m) (L:=L) (by omega);have hlo:=Hr h60 m;have hhi:=HH h60 m;have htl:(w.take m).length<=1099511627776:=by rw[length_take];omega
  have hta:(w.take m).all isL=true:=by have:=rk hall 0 m;rw[mn]at this;exact this
  generalize kn w (m-1)=best at *;simp(disch:=omega);refine plyS (ak [0,1,2,4,5,6] (.one 3 1 (.one 7 1 (ak [8,9] .fin)))) ?_;simp(disch:=omega);refine iS (w.take m) _ _ htl hta ?_;intro v1 N1 o1;have q1:=o1.sub;simp(disch:=omega);refine⟨q1,?_⟩;refine iS (w.take m) _ _ htl hta ?_;intro v2 N2 o2;have q2:=o2.sub;simp(disch:=omega);refine⟨q2,?_⟩;rw[lL]at o1 o2;obtain⟨b1,c1,rfl,hb1,hc1,rfl⟩:=o1.block;obtain⟨b2,c2,rfl,hb2,hc2,rfl⟩:=o2.block;have sN:=q1.trans q2;have h12:b1≠b2:=by rintro rfl;rw[ag]at hb2;cases hb2
  have hb2':N b2=none:=by rw[ai _ _ (Ne.symm h12)]at hb2;exact hb2
  have k1:((N.put b1 (.cells true (ints (vec (cnt (w.take m)))) c1)).put b2 (.cells true (ints (vec (cnt (w.take m)))) c2)) b1=some (.cells true (ints (vec (cnt (w.take m)))) c1):=by rw[ai _ _ h12,ag]
  have k2:((N.put b1 (.cells true (ints (vec (cnt (w.take m)))) c1)).put b2 (.cells true (ints (vec (cnt (w.take m)))) c2)) b2=some (.cells true (ints (vec (cnt (w.take m)))) c2):=ag _ _ _;generalize (N.put b1 (.cells true (ints (vec (cnt (w.take m)))) c1)).put b2 (.cells true (ints (vec (cnt (w.take m)))) c2)=N2 at *;clear q1 q2 o1 o2 hb2;have hbase:∀ k,0<=cnt (w.take m) k/\cnt (w.take m) k<=60:=fun k=>iZ (by rw[length_take];omega) k;generalize cnt (w.take m)=base at *;refine DW w m _ _ h60 (by omega) ?_;intro vf N3 hr sF;have hmem:=fun x=>oD (dq w m (w.length-m+1)) x;have hlen:=NF (dq w m (w.length-m+1));rw[fD]at hlen;obtain⟨elo,ehi⟩:=hsame _ hmem;have hsl:∀ u∈srt (dq w m (w.length-m+1)),u.length<=60/\u.all isL=true:=by
   intro u hu;obtain⟨t,_,rfl⟩:=List.mem_map.1 ((hmem u).1 hu);refine⟨?_,rk hall t m⟩;unfold seg;rw[length_drop,length_take];omega
  generalize srt (dq w m (w.length-m+1))=ss at *;obtain⟨a,c,rfl,ha⟩:=hr.opened;rw[ah]at ha ⊢;have k1':=sF _ _ k1;have k2':=sF _ _ k2;obtain⟨D,hD1,hD2,hDN,hD3,hget⟩:∃ D:Mem,D b1=none/\D b2=none/\Sub N D/\Sub D N3/\∀ i,(hi:i<ss.length)->∃ b o,a=some ⟨b,o,none⟩/\D.get? b (o+i)=some (str ss[i]):=by
   refine⟨(N3.del b1).del b2,by simp[Mem.del],by simp[Mem.del],((sN.trans sF).del hb1).del hb2',(Kn _ _).trans (Kn _ _),?_⟩;intro i hi;rcases ha with hz|⟨b,o,rfl,ha⟩
   ·omega
   have hg:=ha i hi;rw[bg,getElem?_eq_getElem hi]at hg;have n1:b≠b1:=by rintro rfl;rw[aj k1']at hg;exact qS hg
   have n2:b≠b2:=by rintro rfl;rw[aj k2']at hg;exact qS hg
   exact⟨b,o,rfl,by rw[JZ n2,JZ n1];exact hg⟩
  simp(disch:=omega);refine lupS [8,9,10,30,31,32,33,34,35,36,37,38,39,40,41,42,43,44,45,46,47,48,49,50,51,52,53,54,55,56,57,58,59,60,61] (fun i:Nat=>[(30,.int .i64 i)]) (fun i M1=>i<=ss.length/\Sub D M1/\M1 b1=some (.cells true (ints (vec (cF mnF base (ss.take i)))) c1)/\M1 b2=some (.cells true (ints (vec (cF mxF base (ss.take i)))) c2)) (fun i=>ss.length-i) 0 ⟨by omega,hD3,k1',k2'⟩ ?_
  rintro i M1 g1 ⟨hi,s1,l1,l2⟩
  have htk:∀ u∈ss.take i,u.length<=60:=fun u hu=>(hsl u (mem_of_mem_take hu)).1;have hlo1:∀ k,0<=cF mnF base (ss.take i) k/\cF mnF base (ss.take i) k<=60:=kL HG hbase htk;have hhi1:∀ k,0<=cF mxF base (ss.take i) k/\cF mxF base (ss.take i) k<=60:=kL I3 hbase htk;by_cases hil:i<ss.length
  ·obtain⟨b,o,rfl,hg⟩:=hget i hil;have e1:=re mnF base (ss.take i) ss[i];have e2:=re mxF base (ss.take i) ss[i];rw[<-az ss hil]at e1 e2;obtain⟨hu60,hsA⟩:=hsl _ (getElem_mem hil);have hg1:=aT hg s1;generalize ss[i]=u at *;have hcu:=fun k=>iZ hu60 k;generalize cF mnF base (ss.take i)=lo at *;generalize cF mxF base (ss.take i)=hi' at *;simp(disch:=omega)[hg1];refine iS u _ _ (by omega) hsA ?_;intro v3 M2 o3;rw[lL]at o3;obtain⟨b3,c3,rfl,hb3,hc3,rfl⟩:=o3.block;have h13:b1≠b3:=by rintro rfl;rw[l1]at hb3;cases hb3
   have h23:b2≠b3:=by rintro rfl;rw[l2]at hb3;cases hb3
   have z1:=o3.sub _ _ l1;have z2:=o3.sub _ _ l2;have z3:(M1.put b3 (.cells true (ints (vec (cnt u))) c3)) b3=some (.cells true (ints (vec (cnt u))) c3):=ag _ _ _;have zs:=s1.trans o3.sub;generalize M1.put b3 (.cells true (ints (vec (cnt u))) c3)=M2 at *;clear o3;simp(disch:=omega);refine lupS [9,10,37,38,39,40,41,42,43,44,45,46,47,48,49,50,51,52,53,54,55,56,57,58,59,60] (fun j:Nat=>[(37,.int .i64 j)]) (fun j M3=>j<=5/\Sub D M3/\M3 b1=some (.cells true (ints (vec (eR mnF lo u j))) c1)/\M3 b2=some (.cells true (ints (vec (eR mxF hi' u j))) c2)/\M3 b3=some (.cells true (ints (vec (cnt u))) c3)) (fun j=>5-j) 0 ⟨by omega,zs,by rw[nU];exact z1,by rw[nU];exact z2,z3⟩ ?_
   rintro j M3 g2 ⟨hj,s3,y1,y2,y3⟩
   by_cases hj5:j<5
   ·obtain⟨L1,hL1⟩:∃ x,x=ints (vec (eR mnF lo u (j+1))):=⟨_,rfl⟩;obtain⟨L2,hL2⟩:∃ x,x=ints (vec (eR mxF hi' u (j+1))):=⟨_,rfl⟩;have p1:(ints (vec (eR mnF lo u j))).set j (.int .i64 (if cnt u j<lo j then cnt u j else lo j))=L1:=by rw[hL1];exact wO mnF lo u hj5
    have p2:(ints (vec (eR mxF hi' u j))).set j (.int .i64 (if hi' j<cnt u j then cnt u j else hi' j))=L2:=by rw[hL2];exact wO mxF hi' u hj5
    have t1:=jU (eR mnF lo u j) hj5;have t2:=jU (eR mxF hi' u j) hj5;have t3:=jU (cnt u) hj5;rw[Jz]at t1 t2;have r1:=wI (eR mnF lo u j);have r2:=wI (eR mxF hi' u j);have aL:=hlo1 j;have aH:=hhi1 j;have aC:=hcu j;generalize ints (vec (eR mnF lo u j))=V1 at *;generalize ints (vec (eR mxF hi' u j))=V2 at *;generalize ints (vec (cnt u))=V3 at *;generalize cnt u j=x3 at *;generalize lo j=x1 at *;generalize hi' j=x2 at *;simp(disch:=omega)[aj y3,t3];refine plyS (ak [0,1,2,3,4,5,6,7,8,9,10,11,12,13,14,15,16] (.one 17 2 (.light 18 (.one 19 2 .fin)))) ?_;simp(disch:=omega)[aj y1,aj y2,J9 t1,J9 t2,y1,p1]
    try simp only[al]
    try simp(disch:=omega)[y2,p2]
    refine rndS (j+1) ⟨by omega,(s3.ovr hD2 _).ovr hD1 _,?_,?_,?_⟩
    ·rw[<-hL1];exact ag _ _ _
    ·rw[ai _ _ (Ne.symm h12),<-hL2];exact ag _ _ _
    ·rw[ai _ _ (Ne.symm h13),al,ai _ _ (Ne.symm h23)];exact y3
   ·have hj':j=5:=by omega
    subst hj';simp(disch:=omega);rw[e1]at y1;rw[e2]at y2;exact rndS (i+1) ⟨by omega,s3,y1,y2⟩
  ·have hi':i=ss.length:=by omega
   subst hi';rw[take_length]at l1 l2 hlo1 hhi1;rw[elo]at l1 hlo1;rw[ehi]at l2 hhi1;generalize loW w m=lo at *;generalize hiW w m=hi' at *;simp(disch:=omega);refine aQ aR [3,11,64,65,66,67,68,69,70,71,72,73,74,75,76,77,78] (fun j:Nat=>[(64,.int .i64 j),(3,.int .i64 (spr best lo hi' j))]) (fun j M3=>j<=5/\M3=M1) (fun j=>5-j) 0 (by kernel_rfl) (by simp(disch:=omega);rfl) ⟨by omega,rfl⟩ ?_
   rintro j M3 g2 ⟨hj,rfl⟩
   have hsp:=B8 hbal hlo1 hhi1 j;have ess:spr best lo hi' (j+1)=mxF (spr best lo hi' j) (hi' j-lo j):=rfl;unfold mxF at ess;by_cases hj5:j<5
   ·generalize spr best lo hi' j=bj at *;have t1:=jU lo hj5;have t2:=jU hi' hj5;have a1:=hlo1 j;have a2:=hhi1 j;generalize lo j=x at *;generalize hi' j=y at *;simp(disch:=omega);refine plyS (ak [0,1,2,3,4,5,6,7,8,9,10,11] .fin) ?_;simp(disch:=omega)[aj l1,aj l2,t1,t2];exact rndA (j+1) (by simp(disch:=omega)[ess]) ⟨by omega,rfl⟩
   ·have hj':j=5:=by omega
    subst hj';simp(disch:=omega);exact rndA (m+1) (by simp(disch:=omega)[hnext]) ⟨by omega,hDN.trans s1|>hs.trans⟩
 ·have hm':m=w.length+1:=by omega
  subst hm';simp(disch:=omega);exact ae (Sub.refl _) (h _ hs)
theorem oR(w:List UInt8)(M:Mem)(R:VP)(hl:w.length<=1099511627776)(h:∀ M',Sub M M'->R (aD (if isWord w then Value.bool (decide (kn w w.length<=1)) else .bool false) (aJ w)) M'):ar prog 291 [str w] M R:=by
 refine fnS func291 rfl ntmps291 results291 ?_;simp(disch:=omega);refine ba w _ _ hl ?_;unfold aD aJ at h;cases hw:isWord w
 ·rw[hw]at h;simp(disch:=omega);exact ad (h _ (Sub.refl _))
 ·rw[hw]at h;simp(disch:=omega);refine vE w _ _ hw ?_;intro M' hs;simp(disch:=omega);exact ad (h _ hs)
theorem GV(w:List UInt8)(M:Mem)(R:VP)(hl:w.length<=1099511627776)(h:∀ M',Sub M M'->R (aD (if isWord w then Value.bool (decide (kn w w.length<=1)) else .bool false) (aJ w)) M'):ar prog 348 [str w] M R:=by
 refine fnS func348 rfl ntmps348 results348 ?_;simp(disch:=omega);intro b1 hb1;simp(disch:=omega);have hs1:Sub M (M.put b1 (.cells true [str w] 1)):=(Sub.refl _).put hb1 _;refine bq _ _ [w] true (fun _=>True) _ _ (Rd.new rfl (Nat.le_refl 1)) (fM hl) (by simp) trivial bT (bG _) ?_;rw[cV];unfold aD aJ at h;cases hw:isWord w
 ·rw[hw]at h;simp(disch:=omega);exact ad (h _ hs1)
 ·rw[hw]at h;simp(disch:=omega);refine CR w _ _ hw ?_;intro M' hs;simp(disch:=omega);exact ad (h _ (hs1.trans hs))
end Go.Proofs.YtapimhjbilkfpaaGreatDoor
