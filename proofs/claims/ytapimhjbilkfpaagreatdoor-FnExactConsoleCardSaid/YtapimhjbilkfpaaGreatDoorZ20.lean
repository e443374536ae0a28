/- Lemmas for FnExactConsole, part 21 of 46. -/
import Derived.Test.YtapimhjbilkfpaaGreatDoorZ19
import Derived.Test.YtapimhjbilkfpaaGreatDoorZ04
import Derived.Test.YtapimhjbilkfpaaGreatDoorZ07
import Derived.Test.YtapimhjbilkfpaaGreatDoorZ05
import Derived.Lib.SlTrimSet
import Derived.Shelf.Strings.SlTrimAscii
set_option linter.unusedVariables false
set_option linter.unusedSimpArgs false
namespace Go.Proofs.YtapimhjbilkfpaaGreatDoor
open List
theorem PG(p:List UInt8)(k:Nat):∀(d:Nat) (w u:List UInt8),(∀ n,n<=w.length->eV (w.take n) p=false)->u∈avL p k d w ->
  u.length=w.length+d/\(∀ n,n<=u.length->eV (u.take n) p=false)/\(∀ c∈u,c∈w\/∃ i,i<k/\c=ltr i)
 | 0,w,u,hw,h=>by
  unfold avL at h;rw[List.mem_singleton.1 h];exact⟨rfl,hw,fun c hc=>.inl hc⟩
 | d+1,w,u,hw,h=>by
  unfold avL at h;obtain⟨i,hi,h⟩:=List.mem_flatMap.1 h;have hi:=List.mem_range.1 hi;cases he:eV (w++[ltr i]) p
  ·rw[he,if_neg (by decide)]at h;obtain⟨h1,h2,h3⟩:=PG p k d _ u (fun n hn=>by
    rw[length_append,length_singleton]at hn;by_cases e:n=w.length+1
    ·rw[take_of_length_le (by rw[length_append,length_singleton];omega)];exact he
    ·rw[take_append_of_le_length (by omega)];exact hw n (by omega)) h
   refine⟨by rw[h1,length_append,length_singleton];omega,h2,fun c hc=>?_⟩;rcases h3 c hc with h4|h4
   ·rcases List.mem_append.1 h4 with h5|h5
    ·exact .inl h5
    ·exact .inr ⟨i,hi,List.mem_singleton.1 h5⟩
   ·exact .inr h4
  ·rw[he,if_pos rfl]at h;cases h
theorem LO(p:List UInt8):eV [] p=false:=rfl
theorem QD{w p:List UInt8}(h:∀ n,n<=w.length->eV (w.take n) p=false):FG w p=false:=by
 unfold FG rh;rw[any_eq_false];intro m hm;have:=List.mem_range.1 hm;rw[h _ (by omega)];simp
theorem NK{p:List UInt8}{k n:Nat}{u:List UInt8}(hk:k<=5)(hn:n<=60)(hp:∀ c∈p,aE c<3)(hp1:p≠[])(h:u∈avL p k n []) :
  u.length=n/\isWord u=true/\hasB u p=false:=by
 obtain⟨h1,h2,h3⟩:=PG p k n [] u (fun m hm=>by
  rw[take_nil];exact LO p) h
 rw[length_nil,Nat.zero_add]at h1;refine⟨h1,?_,by rw[<-xH hp hp1];exact QD h2⟩;unfold isWord;rw[Bool.and_eq_true,decide_eq_true_eq,all_eq_true];refine⟨by omega,fun c hc=>?_⟩;rcases h3 c hc with h4|⟨i,hi,rfl⟩
 ·cases h4
 ·exact lf (by omega)
theorem PQ{l:List (List UInt8)}(h:emL l=false):hdL l∈l:=by
 cases l with
 | nil=>cases h
 | cons a l=>exact mem_cons_self
def avC(p:List UInt8)(k n:Int)(t:Int):Int:=if aY p then (if decide (1<=k/\k<=3)&&decide (0<=n/\n<=t) then 0 else 2) else 1
def pw(p:List UInt8)(k n:Int):List (List UInt8):=avL p k.toNat n.toNat []
def jh(p:List UInt8)(k n:Int):Int:=if avC p k n 12=0 then (if emL (pw p k n) then 4 else 0) else avC p k n 12
def firstT(p:List UInt8)(k n:Int):List UInt8:=if avC p k n 12=0 then hdL (pw p k n) else []
def KE(p:List UInt8)(k n:Int):Int:=avC p k n 9
def FD(p:List UInt8)(k n:Int):Int:=if avC p k n 9=0 then ((pw p k n).length:Nat) else 0
theorem rq{p:List UInt8}{k n t:Int}(h:avC p k n t=0):aY p=true/\(1<=k/\k<=3)/\(0<=n/\n<=t):=by
 unfold avC at h;cases hp:aY p
 ·rw[hp]at h;simp at h
 ·rw[hp,if_pos rfl]at h;cases hb:decide (1<=k/\k<=3)&&decide (0<=n/\n<=t)
  ·rw[hb]at h;simp at h
  ·rw[Bool.and_eq_true,decide_eq_true_eq,decide_eq_true_eq]at hb;exact⟨rfl,hb.1,hb.2⟩
theorem Pj{p:List UInt8}{k n:Int}(h:jh p k n=0):(firstT p k n).length=n.toNat/\0<=n/\isWord (firstT p k n)=true/\aY p=true/\hasB (firstT p k n) p=false:=by
 unfold jh at h;by_cases h0:avC p k n 12=0
 ·rw[if_pos h0]at h;obtain⟨hp,hk,hn⟩:=rq h0;cases he:emL (pw p k n)
  ·have hm:=PQ he;have hne:p≠[]:=by rintro rfl;have:=(bK hp).1;simp at this
   obtain⟨h1,h2,h3⟩:=NK (k:=k.toNat) (n:=n.toNat) (by omega) (by omega) (qp hp) hne hm;unfold firstT;rw[if_pos h0];exact⟨h1,hn.1,h2,hp,h3⟩
  ·rw[he,if_pos rfl]at h;omega
 ·rw[if_neg h0]at h;exact absurd h h0
theorem Ns{p:List UInt8}{k n:Int}(h:jh p k n≠0):firstT p k n=[]:=by
 unfold jh at h;unfold firstT;by_cases h0:avC p k n 12=0
 ·rw[if_pos h0]at h ⊢;cases he:emL (pw p k n)
  ·rw[he,if_neg (by decide)]at h;exact absurd rfl h
  ·have:=wD he;rw[this];rfl
 ·rw[if_neg h0]
end Go.Proofs.YtapimhjbilkfpaaGreatDoor
namespace Go.Proofs.YtapimhjbilkfpaaGreatDoor
open Go Go.Proofs.Tryz List
def Ro:List UInt8->List UInt8->List UInt8×Bool:=fun _ w=>(w,true)
theorem Mf(l:List (List UInt8))(s:List UInt8):bR Ro s l=if emL l then (s,false) else (hdL l,true):=by
 cases l with
 | nil=>rfl
 | cons a l=>rfl
def P8:Nat->List UInt8->Nat×Bool:=fun n _=>(n+1,false)
theorem zx:∀(l:List (List UInt8)) (n:Nat),bR P8 n l=(n+l.length,false)
 | [],n=>rfl
 | a::l,n=>by
  have e:bR P8 n (a::l)=bR P8 (n+1) l:=rfl;rw[e,zx l (n+1),length_cons,show n+1+l.length=n+(l.length+1) by omega]
theorem MI(p:List UInt8)(k:Nat):∀(d:Nat) (w:List UInt8),(avL p k d w).length<=k ^ d
 | 0,w=>by simp[avL]
 | d+1,w=>by
  have h:∀ i,(avN p k d w i).length<=i*k ^ d:=by
   intro i
   induction i with
   | zero=>simp[sT]
   | succ i ih=>
    rw[ra,length_append,Nat.add_mul,Nat.one_mul];have:(avS p k d w i).length<=k ^ d:=by
     unfold avS;split
     ·simp
     ·exact MI p k d _
    omega
  rw[qO,Nat.pow_succ,Nat.mul_comm];exact h k
theorem oI{p:List UInt8}{k n:Nat}(hk:k<=3)(hn:n<=9)(w:List UInt8):(avL p k n w).length<=19683:=by
 refine Nat.le_trans (MI p k n w) (Nat.le_trans (Nat.pow_le_pow_left hk n) ?_);exact Nat.pow_le_pow_right (by decide) hn
theorem Ln(a:Int):IntKind.i64.wrap (IntKind.i64.wrap a+1)=IntKind.i64.wrap (a+1):=by
 unfold IntKind.wrap;simp[IntKind.bits,IntKind.signed];omega
theorem pK(p:List UInt8)(k n:Int)(M:Mem)(R:VP)(hl:p.length<=1099511627776)(h:∀ M',Sub M M'->R (aD (str (firstT p k n)) (jh p k n)) M'):ar prog 171 [str p,.int .i64 k,.int .i64 n] M R:=by
 unfold jh firstT aD at h;refine fnS func171 rfl ntmps171 results171 ?_;simp(disch:=omega);refine bE k 1 3 _ _ ?_;obtain⟨b1,hb1⟩:∃ b,b=decide (1<=k/\k<=3):=⟨_,rfl⟩;obtain⟨b2,hb2⟩:∃ b,b=decide (0<=n/\n<=12):=⟨_,rfl⟩;have hc:avC p k n 12=if aY p then (if b1&&b2 then 0 else 2) else 1:=by unfold avC;rw[hb1,hb2]
 rw[<-hb1];cases b1
 ·simp(disch:=omega);refine cU p false _ _ hl ?_;have h0:avC p k n 12≠0:=by rw[hc];cases aY p<;>simp
  rw[if_neg h0,if_neg h0,hc]at h;cases hp:aY p
  ·rw[hp]at h;simp(disch:=omega);exact ad (h _ (Sub.refl _))
  ·rw[hp]at h;simp(disch:=omega);exact ad (h _ (Sub.refl _))
 ·simp(disch:=omega);refine bE n 0 12 _ _ ?_;rw[<-hb2];cases b2
  ·simp(disch:=omega);refine cU p false _ _ hl ?_;have h0:avC p k n 12≠0:=by rw[hc];cases aY p<;>simp
   rw[if_neg h0,if_neg h0,hc]at h;cases hp:aY p
   ·rw[hp]at h;simp(disch:=omega);exact ad (h _ (Sub.refl _))
   ·rw[hp]at h;simp(disch:=omega);exact ad (h _ (Sub.refl _))
  ·simp(disch:=omega);refine cU p true _ _ hl ?_;cases hp:aY p
   ·have h0:avC p k n 12=1:=by rw[hc,hp];rfl
    rw[h0,if_neg (by decide),if_neg (by decide)]at h;simp(disch:=omega);exact ad (h _ (Sub.refl _))
   ·have h0:avC p k n 12=0:=by rw[hc,hp];rfl
    rw[if_pos h0,if_pos h0]at h;have hk:=of_decide_eq_true hb1.symm;have hn:=of_decide_eq_true hb2.symm;obtain⟨k,rfl⟩:∃ i:Nat,k=i:=⟨k.toNat,by omega⟩;obtain⟨n,rfl⟩:∃ i:Nat,n=i:=⟨n.toNat,by omega⟩;unfold pw at h;rw[Int.toNat_natCast,Int.toNat_natCast]at h;simp(disch:=omega);intro b9 hb9;simp(disch:=omega);refine ki (S:=List UInt8) p k n hp (by omega) (by omega) _ Ro (fun s M2=>Sub M M2/\M2 b9=some (.cells true [str s] 1)) ?_ n [] [] _ _ (by simp) ⟨(Sub.refl _).put hb9 _,ag _ _ _⟩ ?_
    ·rintro s w K R' hw ⟨hK1,hK2⟩ hR
     simp(disch:=omega);refine fnS func266 rfl ntmps266 results266 ?_;simp(disch:=omega)[hK2,al];exact ad (hR _ ⟨hK1.put hb9 _,ag _ _ _⟩)
    ·rintro M2 ⟨h1,h2⟩
     rw[Mf]at h2 ⊢;cases he:emL (avL p k n [])
     ·rw[he,if_neg (by decide)]at h h2;simp(disch:=omega)[aj h2];exact ad (h _ h1)
     ·rw[he,if_pos rfl]at h h2;rw[wD he]at h;simp(disch:=omega);exact ad (h _ h1)
theorem qy(p:List UInt8)(k n:Int)(M:Mem)(R:VP)(hl:p.length<=1099511627776)(h:∀ M',Sub M M'->R (aD (.int .i64 (FD p k n)) (KE p k n)) M'):ar prog 173 [str p,.int .i64 k,.int .i64 n] M R:=by
 unfold KE FD aD at h;refine fnS func173 rfl ntmps173 results173 ?_;simp(disch:=omega);refine bE k 1 3 _ _ ?_;obtain⟨b1,hb1⟩:∃ b,b=decide (1<=k/\k<=3):=⟨_,rfl⟩;obtain⟨b2,hb2⟩:∃ b,b=decide (0<=n/\n<=9):=⟨_,rfl⟩;have hc:avC p k n 9=if aY p then (if b1&&b2 then 0 else 2) else 1:=by unfold avC;rw[hb1,hb2]
 rw[<-hb1];cases b1
 ·simp(disch:=omega);refine cU p false _ _ hl ?_;have h0:avC p k n 9≠0:=by rw[hc];cases aY p<;>simp
  rw[if_neg h0,hc]at h;cases hp:aY p
  ·rw[hp]at h;simp(disch:=omega);exact ad (h _ (Sub.refl _))
  ·rw[hp]at h;simp(disch:=omega);exact ad (h _ (Sub.refl _))
 ·simp(disch:=omega);refine bE n 0 9 _ _ ?_;rw[<-hb2];cases b2
  ·simp(disch:=omega);refine cU p false _ _ hl ?_;have h0:avC p k n 9≠0:=by rw[hc];cases aY p<;>simp
   rw[if_neg h0,hc]at h;cases hp:aY p
   ·rw[hp]at h;simp(disch:=omega);exact ad (h _ (Sub.refl _))
   ·rw[hp]at h;simp(disch:=omega);exact ad (h _ (Sub.refl _))
  ·simp(disch:=omega);refine cU p true _ _ hl ?_;cases hp:aY p
   ·have h0:avC p k n 9=1:=by rw[hc,hp];rfl
    rw[h0,if_neg (by decide)]at h;simp(disch:=omega);exact ad (h _ (Sub.refl _))
   ·have h0:avC p k n 9=0:=by rw[hc,hp];rfl
    rw[h0,if_pos rfl]at h;have hk:=of_decide_eq_true hb1.symm;have hn:=of_decide_eq_true hb2.symm;obtain⟨k,rfl⟩:∃ i:Nat,k=i:=⟨k.toNat,by omega⟩;obtain⟨n,rfl⟩:∃ i:Nat,n=i:=⟨n.toNat,by omega⟩;unfold pw at h;rw[Int.toNat_natCast,Int.toNat_natCast]at h;have hsm:=oI (p:=p) (k:=k) (n:=n) (by omega) (by omega) [];simp(disch:=omega);intro b9 hb9;simp(disch:=omega);refine ki (S:=Nat) p k n hp (by omega) (by omega) _ P8 (fun s M2=>Sub M M2/\M2 b9=some (.cells true [.int .i64 (IntKind.i64.wrap s)] 1)) ?_ n [] 0 _ _ (by simp) ⟨(Sub.refl _).put hb9 _,ag _ _ _⟩ ?_
    ·rintro s w K R' hw ⟨hK1,hK2⟩ hR
     simp(disch:=omega);refine fnS func267 rfl ntmps267 results267 ?_;simp(disch:=omega)[hK2,aj hK2,al,Ln];exact ad (hR _ ⟨hK1.put hb9 _,ag _ _ _⟩)
    ·rintro M2 ⟨h1,h2⟩
     rw[zx,Nat.zero_add]at h2;rw[zx];generalize (avL p k n []).length=c at *;simp(disch:=omega)[aj h2];exact ad (h _ h1)
theorem pe(p:List UInt8)(k:Nat)(hp:aY p=true)(hk:k<=3):∀(d:Nat) (w:List UInt8) (M:Mem) (R:VP),w.length+d<=60->d<=9->R (.int .i64 ((avL p k d w).length:Nat)) M->ar prog 204 [str w,str p,.int .i64 k,.int .i64 d] M R
 | 0,w,M,R,hd,hd9,h=>by
  unfold avL at h;refine fnS func204 rfl ntmps204 results204 ?_;simp(disch:=omega);exact ad h
 | d+1,w,M,R,hd,hd9,h=>by
  refine fnS func204 rfl ntmps204 results204 ?_;have hb:(((d:Int)+1)==0)=false:=beq_eq_false_iff_ne.2 (by omega);simp(disch:=omega)[hb];refine aQ aR [9,10,11,14,15,16,17,18,19,20,21,22,23,24,25,26,27,28,29,30,31,32,33,34] (fun i:Nat=>[(10,.int .i64 i),(9,.int .i64 ((avN p k d w i).length:Nat))]) (fun i M'=>M=M'/\i<=k) (fun i=>k-i) 0 (by kernel_rfl) (by simp(disch:=omega)[sT]) ⟨rfl,by omega⟩ ?_
  rintro i M' g ⟨rfl,hi⟩
  have hs:=congrArg length (ra p k d w i);rw[length_append]at hs;have hall:(avN p k d w i).length<=(avL p k (d+1) w).length:=by
   obtain⟨rest,hr⟩:=nS p k d w hi;rw[hr,length_append];omega
  have hsm:=oI (p:=p) hk hd9 w;by_cases hlt:i<k
  ·have hall2:(avN p k d w (i+1)).length<=(avL p k (d+1) w).length:=by
    obtain⟨rest,hr⟩:=nS p k d w (show i+1<=k by omega);rw[hr,length_append];omega
   have hsm2:=oI (p:=p) (k:=k) (n:=d) hk (by omega) (w++[ltr i]);simp(disch:=omega);refine iN i _ _ (by omega) ?_;simp(disch:=omega);have hl':(w++[ltr i]).length=w.length+1:=by simp
   refine lb _ p _ _ (by omega) hp ?_;unfold avS at hs;cases he:eV (w++[ltr i]) p
   ·rw[he,if_neg (by decide)]at hs;simp(disch:=omega);refine pe p k hp hk d _ _ _ (by omega) (by omega) ?_;generalize (avL p k d (w++[ltr i])).length=c at *;generalize (avN p k d w i).length=a at *;simp(disch:=omega);exact rndA (i+1) (by simp(disch:=omega);omega) ⟨rfl,by omega⟩
   ·rw[he,if_pos rfl,length_nil,Nat.add_zero]at hs;simp(disch:=omega);exact rndA (i+1) (by simp(disch:=omega)[hs]) ⟨rfl,by omega⟩
  ·have hi':i=k:=by omega
   subst hi';rw[qO]at h;simp(disch:=omega);exact ad h
theorem qA(p:List UInt8)(k n:Int)(M:Mem)(R:VP)(hl:p.length<=1099511627776)(h:R (aD (str (firstT p k n)) (jh p k n)) M):ar prog 129 [str p,.int .i64 k,.int .i64 n] M R:=by
 unfold jh firstT aD at h;refine fnS func129 rfl ntmps129 results129 ?_;simp(disch:=omega);refine pE p k 3 n 12 _ _ hl ?_;rw[show (if aY p then (if decide (1<=k/\k<=3)&&decide (0<=n/\n<=12) then (0:Int) else 2) else 1)=avC p k n 12 from rfl];by_cases h0:avC p k n 12=0
 ·obtain⟨hp,hk,hn⟩:=rq h0;rw[if_pos h0,if_pos h0]at h;obtain⟨k,rfl⟩:∃ i:Nat,k=i:=⟨k.toNat,by omega⟩;obtain⟨n,rfl⟩:∃ i:Nat,n=i:=⟨n.toNat,by omega⟩;unfold pw at h;rw[Int.toNat_natCast,Int.toNat_natCast]at h;simp(disch:=omega)[h0];refine pg p k hp (by omega) n [] _ _ (by simp;omega) ?_;unfold tH;cases he:emL (avL p k n [])
  ·rw[he,if_neg (by decide)]at h;simp(disch:=omega);exact ad h
  ·rw[he,if_pos rfl]at h;rw[wD he]at h;simp(disch:=omega);exact ad h
 ·rw[if_neg h0,if_neg h0]at h;generalize avC p k n 12=c at *;simp(disch:=omega);exact ad h
theorem pY(p:List UInt8)(k n:Int)(M:Mem)(R:VP)(hl:p.length<=1099511627776)(h:R (aD (.int .i64 (FD p k n)) (KE p k n)) M):ar prog 130 [str p,.int .i64 k,.int .i64 n] M R:=by
 unfold KE FD aD at h;refine fnS func130 rfl ntmps130 results130 ?_;simp(disch:=omega);refine pE p k 3 n 9 _ _ hl ?_;rw[show (if aY p then (if decide (1<=k/\k<=3)&&decide (0<=n/\n<=9) then (0:Int) else 2) else 1)=avC p k n 9 from rfl];by_cases h0:avC p k n 9=0
 ·obtain⟨hp,hk,hn⟩:=rq h0;rw[if_pos h0,h0]at h;obtain⟨k,rfl⟩:∃ i:Nat,k=i:=⟨k.toNat,by omega⟩;obtain⟨n,rfl⟩:∃ i:Nat,n=i:=⟨n.toNat,by omega⟩;unfold pw at h;rw[Int.toNat_natCast,Int.toNat_natCast]at h;simp(disch:=omega)[h0];refine pe p k hp (by omega) n [] _ _ (by simp;omega) (by omega) ?_;simp(disch:=omega);exact ad h
 ·rw[if_neg h0]at h;generalize avC p k n 9=c at *;simp(disch:=omega);exact ad h
def Ae(n:Int):Int:=if decide (1<=n/\n<=5) then 0 else 2
def we(n:Int):List UInt8:=if decide (1<=n/\n<=5) then jt n.toNat else []
theorem mu(n:Int)(M:Mem)(R:VP)(h:R (aD (str (we n)) (Ae n)) M):ar prog 108 [.int .i64 n] M R:=by
 unfold Ae we aD at h;refine fnS func108 rfl ntmps108 results108 ?_;simp(disch:=omega);refine mU n _ _ ?_;cases hb:decide (1<=n/\n<=5)
 ·rw[hb]at h;simp(disch:=omega);exact ad h
 ·rw[hb,if_pos rfl,if_pos rfl]at h;have hn:=of_decide_eq_true hb;obtain⟨n,rfl⟩:∃ i:Nat,n=i:=⟨n.toNat,by omega⟩;rw[Int.toNat_natCast]at h;simp(disch:=omega);refine xZ n _ _ (by omega) ?_;simp(disch:=omega);exact ad h
theorem ny(n:Int)(M:Mem)(R:VP)(h:R (aD (str (we n)) (Ae n)) M):ar prog 67 [.int .i64 n] M R:=by
 unfold Ae we aD at h;refine fnS func67 rfl ntmps67 results67 ?_;simp(disch:=omega);refine bZ _ _ _ _ _ ?_;cases hb:decide (1<=n/\n<=5)
 ·rw[hb]at h;simp(disch:=omega);exact ad h
 ·rw[hb,if_pos rfl,if_pos rfl]at h;have hn:=of_decide_eq_true hb;obtain⟨n,rfl⟩:∃ i:Nat,n=i+1:=⟨n.toNat-1,by omega⟩;rw[show ((n:Int)+1).toNat=n+1 by omega]at h;simp(disch:=omega);refine kh n _ _ (by omega) ?_;simp(disch:=omega);exact ad h
end Go.Proofs.YtapimhjbilkfpaaGreatDoor
namespace Go.Proofs.YtapimhjbilkfpaaGreatDoor
open Go Go.Proofs.Tryz Go.RowKit List
def Af(l:List UInt8):Bool:=isWord l&&gF l 2
theorem xB{l:List UInt8}(h:Af l=true):l.length<=60:=au (Bool.and_eq_true_iff.1 h).1
theorem ku(p:UInt8->Bool):∀ l:List UInt8,(∀ x∈l.dropWhile p,p x=true)->∀ x∈l,p x=true
 | [],_=>by simp
 | b::l,h=>by
  cases hb:p b
  ·rw[dropWhile_cons,if_neg (by rw[hb];decide)]at h;have:=h b (by simp);rw[hb]at this;cases this
  ·rw[dropWhile_cons,if_pos hb]at h;intro x hx;rcases List.mem_cons.1 hx with rfl|hx
   ·exact hb
   ·exact ku p l h x hx
theorem OJ(l cs:List UInt8):Lib.trimS l cs=[]↔∀ x∈l,cs.contains x=true:=by
 have dn:∀(p:UInt8->Bool) (m:List UInt8),m.dropWhile p=[]↔∀ x∈m,p x=true:=fun p m=>by
  induction m with
  | nil=>simp
  | cons b m ih=>
   rw[dropWhile_cons];by_cases hb:p b=true
   ·rw[if_pos hb,ih];simp[hb]
   ·rw[if_neg hb];refine⟨fun h=>(by cases h),fun h=>absurd (h b (by simp)) hb⟩
 unfold Lib.trimS Lib.trimLeftS Lib.trimRightS;rw[dn];constructor
 ·intro h x hx;refine ku _ l.reverse (fun y hy=>h y (List.mem_reverse.2 hy)) x (List.mem_reverse.2 hx)
 ·intro h x hx;rw[mem_reverse]at hx;exact h x (List.mem_reverse.1 ((dropWhile_sublist _).subset hx))
theorem Qf(l:List UInt8)(hl:l.all isL=true):Lib.trimS l [97,98]=[]↔gF l 2=true:=by
 rw[OJ];unfold gF;rw[all_eq_true];refine forall_congr' fun x=>forall_congr' fun hx=>?_;have hr:=dS (List.all_eq_true.1 hl x hx);have e:([97,98]:List UInt8).contains x=(x==97||x==98):=by rw[contains_cons,contains_cons,contains_nil,Bool.or_false]
 rw[e,Bool.or_eq_true,beq_iff_eq,beq_iff_eq,decide_eq_true_eq];constructor
 ·rintro(rfl|rfl)<;>decide
 ·intro h;have:x.toNat=97\/x.toNat=98:=by omega
  rcases this with h|h
  ·exact .inl (UInt8.toNat_inj.1 h)
  ·exact .inr (UInt8.toNat_inj.1 h)
theorem Fv(l:List UInt8)(M:Mem)(R:VP)(hl:l.length<=1099511627776)(h:R (str (Lib.trimS l [97,98])) M):ar prog 392 [str l,str [97,98]] M R:=by
 refine dk (str (Lib.trimS l [97,98])) ⟨_,func392,by kernel_rfl,by kernel_rfl⟩ (fun w hw=>?_) h;exact Any.strings_Trim_laid Tryz.lays160 (by kernel_rfl) ⟨⟨l⟩⟩ ⟨⟨[97,98]⟩⟩ w (by show l.length<=_;omega) (by decide) (ascii_of_all (by decide))
theorem HP(l:List UInt8)(M:Mem)(R:VP)(hl:l.length<=1099511627776)(h:R (.bool (Af l)) M):ar prog 340 [str l] M R:=by
 unfold Af at h;refine fnS func340 rfl ntmps340 results340 ?_;simp(disch:=omega);refine gI l _ _ hl ?_;cases hw:isWord l
 ·rw[hw,Bool.false_and]at h;simp(disch:=omega);exact ad h
 ·rw[hw,Bool.true_and]at h;have ht:=Qf l (aV hw);simp(disch:=omega);refine Fv l _ _ hl ?_;cases hf:gF l 2
  ·rw[hf]at h ht;have ht':¬ Lib.trimS l [97,98]=[]:=fun e=>by have:=ht.1 e;cases this
   have ht2:(Lib.trimS l [97,98]).isEmpty=false:=by cases e:Lib.trimS l [97,98] with|nil=>exact absurd e ht'|cons a b=>rfl
   simp(disch:=omega)[ht2];exact ad h
  ·rw[hf]at h ht;have ht':Lib.trimS l [97,98]=[]:=ht.2 rfl;simp(disch:=omega)[ht'];exact ad h
theorem Im(l:List UInt8)(M:Mem)(R:VP)(hl:l.length<=1099511627776)(h:R (.bool (Af l)) M):ar prog 364 [str l] M R:=by
 unfold Af at h;refine fnS func364 rfl ntmps364 results364 ?_;simp(disch:=omega);refine ba l _ _ hl ?_;cases hw:isWord l
 ·rw[hw,Bool.false_and]at h;simp(disch:=omega);exact ad h
 ·rw[hw,Bool.true_and]at h;simp(disch:=omega);refine nP l 2 _ _ hl (aV hw) (by omega) ?_;simp(disch:=omega);exact ad h
theorem k9(a b:Nat)(M:Mem)(R:VP)(ha:a<=1099511627776)(hb:b<=1099511627776)(h:R (.int .i64 (Nat.gcd a b:Nat)) M):ar prog 351 [.int .i64 a,.int .i64 b] M R:=by
 refine fnS func351 rfl ntmps351 results351 ?_;simp(disch:=omega);refine lupS [0,1,5,6,7,8,9,10] (fun x:Nat×Nat=>[(0,.int .i64 (x.1:Nat)),(1,.int .i64 (x.2:Nat))]) (fun x M'=>M=M'/\Nat.gcd x.1 x.2=Nat.gcd a b/\x.1<=1099511627776/\x.2<=1099511627776) (fun x=>x.2) (a,b) ⟨rfl,rfl,ha,hb⟩ ?_
 rintro⟨x,y⟩ M' g ⟨rfl,hg,hx,hy⟩
 simp only at hg hx hy;by_cases hy0:y=0
 ·subst hy0;rw[Nat.gcd_zero_right]at hg;rw[<-hg]at h;simp(disch:=omega);exact ad h
 ·obtain⟨r,hr⟩:∃ r,r=x%y:=⟨_,rfl⟩;have hlt:=Nat.mod_lt x (Nat.pos_of_ne_zero hy0);have hq:(x:Int).tmod (y:Int)=(r:Int):=by rw[hr];rfl
  have hy1:¬(y:Int)=0:=by omega
  simp(disch:=omega);refine drwS ?_;simp(disch:=omega)[hq];refine rndS (y,r) ⟨rfl,?_,hy,by simp only;omega⟩;simp only;rw[hr,<-hg,Nat.gcd_comm y,<-Nat.gcd_rec,Nat.gcd_comm]
theorem mq(a b:Nat)(M:Mem)(R:VP)(ha:a<=1099511627776)(hb:b<=1099511627776)(h:R (.int .i64 (Nat.gcd a b:Nat)) M):ar prog 196 [.int .i64 a,.int .i64 b] M R:=by
 refine fnS func196 rfl ntmps196 results196 ?_;simp(disch:=omega);refine lupS [0,1,5,6,7,8,9,10,11,12] (fun x:Nat×Nat=>[(0,.int .i64 (x.1:Nat)),(1,.int .i64 (x.2:Nat))]) (fun x M'=>M=M'/\Nat.gcd x.1 x.2=Nat.gcd a b/\x.1<=1099511627776/\x.2<=1099511627776) (fun x=>x.2) (a,b) ⟨rfl,rfl,ha,hb⟩ ?_
 rintro⟨x,y⟩ M' g ⟨rfl,hg,hx,hy⟩
 simp only at hg hx hy;by_cases hy0:y=0
 ·subst hy0;rw[Nat.gcd_zero_right]at hg;rw[<-hg]at h;simp(disch:=omega);exact ad h
 ·obtain⟨r,hr⟩:∃ r,r=x%y:=⟨_,rfl⟩;have hlt:=Nat.mod_lt x (Nat.pos_of_ne_zero hy0);have hq:(x:Int).tmod (y:Int)=(r:Int):=by rw[hr];rfl
  have hy1:¬(y:Int)=0:=by omega
  have hy2:(0:Int)<y:=by omega
  simp(disch:=omega)[hq];refine rndS (y,r) ⟨rfl,?_,hy,by simp only;omega⟩;simp only;rw[hr,<-hg,Nat.gcd_comm y,<-Nat.gcd_rec,Nat.gcd_comm]
def ek(p q least:Int):Bool:=decide (least<=p/\p<=1000)&&(decide (least<=q/\q<=1000)&&decide (Nat.gcd p.toNat q.toNat=1))
theorem pG(p q least:Int)(M:Mem)(R:VP)(hle:0<=least)(h:R (.bool (ek p q least)) M):ar prog 263 [.int .i64 p,.int .i64 q,.int .i64 least] M R:=by
 unfold ek at h;refine fnS func263 rfl ntmps263 results263 ?_;simp(disch:=omega);refine bE _ _ _ _ _ ?_;by_cases h1:least<=p/\p<=1000
 ·rw[decide_eq_true h1]at h ⊢;simp(disch:=omega);refine bE _ _ _ _ _ ?_;by_cases h2:least<=q/\q<=1000
  ·rw[decide_eq_true h2]at h ⊢;obtain⟨a,rfl⟩:∃ a:Nat,p=a:=⟨p.toNat,by omega⟩;obtain⟨b,rfl⟩:∃ b:Nat,q=b:=⟨q.toNat,by omega⟩;rw[Int.toNat_natCast,Int.toNat_natCast]at h;simp(disch:=omega);refine k9 a b _ _ (by omega) (by omega) ?_;by_cases h3:Nat.gcd a b=1
   ·rw[decide_eq_true h3]at h;rw[h3];simp(disch:=omega);exact ad h
   ·rw[decide_eq_false h3]at h;have h4:¬((Nat.gcd a b:Nat):Int)=1:=by omega
    have h5:(((Nat.gcd a b:Nat):Int)==1)=false:=beq_eq_false_iff_ne.2 h4;generalize Nat.gcd a b=G at *;simp(disch:=omega)[h5];exact ad h
  ·rw[decide_eq_false h2]at h ⊢;simp(disch:=omega);exact ad h
 ·rw[decide_eq_false h1]at h ⊢;simp(disch:=omega);refine ad h
def gK(a b c:Nat):Nat->List UInt8
 | 0=>[]
 | n+1=>gK a b c n++[if ((n+1)*a+c)/b=(n*a+c)/b then 97 else 98]
theorem oK(a b c:Nat):∀ n,(gK a b c n).length=n
 | 0=>rfl
 | n+1=>by rw[gK,length_append,oK a b c n];rfl
def mQ(p q:Nat):List UInt8:=gK q (p+q) 0 (p+q)
theorem DR(a b c n:Nat)(M:Mem)(R:VP)(ha:a<=3000)(hb:1<=b)(hb':b<=3000)(hc:c<=3000)(hn:n<=3000)(h:R (str (gK a b c n)) M):ar prog 354 [.int .i64 a,.int .i64 b,.int .i64 c,.int .i64 n] M R:=by
 refine fnS func354 rfl ntmps354 results354 ?_;simp(disch:=omega);refine aQ aR [9,10,12,13,14,15,16,17,18,19,20,21,22,23,24,25,26,27,28,29,30,31,32,33,34,35] (fun i:Nat=>[(12,.int .i64 i),(9,str (gK a b c i))]) (fun i M'=>M=M'/\i<=n) (fun i=>n-i) 0 (by kernel_rfl) (by simp(disch:=omega)[gK]) ⟨rfl,by omega⟩ ?_
 rintro i M' g ⟨rfl,hi⟩
 have hln:=oK a b c i;by_cases hlt:i<n
 ·obtain⟨s,hs⟩:∃ s,s=i*a:=⟨_,rfl⟩;obtain⟨t,ht⟩:∃ t,t=(i+1)*a:=⟨_,rfl⟩;have hsb:s<=9000000:=by rw[hs];exact Nat.le_trans (Nat.mul_le_mul (by omega:i<=3000) ha) (by decide)
  have htb:t<=9003000:=by rw[ht];exact Nat.le_trans (Nat.mul_le_mul (by omega:i+1<=3001) ha) (by decide)
  have e1:(i:Int)*(a:Int)=s:=by rw[hs];exact(Int.natCast_mul _ _).symm
  have e2:((i:Int)+1)*(a:Int)=t:=by rw[ht];push_cast;rfl
  obtain⟨x,hx⟩:∃ x,x=(t+c)/b:=⟨_,rfl⟩;obtain⟨y,hy⟩:∃ y,y=(s+c)/b:=⟨_,rfl⟩;have hxb:x<=t+c:=by rw[hx];exact Nat.div_le_self _ _
  have hyb:y<=s+c:=by rw[hy];exact Nat.div_le_self _ _
  have e3:((t:Int)+c).tdiv b=x:=by rw[hx];rfl
  have e4:((s:Int)+c).tdiv b=y:=by rw[hy];rfl
  have hb0:¬(b:Int)=0:=by omega
  have hrec:gK a b c (i+1)=gK a b c i++[if x=y then 97 else 98]:=by rw[gK,<-ht,<-hs,<-hx,<-hy]
  simp(disch:=omega);refine drwS ?_;by_cases hxy:x=y
  ·rw[if_pos hxy]at hrec;have hxy':(x:Int)=y:=by omega
   simp(disch:=omega)[e1,e2,e3,e4,hxy'];refine rndA (i+1) (by simp(disch:=omega)[hrec]) ⟨rfl,by omega⟩
  ·rw[if_neg hxy]at hrec;have hxy':¬(x:Int)=y:=by omega
   simp(disch:=omega)[e1,e2,e3,e4];refine rndA (i+1) (by simp(disch:=omega)[hrec]) ⟨rfl,by omega⟩
 ·have hi':i=n:=by omega
  subst hi';simp(disch:=omega);exact ad h
theorem C5(p q:Nat)(M:Mem)(R:VP)(hp:p<=1000)(hq:q<=1000)(h:R (str (mQ p q)) M):ar prog 200 [.int .i64 p,.int .i64 q] M R:=by
 unfold mQ at h;refine fnS func200 rfl ntmps200 results200 ?_;simp(disch:=omega);obtain⟨n,hn⟩:∃ n,n=p+q:=⟨_,rfl⟩;have hnI:(p:Int)+q=n:=by omega
 rw[<-hn]at h;simp(disch:=omega)[hnI];refine aQ aR [5,7,11,12,13,14,15,16,17,18,19,20,21,22,23,24,25,26,27,28,29,30,31] (fun i:Nat=>[(7,.int .i64 i),(5,str (gK q n 0 i))]) (fun i M'=>M=M'/\i<=n) (fun i=>n-i) 0 (by kernel_rfl) (by simp(disch:=omega)[gK]) ⟨rfl,by omega⟩ ?_
 rintro i M' g ⟨rfl,hi⟩
 have hln:=oK q n 0 i;by_cases hlt:i<n
 ·obtain⟨s,hs⟩:∃ s,s=i*q:=⟨_,rfl⟩;obtain⟨t,ht⟩:∃ t,t=(i+1)*q:=⟨_,rfl⟩;have hsb:s<=9000000:=by rw[hs];exact Nat.le_trans (Nat.mul_le_mul (by omega:i<=3000) (by omega:q<=3000)) (by decide)
  have htb:t<=9003000:=by rw[ht];exact Nat.le_trans (Nat.mul_le_mul (by omega:i+1<=3001) (by omega:q<=3000)) (by decide)
  have e1:(i:Int)*(q:Int)=s:=by rw[hs];exact(Int.natCast_mul _ _).symm
  have e2:((i:Int)+1)*(q:Int)=t:=by rw[ht];push_cast;rfl
  obtain⟨x,hx⟩:∃ x,x=t/n:=⟨_,rfl⟩;obtain⟨y,hy⟩:∃ y,y=s/n:=⟨_,rfl⟩;have hxb:x<=t:=by rw[hx];exact Nat.div_le_self _ _
  have hyb:y<=s:=by rw[hy];exact Nat.div_le_self _ _
  have e3:(t:Int).tdiv n=x:=by rw[hx];rfl
  have e4:(s:Int).tdiv n=y:=by rw[hy];rfl
  have hb0:¬(n:Int)=0:=by omega
  have hrec:gK q n 0 (i+1)=gK q n 0 i++[if x=y then 97 else 98]:=by rw[gK,<-ht,<-hs,Nat.add_zero,Nat.add_zero,<-hx,<-hy]
  simp(disch:=omega);refine drwS ?_;by_cases hxy:x=y
  ·rw[if_pos hxy]at hrec;have hxy':(x:Int)=y:=by omega
   simp(disch:=omega)[e1,e2,e3,e4,hxy'];refine rndA (i+1) (by simp(disch:=omega)[hrec]) ⟨rfl,by omega⟩
  ·rw[if_neg hxy]at hrec;have hxy':¬(x:Int)=y:=by omega
   simp(disch:=omega)[e1,e2,e3,e4];refine rndA (i+1) (by simp(disch:=omega)[hrec]) ⟨rfl,by omega⟩
 ·have hi':i=n:=by omega
  subst hi';simp(disch:=omega);exact ad h
theorem yW(p q:Nat)(M:Mem)(R:VP)(hp:p<=1000)(hq:q<=1000)(h0:1<=p+q)(h:R (str (mQ p q)) M):ar prog 259 [.int .i64 p,.int .i64 q] M R:=by
 unfold mQ at h;refine fnS func259 rfl ntmps259 results259 ?_;obtain⟨n,hn⟩:∃ n,n=p+q:=⟨_,rfl⟩;have hnI:(p:Int)+q=n:=by omega
 rw[<-hn]at h;simp(disch:=omega)[hnI];refine DR q n 0 n _ _ (by omega) (by omega) (by omega) (by omega) (by omega) ?_;simp(disch:=omega);exact ad h
def nmA(l:List UInt8):Nat:=l.countP fun u=>u.toNat==97
def nmB(l:List UInt8):Nat:=l.countP fun u=>u.toNat==98
def QS(l:List UInt8):Bool:=decide (Nat.gcd (nmA l) (nmB l)=1)&&(mQ (nmA l) (nmB l)==l)
theorem Hu{a b:Nat}(h:Nat.gcd a b=1):1<=a+b:=by
 rcases Nat.eq_zero_or_pos (a+b) with h0|h0
 ·have ha:a=0:=by omega
  have hb:b=0:=by omega
  subst ha hb;cases h
 ·exact h0
def sP(l:List UInt8):Nat:=if Af l=true then (if QS l=true then nmA l else 0) else 0
end Go.Proofs.YtapimhjbilkfpaaGreatDoor
