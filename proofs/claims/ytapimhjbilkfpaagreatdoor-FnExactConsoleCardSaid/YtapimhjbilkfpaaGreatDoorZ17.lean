/- Lemmas for FnExactDeskAfter, part 18 of 33. -/
import Derived.Test.YtapimhjbilkfpaaGreatDoorZ16
import Derived.Lib.SlTrimSet
import Derived.Shelf.Strings.SlTrimAscii
set_option linter.unusedVariables false
set_option linter.unusedSimpArgs false
namespace Go.Proofs.YtapimhjbilkfpaaGreatDoor
open Go Go.Proofs.Tryz List
def S8:B8->B8->B8×Bool:=fun _ w=>(w,true)
theorem Np(l:List B8)(s:B8):bT S8 s l=if emL l then (s,false) else (hdL l,true):=by
 cases l with
 | nil=>rfl
 | cons a l=>rfl
def Sb:Nat->B8->Nat×Bool:=fun n _=>(n+1,false)
theorem yh:∀(l:List B8) (n:Nat),bT Sb n l=(n+l.length,false)
 | [],n=>rfl
 | a::l,n=>by
  have e:bT Sb n (a::l)=bT Sb (n+1) l:=rfl;rw[e,yh l (n+1),length_cons,show n+1+l.length=n+(l.length+1) by omega]
theorem OZ(p:B8)(k:Nat):∀(d:Nat) (w:B8),(avL p k d w).length<=k ^ d
 | 0,w=>by simp[avL]
 | d+1,w=>by
  have h:∀ i,(avN p k d w i).length<=i*k ^ d:=by
   intro i
   induction i with
   | zero=>simp[sG]
   | succ i ih=>
    rw[tv,lAp,Nat.add_mul,Nat.one_mul];have:(avS p k d w i).length<=k ^ d:=by
     unfold avS;split
     ·simp
     ·exact OZ p k d _
    omega
  rw[sE,Nat.pow_succ,Nat.mul_comm];exact h k
theorem pz{p:B8}{k n:Nat}(hk:k<=3)(hn:n<=9)(w:B8):(avL p k n w).length<=19683:=by
 refine Nat.le_trans (OZ p k n w) (Nat.le_trans (Nat.pow_le_pow_left hk n) ?_);exact Nat.pow_le_pow_right (by decide) hn
theorem NB(a:Int):IntKind.i64.wrap (IntKind.i64.wrap a+1)=IntKind.i64.wrap (a+1):=by
 unfold IntKind.wrap;simp[IntKind.bits,IntKind.signed];omega
theorem rv(p:B8)(k n:Int)(M:Mem)(R:VP)(hl:p.length<=1099511627776)(h:∀ M',Sub M M'->R (aE (str (firstT p k n)) (jl p k n)) M'):ar prog 171 [str p,.int .i64 k,.int .i64 n] M R:=by
 unfold jl firstT aE at h;refine fnS func171 rfl ntmps171 results171 ?_;simp(disch:=omega);refine bF k 1 3 _ _ ?_;obtain⟨b1,hb1⟩:∃ b,b=decide (1<=k/\k<=3):=⟨_,rfl⟩;obtain⟨b2,hb2⟩:∃ b,b=decide (0<=n/\n<=12):=⟨_,rfl⟩;have hc:avC p k n 12=if a7 p then (if b1&&b2 then 0 else 2) else 1:=by unfold avC;rw[hb1,hb2]
 rw[<-hb1];cases b1
 ·simp(disch:=omega);refine da p false _ _ hl ?_;have h0:avC p k n 12≠0:=by rw[hc];cases a7 p<;>simp
  rw[if_neg h0,if_neg h0,hc]at h;cases hp:a7 p
  ·rw[hp]at h;simp(disch:=omega);exact ad (h _ (Sub.refl _))
  ·rw[hp]at h;simp(disch:=omega);exact ad (h _ (Sub.refl _))
 ·simp(disch:=omega);refine bF n 0 12 _ _ ?_;rw[<-hb2];cases b2
  ·simp(disch:=omega);refine da p false _ _ hl ?_;have h0:avC p k n 12≠0:=by rw[hc];cases a7 p<;>simp
   rw[if_neg h0,if_neg h0,hc]at h;cases hp:a7 p
   ·rw[hp]at h;simp(disch:=omega);exact ad (h _ (Sub.refl _))
   ·rw[hp]at h;simp(disch:=omega);exact ad (h _ (Sub.refl _))
  ·simp(disch:=omega);refine da p true _ _ hl ?_;cases hp:a7 p
   ·have h0:avC p k n 12=1:=by rw[hc,hp];rfl
    rw[h0,if_neg (by decide),if_neg (by decide)]at h;simp(disch:=omega);exact ad (h _ (Sub.refl _))
   ·have h0:avC p k n 12=0:=by rw[hc,hp];rfl
    rw[if_pos h0,if_pos h0]at h;have hk:=of_decide_eq_true hb1.symm;have hn:=of_decide_eq_true hb2.symm;obtain⟨k,rfl⟩:∃ i:Nat,k=i:=⟨k.toNat,by omega⟩;obtain⟨n,rfl⟩:∃ i:Nat,n=i:=⟨n.toNat,by omega⟩;unfold pW at h;rw[Int.toNat_natCast,Int.toNat_natCast]at h;simp(disch:=omega);intro b9 hb9;simp(disch:=omega);refine kO (S:=B8) p k n hp (by omega) (by omega) _ S8 (fun s M2=>Sub M M2/\M2 b9=some (.cells true [str s] 1)) ?_ n [] [] _ _ (by simp) ⟨(Sub.refl _).put hb9 _,ag _ _ _⟩ ?_
    ·rintro s w K R' hw ⟨hK1,hK2⟩ hR
     simp(disch:=omega);refine fnS func266 rfl ntmps266 results266 ?_;simp(disch:=omega)[hK2,aj];exact ad (hR _ ⟨hK1.put hb9 _,ag _ _ _⟩)
    ·rintro M2 ⟨h1,h2⟩
     rw[Np]at h2 ⊢;cases he:emL (avL p k n [])
     ·rw[he,if_neg (by decide)]at h h2;simp(disch:=omega)[al h2];exact ad (h _ h1)
     ·rw[he,if_pos rfl]at h h2;rw[xL he]at h;simp(disch:=omega);exact ad (h _ h1)
theorem re(p:B8)(k n:Int)(M:Mem)(R:VP)(hl:p.length<=1099511627776)(h:∀ M',Sub M M'->R (aE (.int .i64 (G7 p k n)) (LY p k n)) M'):ar prog 173 [str p,.int .i64 k,.int .i64 n] M R:=by
 unfold LY G7 aE at h;refine fnS func173 rfl ntmps173 results173 ?_;simp(disch:=omega);refine bF k 1 3 _ _ ?_;obtain⟨b1,hb1⟩:∃ b,b=decide (1<=k/\k<=3):=⟨_,rfl⟩;obtain⟨b2,hb2⟩:∃ b,b=decide (0<=n/\n<=9):=⟨_,rfl⟩;have hc:avC p k n 9=if a7 p then (if b1&&b2 then 0 else 2) else 1:=by unfold avC;rw[hb1,hb2]
 rw[<-hb1];cases b1
 ·simp(disch:=omega);refine da p false _ _ hl ?_;have h0:avC p k n 9≠0:=by rw[hc];cases a7 p<;>simp
  rw[if_neg h0,hc]at h;cases hp:a7 p
  ·rw[hp]at h;simp(disch:=omega);exact ad (h _ (Sub.refl _))
  ·rw[hp]at h;simp(disch:=omega);exact ad (h _ (Sub.refl _))
 ·simp(disch:=omega);refine bF n 0 9 _ _ ?_;rw[<-hb2];cases b2
  ·simp(disch:=omega);refine da p false _ _ hl ?_;have h0:avC p k n 9≠0:=by rw[hc];cases a7 p<;>simp
   rw[if_neg h0,hc]at h;cases hp:a7 p
   ·rw[hp]at h;simp(disch:=omega);exact ad (h _ (Sub.refl _))
   ·rw[hp]at h;simp(disch:=omega);exact ad (h _ (Sub.refl _))
  ·simp(disch:=omega);refine da p true _ _ hl ?_;cases hp:a7 p
   ·have h0:avC p k n 9=1:=by rw[hc,hp];rfl
    rw[h0,if_neg (by decide)]at h;simp(disch:=omega);exact ad (h _ (Sub.refl _))
   ·have h0:avC p k n 9=0:=by rw[hc,hp];rfl
    rw[h0,if_pos rfl]at h;have hk:=of_decide_eq_true hb1.symm;have hn:=of_decide_eq_true hb2.symm;obtain⟨k,rfl⟩:∃ i:Nat,k=i:=⟨k.toNat,by omega⟩;obtain⟨n,rfl⟩:∃ i:Nat,n=i:=⟨n.toNat,by omega⟩;unfold pW at h;rw[Int.toNat_natCast,Int.toNat_natCast]at h;have hsm:=pz (p:=p) (k:=k) (n:=n) (by omega) (by omega) [];simp(disch:=omega);intro b9 hb9;simp(disch:=omega);refine kO (S:=Nat) p k n hp (by omega) (by omega) _ Sb (fun s M2=>Sub M M2/\M2 b9=some (.cells true [.int .i64 (IntKind.i64.wrap s)] 1)) ?_ n [] 0 _ _ (by simp) ⟨(Sub.refl _).put hb9 _,ag _ _ _⟩ ?_
    ·rintro s w K R' hw ⟨hK1,hK2⟩ hR
     simp(disch:=omega);refine fnS func267 rfl ntmps267 results267 ?_;simp(disch:=omega)[hK2,al hK2,aj,NB];exact ad (hR _ ⟨hK1.put hb9 _,ag _ _ _⟩)
    ·rintro M2 ⟨h1,h2⟩
     rw[yh,Nat.zero_add]at h2;rw[yh];generalize (avL p k n []).length=c at *;simp(disch:=omega)[al h2];exact ad (h _ h1)
theorem qd(p:B8)(k:Nat)(hp:a7 p=true)(hk:k<=3):∀(d:Nat) (w:B8) (M:Mem) (R:VP),w.length+d<=60->d<=9->R (.int .i64 ((avL p k d w).length:Nat)) M->ar prog 204 [str w,str p,.int .i64 k,.int .i64 d] M R
 | 0,w,M,R,hd,hd9,h=>by
  unfold avL at h;refine fnS func204 rfl ntmps204 results204 ?_;simp(disch:=omega);exact ad h
 | d+1,w,M,R,hd,hd9,h=>by
  refine fnS func204 rfl ntmps204 results204 ?_;have hb:(((d:Int)+1)==0)=false:=bNe.2 (by omega);simp(disch:=omega)[hb];refine aP aR (rlA [9,10,11] 14 21) (fun i:Nat=>[(10,.int .i64 i),(9,.int .i64 ((avN p k d w i).length:Nat))]) (fun i M'=>M=M'/\i<=k) (fun i=>k-i) 0 (by kernel_rfl) (by simp(disch:=omega)[sG]) ⟨rfl,by omega⟩ ?_
  rintro i M' g ⟨rfl,hi⟩
  have hs:=congrArg length (tv p k d w i);rw[lAp]at hs;have hall:(avN p k d w i).length<=(avL p k (d+1) w).length:=by
   obtain⟨rest,hr⟩:=oQ p k d w hi;rw[hr,lAp];omega
  have hsm:=pz (p:=p) hk hd9 w;by_cases hlt:i<k
  ·have hall2:(avN p k d w (i+1)).length<=(avL p k (d+1) w).length:=by
    obtain⟨rest,hr⟩:=oQ p k d w (show i+1<=k by omega);rw[hr,lAp];omega
   have hsm2:=pz (p:=p) (k:=k) (n:=d) hk (by omega) (w++[ltr i]);simp(disch:=omega);refine jy i _ _ (by omega) ?_;simp(disch:=omega);have hl':(w++[ltr i]).length=w.length+1:=by simp
   refine lP _ p _ _ (by omega) hp ?_;unfold avS at hs;cases he:fh (w++[ltr i]) p
   ·rw[he,if_neg (by decide)]at hs;simp(disch:=omega);refine qd p k hp hk d _ _ _ (by omega) (by omega) ?_;generalize (avL p k d (w++[ltr i])).length=c at *;generalize (avN p k d w i).length=a at *;simp(disch:=omega);exact rndA (i+1) (by simp(disch:=omega);omega) ⟨rfl,by omega⟩
   ·rw[he,if_pos rfl,length_nil,Nat.add_zero]at hs;simp(disch:=omega);exact rndA (i+1) (by simp(disch:=omega)[hs]) ⟨rfl,by omega⟩
  ·have hi':i=k:=by omega
   subst hi';rw[sE]at h;simp(disch:=omega);exact ad h
theorem ra(p:B8)(k n:Int)(M:Mem)(R:VP)(hl:p.length<=1099511627776)(h:R (aE (str (firstT p k n)) (jl p k n)) M):ar prog 129 [str p,.int .i64 k,.int .i64 n] M R:=by
 unfold jl firstT aE at h;refine fnS func129 rfl ntmps129 results129 ?_;simp(disch:=omega);refine qc p k 3 n 12 _ _ hl ?_;rw[show (if a7 p then (if decide (1<=k/\k<=3)&&decide (0<=n/\n<=12) then (0:Int) else 2) else 1)=avC p k n 12 from rfl];by_cases h0:avC p k n 12=0
 ·obtain⟨hp,hk,hn⟩:=td h0;rw[if_pos h0,if_pos h0]at h;obtain⟨k,rfl⟩:∃ i:Nat,k=i:=⟨k.toNat,by omega⟩;obtain⟨n,rfl⟩:∃ i:Nat,n=i:=⟨n.toNat,by omega⟩;unfold pW at h;rw[Int.toNat_natCast,Int.toNat_natCast]at h;simp(disch:=omega)[h0];refine pN p k hp (by omega) n [] _ _ (by simp;omega) ?_;unfold vF;cases he:emL (avL p k n [])
  ·rw[he,if_neg (by decide)]at h;simp(disch:=omega);exact ad h
  ·rw[he,if_pos rfl]at h;rw[xL he]at h;simp(disch:=omega);exact ad h
 ·rw[if_neg h0,if_neg h0]at h;generalize avC p k n 12=c at *;simp(disch:=omega);exact ad h
theorem qW(p:B8)(k n:Int)(M:Mem)(R:VP)(hl:p.length<=1099511627776)(h:R (aE (.int .i64 (G7 p k n)) (LY p k n)) M):ar prog 130 [str p,.int .i64 k,.int .i64 n] M R:=by
 unfold LY G7 aE at h;refine fnS func130 rfl ntmps130 results130 ?_;simp(disch:=omega);refine qc p k 3 n 9 _ _ hl ?_;rw[show (if a7 p then (if decide (1<=k/\k<=3)&&decide (0<=n/\n<=9) then (0:Int) else 2) else 1)=avC p k n 9 from rfl];by_cases h0:avC p k n 9=0
 ·obtain⟨hp,hk,hn⟩:=td h0;rw[if_pos h0,h0]at h;obtain⟨k,rfl⟩:∃ i:Nat,k=i:=⟨k.toNat,by omega⟩;obtain⟨n,rfl⟩:∃ i:Nat,n=i:=⟨n.toNat,by omega⟩;unfold pW at h;rw[Int.toNat_natCast,Int.toNat_natCast]at h;simp(disch:=omega)[h0];refine qd p k hp (by omega) n [] _ _ (by simp;omega) (by omega) ?_;simp(disch:=omega);exact ad h
 ·rw[if_neg h0]at h;generalize avC p k n 9=c at *;simp(disch:=omega);exact ad h
def Bu(n:Int):Int:=if decide (1<=n/\n<=5) then 0 else 2
def wQ(n:Int):B8:=if decide (1<=n/\n<=5) then jM n.toNat else []
theorem nJ(n:Int)(M:Mem)(R:VP)(h:R (aE (str (wQ n)) (Bu n)) M):ar prog 108 [.int .i64 n] M R:=by
 unfold Bu wQ aE at h;refine fnS func108 rfl ntmps108 results108 ?_;simp(disch:=omega);refine mW n _ _ ?_;cases hb:decide (1<=n/\n<=5)
 ·rw[hb]at h;simp(disch:=omega);exact ad h
 ·rw[hb,if_pos rfl,if_pos rfl]at h;have hn:=of_decide_eq_true hb;obtain⟨n,rfl⟩:∃ i:Nat,n=i:=⟨n.toNat,by omega⟩;rw[Int.toNat_natCast]at h;simp(disch:=omega);refine zr n _ _ (by omega) ?_;simp(disch:=omega);exact ad h
theorem oq(n:Int)(M:Mem)(R:VP)(h:R (aE (str (wQ n)) (Bu n)) M):ar prog 67 [.int .i64 n] M R:=by
 unfold Bu wQ aE at h;refine fnS func67 rfl ntmps67 results67 ?_;simp(disch:=omega);refine cg _ _ _ _ _ ?_;cases hb:decide (1<=n/\n<=5)
 ·rw[hb]at h;simp(disch:=omega);exact ad h
 ·rw[hb,if_pos rfl,if_pos rfl]at h;have hn:=of_decide_eq_true hb;obtain⟨n,rfl⟩:∃ i:Nat,n=i+1:=⟨n.toNat-1,by omega⟩;rw[show ((n:Int)+1).toNat=n+1 by omega]at h;simp(disch:=omega);refine kD n _ _ (by omega) ?_;simp(disch:=omega);exact ad h
end Go.Proofs.YtapimhjbilkfpaaGreatDoor
namespace Go.Proofs.YtapimhjbilkfpaaGreatDoor
open Go Go.Proofs.Tryz Go.RowKit List
def AM(l:B8):Bool:=isWord l&&iC l 2
theorem Ar{l:B8}(h:AM l=true):l.length<=60:=au (Bool.and_eq_true_iff.1 h).1
theorem kX(p:UInt8->Bool):∀ l:B8,(∀ x∈l.dropWhile p,p x=true)->∀ x∈l,p x=true
 | [],_=>by simp
 | b::l,h=>by
  cases hb:p b
  ·rw[dropWhile_cons,if_neg (by rw[hb];decide)]at h;have:=h b (by simp);rw[hb]at this;cases this
  ·rw[dropWhile_cons,if_pos hb]at h;intro x hx;rcases List.mem_cons.1 hx with rfl|hx
   ·exact hb
   ·exact kX p l h x hx
theorem O3(l cs:B8):Lib.trimS l cs=[]↔∀ x∈l,cs.contains x=true:=by
 have dn:∀(p:UInt8->Bool) (m:B8),m.dropWhile p=[]↔∀ x∈m,p x=true:=fun p m=>by
  induction m with
  | nil=>simp
  | cons b m ih=>
   rw[dropWhile_cons];by_cases hb:p b=true
   ·rw[if_pos hb,ih];simp[hb]
   ·rw[if_neg hb];refine⟨fun h=>(by cases h),fun h=>absurd (h b (by simp)) hb⟩
 unfold Lib.trimS Lib.trimLeftS Lib.trimRightS;rw[dn];constructor
 ·intro h x hx;refine kX _ l.reverse (fun y hy=>h y (List.mem_reverse.2 hy)) x (List.mem_reverse.2 hx)
 ·intro h x hx;rw[mem_reverse]at hx;exact h x (List.mem_reverse.1 ((dropWhile_sublist _).subset hx))
theorem Sh(l:B8)(hl:l.all isL=true):Lib.trimS l [97,98]=[]↔iC l 2=true:=by
 rw[O3];unfold iC;rw[all_eq_true];refine forall_congr' fun x=>forall_congr' fun hx=>?_;have hr:=ee (List.all_eq_true.1 hl x hx);have e:([97,98]:B8).contains x=(x==97||x==98):=by rw[contains_cons,contains_cons,contains_nil,Bool.or_false]
 rw[e,Bool.or_eq_true,beq_iff_eq,beq_iff_eq,decide_eq_true_eq];constructor
 ·rintro(rfl|rfl)<;>decide
 ·intro h;have:x.toNat=97\/x.toNat=98:=by omega
  rcases this with h|h
  ·exact .inl (UInt8.toNat_inj.1 h)
  ·exact .inr (UInt8.toNat_inj.1 h)
theorem Hy(l:B8)(M:Mem)(R:VP)(hl:l.length<=1099511627776)(h:R (str (Lib.trimS l [97,98])) M):ar prog 392 [str l,str [97,98]] M R:=by
 refine dt (str (Lib.trimS l [97,98])) ⟨_,func392,by kernel_rfl,by kernel_rfl⟩ (fun w hw=>?_) h;exact Any.strings_Trim_laid Tryz.lays160 (by kernel_rfl) ⟨⟨l⟩⟩ ⟨⟨[97,98]⟩⟩ w (by show l.length<=_;omega) (by decide) (ascii_of_all (by decide))
theorem IE(l:B8)(M:Mem)(R:VP)(hl:l.length<=1099511627776)(h:R (.bool (AM l)) M):ar prog 340 [str l] M R:=by
 unfold AM at h;refine fnS func340 rfl ntmps340 results340 ?_;simp(disch:=omega);refine fG l _ _ hl ?_;cases hw:isWord l
 ·rw[hw,Bool.false_and]at h;simp(disch:=omega);exact ad h
 ·rw[hw,Bool.true_and]at h;have ht:=Sh l (aZ hw);simp(disch:=omega);refine Hy l _ _ hl ?_;cases hf:iC l 2
  ·rw[hf]at h ht;have ht':¬ Lib.trimS l [97,98]=[]:=fun e=>by have:=ht.1 e;cases this
   have ht2:(Lib.trimS l [97,98]).isEmpty=false:=by cases e:Lib.trimS l [97,98] with|nil=>exact absurd e ht'|cons a b=>rfl
   simp(disch:=omega)[ht2];exact ad h
  ·rw[hf]at h ht;have ht':Lib.trimS l [97,98]=[]:=ht.2 rfl;simp(disch:=omega)[ht'];exact ad h
theorem JK(l:B8)(M:Mem)(R:VP)(hl:l.length<=1099511627776)(h:R (.bool (AM l)) M):ar prog 364 [str l] M R:=by
 unfold AM at h;refine fnS func364 rfl ntmps364 results364 ?_;simp(disch:=omega);refine bg l _ _ hl ?_;cases hw:isWord l
 ·rw[hw,Bool.false_and]at h;simp(disch:=omega);exact ad h
 ·rw[hw,Bool.true_and]at h;simp(disch:=omega);refine nH l 2 _ _ hl (aZ hw) (by omega) ?_;simp(disch:=omega);exact ad h
theorem lG(a b:Nat)(M:Mem)(R:VP)(ha:a<=1099511627776)(hb:b<=1099511627776)(h:R (.int .i64 (Nat.gcd a b:Nat)) M):ar prog 351 [.int .i64 a,.int .i64 b] M R:=by
 refine fnS func351 rfl ntmps351 results351 ?_;simp(disch:=omega);refine lupS (rlA [0,1] 5 6) (fun x:Nat×Nat=>[(0,.int .i64 (x.1:Nat)),(1,.int .i64 (x.2:Nat))]) (fun x M'=>M=M'/\Nat.gcd x.1 x.2=Nat.gcd a b/\x.1<=1099511627776/\x.2<=1099511627776) (fun x=>x.2) (a,b) ⟨rfl,rfl,ha,hb⟩ ?_
 rintro⟨x,y⟩ M' g ⟨rfl,hg,hx,hy⟩
 simp only at hg hx hy;by_cases hy0:y=0
 ·subst hy0;rw[Nat.gcd_zero_right]at hg;rw[<-hg]at h;simp(disch:=omega);exact ad h
 ·obtain⟨r,hr⟩:∃ r,r=x%y:=⟨_,rfl⟩;have hlt:=Nat.mod_lt x (Nat.pos_of_ne_zero hy0);have hq:(x:Int).tmod (y:Int)=(r:Int):=by rw[hr];rfl
  have hy1:¬(y:Int)=0:=by omega
  simp(disch:=omega);refine drwS ?_;simp(disch:=omega)[hq];refine rndS (y,r) ⟨rfl,?_,hy,by simp only;omega⟩;simp only;rw[hr,<-hg,Nat.gcd_comm y,<-Nat.gcd_rec,Nat.gcd_comm]
theorem nW(a b:Nat)(M:Mem)(R:VP)(ha:a<=1099511627776)(hb:b<=1099511627776)(h:R (.int .i64 (Nat.gcd a b:Nat)) M):ar prog 196 [.int .i64 a,.int .i64 b] M R:=by
 refine fnS func196 rfl ntmps196 results196 ?_;simp(disch:=omega);refine lupS (rlA [0,1] 5 8) (fun x:Nat×Nat=>[(0,.int .i64 (x.1:Nat)),(1,.int .i64 (x.2:Nat))]) (fun x M'=>M=M'/\Nat.gcd x.1 x.2=Nat.gcd a b/\x.1<=1099511627776/\x.2<=1099511627776) (fun x=>x.2) (a,b) ⟨rfl,rfl,ha,hb⟩ ?_
 rintro⟨x,y⟩ M' g ⟨rfl,hg,hx,hy⟩
 simp only at hg hx hy;by_cases hy0:y=0
 ·subst hy0;rw[Nat.gcd_zero_right]at hg;rw[<-hg]at h;simp(disch:=omega);exact ad h
 ·obtain⟨r,hr⟩:∃ r,r=x%y:=⟨_,rfl⟩;have hlt:=Nat.mod_lt x (Nat.pos_of_ne_zero hy0);have hq:(x:Int).tmod (y:Int)=(r:Int):=by rw[hr];rfl
  have hy1:¬(y:Int)=0:=by omega
  have hy2:(0:Int)<y:=by omega
  simp(disch:=omega)[hq];refine rndS (y,r) ⟨rfl,?_,hy,by simp only;omega⟩;simp only;rw[hr,<-hg,Nat.gcd_comm y,<-Nat.gcd_rec,Nat.gcd_comm]
def eA(p q least:Int):Bool:=decide (least<=p/\p<=1000)&&(decide (least<=q/\q<=1000)&&decide (Nat.gcd p.toNat q.toNat=1))
theorem qg(p q least:Int)(M:Mem)(R:VP)(hle:0<=least)(h:R (.bool (eA p q least)) M):ar prog 263 [.int .i64 p,.int .i64 q,.int .i64 least] M R:=by
 unfold eA at h;refine fnS func263 rfl ntmps263 results263 ?_;simp(disch:=omega);refine bF _ _ _ _ _ ?_;by_cases h1:least<=p/\p<=1000
 ·rw[decide_eq_true h1]at h ⊢;simp(disch:=omega);refine bF _ _ _ _ _ ?_;by_cases h2:least<=q/\q<=1000
  ·rw[decide_eq_true h2]at h ⊢;obtain⟨a,rfl⟩:∃ a:Nat,p=a:=⟨p.toNat,by omega⟩;obtain⟨b,rfl⟩:∃ b:Nat,q=b:=⟨q.toNat,by omega⟩;rw[Int.toNat_natCast,Int.toNat_natCast]at h;simp(disch:=omega);refine lG a b _ _ (by omega) (by omega) ?_;by_cases h3:Nat.gcd a b=1
   ·rw[decide_eq_true h3]at h;rw[h3];simp(disch:=omega);exact ad h
   ·rw[decide_eq_false h3]at h;have h4:¬((Nat.gcd a b:Nat):Int)=1:=by omega
    have h5:(((Nat.gcd a b:Nat):Int)==1)=false:=bNe.2 h4;generalize Nat.gcd a b=G at *;simp(disch:=omega)[h5];exact ad h
  ·rw[decide_eq_false h2]at h ⊢;simp(disch:=omega);exact ad h
 ·rw[decide_eq_false h1]at h ⊢;simp(disch:=omega);refine ad h
def ig(a b c:Nat):Nat->B8
 | 0=>[]
 | n+1=>ig a b c n++[if ((n+1)*a+c)/b=(n*a+c)/b then 97 else 98]
theorem pj(a b c:Nat):∀ n,(ig a b c n).length=n
 | 0=>rfl
 | n+1=>by rw[ig,lAp,pj a b c n];rfl
def nk(p q:Nat):B8:=ig q (p+q) 0 (p+q)
theorem Et(a b c n:Nat)(M:Mem)(R:VP)(ha:a<=3000)(hb:1<=b)(hb':b<=3000)(hc:c<=3000)(hn:n<=3000)(h:R (str (ig a b c n)) M):ar prog 354 [.int .i64 a,.int .i64 b,.int .i64 c,.int .i64 n] M R:=by
 refine fnS func354 rfl ntmps354 results354 ?_;simp(disch:=omega);refine aP aR (rlA [9,10] 12 24) (fun i:Nat=>[(12,.int .i64 i),(9,str (ig a b c i))]) (fun i M'=>M=M'/\i<=n) (fun i=>n-i) 0 (by kernel_rfl) (by simp(disch:=omega)[ig]) ⟨rfl,by omega⟩ ?_
 rintro i M' g ⟨rfl,hi⟩
 have hln:=pj a b c i;by_cases hlt:i<n
 ·obtain⟨s,hs⟩:∃ s,s=i*a:=⟨_,rfl⟩;obtain⟨t,ht⟩:∃ t,t=(i+1)*a:=⟨_,rfl⟩;have hsb:s<=9000000:=by rw[hs];exact Nat.le_trans (Nat.mul_le_mul (by omega:i<=3000) ha) (by decide)
  have htb:t<=9003000:=by rw[ht];exact Nat.le_trans (Nat.mul_le_mul (by omega:i+1<=3001) ha) (by decide)
  have e1:(i:Int)*(a:Int)=s:=by rw[hs];exact(Int.natCast_mul _ _).symm
  have e2:((i:Int)+1)*(a:Int)=t:=by rw[ht];push_cast;rfl
  obtain⟨x,hx⟩:∃ x,x=(t+c)/b:=⟨_,rfl⟩;obtain⟨y,hy⟩:∃ y,y=(s+c)/b:=⟨_,rfl⟩;have hxb:x<=t+c:=by rw[hx];exact Nat.div_le_self _ _
  have hyb:y<=s+c:=by rw[hy];exact Nat.div_le_self _ _
  have e3:((t:Int)+c).tdiv b=x:=by rw[hx];rfl
  have e4:((s:Int)+c).tdiv b=y:=by rw[hy];rfl
  have hb0:¬(b:Int)=0:=by omega
  have hrec:ig a b c (i+1)=ig a b c i++[if x=y then 97 else 98]:=by rw[ig,<-ht,<-hs,<-hx,<-hy]
  simp(disch:=omega);refine drwS ?_;by_cases hxy:x=y
  ·rw[if_pos hxy]at hrec;have hxy':(x:Int)=y:=by omega
   simp(disch:=omega)[e1,e2,e3,e4,hxy'];refine rndA (i+1) (by simp(disch:=omega)[hrec]) ⟨rfl,by omega⟩
  ·rw[if_neg hxy]at hrec;have hxy':¬(x:Int)=y:=by omega
   simp(disch:=omega)[e1,e2,e3,e4];refine rndA (i+1) (by simp(disch:=omega)[hrec]) ⟨rfl,by omega⟩
 ·have hi':i=n:=by omega
  subst hi';simp(disch:=omega);exact ad h
theorem Ex(p q:Nat)(M:Mem)(R:VP)(hp:p<=1000)(hq:q<=1000)(h:R (str (nk p q)) M):ar prog 200 [.int .i64 p,.int .i64 q] M R:=by
 unfold nk at h;refine fnS func200 rfl ntmps200 results200 ?_;simp(disch:=omega);obtain⟨n,hn⟩:∃ n,n=p+q:=⟨_,rfl⟩;have hnI:(p:Int)+q=n:=by omega
 rw[<-hn]at h;simp(disch:=omega)[hnI];refine aP aR (rlA [5,7] 11 21) (fun i:Nat=>[(7,.int .i64 i),(5,str (ig q n 0 i))]) (fun i M'=>M=M'/\i<=n) (fun i=>n-i) 0 (by kernel_rfl) (by simp(disch:=omega)[ig]) ⟨rfl,by omega⟩ ?_
 rintro i M' g ⟨rfl,hi⟩
 have hln:=pj q n 0 i;by_cases hlt:i<n
 ·obtain⟨s,hs⟩:∃ s,s=i*q:=⟨_,rfl⟩;obtain⟨t,ht⟩:∃ t,t=(i+1)*q:=⟨_,rfl⟩;have hsb:s<=9000000:=by rw[hs];exact Nat.le_trans (Nat.mul_le_mul (by omega:i<=3000) (by omega:q<=3000)) (by decide)
  have htb:t<=9003000:=by rw[ht];exact Nat.le_trans (Nat.mul_le_mul (by omega:i+1<=3001) (by omega:q<=3000)) (by decide)
  have e1:(i:Int)*(q:Int)=s:=by rw[hs];exact(Int.natCast_mul _ _).symm
  have e2:((i:Int)+1)*(q:Int)=t:=by rw[ht];push_cast;rfl
  obtain⟨x,hx⟩:∃ x,x=t/n:=⟨_,rfl⟩;obtain⟨y,hy⟩:∃ y,y=s/n:=⟨_,rfl⟩;have hxb:x<=t:=by rw[hx];exact Nat.div_le_self _ _
  have hyb:y<=s:=by rw[hy];exact Nat.div_le_self _ _
  have e3:(t:Int).tdiv n=x:=by rw[hx];rfl
  have e4:(s:Int).tdiv n=y:=by rw[hy];rfl
  have hb0:¬(n:Int)=0:=by omega
  have hrec:ig q n 0 (i+1)=ig q n 0 i++[if x=y then 97 else 98]:=by rw[ig,<-ht,<-hs,Nat.add_zero,Nat.add_zero,<-hx,<-hy]
  simp(disch:=omega);refine drwS ?_;by_cases hxy:x=y
  ·rw[if_pos hxy]at hrec;have hxy':(x:Int)=y:=by omega
   simp(disch:=omega)[e1,e2,e3,e4,hxy'];refine rndA (i+1) (by simp(disch:=omega)[hrec]) ⟨rfl,by omega⟩
  ·rw[if_neg hxy]at hrec;have hxy':¬(x:Int)=y:=by omega
   simp(disch:=omega)[e1,e2,e3,e4];refine rndA (i+1) (by simp(disch:=omega)[hrec]) ⟨rfl,by omega⟩
 ·have hi':i=n:=by omega
  subst hi';simp(disch:=omega);exact ad h
theorem ye(p q:Nat)(M:Mem)(R:VP)(hp:p<=1000)(hq:q<=1000)(h0:1<=p+q)(h:R (str (nk p q)) M):ar prog 259 [.int .i64 p,.int .i64 q] M R:=by
 unfold nk at h;refine fnS func259 rfl ntmps259 results259 ?_;obtain⟨n,hn⟩:∃ n,n=p+q:=⟨_,rfl⟩;have hnI:(p:Int)+q=n:=by omega
 rw[<-hn]at h;simp(disch:=omega)[hnI];refine Et q n 0 n _ _ (by omega) (by omega) (by omega) (by omega) (by omega) ?_;simp(disch:=omega);exact ad h
def nmA(l:B8):Nat:=l.countP fun u=>u.toNat==97
def nmB(l:B8):Nat:=l.countP fun u=>u.toNat==98
def Sx(l:B8):Bool:=decide (Nat.gcd (nmA l) (nmB l)=1)&&(nk (nmA l) (nmB l)==l)
theorem Jc{a b:Nat}(h:Nat.gcd a b=1):1<=a+b:=by
 rcases Nat.eq_zero_or_pos (a+b) with h0|h0
 ·have ha:a=0:=by omega
  have hb:b=0:=by omega
  subst ha hb;cases h
 ·exact h0
def sP(l:B8):Nat:=if AM l=true then (if Sx l=true then nmA l else 0) else 0
theorem jt{p q low:Int}(h0:0<=low)(h:eA p q low=true):∃ a b:Nat,p=a/\q=b/\low<=p/\low<=q/\a<=1000/\b<=1000/\Nat.gcd a b=1:=by
 unfold eA at h;simp only[Bool.and_eq_true,decide_eq_true_eq]at h;obtain⟨⟨h1,h2⟩,⟨h3,h4⟩,h5⟩:=h;exact⟨p.toNat,q.toNat,by omega,by omega,h1,h3,by omega,by omega,h5⟩
theorem sR(p q low:Int)(M:Mem)(R:VP)(hle:0<=low)(h:R (.int .i64 (if eA p q low=true then 0 else 2)) M):ar prog 199 [.int .i64 p,.int .i64 q,.int .i64 low] M R:=by
 unfold eA at h;refine fnS func199 rfl ntmps199 results199 ?_;simp(disch:=omega);refine cg _ _ _ _ _ ?_;by_cases h1:low<=p/\p<=1000
 ·rw[decide_eq_true h1]at h ⊢;simp(disch:=omega);refine cg _ _ _ _ _ ?_;by_cases h2:low<=q/\q<=1000
  ·rw[decide_eq_true h2]at h ⊢;obtain⟨a,rfl⟩:∃ a:Nat,p=a:=⟨p.toNat,by omega⟩;obtain⟨b,rfl⟩:∃ b:Nat,q=b:=⟨q.toNat,by omega⟩;rw[Int.toNat_natCast,Int.toNat_natCast]at h;simp(disch:=omega);refine nW a b _ _ (by omega) (by omega) ?_;by_cases h3:Nat.gcd a b=1
   ·rw[decide_eq_true h3]at h;simp only[Bool.and_self,if_true]at h;rw[h3];simp(disch:=omega);exact ad h
   ·rw[decide_eq_false h3]at h;simp only[Bool.and_false,Bool.false_eq_true,if_false]at h;have h4:¬((Nat.gcd a b:Nat):Int)=1:=by omega
    have h5:(((Nat.gcd a b:Nat):Int)==1)=false:=bNe.2 h4;generalize Nat.gcd a b=G at *;simp(disch:=omega)[h5];exact ad h
  ·rw[decide_eq_false h2]at h ⊢;simp only[Bool.and_false,Bool.false_and,Bool.false_eq_true,if_false]at h;simp(disch:=omega);exact ad h
 ·rw[decide_eq_false h1]at h ⊢;simp only[Bool.false_and,Bool.false_eq_true,if_false]at h;simp(disch:=omega);exact ad h
def te(p q:Int):Int:=if eA p q 0=true then (if 60<p+q then 3 else 0) else 2
def AQ(p q:Int):B8:=if te p q=0 then nk p.toNat q.toNat else []
theorem RI{p q:Int}(h:te p q=0):eA p q 0=true/\p+q<=60:=by
 unfold te at h;split at h
 ·rename_i h1;split at h
  ·cases h
  ·exact⟨h1,by omega⟩
 ·cases h
theorem yZ(p q:Int)(M:Mem)(R:VP)(h:R (.int .i64 (te p q)) M):ar prog 258 [.int .i64 p,.int .i64 q] M R:=by
 unfold te at h;refine fnS func258 rfl ntmps258 results258 ?_;simp(disch:=omega);refine qg p q 0 _ _ (by omega) ?_;cases h1:eA p q 0
 ·rw[h1]at h;simp only[Bool.false_eq_true,if_false]at h;simp(disch:=omega);exact ad h
 ·rw[h1]at h;simp only[if_true]at h;obtain⟨a,b,rfl,rfl,_,_,ha,hb,_⟩:=jt (by omega) h1;by_cases h2:(60:Int)<a+b
  ·rw[if_pos h2]at h;simp(disch:=omega)[h2];exact ad h
  ·rw[if_neg h2]at h;simp(disch:=omega)[h2];exact ad h
theorem ur(p q:Int)(M:Mem)(R:VP)(h:R (aE (str (AQ p q)) (te p q)) M):ar prog 167 [.int .i64 p,.int .i64 q] M R:=by
 unfold AQ aE at h;refine fnS func167 rfl ntmps167 results167 ?_;simp(disch:=omega);refine yZ p q _ _ ?_;by_cases h1:te p q=0
 ·rw[if_pos h1]at h;obtain⟨h2,h3⟩:=RI h1;obtain⟨a,b,rfl,rfl,_,_,ha,hb,hg⟩:=jt (by omega) h2;rw[h1]at h ⊢;rw[Int.toNat_natCast,Int.toNat_natCast]at h;simp(disch:=omega);refine ye a b _ _ ha hb (Jc hg) ?_;simp(disch:=omega);exact ad h
 ·rw[if_neg h1]at h;simp(disch:=omega);exact ad h
theorem ug(p q:Int)(M:Mem)(R:VP)(h:R (aE (str (AQ p q)) (te p q)) M):ar prog 125 [.int .i64 p,.int .i64 q] M R:=by
 unfold AQ aE te at h;refine fnS func125 rfl ntmps125 results125 ?_;simp(disch:=omega);refine sR p q 0 _ _ (by omega) ?_;cases h1:eA p q 0
 ·rw[h1]at h;simp only[Bool.false_eq_true,if_false]at h ⊢;simp(disch:=omega);exact ad (by simpa using h)
 ·rw[h1]at h;simp only[if_true]at h ⊢;obtain⟨a,b,rfl,rfl,_,_,ha,hb,hg⟩:=jt (by omega) h1;by_cases h2:(60:Int)<a+b
  ·rw[if_pos h2,if_neg (by decide)]at h;simp(disch:=omega)[h2];exact ad h
  ·rw[if_neg h2,if_pos rfl,Int.toNat_natCast,Int.toNat_natCast]at h;simp(disch:=omega)[h2];refine Ex a b _ _ ha hb ?_;simp(disch:=omega);exact ad h
def Es:Nat->Nat->Nat->B8
 | 0,_,_=>[]
 | f+1,p,q=>if p=q then [] else if q<p then 98::Es f (p-q) q else 97::Es f p (q-p)
def pth(p q:Nat):B8:=Es (p+q) p q
def Hz(p q:Int):Int:=if eA p q 1=true then (if (pth p.toNat q.toNat).length<=60 then 0 else 3) else 2
def Eu(p q:Int):B8:=if Hz p q=0 then pth p.toNat q.toNat else []
theorem Fo(p q:Int)(M:Mem)(R:VP)(h:R (aE (str (Eu p q)) (Hz p q)) M):ar prog 170 [.int .i64 p,.int .i64 q] M R:=by
 unfold Eu aE Hz at h;refine fnS func170 rfl ntmps170 results170 ?_;simp(disch:=omega);refine qg p q 1 _ _ (by omega) ?_;cases h1:eA p q 1
 ·rw[h1]at h;simp only[Bool.false_eq_true,if_false]at h ⊢;simp(disch:=omega);exact ad (by simpa using h)
 ·rw[h1]at h;simp only[if_true]at h ⊢;obtain⟨a,b,rfl,rfl,h3,h4,ha,hb,hg⟩:=jt (by omega) h1;rw[Int.toNat_natCast,Int.toNat_natCast]at h;simp(disch:=omega);refine lupS (rlA [0,1,4,5,6] 11 19) (fun x:B8×Nat×Nat×Nat=>[(0,.int .i64 (x.2.1:Nat)),(1,.int .i64 (x.2.2.1:Nat)),(6,str x.1)]) (fun x M'=>M=M'/\x.1++Es x.2.2.2 x.2.1 x.2.2.1=pth a b/\x.2.1+x.2.2.1<=x.2.2.2/\1<=x.2.1/\1<=x.2.2.1/\x.2.1<=1000/\x.2.2.1<=1000/\x.1.length<=60) (fun x=>x.2.2.2) ([],a,b,a+b) ⟨rfl,rfl,lRf _,by simp only;omega,by simp only;omega,ha,hb,lZe _⟩ ?_
  rintro⟨out,x,y,f⟩ M' g ⟨rfl,hP,hf,hx,hy,hx2,hy2,ho⟩
  simp only at hP hf hx hy hx2 hy2 ho;obtain⟨f,rfl⟩:∃ f',f=f'+1:=⟨f-1,by omega⟩;by_cases hxy:x=y
  ·have hxI:(x:Int)=y:=by omega
   rw[Es,if_pos hxy,append_nil]at hP;rw[<-hP,if_pos ho,if_pos rfl]at h;simp(disch:=omega)[hxI];exact ad h
  ·have hxI:¬(x:Int)=y:=by omega
   rw[Es,if_neg hxy]at hP;by_cases h60:out.length=60
   ·have h60':(out.length:Int)=60:=by omega
    have hbig:¬(pth a b).length<=60:=by
     rw[<-hP,lAp];split
     ·rw[length_cons];omega
     ·rw[length_cons];omega
    rw[if_neg hbig,if_neg (by decide)]at h;simp(disch:=omega)[h60];exact ad h
   ·have h60':¬(out.length:Int)=60:=by omega
    by_cases hlt:y<x
    ·rw[if_pos hlt]at hP;have hl2:¬(x:Int)<y:=by omega
     have hl3:¬ x<y:=by omega
     obtain⟨d,hd⟩:∃ d,x-y=d:=⟨_,rfl⟩;have hdI:(x:Int)-y=d:=by omega
     rw[hd]at hP;simp(disch:=omega)[hl2,hdI];refine rndS (out++[98],d,y,f) ⟨rfl,by simpa using hP,by simp only;omega,by simp only;omega,hy,by simp only;omega,hy2,by simp only[lAp,length_singleton];omega⟩
    ·rw[if_neg hlt]at hP;have hl2:(x:Int)<y:=by omega
     have hl3:x<y:=by omega
     obtain⟨d,hd⟩:∃ d,y-x=d:=⟨_,rfl⟩;have hdI:(y:Int)-x=d:=by omega
     rw[hd]at hP;simp(disch:=omega)[hl2,hdI];refine rndS (out++[97],x,d,f) ⟨rfl,by simpa using hP,by simp only;omega,hx,by simp only;omega,hx2,by simp only;omega,by simp only[lAp,length_singleton];omega⟩
theorem H9(p q:Int)(M:Mem)(R:VP)(h:R (aE (str (Eu p q)) (Hz p q)) M):ar prog 128 [.int .i64 p,.int .i64 q] M R:=by
 unfold Eu aE Hz at h;refine fnS func128 rfl ntmps128 results128 ?_;simp(disch:=omega);refine sR p q 1 _ _ (by omega) ?_;cases h1:eA p q 1
 ·rw[h1]at h;simp only[Bool.false_eq_true,if_false]at h ⊢;simp(disch:=omega);exact ad (by simpa using h)
 ·rw[h1]at h;simp only[if_true]at h ⊢;obtain⟨a,b,rfl,rfl,h3,h4,ha,hb,hg⟩:=jt (by omega) h1;rw[Int.toNat_natCast,Int.toNat_natCast]at h;simp(disch:=omega);refine lupS (rlA [0,1,4,5,7] 14 19) (fun x:B8×Nat×Nat×Nat=>[(0,.int .i64 (x.2.1:Nat)),(1,.int .i64 (x.2.2.1:Nat)),(7,str x.1)]) (fun x M'=>M=M'/\x.1++Es x.2.2.2 x.2.1 x.2.2.1=pth a b/\x.2.1+x.2.2.1<=x.2.2.2/\1<=x.2.1/\1<=x.2.2.1/\x.2.1<=1000/\x.2.2.1<=1000/\x.1.length<=60) (fun x=>x.2.2.2) ([],a,b,a+b) ⟨rfl,rfl,lRf _,by simp only;omega,by simp only;omega,ha,hb,lZe _⟩ ?_
  rintro⟨out,x,y,f⟩ M' g ⟨rfl,hP,hf,hx,hy,hx2,hy2,ho⟩
  simp only at hP hf hx hy hx2 hy2 ho;obtain⟨f,rfl⟩:∃ f',f=f'+1:=⟨f-1,by omega⟩;by_cases hxy:x=y
  ·have hxI:(x:Int)=y:=by omega
   rw[Es,if_pos hxy,append_nil]at hP;rw[<-hP,if_pos ho,if_pos rfl]at h;simp(disch:=omega)[hxI];exact ad h
  ·have hxI:¬(x:Int)=y:=by omega
   rw[Es,if_neg hxy]at hP;by_cases hlt:y<x
   ·rw[if_pos hlt]at hP;have hl2:(y:Int)<x:=by omega
    obtain⟨d,hd⟩:∃ d,x-y=d:=⟨_,rfl⟩;have hdI:(x:Int)-y=d:=by omega
    rw[hd]at hP;by_cases h60:out.length=60
    ·have hbig:¬(pth a b).length<=60:=by
      rw[<-hP,lAp,length_cons];omega
     rw[if_neg hbig,if_neg (by decide)]at h;simp(disch:=omega)[h60,hl2,hdI];exact ad h
    ·have h61:¬ 60<out.length+1:=by omega
     have h61':¬(60:Int)<(out.length:Int)+1:=by omega
     simp(disch:=omega)[h61',hl2,hdI];refine rndS (out++[98],d,y,f) ⟨rfl,by simpa using hP,by simp only;omega,by simp only;omega,hy,by simp only;omega,hy2,by simp only[lAp,length_singleton];omega⟩
   ·rw[if_neg hlt]at hP;have hl2:¬(y:Int)<x:=by omega
    obtain⟨d,hd⟩:∃ d,y-x=d:=⟨_,rfl⟩;have hdI:(y:Int)-x=d:=by omega
    rw[hd]at hP;by_cases h60:out.length=60
    ·have hbig:¬(pth a b).length<=60:=by
      rw[<-hP,lAp,length_cons];omega
     rw[if_neg hbig,if_neg (by decide)]at h;simp(disch:=omega)[h60,hl2,hdI];exact ad h
    ·have h61:¬ 60<out.length+1:=by omega
     have h61':¬(60:Int)<(out.length:Int)+1:=by omega
     simp(disch:=omega)[h61',hl2,hdI];refine rndS (out++[97],x,d,f) ⟨rfl,by simpa using hP,by simp only;omega,hx,by simp only;omega,hx2,by simp only;omega,by simp only[lAp,length_singleton];omega⟩
theorem fI(w:B8)(k:Nat):(dJ w k).length=k*w.length:=by
 unfold dJ;rw[length_flatten,map_replicate,sum_replicate_nat]
theorem Jv(w:B8)(k:Nat):dJ w (k+1)=dJ w k++w:=by
 unfold dJ;rw[replicate_succ',flatten_append];simp
def kQ:List Int->B8->B8->Option B8
 | [],_,own=>some own
 | d::ds,last,own=>if d.toNat*own.length+last.length<=60 then kQ ds own (dJ own d.toNat++last) else none
def mi(zs:List Int)(i:Nat):Bool:=decide ((if i=0 then 0 else 1)<=zs.getD i 0/\zs.getD i 0<=60)
def mE(zs:List Int):Bool:=decide (zs.length<=20)&&(range zs.length).all (mi zs)
def sK(zs:List Int):Int:=if mE zs=true then (match kQ zs [98] [97] with|some _=>0|none=>3) else 2
def qC(zs:List Int):B8:=if mE zs=true then (match kQ zs [98] [97] with|some w=>w|none=>[]) else []
theorem Ap{zs:List Int}{i:Nat}(hi:i<zs.length)(h:mi zs i=false):mE zs=false:=by
 unfold mE;have:(range zs.length).all (mi zs)=false:=by
  rw[all_eq_false];exact⟨i,List.mem_range.2 hi,by rw[h];decide⟩
 rw[this,Bool.and_false]
theorem vv{zs:List Int}(hl:zs.length<=20)(h:∀ j,j<zs.length->mi zs j=true):mE zs=true:=by
 unfold mE;rw[decide_eq_true hl,Bool.true_and,all_eq_true];exact fun j hj=>h j (List.mem_range.1 hj)
theorem xY{zs:List Int}{i:Nat}{z:Int}(hi:zs[i]?=some z):mi zs i=decide ((if i=0 then 0 else 1)<=z/\z<=60):=by
 unfold mi;rw[gDe,hi];rfl
theorem xB{N:Mem}{a:Option Addr}{c n:Nat}{zs:List Int}(h:Rd N (.slice a n c) (ints zs))(h1:1<=zs.length):∃ b o,a=some ⟨b,o,none⟩/\∀ i,i<zs.length->N.get? b (o+i)=some (.int .i64 (zs.getD i 0)):=by
 obtain⟨a',c',he,hat⟩:=h.opened;rw[az]at he hat;injection he with e1 e2 e3
 rcases hat with h0|⟨b,o,e4,hat⟩
 ·omega
 ·refine⟨b,o,by rw[e1,e4],fun i hi=>?_⟩;rw[hat i hi,cD,gEl hi,gDe,gEl hi];rfl
theorem drop_cons{zs:List Int}{i:Nat}(h:i<zs.length):zs.drop i=zs.getD i 0::zs.drop (i+1):=by
 rw[gDe,gEl h];exact drop_eq_getElem_cons h
theorem uL(v:Value)(zs:List Int)(M:Mem)(R:VP)(hv:Rd M v (ints zs))(hl:zs.length<=20)(hz:∀ j,j<zs.length->0<=zs.getD j 0/\zs.getD j 0<=60)
  (h:R (.tuple #[str (match kQ zs [98] [97] with|some w=>w|none=>[]),.bool (kQ zs [98] [97]).isSome]) M):ar prog 114 [v] M R:=by
 obtain⟨a,c,rfl,_⟩:=hv.opened;have hv':=hv;rw[az]at hv' ⊢;refine fnS func114 rfl ntmps114 results114 ?_;simp(disch:=omega);refine lupS (rlA [] 2 37) (fun x:Nat×B8×B8=>[(6,.int .i64 (x.1:Nat)),(4,str x.2.1),(5,str x.2.2)]) (fun x M'=>M=M'/\x.1<=zs.length/\kQ (zs.drop x.1) x.2.1 x.2.2=kQ zs [98] [97]/\x.2.1.length<=60/\x.2.2.length<=60) (fun x=>zs.length-x.1) (0,[98],[97]) ⟨rfl,by simp only;omega,rfl,by decide,by decide⟩ ?_
 rintro⟨i,be,now⟩ M' g ⟨rfl,hi,hS,hb,hn⟩
 simp only at hi hS hb hn;by_cases hlt:i<zs.length
 ·obtain⟨b,o,rfl,hat⟩:=xB hv' (by omega);have hg:=hat i hlt;have hzi:=hz i hlt;rw[drop_cons hlt,kQ]at hS;obtain⟨d,hd⟩:∃ d:Nat,zs.getD i 0=d:=⟨(zs.getD i 0).toNat,by omega⟩;rw[hd]at hg hzi hS;rw[Int.toNat_natCast]at hS;simp(disch:=omega);refine aP aR (rlA [7,8] 15 16) (fun k:Nat=>[(8,.int .i64 k),(7,str (dJ now k))]) (fun k M'=>M=M'/\k<=d/\(dJ now k).length<=120) (fun k=>d-k) 0 (by kernel_rfl) (by simp(disch:=omega)[dJ]) ⟨rfl,by omega,by simp[dJ]⟩ ?_
  rintro k M' g ⟨rfl,hk,hkl⟩
  have hrl:=fI now k;have hmul:k*now.length<=d*now.length:=Nat.mul_le_mul_right _ hk;generalize hX:dJ now k=X at *;by_cases hkd:k<d
  ·by_cases h60:X.length<=60
   ·have e:dJ now (k+1)=X++now:=by rw[Jv,hX]
    have h60I:(X.length:Int)<=60:=by omega
    simp(disch:=omega)[hg,h60I,hkd];refine rndA (k+1) (by simp(disch:=omega)[e]) ⟨rfl,by omega,?_⟩;rw[e,lAp];omega
   ·have hno:¬ d*now.length+be.length<=60:=by omega
    rw[if_neg hno]at hS;rw[<-hS]at h;have h61:¬((X.length:Int)<=60):=by omega
    have h62:60<X.length+be.length:=by omega
    have h63:(60:Int)<(X.length:Int)+be.length:=by omega
    simp(disch:=omega)[hg,h61,h63];exact ad h
  ·have hkd':k=d:=by omega
   subst hkd';by_cases h60:k*now.length+be.length<=60
   ·rw[if_pos h60,hX]at hS;have h62:¬ 60<X.length+be.length:=by omega
    have h63:¬(60:Int)<(X.length:Int)+be.length:=by omega
    simp(disch:=omega)[hg,h63];refine rndS (i+1,now,X++be) ⟨rfl,by simp only;omega,hS,hn,by simp only[lAp];omega⟩
   ·rw[if_neg h60]at hS;rw[<-hS]at h;have h62:60<X.length+be.length:=by omega
    have h63:(60:Int)<(X.length:Int)+be.length:=by omega
    simp(disch:=omega)[hg,h63];exact ad h
 ·have hi':i=zs.length:=by omega
  subst hi';rw[drop_length,kQ]at hS;rw[<-hS]at h;simp(disch:=omega);exact ad h
theorem ez(v:Value)(zs:List Int)(M:Mem)(R:VP)(hv:Rd M v (ints zs))(hn:zs.length<=1099511627776)(h:R (aE (str (qC zs)) (sK zs)) M):ar prog 64 [v] M R:=by
 unfold aE qC sK at h;obtain⟨a,c,rfl,_⟩:=hv.opened;have hv':=hv;rw[az]at hv' ⊢;refine fnS func64 rfl ntmps64 results64 ?_;by_cases hl:zs.length<=20
 ·have hl':¬(20:Int)<zs.length:=by omega
  have hl2:¬ 20<zs.length:=by omega
  simp(disch:=omega)[hl'];refine lupS (rlA [2,3,4] 10 23) (fun i:Nat=>[(4,.int .i64 i)]) (fun i M'=>M=M'/\i<=zs.length/\∀ j,j<i->mi zs j=true) (fun i=>zs.length-i) 0 ⟨rfl,by omega,fun j hj=>by omega⟩ ?_
  rintro i M' g ⟨rfl,hi,hS⟩
  by_cases hlt:i<zs.length
  ·obtain⟨b,o,rfl,hat⟩:=xB hv' (by omega);have hg:=hat i hlt;have hzi:=xY (zs:=zs) (i:=i) (z:=zs.getD i 0) (by rw[gEl hlt,gDe,gEl hlt];rfl);generalize zs.getD i 0=z at *;simp(disch:=omega)[hg];refine cg _ _ _ _ _ ?_;by_cases h1:0<=z/\z<=60
   ·rw[decide_eq_true h1];by_cases h0:i=0
    ·subst h0;rw[if_pos rfl,decide_eq_true h1]at hzi;simp(disch:=omega);refine rndS (0+1) ⟨rfl,by omega,fun j hj=>?_⟩;rw[show j=0 by omega];exact hzi
    ·have hpos:(0:Int)<i:=by omega
     have hpos':0<i:=by omega
     rw[if_neg h0]at hzi;by_cases hz0:z=0
     ·rw[decide_eq_false (by omega)]at hzi;rw[Ap hlt hzi]at h;simp only[Bool.false_eq_true,if_false]at h;simp(disch:=omega)[hpos',hg,hz0];exact ad h
     ·rw[decide_eq_true (by omega)]at hzi;have hz0':(z==0)=false:=bNe.2 hz0;simp(disch:=omega)[hpos',hg,hz0'];refine rndS (i+1) ⟨rfl,by omega,fun j hj=>?_⟩;rcases Nat.lt_or_ge j i with h|h
      ·exact hS j h
      ·rw[show j=i by omega];exact hzi
   ·rw[decide_eq_false h1];have h2:mi zs i=false:=by
     rw[hzi];refine decide_eq_false fun hh=>h1 ⟨?_,hh.2⟩;have:=hh.1;split at this<;>omega
    rw[Ap hlt h2]at h;simp only[Bool.false_eq_true,if_false]at h;simp(disch:=omega)[undef];exact ad h
  ·have hi':i=zs.length:=by omega
   subst hi';have hok:=vv hl hS;rw[hok]at h;simp only[if_true]at h;simp(disch:=omega);refine uL _ zs _ _ hv' hl (fun j hj=>?_) ?_
   ·have:=hS j hj;unfold mi at this;rw[decide_eq_true_eq]at this;have h3:=this.1;split at h3<;>omega
   ·cases hF:kQ zs [98] [97] with
    | none=>
     rw[hF]at h;simp only[Option.isSome]at h ⊢;simp(disch:=omega);exact ad h
    | some w=>
     rw[hF]at h;simp only[Option.isSome]at h ⊢;simp(disch:=omega);exact ad h
 ·have hl':(20:Int)<zs.length:=by omega
  have hl2:20<zs.length:=by omega
  have hno:mE zs=false:=by unfold mE;rw[decide_eq_false hl,Bool.false_and]
  rw[hno]at h;simp only[Bool.false_eq_true,if_false]at h;simp(disch:=omega)[hl'];exact ad h
theorem jU(v:Value)(zs:List Int)(M:Mem)(R:VP)(hv:Rd M v (ints zs))(hn:zs.length<=1099511627776)(h:R (aE (str (qC zs)) (sK zs)) M):ar prog 104 [v] M R:=by
 unfold aE qC sK at h;obtain⟨a,c,rfl,_⟩:=hv.opened;have hv':=hv;rw[az]at hv' ⊢;refine fnS func104 rfl ntmps104 results104 ?_;by_cases hl:zs.length<=20
 ·have hl':¬(20:Int)<zs.length:=by omega
  have hl2:¬ 20<zs.length:=by omega
  simp(disch:=omega)[hl'];refine lupS (rlA [2,3,4,5] 15 11) (fun i:Nat=>[(15,.int .i64 i)]) (fun i M'=>M=M'/\i<=zs.length/\∀ j,j<i->mi zs j=true) (fun i=>zs.length-i) 0 ⟨rfl,by omega,fun j hj=>by omega⟩ ?_
  rintro i M' g ⟨rfl,hi,hS⟩
  by_cases hlt:i<zs.length
  ·obtain⟨b,o,rfl,hat⟩:=xB hv' (by omega);have hg:=hat i hlt;have hzi:=xY (zs:=zs) (i:=i) (z:=zs.getD i 0) (by rw[gEl hlt,gDe,gEl hlt];rfl);generalize zs.getD i 0=z at *;have hm:(if (i:Int)<1 then (i:Int) else 1)=if i=0 then 0 else 1:=by split<;>split<;>omega
   have hm2:(if (1:Int)<i then (1:Int) else i)=if i=0 then 0 else 1:=by split<;>split<;>omega
   obtain⟨y,hy⟩:∃ y:Int,y=if i=0 then 0 else 1:=⟨_,rfl⟩
   rw[<-hy]at hm hm2 hzi;simp(disch:=omega)[hg,hm2];refine bF _ y _ _ _ ?_;by_cases h1:y<=z/\z<=60
   ·rw[decide_eq_true h1]at hzi ⊢;simp(disch:=omega);refine rndS (i+1) ⟨rfl,by omega,fun j hj=>?_⟩;rcases Nat.lt_or_ge j i with h|h
    ·exact hS j h
    ·rw[show j=i by omega];exact hzi
   ·rw[decide_eq_false h1]at hzi ⊢;rw[Ap hlt hzi]at h;simp only[Bool.false_eq_true,if_false]at h;simp(disch:=omega);exact ad h
  ·have hi':i=zs.length:=by omega
   subst hi';have hok:=vv hl hS;have hz:∀ j,j<zs.length->0<=zs.getD j 0/\zs.getD j 0<=60:=fun j hj=>by
    have:=hS j hj;unfold mi at this;rw[decide_eq_true_eq]at this;have h3:=this.1;split at h3<;>omega
   rw[hok]at h;simp only[if_true]at h;simp(disch:=omega);refine lupS (rlA [2,3,6,7,9] 28 19) (fun x:Nat×B8×B8=>[(28,.int .i64 (x.1:Nat)),(6,str x.2.1),(7,str x.2.2)]) (fun x M'=>M=M'/\x.1<=zs.length/\kQ (zs.drop x.1) x.2.1 x.2.2=kQ zs [98] [97]/\x.2.1.length<=60/\x.2.2.length<=60) (fun x=>zs.length-x.1) (0,[98],[97]) ⟨rfl,by simp only;omega,rfl,by decide,by decide⟩ ?_
   rintro⟨i,be,now⟩ M' g ⟨rfl,hi,hS2,hb,hnw⟩
   simp only at hi hS2 hb hnw;by_cases hlt:i<zs.length
   ·obtain⟨b,o,rfl,hat⟩:=xB hv' (by omega);have hg:=hat i hlt;have hzi:=hz i hlt;rw[drop_cons hlt,kQ]at hS2;obtain⟨d,hd⟩:∃ d:Nat,zs.getD i 0=d:=⟨(zs.getD i 0).toNat,by omega⟩;rw[hd]at hg hzi hS2;rw[Int.toNat_natCast]at hS2;obtain⟨m,hm⟩:∃ m,d*now.length=m:=⟨_,rfl⟩;have hmb:m<=60*60:=by rw[<-hm];exact Nat.mul_le_mul (by omega) hnw
    have hmI:(now.length:Int)*(d:Int)=m:=by rw[<-hm,Nat.mul_comm];push_cast;rfl
    rw[hm]at hS2;simp(disch:=omega)[hg];refine bY now _ _ (by omega) ?_;simp(disch:=omega)[hmI];refine bY be _ _ (by omega) ?_;by_cases h60:m+be.length<=60
    ·rw[if_pos h60]at hS2;have h61:¬ 60<m+be.length:=by omega
     have h62:¬(60:Int)<(m:Int)+be.length:=by omega
     simp(disch:=omega)[h62];refine iy now d _ _ hnw (by omega) ?_;have hrl:=fI now d;generalize dJ now d=X at *;simp(disch:=omega);refine rndS (i+1,now,X++be) ⟨rfl,by simp only;omega,hS2,hnw,by simp only[lAp];omega⟩
    ·rw[if_neg h60]at hS2;rw[<-hS2]at h;have h61:60<m+be.length:=by omega
     have h62:(60:Int)<(m:Int)+be.length:=by omega
     simp(disch:=omega)[h62];exact ad h
   ·have hi':i=zs.length:=by omega
    subst hi';rw[drop_length,kQ]at hS2;rw[<-hS2]at h;simp(disch:=omega);exact ad h
 ·have hl':(20:Int)<zs.length:=by omega
  have hl2:20<zs.length:=by omega
  have hno:mE zs=false:=by unfold mE;rw[decide_eq_false hl,Bool.false_and]
  rw[hno]at h;simp only[Bool.false_eq_true,if_false]at h;simp(disch:=omega)[hl'];exact ad h
end Go.Proofs.YtapimhjbilkfpaaGreatDoor
