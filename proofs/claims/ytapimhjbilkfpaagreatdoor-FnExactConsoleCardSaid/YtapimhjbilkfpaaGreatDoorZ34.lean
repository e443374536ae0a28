/- Lemmas for FnExactConsole, part 35 of 46. -/
import Derived.Lib.SlicesCompact
import Derived.Test.YtapimhjbilkfpaaGreatDoorZ33
import Derived.Test.YtapimhjbilkfpaaGreatDoorZ15
import Derived.Test.YtapimhjbilkfpaaGreatDoorZ19
import Derived.Test.YtapimhjbilkfpaaGreatDoorZ04
import Derived.Test.YtapimhjbilkfpaaGreatDoorZ20
import Derived.Test.YtapimhjbilkfpaaGreatDoorZ05
import Derived.Test.YtapimhjbilkfpaaGreatDoorZ29
import Derived.Test.YtapimhjbilkfpaaGreatDoorZ30
import Derived.Test.YtapimhjbilkfpaaGreatDoorZ25
import Derived.Test.YtapimhjbilkfpaaGreatDoorZ26
import Derived.Test.YtapimhjbilkfpaaGreatDoorZ31
import Derived.Test.YtapimhjbilkfpaaGreatDoorZ32
import Derived.Test.YtapimhjbilkfpaaGreatDoorZ14
import Derived.Test.YtapimhjbilkfpaaGreatDoorZ21
import Derived.Test.YtapimhjbilkfpaaGreatDoorZ23
import Derived.Test.YtapimhjbilkfpaaGreatDoorZ10
set_option linter.unusedVariables false
set_option linter.unusedSimpArgs false
namespace Go.Proofs.YtapimhjbilkfpaaGreatDoor
open Go Go.Proofs.Tryz List
theorem FQ(l:List UInt8)(i:Nat)(u:UInt8):(av l).set i (.int .u8 (u.toNat:Nat))=av (l.set i u):=by unfold av;rw[map_set]
theorem yI(a b:List UInt8):av (a++b)=av a++av b:=by unfold av;rw[map_append]
theorem Kx{x y:UInt8}(h:¬ x=y):¬(x.toNat:Int)=(y.toNat:Int):=fun e=>h (UInt8.toNat_inj.1 (by omega))
def cuB(zs:List UInt8)(m:Nat):List UInt8:=Lib.compactUpTo zs.toArray m
theorem dO{zs:List UInt8}{i:Nat}(h:i<zs.length):zs.toArray[i]! = zs[i]:=by
 rw[getElem!_pos _ i (by simpa using h)];simp
theorem JU{zs:List UInt8}(h:0<zs.length):cuB zs 1=zs.take 1:=by
 unfold cuB;rw[Lib.compactUpTo_succ,dO h];have e:Lib.keeps zs.toArray 0=true:=by simp[Lib.keeps]
 rw[e,if_pos rfl,az zs h];rfl
theorem Km{zs:List UInt8}{m:Nat}(h0:0<m)(h:m<zs.length)(hne:zs[m]≠zs[m-1]'(by omega)):cuB zs (m+1)=cuB zs m++[zs[m]]:=by
 unfold cuB;rw[Lib.compactUpTo_succ];have e:Lib.keeps zs.toArray m=true:=by
  simp only[Lib.keeps,decide_eq_true_eq];right;rw[dO h,dO (show m-1<zs.length by omega)];exact hne
 rw[e,if_pos rfl,dO h]
theorem Pb{zs:List UInt8}{m:Nat}(h0:0<m)(h:m<zs.length)(he:zs[m]=zs[m-1]'(by omega)):cuB zs (m+1)=cuB zs m:=by
 unfold cuB;rw[Lib.compactUpTo_succ];have e:Lib.keeps zs.toArray m=false:=by
  simp only[Lib.keeps,decide_eq_false_iff_not]
  rintro(h1|h1)
  ·omega
  ·rw[dO h,dO (show m-1<zs.length by omega)]at h1;exact h1 he
 rw[e];simp
theorem DL(zs:List UInt8):∀ m,(cuB zs m).length<=m
 | 0=>Nat.le_refl 0
 | m+1=>by
  have:=DL zs m;unfold cuB at *;rw[Lib.compactUpTo_succ,length_append];split<;>simp<;>omega
theorem rP(zs:List UInt8):cuB zs zs.length=Lib.compact zs:=rfl
theorem GS(zs:List UInt8):(Lib.compact zs).length<=zs.length:=by rw[<-rP];exact DL zs _
def eY(zs:List UInt8)(m:Nat):List UInt8:=cuB zs m++zs.drop (cuB zs m).length
theorem MK{zs:List UInt8}{m:Nat}(h:m<=zs.length):(eY zs m).length=zs.length:=by
 have:=DL zs m;unfold eY;rw[length_append,length_drop];omega
theorem Bp{zs:List UInt8}{m i:Nat}(h:(cuB zs m).length<=i):(eY zs m)[i]?=zs[i]?:=by
 unfold eY;rw[getElem?_append_right h,getElem?_drop]
 congr 1;omega
theorem Kp{zs:List UInt8}{m:Nat}(h:cuB zs (m+1)=cuB zs m):eY zs (m+1)=eY zs m:=by unfold eY;rw[h]
theorem K0{zs:List UInt8}{m:Nat}{z:UInt8}(h:cuB zs (m+1)=cuB zs m++[z])(hm:m<zs.length):(eY zs m).set (cuB zs m).length z=eY zs (m+1):=by
 have hle:=DL zs m;unfold eY;rw[h,set_append_right _ _ (Nat.le_refl _),Nat.sub_self,drop_eq_getElem_cons (show (cuB zs m).length<zs.length by omega),set_cons_zero,length_append,length_singleton,append_assoc];rfl
theorem KI{zs:List UInt8}{k:Nat}(h:cuB zs k=zs.take k)(hk:k<=zs.length):eY zs k=zs:=by
 unfold eY;rw[h,length_take,Nat.min_eq_left hk,take_append_drop]
theorem Ab(v:Value)(zs:List UInt8)(M0 M:Mem)(R:VP)(ho:Own M0 v (av zs) M)(hl:zs.length<=1000000)
  (h:∀ v' M',Own M0 v' (av (Lib.compact zs)) M'->R v' M'):ar prog 400 [v] M R:=by
 rcases ho with ⟨rfl,he,rfl⟩|⟨b,c,rfl,hb,hc,rfl⟩
 ·have hss:zs=[]:=by
   have:=congrArg length he;rw[GN]at this;exact eq_nil_of_length_eq_zero this
  subst hss;refine fnS func400 rfl ntmps400 results400 ?_;simp(disch:=omega);exact ad (h _ _ (Own.nil _))
 ·rw[GN]at hc ⊢;refine ar.less (R':=fun v' M'=>(v'=.slice (some ⟨b,0,none⟩) zs.length c/\Lib.compact zs=zs/\M'=M0.put b (.cells true (av zs) c)) \/
   ∃ L,v'=.slice (some ⟨b,0,none⟩) (Lib.compact zs).length c/\M'=M0.put b (.cells true (av (Lib.compact zs++L)) c)) ?_ ?_
  ·refine fnS func400 rfl ntmps400 results400 ?_;by_cases h2:zs.length<2
   ·simp(disch:=omega);refine ad (.inl ⟨rfl,?_,rfl⟩);rw[<-rP];by_cases h0:zs.length=0
    ·rw[eq_nil_of_length_eq_zero h0];rfl
    ·have h1:zs.length=1:=by omega
     rw[h1,JU (by omega),take_of_length_le (by omega)]
   ·simp(disch:=omega);refine lupS [2,3,4,5,10,11,12,13,14,15,16,17,18,19,20,21,22,23,24,25,26,27,28,29,30,31,32,33,34,35,36,37,38,39,40,41,42,43,44,45,46,47,48,49,50,51,52,53,54,55,56,57,58,59] (fun k:Nat=>[(3,.int .i64 k)]) (fun k M'=>M0.put b (.cells true (av zs) c)=M'/\1<=k/\k<=zs.length/\cuB zs k=zs.take k) (fun k=>zs.length-k) 1 ⟨rfl,by omega,by omega,JU (by omega)⟩ ?_
    rintro k M' g ⟨rfl,h1,hk,htk⟩
    by_cases hlt:k<zs.length
    ·have kM:(M0.put b (.cells true (av zs) c)) b=some (.cells true (av zs) c):=ag _ _ _;obtain⟨q,hq⟩:∃ q,q=k-1:=⟨_,rfl⟩;have hq':(k:Int)-1=q:=by omega
     have hg1:(M0.put b (.cells true (av zs) c)).get? b k=some (.int .u8 (zs[k].toNat:Nat)):=by rw[aj kM,kX,getElem?_eq_getElem hlt];rfl
     have hg0:(M0.put b (.cells true (av zs) c)).get? b q=some (.int .u8 ((zs[q]'(by omega)).toNat:Nat)):=by rw[aj kM,kX,getElem?_eq_getElem (by omega)];rfl
     simp(disch:=omega);refine drwS ?_;by_cases he:zs[k]=zs[q]'(by omega)
     ·have hc1:cuB zs (k+1)=cuB zs k:=Pb (by omega) hlt (by subst hq;exact he);rw[he]at hg1;generalize zs[q]'(by omega)=z at *;simp(disch:=omega)[hg1,hq',hg0];have hmx:eY zs (k+1)=zs:=by rw[Kp hc1,KI htk hk]
      have hcl:(cuB zs (k+1)).length=k:=by rw[hc1,htk,length_take];omega
      refine aQ aR [3,5,29,30,31,32,33,34,35,36,37,38,39,40,41,42,43,44,45,46,47,48,49,50,51,52,53] (fun j:Nat=>[(5,.int .i64 j),(3,.int .i64 ((cuB zs (k+j)).length:Nat))]) (fun j M'=>M0.put b (.cells true (av (eY zs (k+j))) c)=M'/\1<=j/\k+j<=zs.length/\(cuB zs (k+j)).length<k+j) (fun j=>zs.length-k-j) 1 (by kernel_rfl) (by simp(disch:=omega)[hcl]) ⟨by rw[hmx],by omega,by omega,by omega⟩ ?_;clear hg1 hg0 he kM hq hq'
      rintro j M' g2 ⟨rfl,hj1,hj,hLt⟩
      have hmL:=MK hj;have kM:(M0.put b (.cells true (av (eY zs (k+j))) c)) b=some (.cells true (av (eY zs (k+j))) c):=ag _ _ _;by_cases hlt2:k+j<zs.length
      ·obtain⟨p,hp⟩:∃ p,p=j-1:=⟨_,rfl⟩;have hp':(j:Int)-1=p:=by omega
       have hg1:(M0.put b (.cells true (av (eY zs (k+j))) c)).get? b (k+j)=some (.int .u8 (zs[k+j].toNat:Nat)):=by rw[aj kM,kX,Bp (by omega),getElem?_eq_getElem hlt2];rfl
       have hg0:(M0.put b (.cells true (av (eY zs (k+j))) c)).get? b (k+p)=some (.int .u8 ((zs[k+p]'(by omega)).toNat:Nat)):=by rw[aj kM,kX,Bp (by omega),getElem?_eq_getElem (by omega)];rfl
       have hpe:k+p=k+j-1:=by omega
       have e1:k+(j+1)=k+j+1:=by omega
       simp(disch:=omega);refine drwS ?_;by_cases he:zs[k+j]=zs[k+p]'(by omega)
       ·have hc2:cuB zs (k+j+1)=cuB zs (k+j):=Pb (by omega) hlt2 (by simp only[hpe]at he;exact he);have hmx2:=Kp hc2;rw[he]at hg1;generalize zs[k+p]'(by omega)=z at *;generalize eY zs (k+j)=l at *;simp(disch:=omega)[hg1,hp',hg0];refine rndA (j+1) (by simp(disch:=omega)[e1,hc2]) ⟨by rw[e1,hmx2],by omega,by omega,by rw[e1,hc2];omega⟩
       ·have hc2:cuB zs (k+j+1)=cuB zs (k+j)++[zs[k+j]]:=Km (by omega) hlt2 (by simp only[hpe]at he;exact he);have hmx2:=K0 hc2 hlt2;have hl2:(cuB zs (k+j+1)).length=(cuB zs (k+j)).length+1:=by rw[hc2,length_append,length_singleton]
        generalize zs[k+j]=y at *;generalize zs[k+p]'(by omega)=z at *;generalize eY zs (k+j)=l at *;generalize (cuB zs (k+j)).length=L at *;have hne8:=Kx he;simp(disch:=omega)[hg1,hp',hg0,FQ];refine rndA (j+1) (by simp(disch:=omega)[e1,hl2]) ⟨by rw[e1,<-hmx2];done,by omega,by omega,by rw[e1,hl2];omega⟩
      ·have hj':k+j=zs.length:=by omega
       have hml:eY zs (k+j)=Lib.compact zs++zs.drop (Lib.compact zs).length:=by rw[hj',<-rP];rfl
       have hcu:cuB zs (k+j)=Lib.compact zs:=by rw[hj',<-rP]
       rw[hcu]at hLt ⊢;simp(disch:=omega);have hle:(Lib.compact zs).length<zs.length:=by omega
       rw[hml]at kM ⊢;generalize hC:Lib.compact zs=C at *;obtain⟨d,hd⟩:∃ d,zs.length-C.length=d+1:=⟨zs.length-C.length-1,by omega⟩;rw[hd];generalize hMM:M0.put b (.cells true (av (C++zs.drop C.length)) c)=M2 at *;show JM (M2 b) b C.length (d+1) (.int .u8 0) _ M2;rw[kM];refine⟨⟨by rw[GN,length_append,length_drop];omega,rfl⟩,?_⟩;have e:(av (C++zs.drop C.length)).take C.length++replicate (d+1) (.int .u8 0)++(av (C++zs.drop C.length)).drop (C.length+(d+1))=av (C++replicate (d+1) 0):=by
        have e0:(av (C++zs.drop C.length)).drop (C.length+(d+1))=[]:=drop_of_length_le (by rw[GN,length_append,length_drop];omega);have e1:(av (C++zs.drop C.length)).take C.length=av C:=by
         unfold av;rw[<-map_take,take_left]
        rw[e0,e1,append_nil,yI];simp[av]
       rw[e];simp(disch:=omega);refine ad (.inr ⟨rfl,replicate (d+1) 0,?_⟩);rw[al,<-hMM,a7]
     ·have hc1:cuB zs (k+1)=cuB zs k++[zs[k]]:=Km (by omega) hlt (by subst hq;exact he);have htk1:=az zs hlt;generalize zs[k]=y at *;generalize zs[q]'(by omega)=z at *;have hne8:=Kx he;simp(disch:=omega)[hg1,hq',hg0];refine rndS (k+1) ⟨rfl,by omega,by omega,by rw[hc1,htk,htk1]⟩
    ·have hk':k=zs.length:=by omega
     subst hk';simp(disch:=omega);exact ad (.inl ⟨rfl,by rw[<-rP,htk,take_length],rfl⟩)
  ·rintro v' M' (⟨rfl,hs,rfl⟩|⟨L,rfl,rfl⟩)
   ·exact⟨_,(Sub.refl _).less,h _ _ (.inr ⟨b,c,by rw[GN,hs],hb,by rw[GN,hs];exact hc,by rw[hs]⟩)⟩
   ·have hle:=GS zs;refine⟨M0.put b (.cells true (av (Lib.compact zs)) c),?_,h _ _ (.inr ⟨b,c,by rw[GN],hb,by rw[GN];omega,rfl⟩)⟩;intro i X hX;unfold Mem.put at hX ⊢;split at hX
    ·rename_i e;subst e;injection hX with hX;subst hX;exact⟨_,if_pos rfl,.inr ⟨true,_,av L,c,rfl,by rw[yI]⟩⟩
    ·rename_i e;exact⟨X,by rw[if_neg e];exact hX,.inl rfl⟩
theorem wrap_u64{x:Int}(h1:0<=x)(h2:x<=9223372036854775807):IntKind.u64.wrap x=x:=by
 unfold IntKind.wrap;simp[IntKind.bits,IntKind.signed];omega
theorem te(d:Array UInt8):∀ m,∀ x,x∈Lib.compactUpTo d m↔∃ j,j<m/\d[j]! = x
 | 0,x=>by simp[Lib.compactUpTo]
 | m+1,x=>by
  rw[Lib.compactUpTo_succ,mem_append,te d m x];constructor
  ·rintro(⟨j,h1,h2⟩|h)
   ·exact⟨j,by omega,h2⟩
   ·split at h
    ·exact⟨m,by omega,(List.mem_singleton.1 h).symm⟩
    ·simp at h
  ·rintro⟨j,h1,h2⟩
   by_cases hj:j<m
   ·exact .inl ⟨j,hj,h2⟩
   ·have hj':j=m:=by omega
    subst hj';cases hk:Lib.keeps d j with
    | true=>exact .inr (by rw[if_pos rfl];simp[h2])
    | false=>
     simp only[Lib.keeps,decide_eq_false_iff_not,not_or,ne_eq,Decidable.not_not]at hk;exact .inl ⟨j-1,by omega,by rw[<-hk.2];exact h2⟩
theorem Ca(zs:List UInt8)(x:UInt8):x∈Lib.compact zs↔x∈zs:=by
 unfold Lib.compact;rw[te];constructor
 ·rintro⟨j,h1,h2⟩
  rw[dO (by simpa using h1)]at h2;rw[<-h2];exact getElem_mem _
 ·intro h;obtain⟨j,h1,h2⟩:=List.mem_iff_getElem.1 h;exact⟨j,h1,by rw[dO (by simpa using h1)];exact h2⟩
theorem qZ{zs:List UInt8}(hs:zs.Pairwise (fun x y=>x.toNat<=y.toNat)):∀ m,m<=zs.length->(Lib.compactUpTo zs.toArray m).Pairwise (fun x y=>x.toNat<y.toNat)
 | 0,_=>by simp[Lib.compactUpTo]
 | m+1,hm=>by
  rw[Lib.compactUpTo_succ,pairwise_append];refine⟨qZ hs m (by omega),by split<;>simp,?_⟩;intro x hx y hy;cases hk:Lib.keeps zs.toArray m with
  | false=>rw[hk]at hy;simp at hy
  | true=>
   rw[hk,if_pos rfl,mem_singleton]at hy;subst hy;obtain⟨j,hj,rfl⟩:=(te _ _ _).1 hx;rw[dO (show j<zs.length by omega),dO (show m<zs.length by omega)];have hle:∀ i k,(hk:k<zs.length)->(hi:i<=k)->(zs[i]'(by omega)).toNat<=zs[k].toNat:=fun i k hk hi=>by
    rcases Nat.lt_or_eq_of_le hi with h|h
    ·exact List.pairwise_iff_getElem.1 hs i k (by omega) hk h
    ·subst h;exact Nat.le_refl _
   have h1:=hle j (m-1) (by omega) (by omega);have h2:=hle (m-1) m (by omega) (by omega);simp only[Lib.keeps,decide_eq_true_eq]at hk;rcases hk with h0|hne
   ·omega
   ·rw[dO (show m<zs.length by omega),dO (show m-1<zs.length by omega)]at hne;have:zs[m].toNat≠(zs[m-1]'(by omega)).toNat:=fun e=>hne (UInt8.toNat_inj.1 e);omega
theorem ry:∀ {a b:List UInt8},a.Pairwise (fun x y=>x.toNat<y.toNat)->b.Pairwise (fun x y=>x.toNat<y.toNat)->(∀ x,x∈a↔x∈b)->a=b
 | [],[],_,_,_=>rfl
 | [],y::b,_,_,h=>absurd ((h y).2 mem_cons_self) (by simp)
 | x::a,[],_,_,h=>absurd ((h x).1 mem_cons_self) (by simp)
 | x::a,y::b,ha,hb,h=>by
  rw[pairwise_cons]at ha hb;have hxy:x=y:=by
   have h1:=(h x).1 mem_cons_self;have h2:=(h y).2 mem_cons_self;rcases List.mem_cons.1 h1 with e|e
   ·exact e
   ·rcases List.mem_cons.1 h2 with e2|e2
    ·exact e2.symm
    ·have:=hb.1 x e;have:=ha.1 y e2;omega
  subst hxy
  congr 1
  refine ry ha.2 hb.2 fun z=>?_;constructor
  ·intro hz;rcases List.mem_cons.1 ((h z).1 (mem_cons_of_mem _ hz)) with e|e
   ·have:=ha.1 z hz;rw[e]at this;omega
   ·exact e
  ·intro hz;rcases List.mem_cons.1 ((h z).2 (mem_cons_of_mem _ hz)) with e|e
   ·have:=hb.1 z hz;rw[e]at this;omega
   ·exact e
theorem IL{p:List UInt8}(hp:∀ c∈p,isV c=true)(k:Nat):oc p k=true↔UInt8.ofNat (65+k)∈p/\k<3:=by
 unfold oc;rw[any_eq_true];constructor
 ·rintro⟨c,hc,h⟩
  rw[beq_iff_eq]at h;have:=dc (hp c hc);have h2:=c.toNat_lt;unfold aE at h;refine⟨?_,by omega⟩;have:UInt8.ofNat (65+k)=c:=UInt8.toNat_inj.1 (by rw[UInt8.toNat_ofNat'];omega);rw[this];exact hc
 ·rintro⟨h,hk⟩
  refine⟨_,h,?_⟩;rw[beq_iff_eq];unfold aE;rw[UInt8.toNat_ofNat'];omega
theorem Gx{p L:List UInt8}(hp:∀ c∈p,isV c=true)(hs:L.Pairwise (fun x y=>x.toNat<=y.toNat))(hL:L.Perm p):(Lib.compact L).length=jq p:=by
 have h1:(Lib.compact L).Pairwise (fun x y=>x.toNat<y.toNat):=qZ hs _ (Nat.le_refl _);have h2:([65,66,67]:List UInt8).Pairwise (fun x y=>x.toNat<y.toNat):=by decide
 have h3:=h2.filter fun c=>p.contains c;have he:Lib.compact L=([65,66,67]:List UInt8).filter fun c=>p.contains c:=by
  refine ry h1 h3 fun x=>?_;rw[Ca,hL.mem_iff,mem_filter,contains_iff_mem];refine⟨fun hx=>⟨?_,hx⟩,fun hx=>hx.2⟩;have:=dc (hp x hx);have hh:x.toNat=65\/x.toNat=66\/x.toNat=67:=by omega
  rcases hh with e|e|e
  ·rw[show x=65 from UInt8.toNat_inj.1 e];decide
  ·rw[show x=66 from UInt8.toNat_inj.1 e];decide
  ·rw[show x=67 from UInt8.toNat_inj.1 e];decide
 rw[he];have o0:=IL hp 0;have o1:=IL hp 1;have o2:=IL hp 2;have e0:oc p 0=p.contains 65:=by rw[Bool.eq_iff_iff,o0,contains_iff_mem];exact⟨fun h=>h.1,fun h=>⟨h,by omega⟩⟩
 have e1:oc p 1=p.contains 66:=by rw[Bool.eq_iff_iff,o1,contains_iff_mem];exact⟨fun h=>h.1,fun h=>⟨h,by omega⟩⟩
 have e2:oc p 2=p.contains 67:=by rw[Bool.eq_iff_iff,o2,contains_iff_mem];exact⟨fun h=>h.1,fun h=>⟨h,by omega⟩⟩
 unfold jq;rw[e0,e1,e2];simp only[filter_cons,filter_nil];generalize p.contains 65=x;generalize p.contains 66=y;generalize p.contains 67=z;cases x<;>cases y<;>cases z<;>rfl
theorem CB(x:Nat)(M:Mem)(R:VP)(hx:x<=1000000)(h:R (.int .i64 (Lib.bitLen x:Nat)) M):ar prog 444 [.int .u64 x] M R:=by
 refine dk (.int .i64 (Lib.bitLen x:Nat)) ⟨_,func444,by kernel_rfl,by kernel_rfl⟩ (fun w hw=>?_) h;refine(Tryz.bits_Len x w (by omega) (by omega)).mono fun e w' ⟨h1,h2⟩=>⟨h1,by rw[h2];exact Go.RowKit.Below.refl _ _⟩
theorem Gh(b c:Nat)(L:List UInt8)(M:Mem)(R:VP)(hM:M b=some (.cells true (av L) c))(hc:L.length<=c)(hl:L.length<=12)
  (h:∀ L',L'.Perm L->L'.Pairwise (fun x y=>x.toNat<=y.toNat)->R (.tuple #[]) (M.put b (.cells true (av L') c))):ar prog 428 [.slice (some ⟨b,0,none⟩) L.length c] M R:=by
 refine fnS func428 rfl ntmps428 results428 ?_;have hu:IntKind.u64.wrap (L.length:Int)=(L.length:Nat):=wrap_u64 (by omega) (by omega);simp(disch:=omega)[hu];refine CB L.length _ _ (by omega) ?_;simp(disch:=omega);refine fnS func443 rfl ntmps443 results443 ?_;simp(disch:=omega);refine lupS [1,2,3,8,9,10,11,12,13,14,15,16,17,18,19,20,21,22,23,24,25,26,27,28,29,30,31,32,33,34,35,36,37,38,39,40,41,42,43,44,45,46,47,48,49,50,51,52,53,54,55,56,57,58,59,60,61,62,63,64,65,66,67,68,69,70,71,72,73,74,75,76,77,78,79,80,81,82,83,84,85,86,87,88,89,90,91,92,93,94,95,96,97,98,99,100,101,102,103,104,105,106,107,108,109,110,111,112,113,114,115,116,117,118,119,120,121,122,123,124,125,126,127,128,129,130,131,132,133] (fun x:Unit=>[(1,.int .i64 0),(2,.int .i64 (L.length:Nat))]) (fun x M'=>M=M') (fun x=>0) () rfl ?_
 rintro⟨⟩ M' g rfl
 simp(disch:=omega);refine Dv b c 0 L.length L _ _ hM hc (by omega) (Nat.zero_le _) (Nat.le_refl _) ?_;intro L' hsp hss;simp(disch:=omega);refine ad ?_;simp(disch:=omega);refine ad (h L' hsp.perm ?_);rw[<-hsp.len]at hss;exact hss.pairwise
theorem qa(p:List UInt8)(M:Mem)(R:VP)(hl:p.length<=1099511627776)(h:∀ M',Sub M M'->R (aD (.bool (uW p)) (u0 p)) M'):ar prog 350 [str p] M R:=by
 unfold aD uW u0 at h;refine fnS func350 rfl ntmps350 results350 ?_;simp(disch:=omega);refine cU p true _ _ hl ?_;cases hp:aY p
 ·rw[hp]at h;simp(disch:=omega);exact ad (h _ (Sub.refl _))
 ·rw[hp,if_pos rfl,Bool.true_and]at h;obtain⟨hp1,hp8,hpv⟩:=bK hp;have hne:p≠[]:=by rintro rfl;simp at hp1
  have hr:=AT hne (qp hp);have hz:=qF (jq p) (by omega);simp(disch:=omega);intro b c hb hc;have s1:Sub M (M.put b (.cells true (av p) c)):=(Sub.refl _).put hb _;simp(disch:=omega);refine Cp _ _ _ _ _ ?_;intro Bv hBv;have s2:=s1.putN hBv (.cells true [.slice (some ⟨b,0,none⟩) p.length c] 1);have rp:Rd ((M.put b (.cells true (av p) c)).put Bv (.cells true [.slice (some ⟨b,0,none⟩) p.length c] 1)) (.slice (some ⟨b,0,none⟩) p.length c) (av p):=(Rd.new (aS p) (by simp(disch:=omega) at hc;omega)).sub ((Sub.refl _).put hBv _);have kv:((M.put b (.cells true (av p) c)).put Bv (.cells true [.slice (some ⟨b,0,none⟩) p.length c] 1)) Bv=some (.cells true [.slice (some ⟨b,0,none⟩) p.length c] 1):=ag _ _ _;generalize (M.put b (.cells true (av p) c)).put Bv (.cells true [.slice (some ⟨b,0,none⟩) p.length c] 1)=M2 at *;simp(disch:=omega);refine fnS func401 rfl ntmps401 results401 ?_;simp(disch:=omega);refine DD Bv b 0 c true 1 p _ _ hp1 (by omega) kv rp ?_;intro g c2 hg hc2;simp(disch:=omega);refine Gh g c2 p _ _ (ag _ _ _) hc2 (by omega) ?_;intro L hL hs;have hLl:=hL.length_eq;have hdi:=Gx (fun c hc=>List.all_eq_true.1 hpv c hc) hs hL;rw[a7];simp(disch:=omega);refine ad ?_;rw[<-hLl];simp(disch:=omega);refine Ab _ L M2 _ _ (.inr ⟨g,c2,by rw[aS],hg,by rw[aS];omega,rfl⟩) (by omega) ?_;intro v' M3 o3;obtain⟨a,c3,rfl,_⟩:=o3.rd.opened;rw[aS,hdi];simp(disch:=omega);refine xZ (jq p) _ _ (by omega) ?_;simp(disch:=omega);refine Be (jt (jq p)) p _ _ (by omega) hp ?_;simp(disch:=omega);exact ad (h _ (s2.trans o3.sub))
def qq(w c:List UInt8):List (List UInt8):=if c=[108,121,110,100,111,110] then (if isWord w then kI w else []) else if c=[112,97,108,105,110,100,114,111,109,101,115] then (if isWord w then eT w w.length else []) else (if isWord w then ie w 0 else [])
theorem xX(w c:List UInt8):mw (qq w c):=by
 unfold qq;split
 ·exact ID w
 split
 ·exact IB w
 ·exact HM w
theorem mi(w c:List UInt8)(M:Mem)(R:VP)(hl:w.length<=1000)(h:∀ v M',Sub M M'->Rd M' v (strs (qq w c))->R (.tuple #[v,.int .i64 (aJ w)]) M'):ar prog 192 [str w,str c] M R:=by
 unfold qq at h;refine fnS func192 rfl ntmps192 results192 ?_;by_cases c0:c=[108,121,110,100,111,110]
 ·subst c0;rw[if_pos rfl]at h;simp(disch:=omega);refine tg w _ _ (by omega) ?_;intro v M1 s1 r1;unfold aD;simp(disch:=omega);exact ad (h v M1 s1 r1)
 by_cases c1:c=[112,97,108,105,110,100,114,111,109,101,115]
 ·subst c1;rw[if_neg (by decide),if_pos rfl]at h;simp(disch:=omega);refine pO w _ _ (by omega) ?_;intro v M1 s1 r1;unfold aD;simp(disch:=omega);exact ad (h v M1 s1 r1)
 ·rw[if_neg c0,if_neg c1]at h;simp(disch:=omega)[beq_eq_false_iff_ne.2 c0,beq_eq_false_iff_ne.2 c1];refine td w _ _ (by omega) ?_;intro v M1 s1 r1;unfold aD;simp(disch:=omega);exact ad (h v M1 s1 r1)
def rL(w c:List UInt8):List Int:=if c=[108,101,116,116,101,114,115] then (if isWord w then counts w else []) else if c=[98,111,114,100,101,114,115] then (if isWord w then ij w else []) else if c=[112,101,114,105,111,100,115] then (if isWord w then cy w else []) else if c=[99,114,105,116,105,99,97,108] then (if isWord w then gY w (w.length-1) else []) else nI (jo w)
def zD(w c:List UInt8):Int:=if c=[108,101,116,116,101,114,115]\/c=[98,111,114,100,101,114,115]\/c=[112,101,114,105,111,100,115]\/c=[99,114,105,116,105,99,97,108] then aJ w else qR w
theorem rl(w c:List UInt8):kK (rL w c):=by
 unfold rL;split
 ·exact th w
 split
 ·exact C7 w
 split
 ·exact Hw w
 split
 ·exact Hi w
 ·exact IF w
theorem iH(w c:List UInt8)(M:Mem)(R:VP)(hl:w.length<=1000)(h:∀ v M',Sub M M'->Rd M' v (ints (rL w c))->R (.tuple #[v,.int .i64 (zD w c)]) M'):ar prog 193 [str w,str c] M R:=by
 unfold rL zD at h;refine fnS func193 rfl ntmps193 results193 ?_;by_cases c0:c=[108,101,116,116,101,114,115]
 ·subst c0;simp at h;simp(disch:=omega);refine rJ w _ _ (by omega) ?_;intro v M1 o1;simp(disch:=omega);exact ad (h v M1 o1.sub o1.rd)
 by_cases c1:c=[98,111,114,100,101,114,115]
 ·subst c1;simp at h;simp(disch:=omega);refine ya w _ _ (by omega) ?_;intro v M1 s1 r1;unfold aD;simp(disch:=omega);exact ad (h v M1 s1 r1)
 by_cases c2:c=[112,101,114,105,111,100,115]
 ·subst c2;simp at h;simp(disch:=omega);refine yS w _ _ (by omega) ?_;intro v M1 o1;simp(disch:=omega);exact ad (h v M1 o1.sub o1.rd)
 by_cases c3:c=[99,114,105,116,105,99,97,108]
 ·subst c3;simp at h;simp(disch:=omega);refine oU w _ _ (by omega) ?_;intro v M1 s1 r1;unfold aD;simp(disch:=omega);exact ad (h v M1 s1 r1)
 ·simp[c0,c1,c2,c3]at h;simp(disch:=omega)[beq_eq_false_iff_ne.2 c0,beq_eq_false_iff_ne.2 c1,beq_eq_false_iff_ne.2 c2,beq_eq_false_iff_ne.2 c3];refine oP w _ _ (by omega) ?_;intro v M1 s1 r1;simp(disch:=omega);exact ad (h v M1 s1 r1)
def pn(w p:List UInt8)(ms:List (List UInt8))(c:List UInt8):Bool:=if c=[99,108,111,115,101,100] then (isWord w&&AD w) else if c=[112,114,105,118,105,108,101,103,101,100] then (isWord w&&fB w) else if c=[112,114,105,109,105,116,105,118,101] then (vC ms) else if c=[98,97,108,97,110,99,101,100] then (isWord w&&decide (kn w w.length<=1)) else if c=[104,97,115] then ((isWord w&&aY p)&&hasB w p) else if c=[117,110,97,118,111,105,100,97,98,108,101] then (uW p) else false
def pd(w p:List UInt8)(ms:List (List UInt8))(c:List UInt8):Int:=if c=[99,108,111,115,101,100] then (aJ w) else if c=[112,114,105,118,105,108,101,103,101,100] then (aJ w) else if c=[112,114,105,109,105,116,105,118,101] then (kC ms) else if c=[98,97,108,97,110,99,101,100] then (aJ w) else if c=[104,97,115] then (Ea w p) else if c=[117,110,97,118,111,105,100,97,98,108,101] then (u0 p) else 6
set_option maxHeartbeats 1000000 in
theorem G9(w p:List UInt8)(v:Value)(ms:List (List UInt8))(c:List UInt8)(M:Mem)(R:VP)(hw60:w.length<=60)(hw:isWord w=true)(hp8:p.length<=8)(hv:Rd M v (strs ms))(hfi:df ms)(hm5:ms.length<=5)
  (h:∀ M',Sub M M'->R (.tuple #[.bool (pn w p ms c),.int .i64 (pd w p ms c)]) M'):ar prog 194 [str w,str p,.agg #[v],str c] M R:=by
 have hf:=aZ hv;unfold pn pd at h;refine fnS func194 rfl ntmps194 results194 ?_;simp(disch:=omega);intro b1 hb1;have s1:=(Sub.refl M).put hb1 (.cells true [v] 1);have k1:=ag M b1 (.cells true [v] 1);have hv1:=hv.sub s1;generalize M.put b1 (.cells true [v] 1)=N at *;by_cases c0:c=[99,108,111,115,101,100]
 ·subst c0;simp at h;simp(disch:=omega);refine zg w _ _ (by omega) ?_;unfold aD;simp(disch:=omega);exact ad (h _ s1)
 by_cases c1:c=[112,114,105,118,105,108,101,103,101,100]
 ·subst c1;simp at h;simp(disch:=omega);refine qD w _ _ (by omega) ?_;unfold aD;simp(disch:=omega);exact ad (h _ s1)
 by_cases c2:c=[112,114,105,109,105,116,105,118,101]
 ·subst c2;simp at h;simp(disch:=omega)[aq k1];refine tE v ms _ _ hv1 hfi (by omega) ?_;unfold aD;simp(disch:=omega);exact ad (h _ s1)
 by_cases c3:c=[98,97,108,97,110,99,101,100]
 ·subst c3;simp at h;simp(disch:=omega);refine oR w _ _ (by omega) ?_;intro M2 s2;unfold aD;rw[hw,if_pos rfl];simp[hw]at h;simp(disch:=omega);exact ad (h _ (s1.trans s2))
 by_cases c4:c=[104,97,115]
 ·subst c4;simp at h;simp(disch:=omega);refine wq w p _ _ (by omega) (by omega) ?_;unfold aD;simp(disch:=omega);exact ad (h _ s1)
 by_cases c5:c=[117,110,97,118,111,105,100,97,98,108,101]
 ·subst c5;simp at h;simp(disch:=omega);refine qj p _ _ (by omega) ?_;intro M2 s2;unfold aD;simp(disch:=omega);exact ad (h _ (s1.trans s2))
 ·simp[c0,c1,c2,c3,c4,c5]at h;simp(disch:=omega)[beq_eq_false_iff_ne.2 c0,beq_eq_false_iff_ne.2 c1,beq_eq_false_iff_ne.2 c2,beq_eq_false_iff_ne.2 c3,beq_eq_false_iff_ne.2 c4,beq_eq_false_iff_ne.2 c5];exact ad (h _ s1)
theorem bP(d:Dk)(v:Value)(t:List UInt8)(c:Int)(M:Mem)(R:VP)(hf:bF v=true)(hl:t.length<=1099511627776)(h:∀ d' t' k,d'.ms=d.ms->Got (bec d t c) d' t' k->R (.tuple #[dkV d' v,str t',.int .i64 k]) M):ar prog 63 [dkV d v,str t,.int .i64 c] M R:=by
 unfold dkV at h ⊢;refine fnS func63 rfl ntmps63 results63 ?_;simp(disch:=omega);intro b1 hb1;have h1:Sub M (M.put b1 (.cells true [str d.w,str d.p,v] 3)):=(Sub.refl M).put hb1 _;simp(disch:=omega);intro b2 hb2;have h2:=hb2;rw[aF]at h2;by_cases hc:c=0
 ·subst hc;have h:=h ⟨t,d.p,d.ms⟩ _ _ rfl rfl;simp(disch:=omega)[al];refine plyS (ak [0,1] (.one 2 1 (.one 3 2 (ak [4,5] .fin)))) ?_;simp(disch:=omega);refine bI _ _ _ hl ?_;simp(disch:=omega)[hf,al];exact ae (((h1.putN hb2 _).ovr hb1 _).ovr h2.2 _) h
 ·have h:=h d [] c rfl (by unfold bec Got bt;rw[if_neg hc,if_neg hc]);simp(disch:=omega)[hf,al];exact ae (((h1.putN hb2 _)).ovr h2.2 _) h
end Go.Proofs.YtapimhjbilkfpaaGreatDoor
