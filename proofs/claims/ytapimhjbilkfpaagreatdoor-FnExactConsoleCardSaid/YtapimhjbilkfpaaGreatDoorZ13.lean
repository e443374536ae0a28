/- Lemmas for FnExactConsole, part 14 of 46. -/
import Derived.Test.YtapimhjbilkfpaaGreatDoorZ12
import Derived.Test.YtapimhjbilkfpaaGreatDoorZ09
import Derived.Test.YtapimhjbilkfpaaGreatDoorZ03
import Derived.Test.YtapimhjbilkfpaaGreatDoorZ04
set_option linter.unusedVariables false
set_option linter.unusedSimpArgs false
namespace Go.Proofs.YtapimhjbilkfpaaGreatDoor
open Go Go.Proofs.Tryz List
def encI:Cell->Nat
 | (some s,_)=>s
 | (none,_)=>61
def kF(i:Nat)(c:Cell)(t:List Cell):List Nat:=replicate i 0++(encI c::t.map encI)
def tj(i:Nat)(c:Cell)(t:List Cell):List Nat:=replicate i 0++(c.2::t.map (·.2))
theorem EL(i:Nat)(c:Cell)(t:List Cell):(kF i c t).length=i+1+t.length:=by simp[kF];omega
theorem FP(i:Nat)(c:Cell)(t:List Cell):(tj i c t).length=i+1+t.length:=by simp[tj];omega
theorem Oj(i:Nat)(c:Cell)(t:List Cell):(kF i c t)[i]?=some (encI c):=by
 unfold kF;rw[getElem?_append_right (by simp)];simp
theorem QQ(i j:Nat)(c:Cell)(t:List Cell)(h:j<t.length):(kF i c t)[i+(j+1)]?=some (encI t[j]):=by
 unfold kF;rw[getElem?_append_right (by rw[length_replicate];omega),length_replicate,show i+(j+1)-i=j+1 by omega,getElem?_cons_succ,getElem?_map,getElem?_eq_getElem h];rfl
theorem PF(i:Nat)(c c':Cell)(t:List Cell):(kF i c t).set i (encI c')=kF i c' t:=by
 unfold kF;rw[set_append_right _ _ (by simp),length_replicate,Nat.sub_self,set_cons_zero]
theorem OC(i:Nat)(c c':Cell)(t:List Cell):(tj i c t).set i c'.2=tj i c' t:=by
 unfold tj;rw[set_append_right _ _ (by simp),length_replicate,Nat.sub_self,set_cons_zero]
def gW(i:Nat)(t:List Cell):List Nat:=replicate i 0++t.map encI
def jB(i:Nat)(t:List Cell):List Nat:=replicate i 0++t.map (·.2)
theorem Hj(i:Nat)(c:Cell)(t:List Cell):gW i (c::t)=kF i c t:=rfl
theorem G4(i:Nat)(c:Cell)(t:List Cell):jB i (c::t)=tj i c t:=rfl
theorem Mo(i:Nat)(t:List Cell):(gW (i+1) t).set i 61=kF i (none,0) t:=by
 unfold gW kF;rw[replicate_succ',append_assoc,set_append_right _ _ (by simp),length_replicate,Nat.sub_self];rfl
theorem HB(i:Nat)(t:List Cell):jB (i+1) t=tj i (none,0) t:=by
 unfold jB tj;rw[replicate_succ',append_assoc];rfl
theorem G2(n:Nat):replicate (n+1) 0=gW n [(some 0,0)]:=by
 unfold gW;rw[replicate_succ'];rfl
theorem It(n:Nat):replicate (n+1) 0=jB n [(some 0,0)]:=by
 unfold jB;rw[replicate_succ'];rfl
theorem A2(b:Nat):encI (none,b)=61:=rfl
theorem fQ(s b:Nat):encI (some s,b)=s:=rfl
theorem J2{c:Cell}{B:Nat}(h:∀ s,c.1=some s->s<=B)(hB:B<=60):encI c<=61:=by
 obtain⟨o,b⟩:=c;cases o with
 | none=>exact Nat.le_refl 61
 | some s=>have:=h s rfl;rw[fQ];omega
theorem CI{c:Cell}(h:c.1=none):encI c=61:=by
 obtain⟨o,b⟩:=c;cases o with
 | none=>rfl
 | some s=>cases h
theorem De{c:Cell}{s:Nat}(h:c.1=some s):encI c=s:=by
 obtain⟨o,b⟩:=c;cases o with
 | none=>cases h
 | some x=>injection h
theorem Mv(t:List Cell)(i:Nat):(gW 0 t)[i]?=t[i]?.map encI:=by
 unfold gW;rw[replicate_zero,nil_append,getElem?_map]
theorem Lo(t:List Cell)(i:Nat):(jB 0 t)[i]?=t[i]?.map (·.2):=by
 unfold jB;rw[replicate_zero,nil_append,getElem?_map]
theorem xl(w:List UInt8)(ws:List (List UInt8)):∀ f i,(il w ws f i).length<=f
 | 0,_=>Nat.le_refl 0
 | f+1,i=>by
  unfold il;split
  ·have:=xl w ws f (i+(ws.getD (cH w ws i).2 []).length);rw[length_cons];omega
  ·exact Nat.zero_le _
theorem yq(w:List UInt8)(ws:List (List UInt8))(t:List Cell)(i k:Nat):cW w ws t i (k+1)=kc (cW w ws t i k) k (gN w t i (ws.getD k [])):=rfl
theorem xP(n:Nat):replicate n (Value.int .i64 0)=aB (replicate n 0):=by simp[aB]
theorem p6(l:List Nat)(i n:Nat):(aB l).set i (.int .i64 n)=aB (l.set i n):=by simp[aB,map_set]
theorem Pe(ws:List (List UInt8))(w:List UInt8):(if aW ws then codeOf [w] ([w].all (fun u=>gF u ws.length)&&true) else 1)=gU ws w:=by
 unfold gU;rw[cV];simp only[all_cons,all_nil,Bool.and_true];cases aW ws<;>cases isWord w<;>rfl
theorem qs{ws:List (List UInt8)}{w:List UInt8}(h:gU ws w=0):aW ws=true/\isWord w=true:=by
 rw[<-uq]at h;obtain⟨g1,g2,_⟩:=ld h;exact⟨g1,g2⟩
set_option maxHeartbeats 4000000 in
theorem pN(v:Value)(ws:List (List UInt8))(w:List UInt8)(M:Mem)(R:VP)(hv:Rd M v (strs ws))(hf:df ws)(hn:ws.length<=1099511627776)(hl:w.length<=1099511627776)(h:R (aD (str (pr ws w)) (pA ws w)) M):ar prog 159 [.agg #[v],str w] M R:=by
 refine fnS func159 rfl ntmps159 results159 ?_;obtain⟨a,c,rfl,ha⟩:=hv.opened;rw[ah]at ha hv ⊢;simp(disch:=omega);intro b2 hb2;have hs2:Sub M (M.put b2 (.cells true [.slice a ws.length c] 1)):=(Sub.refl M).put hb2 _;have hv2:=hv.put hb2 (.cells true [.slice a ws.length c] 1);have k2:(M.put b2 (.cells true [.slice a ws.length c] 1)) b2=some (.cells true [.slice a ws.length c] 1):=ag _ _ _;simp(disch:=omega);generalize M.put b2 (.cells true [.slice a ws.length c] 1)=N1 at *;intro b16 hb16;have s16:=(Sub.refl N1).put hb16 (.cells true [str w] 1);have r16:Rd (N1.put b16 (.cells true [str w] 1)) (.slice (some ⟨b16,0,none⟩) 1 1) (strs [w]):=Rd.new rfl (Nat.le_refl 1);have k2':=s16 _ _ k2;simp(disch:=omega);generalize N1.put b16 (.cells true [str w] 1)=N2 at *;have hs22:=hs2.trans s16;have hv22:=hv2.sub s16;refine di _ _ _ ws [w] true (fun _=>True) _ _ hv22 hf hn r16 (fM hl) (by simp) rfl trivial bT (bG _) ?_;rw[Pe];unfold pr pA at h;by_cases h0:gU ws w=0
 ·obtain⟨hm,hw⟩:=qs h0;rw[if_pos h0,if_pos h0]at h;have h15:=aX hm;have h60:=au hw;rw[h0];rcases ha with hz|⟨b,o,rfl,ha⟩
  ·omega
  have hget:∀ k,(hk:k<ws.length)->N2.get? b (o+k)=some (str ws[k]):=by
   intro k hk;have hg0:=ha k hk;rw[bg,getElem?_eq_getElem hk]at hg0;exact aT hg0 hs22
  have er:((w.length:Int)+1).toNat=w.length+1:=by omega
  have eI:replicate (w.length+1) (Value.int .i64 0)=aB (gW w.length [(some 0,0)]):=by rw[xP,G2]
  have eN:replicate (w.length+1) (Value.int .i64 0)=aB (jB w.length [(some 0,0)]):=by rw[xP,It]
  simp(disch:=omega);refine plyS (ak [0,1,2,4,5,6] (.alt 3 1 (.light 8 (.one 7 1 (.light 9 .fin))) (.one 7 1 (.one 3 1 (ak [8,9] .fin))))) ?_;simp(disch:=omega)[jW,er];refine⟨?c1,?c2⟩
  case' c1=>
   intro b7 hb7;have t7:=(Sub.refl N2).put hb7 (.cells true (aB (gW w.length [(some 0,0)])) (w.length+1));simp only[length_replicate];simp only[eI];have hb7':∀ X,(N2.put b7 X) b7=some X:=fun X=>ag _ _ _;simp(disch:=omega);refine⟨t7,?_⟩;intro b8 hb8;have hne:b7≠b8:=by rintro rfl;rw[ag]at hb8;cases hb8
   have hb82:N2 b8=none:=bM t7 hb8;simp only[length_replicate];simp only[eN];have t8:=(Sub.refl (N2.put b7 (.cells true (aB (gW w.length [(some 0,0)])) (w.length+1)))).put hb8 (.cells true (aB (jB w.length [(some 0,0)])) (w.length+1));simp(disch:=omega);refine⟨t8,?_⟩;clear t7 hb7' hb8 t8
  case' c2=>
   intro b8 hb82;have t8:=(Sub.refl N2).put hb82 (.cells true (aB (jB w.length [(some 0,0)])) (w.length+1));simp only[length_replicate];simp only[eN];simp(disch:=omega);refine⟨t8,?_⟩;intro b7 hb70;have hne:b7≠b8:=by rintro rfl;rw[ag]at hb70;cases hb70
   have hb7:N2 b7=none:=bM t8 hb70;simp only[length_replicate];simp only[eI];have t7:=(Sub.refl (N2.put b8 (.cells true (aB (jB w.length [(some 0,0)])) (w.length+1)))).put hb70 (.cells true (aB (gW w.length [(some 0,0)])) (w.length+1));simp(disch:=omega);refine⟨t7,?_⟩;rw[ET N2 (Ne.symm hne)];clear t7 hb70 t8
  all_goals
   refine lupS [9,10,11,32,33,34,35,36,37,38,39,40,41,42,43,44,45,46,47,48,49,50,51,52,53,54,55,56,57,58,59,60,61,62,63,64,65,66,67,68,69,70,71,72,73,74,75,76,77,78,79,80,81,82,83,84,85,86] (fun m:Nat=>[(9,.int .i64 ((w.length:Int)-1-m))]) (fun m M'=>m<=w.length/\M'=(N2.put b7 (.cells true (aB (gW (w.length-m) (cQ w ws m))) (w.length+1))).put b8 (.cells true (aB (jB (w.length-m) (cQ w ws m))) (w.length+1))) (fun m=>w.length-m) 0 ⟨by omega,rfl⟩ ?_
   rintro m M' g ⟨hmn,rfl⟩
   have htl:=nG w ws m;have htle:=oE w ws m;have htb:=NU w ws m;by_cases hlt:m<w.length
   ·obtain⟨i,hi⟩:∃ i,i=w.length-(m+1):=⟨_,rfl⟩;have ei:(w.length:Int)-1-m=(i:Int):=by omega
    have hc1:cQ w ws (m+1)=cW w ws (cQ w ws m) i ws.length::cQ w ws m:=by rw[hi];rfl
    rw[show w.length-m=i+1 by omega,ei,HB];have hhs:=Mo i (cQ w ws m);have hhl:(gW (i+1) (cQ w ws m)).length=w.length+1:=by unfold gW;simp;omega
    have hset:(aB (gW (i+1) (cQ w ws m))).set i (.int .i64 61)=aB (kF i (none,0) (cQ w ws m)):=by rw[<-hhs,<-p6];rfl
    generalize cQ w ws m=t at *;have l2:((N2.put b7 (.cells true (aB (kF i (none,0) t)) (w.length+1))).put b8 (.cells true (aB (tj i (none,0) t)) (w.length+1))) b2=some (.cells true [.slice (some ⟨b,o,none⟩) ws.length c] 1):=by
     rw[ai _ _ (by rintro rfl;rw[k2']at hb82;cases hb82),ai _ _ (by rintro rfl;rw[k2']at hb7;cases hb7)];exact k2'
    simp(disch:=omega);refine⟨by rw[aA];omega,?_⟩;simp(disch:=omega)[hset,aj l2];have hml2:m<=59:=by omega
    have hil:i+1+m=w.length:=by omega
    refine lupS [10,11,42,43,44,45,46,47,48,49,50,51,52,53,54,55,56,57,58,59,60,61,62,63,64,65,66,67,68,69,70,71,72,73,74,75,76,77,78,79,80,81,82,83,84,85,86] (fun k:Nat=>[(42,.int .i64 k)]) (fun k M1=>k<=ws.length/\M1=(N2.put b7 (.cells true (aB (kF i (cW w ws t i k) t)) (w.length+1))).put b8 (.cells true (aB (tj i (cW w ws t i k) t)) (w.length+1))) (fun k=>ws.length-k) 0 ⟨by omega,rfl⟩ ?_
    rintro k M1 g1 ⟨hk,rfl⟩
    have hcs:=yq w ws t i k;have hcle:=fun x=>Cr (w:=w) (ws:=ws) (i:=i) htle k x;by_cases hkl:k<ws.length
    ·have hgk:=hget k hkl;have hgd:ws.getD k []=ws[k]:=by rw[getD_eq_getElem?_getD,getElem?_eq_getElem hkl];rfl
     rw[hgd]at hcs;obtain⟨own,hown⟩:∃ own,own=ws[k]:=⟨_,rfl⟩;rw[<-hown]at hgk hcs;generalize hcur:cW w ws t i k=cur at *;have hI:=Oj i cur t;have hIl:=EL i cur t;have hNl:=FP i cur t;have sN:Sub N2 ((N2.put b7 (.cells true (aB (kF i cur t)) (w.length+1))).put b8 (.cells true (aB (tj i cur t)) (w.length+1))):=by
      intro j B hB;rw[ai _ _ (by rintro rfl;rw[hB]at hb82;cases hb82),ai _ _ (by rintro rfl;rw[hB]at hb7;cases hb7)];exact hB
     have hgk2:=aT hgk sN;have hIv:(aB (kF i cur t))[i]?=some (.int .i64 (encI cur:Nat)):=by rw[bS,hI];rfl
     have hcur61:=J2 (c:=cur) (B:=m+1) hcle (by omega);have hdl:(w.drop i).length=m+1:=by rw[length_drop];omega
     simp(disch:=omega)[hgk2];refine drwS ?_;by_cases h1:own=[]
     ·have hc0:gN w t i own=none:=by unfold gN;rw[if_pos h1]
      rw[hc0]at hcs;subst h1;simp(disch:=omega);refine rndS (k+1) ⟨by omega,?_⟩;rw[hcs];rfl
     ·have he:own.isEmpty=false:=by cases own with
       | nil=>exact absurd rfl h1
       | cons a l=>rfl
      have ho1:1<=own.length:=by cases own with
       | nil=>exact absurd rfl h1
       | cons a l=>simp
      have hown12:own.length<=12:=by rw[hown];exact(bL hm (getElem_mem hkl)).1
      simp(disch:=omega)[he];refine aU (a:=[]) (c:=[]) (du _ _ _ _ (by omega) (by omega) ⟨rfl,rfl⟩) ?_;cases hpre:own.isPrefixOf (w.drop i)
      ·have hc0:gN w t i own=none:=by unfold gN;rw[if_neg h1,hpre];rfl
       rw[hc0]at hcs;simp(disch:=omega);refine rndS (k+1) ⟨by omega,?_⟩;rw[hcs];rfl
      ·have hple:=eA hpre;rw[hdl]at hple;have htj:own.length-1<t.length:=by omega
       have hc0:gN w t i own=(t[own.length-1]).1:=by
        unfold gN;rw[if_neg h1,hpre,if_pos rfl,getD_eq_getElem?_getD,getElem?_eq_getElem htj];rfl
       rw[hc0]at hcs;have hIt:=QQ i (own.length-1) cur t htj;rw[show i+(own.length-1+1)=i+own.length by omega]at hIt;have hte:=htle _ (getElem_mem htj);have hte61:=J2 (c:=t[own.length-1]) (B:=m) hte (by omega);generalize t[own.length-1]=ce at *;have hIt2:(aB (kF i cur t))[i+own.length]?=some (.int .i64 (encI ce:Nat)):=by rw[bS,hIt];rfl
       have ea:((i:Int)+own.length).toNat=i+own.length:=by omega
       simp(disch:=omega)[hIv,hIt2,ea];by_cases hcond:(1:Int)+(encI ce:Nat)<(encI cur:Nat)
       ·obtain⟨os,bs⟩:=ce;cases os with
        | none=>rw[A2]at hcond;omega
        | some s=>
         rw[fQ]at hcond hIt2;have hup:kc cur k (some s)=(some (s+1),k):=by
          obtain⟨oc,bc⟩:=cur;unfold kc;cases oc with
          | none=>rfl
          | some x=>rw[fQ]at hcond;exact if_pos (by omega)
         rw[show (some s,bs).1=some s from rfl,hup]at hcs;have hs1:=PF i cur (some (s+1),k) t;have hs2:=OC i cur (some (s+1),k) t;have hs1':(aB (kF i cur t)).set i (.int .i64 ((1:Int)+(s:Nat)))=aB (kF i (some (s+1),k) t):=by
          rw[<-hs1,<-p6,fQ,show ((1:Int)+(s:Nat))=((s+1:Nat):Int) by omega]
         have hs2':(aB (tj i cur t)).set i (.int .i64 (k:Nat))=aB (tj i (some (s+1),k) t):=by
          rw[<-hs2,<-p6]
         rw[fQ];have hcond':(1:Int)+(s:Nat)<(encI cur:Nat):=hcond;simp(disch:=omega)[hcond',hIt2,ea,hs1'];refine⟨by rw[aA];omega,?_⟩;simp(disch:=omega)[hs2'];refine⟨by rw[aA];omega,?_⟩;simp(disch:=omega);refine rndS (k+1) ⟨by omega,?_⟩;rw[hcs]
       ·have hup:kc cur k ce.1=cur:=by
         obtain⟨os,bs⟩:=ce;cases os with
         | none=>rfl
         | some s=>
          obtain⟨oc,bc⟩:=cur;rw[fQ]at hcond;unfold kc;cases oc with
          | none=>rw[A2]at hcond;have:=hte s rfl;omega
          | some x=>rw[fQ]at hcond;exact if_neg (by omega)
        rw[hup]at hcs;simp(disch:=omega)[hcond];refine rndS (k+1) ⟨by omega,?_⟩;rw[hcs]
    ·have hk':k=ws.length:=by omega
     subst hk';simp(disch:=omega);refine rndA (m+1) (by simp(disch:=omega);omega) ⟨by omega,?_⟩;rw[show w.length-(m+1)=i by omega,hc1,Hj,G4]
   ·have hm':m=w.length:=by omega
    subst hm';have hent:∀ i,i<=w.length->(cQ w ws w.length)[i]?=some (cH w ws i):=fun i hi=>by
     rw[rU w ws w.length i hi (Nat.le_refl _),Nat.sub_self,Nat.zero_add]
    rw[Nat.sub_self];have hI0:∀ i,i<=w.length->(aB (gW 0 (cQ w ws w.length)))[i]?=some (.int .i64 (encI (cH w ws i):Nat)):=fun i hi=>by rw[bS,Mv,hent i hi];rfl
    have hN0:∀ i,i<=w.length->(aB (jB 0 (cQ w ws w.length)))[i]?=some (.int .i64 ((cH w ws i).2:Nat)):=fun i hi=>by rw[bS,Lo,hent i hi];rfl
    generalize aB (gW 0 (cQ w ws w.length))=LI at *;generalize aB (jB 0 (cQ w ws w.length))=LN at *;have sN:Sub N2 ((N2.put b7 (.cells true LI (w.length+1))).put b8 (.cells true LN (w.length+1))):=by
     intro j B hB;rw[ai _ _ (by rintro rfl;rw[hB]at hb82;cases hb82),ai _ _ (by rintro rfl;rw[hB]at hb7;cases hb7)];exact hB
    have l2:=sN _ _ k2';have hI00:=hI0 0 (by omega);simp(disch:=omega)[hI00];cases he0:(cH w ws 0).1 with
    | none=>
     rw[he0]at h;have e61:(60:Int)<((encI (cH w ws 0):Nat):Int):=by rw[CI he0];omega
     simp(disch:=omega)[e61];exact ae (hs22.trans sN) h
    | some x0=>
     rw[he0]at h;have hx0:x0<=w.length:=oE w ws w.length _ (mem_of_getElem? (hent 0 (by omega))) x0 he0;have e61:¬(60:Int)<((encI (cH w ws 0):Nat):Int):=by rw[De he0];omega
     simp(disch:=omega)[e61];refine lupS [12,13,91,92,93,94,95,96,97,98,99,100,101,102,103,104,105,106,107,108,109,110,111,112] (fun x:Nat×List UInt8=>[(13,.int .i64 x.1),(12,str x.2)]) (fun x M'=>M'=(N2.put b7 (.cells true LI (w.length+1))).put b8 (.cells true LN (w.length+1))/\x.1<=w.length/\(∃ y,(cH w ws x.1).1=some y)/\∃ f,w.length<=x.1+f/\x.2++il w ws f x.1=il w ws w.length 0) (fun x=>w.length-x.1) (0,[]) ⟨rfl,by omega,⟨x0,he0⟩,w.length,by omega,rfl⟩ ?_
     rintro⟨i,out⟩ M' g ⟨rfl,hi,⟨y,hy⟩,f,hf2,hout⟩
     simp only at hi hy hf2 hout;have hol:=congrArg length hout;have hofl:=xl w ws w.length 0;rw[length_append]at hol;by_cases hlt:i<w.length
     ·obtain⟨w1,w2,w3,⟨s,w4,w5⟩,w6,w7⟩:=DN hlt hy;obtain⟨f,rfl⟩:∃ f',f=f'+1:=⟨f-1,by omega⟩;have hof:il w ws (f+1) i=ltr (cH w ws i).2::il w ws f (i+(ws.getD (cH w ws i).2 []).length):=by
       conv=>lhs;unfold il
       rw[if_pos hlt]
      rw[hof]at hout;have hNi:=hN0 i hi;have hgd:ws.getD (cH w ws i).2 []=ws[(cH w ws i).2]:=by rw[getD_eq_getElem?_getD,getElem?_eq_getElem w1];rfl
      have hgb:=aT (hget _ w1) sN;have hob:1<=(ws.getD (cH w ws i).2 []).length:=by
       cases hq:ws.getD (cH w ws i).2 [] with
       | nil=>exact absurd hq w2
       | cons a l=>simp
      rw[<-hgd]at hgb;generalize (cH w ws i).2=bb at *;generalize ws.getD bb []=own at *;simp(disch:=omega)[hNi];refine cN bb _ _ (by omega) ?_;simp(disch:=omega);refine drwS ?_;simp(disch:=omega)[aj l2,hNi,hgb];refine rndS (i+own.length,out++[ltr bb]) ⟨rfl,by simp only;omega,⟨s,w4⟩,f,by simp only;omega,?_⟩;simp only;rw[append_assoc];exact hout
     ·have hi':i=w.length:=by omega
      rw[Fb hlt,append_nil]at hout;rw[<-hout]at h;simp(disch:=omega);exact ae (hs22.trans sN) h
 ·rw[if_neg h0,if_neg h0]at h;have hb:(gU ws w==0)=false:=beq_eq_false_iff_ne.2 h0;generalize gU ws w=code at *;simp(disch:=omega)[hb];exact ae hs22 h
def encS:Cell->Int
 | (some s,_)=>s
 | (none,_)=>-1
theorem iq{c:Cell}(h:c.1=none):encS c = -1:=by
 obtain⟨o,b⟩:=c;cases o with
 | none=>rfl
 | some s=>cases h
theorem eH{c:Cell}{s:Nat}(h:c.1=some s):encS c=s:=by
 obtain⟨o,b⟩:=c;cases o with
 | none=>cases h
 | some x=>injection h with h;subst h;rfl
def ka(i:Nat)(c:Cell)(t:List Cell):List Int:=replicate i 0++(encS c::t.map encS)
theorem FM(i:Nat)(c:Cell)(t:List Cell):(ka i c t).length=i+1+t.length:=by simp[ka];omega
theorem MY(i:Nat)(c:Cell)(t:List Cell):(ka i c t)[i]?=some (encS c):=by
 unfold ka;rw[getElem?_append_right (by simp)];simp
theorem Qb(i j:Nat)(c:Cell)(t:List Cell)(h:j<t.length):(ka i c t)[i+(j+1)]?=some (encS t[j]):=by
 unfold ka;rw[getElem?_append_right (by rw[length_replicate];omega),length_replicate,show i+(j+1)-i=j+1 by omega,getElem?_cons_succ,getElem?_map,getElem?_eq_getElem h];rfl
theorem GC(i:Nat)(c c':Cell)(t:List Cell):(ka i c t).set i (encS c')=ka i c' t:=by
 unfold ka;rw[set_append_right _ _ (by simp),length_replicate,Nat.sub_self,set_cons_zero]
def jD(i:Nat)(t:List Cell):List Int:=replicate i 0++t.map encS
theorem IQ(i:Nat)(c:Cell)(t:List Cell):jD i (c::t)=ka i c t:=rfl
theorem Lk(i:Nat)(t:List Cell):(jD (i+1) t).set i (-1)=ka i (none,0) t:=by
 unfold jD ka;rw[replicate_succ',append_assoc,set_append_right _ _ (by simp),length_replicate,Nat.sub_self];rfl
theorem Hh(n:Nat):replicate (n+1) (0:Int)=jD n [(some 0,0)]:=by
 unfold jD;rw[replicate_succ'];rfl
theorem LJ(t:List Cell)(i:Nat):(jD 0 t)[i]?=t[i]?.map encS:=by
 unfold jD;rw[replicate_zero,nil_append,getElem?_map]
theorem G8{w own:List UInt8}{i:Nat}(h:i+own.length<=w.length):((w.take (i+own.length)).drop i==own)=own.isPrefixOf (w.drop i):=by
 rw[drop_take,show i+own.length-i=own.length by omega,qn (w.drop i) own (by rw[length_drop];omega)]
set_option maxHeartbeats 4000000 in
set_option maxRecDepth 4000 in
theorem pR(v:Value)(ws:List (List UInt8))(w:List UInt8)(M:Mem)(R:VP)(hv:Rd M v (strs ws))(hf:df ws)(hn:ws.length<=1099511627776)(hl:w.length<=1099511627776)(h:R (aD (str (pr ws w)) (pA ws w)) M):ar prog 118 [.agg #[v],str w] M R:=by
 refine fnS func118 rfl ntmps118 results118 ?_;obtain⟨a,c,rfl,ha⟩:=hv.opened;rw[ah]at ha hv ⊢;simp(disch:=omega);intro b2 hb2;have hs2:Sub M (M.put b2 (.cells true [.slice a ws.length c] 1)):=(Sub.refl M).put hb2 _;have hv2:=hv.put hb2 (.cells true [.slice a ws.length c] 1);have k2:(M.put b2 (.cells true [.slice a ws.length c] 1)) b2=some (.cells true [.slice a ws.length c] 1):=ag _ _ _;simp(disch:=omega);generalize M.put b2 (.cells true [.slice a ws.length c] 1)=N1 at *;refine qW _ ws w _ _ hv2 hf hn hl ?_;unfold pr pA at h;by_cases h0:gU ws w=0
 ·obtain⟨hm,hw⟩:=qs h0;rw[if_pos h0,if_pos h0]at h;have h15:=aX hm;have h60:=au hw;rw[h0];rcases ha with hz|⟨b,o,rfl,ha⟩
  ·omega
  have hget:∀ k,(hk:k<ws.length)->N1.get? b (o+k)=some (str ws[k]):=by
   intro k hk;have hg0:=ha k hk;rw[bg,getElem?_eq_getElem hk]at hg0;exact aT hg0 hs2
  have er:((w.length:Int)+1).toNat=w.length+1:=by omega
  have eI:replicate (w.length+1) (Value.int .i64 0)=ints (jD w.length [(some 0,0)]):=by rw[ES,Hh]
  simp(disch:=omega)[er];intro b8 hb8;simp only[length_replicate];simp only[eI];simp(disch:=omega);refine lupS [9,10,11,12,30,31,32,33,34,35,36,37,38,39,40,41,42,43,44,45,46,47,48,49,50,51,52,53,54,55,56,57,58,59,60,61,62,63,64,65,66,67,68,69,70,71,72,73,74,75,76,77,78,79,80,81,82,83,84,85,86,87,88,89,90,91,92,93,94,95,96,97,98,99,100,101,102,103,104] (fun m:Nat=>[(9,.int .i64 ((w.length:Int)-1-m))]) (fun m M'=>m<=w.length/\M'=N1.put b8 (.cells true (ints (jD (w.length-m) (cQ w ws m))) (w.length+1))) (fun m=>w.length-m) 0 ⟨by omega,rfl⟩ ?_
  rintro m M' g ⟨hmn,rfl⟩
  have htl:=nG w ws m;have htle:=oE w ws m;by_cases hlt:m<w.length
  ·obtain⟨i,hi⟩:∃ i,i=w.length-(m+1):=⟨_,rfl⟩;have ei:(w.length:Int)-1-m=(i:Int):=by omega
   have hc1:cQ w ws (m+1)=cW w ws (cQ w ws m) i ws.length::cQ w ws m:=by rw[hi];rfl
   rw[show w.length-m=i+1 by omega,ei];have hhs:=Lk i (cQ w ws m);have hhl:(jD (i+1) (cQ w ws m)).length=w.length+1:=by unfold jD;simp;omega
   have hset:(ints (jD (i+1) (cQ w ws m))).set i (.int .i64 (-1))=ints (ka i (none,0) (cQ w ws m)):=by rw[<-hhs,<-ints_set]
   generalize cQ w ws m=t at *;simp(disch:=omega)[hset];have hil:i+1+m=w.length:=by omega
   refine lupS [10,11,12,37,38,39,40,41,42,43,44,45,46,47,48,49,50,51,52,53,54,55,56,57,58,59,60,61,62,63,64,65,66,67,68,69,70,71,72,73,74,75,76,77,78,79,80,81,82,83,84,85,86,87,88,89,90,91,92,93,94,95,96,97,98,99,100,101,102,103,104] (fun k:Nat=>[(10,.int .i64 k)]) (fun k M1=>k<=ws.length/\M1=N1.put b8 (.cells true (ints (ka i (cW w ws t i k) t)) (w.length+1))) (fun k=>ws.length-k) 0 ⟨by omega,rfl⟩ ?_
   rintro k M1 g1 ⟨hk,rfl⟩
   have hcs:=yq w ws t i k;have hcle:=fun x=>Cr (w:=w) (ws:=ws) (i:=i) htle k x;generalize hcur:cW w ws t i k=cur at *;have sN:Sub N1 (N1.put b8 (.cells true (ints (ka i cur t)) (w.length+1))):=(Sub.refl N1).put hb8 _;have l2:=sN _ _ k2;by_cases hkl:k<ws.length
   ·have hgk:=hget k hkl;have hgd:ws.getD k []=ws[k]:=by rw[getD_eq_getElem?_getD,getElem?_eq_getElem hkl];rfl
    rw[hgd]at hcs;obtain⟨own,hown⟩:∃ own,own=ws[k]:=⟨_,rfl⟩;rw[<-hown]at hgk hcs;have hIv:(ints (ka i cur t))[i]?=some (.int .i64 (encS cur)):=by rw[cJ,MY i cur t];rfl
    have hIl:=FM i cur t;have hgk2:=aT hgk sN;have hown12:own.length<=12:=by rw[hown];exact(bL hm (getElem_mem hkl)).1
    have hdl:(w.drop i).length=m+1:=by rw[length_drop];omega
    simp(disch:=omega)[aj l2,hgk2];by_cases h1:own=[]
    ·have hc0:gN w t i own=none:=by unfold gN;rw[if_pos h1]
     rw[hc0]at hcs;subst h1;simp(disch:=omega);refine rndS (k+1) ⟨by omega,?_⟩;rw[hcs];rfl
    ·have he:own.isEmpty=false:=by cases own with
      | nil=>exact absurd rfl h1
      | cons a l=>rfl
     have ho1:1<=own.length:=by cases own with
      | nil=>exact absurd rfl h1
      | cons a l=>simp
     by_cases hlong:w.length<i+own.length
     ·have hpre:own.isPrefixOf (w.drop i)=false:=tU (by omega);have hc0:gN w t i own=none:=by unfold gN;rw[if_neg h1,hpre];rfl
      rw[hc0]at hcs;have hlong':(w.length:Int)<(i:Int)+own.length:=by omega
      simp(disch:=omega)[he,hlong'];refine rndS (k+1) ⟨by omega,?_⟩;rw[hcs];rfl
     ·have hlong':¬(w.length:Int)<(i:Int)+own.length:=by omega
      have ea:((i:Int)+own.length).toNat=i+own.length:=by omega
      have hab:=G8 (w:=w) (own:=own) (i:=i) (by omega);cases hpre:own.isPrefixOf (w.drop i)
      ·have hc0:gN w t i own=none:=by unfold gN;rw[if_neg h1,hpre];rfl
       rw[hc0]at hcs;rw[hpre]at hab;simp(disch:=omega)[he,hlong',ea,hab];refine rndS (k+1) ⟨by omega,?_⟩;rw[hcs];rfl
      ·rw[hpre]at hab;have htj:own.length-1<t.length:=by omega
       have hc0:gN w t i own=(t[own.length-1]).1:=by
        unfold gN;rw[if_neg h1,hpre,if_pos rfl,getD_eq_getElem?_getD,getElem?_eq_getElem htj];rfl
       rw[hc0]at hcs;have hIt:=Qb i (own.length-1) cur t htj;rw[show i+(own.length-1+1)=i+own.length by omega]at hIt;have hte:=htle _ (getElem_mem htj);generalize t[own.length-1]=ce at *;have hIt2:(ints (ka i cur t))[i+own.length]?=some (.int .i64 (encS ce)):=by rw[cJ,hIt];rfl
       cases hce:ce.1 with
       | none=>
        rw[hce]at hcs;have hneg:encS ce<0:=by rw[iq hce];decide
        generalize encS ce=ec at *;simp(disch:=omega)[he,hlong',ea,hab,hIt2,hneg];refine rndS (k+1) ⟨by omega,?_⟩;rw[hcs];rfl
       | some s=>
        rw[hce]at hcs;have hes:=eH hce;have hs60:=hte s hce;rw[hes]at hIt2;cases hcu:cur.1 with
        | none=>
         have hup:kc cur k (some s)=(some (s+1),k):=by unfold kc;rw[hcu]
         rw[hup]at hcs;have hneg:encS cur<0:=by rw[iq hcu];decide
         have hs1:=GC i cur (some (s+1),k) t;have hs1':(ints (ka i cur t)).set i (.int .i64 ((1:Int)+(s:Nat)))=ints (ka i (some (s+1),k) t):=by
          rw[<-hs1,<-ints_set,show encS (some (s+1),k)=((s+1:Nat):Int) from rfl,show ((1:Int)+(s:Nat))=((s+1:Nat):Int) by omega]
         generalize encS cur=ecu at *;simp(disch:=omega)[he,hlong',ea,hab,hIt2,hIv,hneg,hs1'];refine rndS (k+1) ⟨by omega,?_⟩;rw[hcs]
        | some x=>
         have hex:=eH hcu;have hxle:=hcle x hcu;rw[hex]at hIv;by_cases hlt2:s+1<x
         ·have hup:kc cur k (some s)=(some (s+1),k):=by unfold kc;rw[hcu];exact if_pos hlt2
          rw[hup]at hcs;have hl2':(1:Int)+(s:Nat)<(x:Nat):=by omega
          have hs1:=GC i cur (some (s+1),k) t;have hs1':(ints (ka i cur t)).set i (.int .i64 ((1:Int)+(s:Nat)))=ints (ka i (some (s+1),k) t):=by
           rw[<-hs1,<-ints_set,show encS (some (s+1),k)=((s+1:Nat):Int) from rfl,show ((1:Int)+(s:Nat))=((s+1:Nat):Int) by omega]
          simp(disch:=omega)[he,hlong',ea,hab,hIt2,hIv,hl2',hs1'];refine rndS (k+1) ⟨by omega,?_⟩;rw[hcs]
         ·have hup:kc cur k (some s)=cur:=by unfold kc;rw[hcu];exact if_neg hlt2
          rw[hup]at hcs;have hl2':¬(1:Int)+(s:Nat)<(x:Nat):=by omega
          simp(disch:=omega)[he,hlong',ea,hab,hIt2,hIv,hl2'];refine rndS (k+1) ⟨by omega,?_⟩;rw[hcs]
   ·have hk':k=ws.length:=by omega
    subst hk';simp(disch:=omega)[aj l2];refine rndA (m+1) (by simp(disch:=omega);omega) ⟨by omega,?_⟩;rw[show w.length-(m+1)=i by omega,hc1,IQ,hcur]
  ·have hm':m=w.length:=by omega
   subst hm';have hent:∀ i,i<=w.length->(cQ w ws w.length)[i]?=some (cH w ws i):=fun i hi=>by
    rw[rU w ws w.length i hi (Nat.le_refl _),Nat.sub_self,Nat.zero_add]
   rw[Nat.sub_self];have hI0:∀ i,i<=w.length->(ints (jD 0 (cQ w ws w.length)))[i]?=some (.int .i64 (encS (cH w ws i))):=fun i hi=>by rw[cJ,LJ,hent i hi];rfl
   generalize ints (jD 0 (cQ w ws w.length))=LI at *;have sN:Sub N1 (N1.put b8 (.cells true LI (w.length+1))):=(Sub.refl N1).put hb8 _;have l2:=sN _ _ k2;have hI00:=hI0 0 (by omega);simp(disch:=omega)[hI00];cases he0:(cH w ws 0).1 with
   | none=>
    rw[he0]at h;have e61:encS (cH w ws 0)<0:=by rw[iq he0];decide
    simp(disch:=omega)[e61];exact ae (hs2.trans sN) h
   | some x0=>
    rw[he0]at h;have e61:¬ encS (cH w ws 0)<0:=by rw[eH he0];omega
    simp(disch:=omega)[e61];refine lupS [13,14,15,16,109,110,111,112,113,114,115,116,117,118,119,120,121,122,123,124,125,126,127,128,129,130,131,132,133,134,135,136,137,138,139,140,141,142,143,144,145,146,147,148,149,150,151,152,153,154,155,156,157,158,159,160,161,162,163,164,165,166,167,168,169,170,171,172,173,174,175,176,177,178,179] (fun x:Nat×List UInt8=>[(14,.int .i64 x.1),(13,str x.2)]) (fun x M'=>M'=N1.put b8 (.cells true LI (w.length+1))/\x.1<=w.length/\(∃ y,(cH w ws x.1).1=some y)/\∃ f,w.length<=x.1+f/\x.2++il w ws f x.1=il w ws w.length 0) (fun x=>w.length-x.1) (0,[]) ⟨rfl,by omega,⟨x0,he0⟩,w.length,by omega,rfl⟩ ?_
    rintro⟨i,out⟩ M' g ⟨rfl,hi,⟨y,hy⟩,f,hf2,hout⟩
    simp only at hi hy hf2 hout;have hol:=congrArg length hout;have hofl:=xl w ws w.length 0;rw[length_append]at hol;by_cases hlt:i<w.length
    ·obtain⟨w1,w2,w3,⟨s,w4,w5⟩,w6,w7⟩:=DN hlt hy;obtain⟨f,rfl⟩:∃ f',f=f'+1:=⟨f-1,by omega⟩;have hof:il w ws (f+1) i=ltr (cH w ws i).2::il w ws f (i+(ws.getD (cH w ws i).2 []).length):=by
      conv=>lhs;unfold il
      rw[if_pos hlt]
     rw[hof]at hout;have hIi:=hI0 i hi;rw[eH hy]at hIi;have hyl:y<=w.length:=oE w ws w.length _ (mem_of_getElem? (hent i hi)) y hy;simp(disch:=omega);refine lupS [13,14,15,16,112,113,114,115,116,117,118,119,120,121,122,123,124,125,126,127,128,129,130,131,132,133,134,135,136,137,138,139,140,141,142,143,144,145,146,147,148,149,150,151,152,153,154,155,156,157,158,159,160,161,162,163,164,165,166,167,168,169,170,171,172,173,174,175,176,177,178,179] (fun k:Nat=>[(15,.int .i64 k),(14,.int .i64 i),(13,str out)]) (fun k M1=>M1=N1.put b8 (.cells true LI (w.length+1))/\k<=(cH w ws i).2) (fun k=>ws.length-k) 0 ⟨rfl,Nat.zero_le _⟩ ?_
     rintro k M1 g1 ⟨rfl,hkb⟩
     have hkl:k<ws.length:=by omega
     have hgd:ws.getD k []=ws[k]:=by rw[getD_eq_getElem?_getD,getElem?_eq_getElem hkl];rfl
     have hgb:=aT (hget _ hkl) sN;rw[<-hgd]at hgb;obtain⟨own,hown⟩:∃ own,own=ws.getD k []:=⟨_,rfl⟩;rw[<-hown]at hgb;have hown12:own.length<=12:=by
      rw[hown,hgd];exact(bL hm (getElem_mem hkl)).1
     simp(disch:=omega)[aj l2,hgb];refine drwS ?_;by_cases hke:k=(cH w ws i).2
     ·rw[<-hke,<-hown]at w2 w3 w4 w6 hout;rw[<-hke]at w1;have hob:1<=own.length:=by
       cases hq:own with
       | nil=>exact absurd hq w2
       | cons a l=>simp
      have hIe:=hI0 (i+own.length) w6;rw[eH w4]at hIe;have hab:=G8 (w:=w) (own:=own) (i:=i) w6;rw[w3]at hab;clear hown;have he:own.isEmpty=false:=by cases own with
       | nil=>exact absurd rfl w2
       | cons a l=>rfl
      have ea:((i:Int)+own.length).toNat=i+own.length:=by omega
      have hle':(i:Int)+own.length<=w.length:=by omega
      have hs0:(0:Int)<=(s:Nat):=by omega
      have hbq:((y:Int)==(1:Int)+(s:Nat))=true:=by rw[beq_iff_eq];omega
      have hrl:=zA (i:=k) (by omega);simp(disch:=omega)[he,ea,hle',hab,hIe,hIi,hs0,hbq];simp(disch:=omega)[tR,hrl];refine rndS (i+own.length,out++[ltr k]) ⟨rfl,by simp only;omega,⟨s,w4⟩,f,by simp only;omega,?_⟩;simp only;rw[append_assoc];exact hout
     ·have hkb':k<(cH w ws i).2:=by omega
      have hno:=w7 k hkb';rw[<-hown]at hno;clear hown;by_cases h1:own=[]
      ·subst h1;simp(disch:=omega);exact rndS (k+1) ⟨rfl,by omega⟩
      ·have he:own.isEmpty=false:=by cases own with
        | nil=>exact absurd rfl h1
        | cons a l=>rfl
       by_cases hlong:i+own.length<=w.length
       ·have hle':(i:Int)+own.length<=w.length:=by omega
        have ea:((i:Int)+own.length).toNat=i+own.length:=by omega
        have hab:=G8 (w:=w) (own:=own) (i:=i) hlong;cases hpre:own.isPrefixOf (w.drop i)
        ·rw[hpre]at hab;simp(disch:=omega)[he,ea,hle',hab];exact rndS (k+1) ⟨rfl,by omega⟩
        ·rw[hpre]at hab;have hIe:=hI0 (i+own.length) hlong;cases hce:(cH w ws (i+own.length)).1 with
         | none=>
          have hneg:¬ 0<=encS (cH w ws (i+own.length)):=by rw[iq hce];decide
          generalize encS (cH w ws (i+own.length))=ec at *;simp(disch:=omega)[he,ea,hle',hab,hIe,hneg];exact rndS (k+1) ⟨rfl,by omega⟩
         | some s'=>
          have hns:=hno h1 hpre s' hce;have hsl:s'<=w.length:=oE w ws w.length _ (mem_of_getElem? (hent _ hlong)) s' hce;rw[eH hce]at hIe;have hs0:(0:Int)<=(s':Nat):=by omega
          have hbq:((y:Int)==(1:Int)+(s':Nat))=false:=beq_eq_false_iff_ne.2 (by omega);simp(disch:=omega)[he,ea,hle',hab,hIe,hIi,hs0,hbq];exact rndS (k+1) ⟨rfl,by omega⟩
       ·have hle':¬(i:Int)+own.length<=w.length:=by omega
        simp(disch:=omega)[he,hle'];exact rndS (k+1) ⟨rfl,by omega⟩
    ·have hi':i=w.length:=by omega
     rw[Fb hlt,append_nil]at hout;rw[<-hout]at h;simp(disch:=omega);exact ae (hs2.trans sN) h
 ·rw[if_neg h0,if_neg h0]at h;have hb:(gU ws w==0)=false:=beq_eq_false_iff_ne.2 h0;generalize gU ws w=code at *;simp(disch:=omega)[hb];exact ae hs2 h
end Go.Proofs.YtapimhjbilkfpaaGreatDoor
