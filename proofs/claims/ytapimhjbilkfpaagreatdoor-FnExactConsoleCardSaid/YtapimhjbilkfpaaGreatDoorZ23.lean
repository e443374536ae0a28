/- Lemmas for FnExactConsole, part 24 of 46. -/
import Derived.Test.YtapimhjbilkfpaaGreatDoorZ22
import Derived.Test.YtapimhjbilkfpaaGreatDoorZ15
import Derived.Test.YtapimhjbilkfpaaGreatDoorZ11
import Derived.Test.YtapimhjbilkfpaaGreatDoorZ04
set_option linter.unusedVariables false
set_option linter.unusedSimpArgs false
namespace Go.Proofs.YtapimhjbilkfpaaGreatDoor
open Go Go.Proofs.Tryz Go.RowKit List
theorem OV(x y:Nat):iu (x:Int) (y:Int)=rQ x y:=by
 unfold iu rQ;by_cases h1:x<y
 ·rw[if_pos h1,if_pos (by omega)]
 ·rw[if_neg h1,if_neg (by omega)];by_cases h2:y<x
  ·rw[if_pos h2,if_pos (by omega)]
  ·rw[if_neg h2,if_neg (by omega)]
theorem Rs{l:List Nat}{i:Nat}(h:i<l.length):(ints (nI l))[i]?=some (.int .i64 ((l[i]:Nat):Int)):=by
 rw[cJ];unfold nI;rw[getElem?_map,getElem?_eq_getElem h];rfl
theorem nO{M N:Mem}{v:Value}{xs:List Value}(h:dp M v=some xs)(hs:Sub M N):dp N v=some xs:=by
 unfold dp at h ⊢;split at h
 ·exact h
 ·rename_i b o n c;have hk:∀ {M N:Mem},M.sub? b o n=some xs->Sub M N->N.sub? b o n=some xs:=by
   intro M N h hs;unfold Mem.sub? at h ⊢;cases hM:M b with
   | none=>rw[hM]at h;cases h
   | some B=>rw[hM]at h;rw[hs _ _ hM];exact h
  exact hk h hs
 ·exact h
 ·cases h
theorem rG(a:Int)(M:Mem)(R:VP)(h:R (.bool false) M):ar prog 421 [.int .i64 a] M R:=by
 refine fnS func421 rfl ntmps421 results421 ?_;simp(disch:=omega);exact ad h
theorem qI(a b:Int)(M:Mem)(R:VP)(h:R (.int .i64 (iu a b)) M):ar prog 394 [.int .i64 a,.int .i64 b] M R:=by
 unfold iu at h;refine fnS func394 rfl ntmps394 results394 ?_;simp(disch:=omega);refine rG a _ _ ?_;simp(disch:=omega);refine rG b _ _ ?_;by_cases h1:a<b
 ·rw[if_pos h1]at h;simp(disch:=omega)[h1];exact ad h
 ·rw[if_neg h1]at h;by_cases h2:b<a
  ·rw[if_pos h2]at h;simp(disch:=omega)[h1,h2];exact ad h
  ·rw[if_neg h2]at h;simp(disch:=omega)[h1,h2];exact ad h
theorem wk(v v':Value)(a b:List Nat)(M:Mem)(R:VP)(hv:Rd M v (ints (nI a)))(hv':Rd M v' (ints (nI b)))(hl:a.length<=1000)(hl':b.length<=1000)(h:R (.int .i64 (dJ a b)) M):ar prog 343 [v,v'] M R:=by
 obtain⟨a1,c1,rfl,ha⟩:=hv.opened;obtain⟨a2,c2,rfl,hb⟩:=hv'.opened;simp only[ay,dx]at ha hb ⊢;refine fnS func343 rfl ntmps343 results343 ?_;simp(disch:=omega);refine lupS [4,5,6,7,8,11,12,13,14,15,16,17,18,19,20,21,22,23,24,25,26,27,28,29,30] (fun i:Nat=>[(11,.int .i64 i)]) (fun i M'=>M=M'/\i<=a.length/\i<=b.length/\dJ (a.drop i) (b.drop i)=dJ a b) (fun i=>a.length-i) 0 ⟨rfl,by omega,by omega,rfl⟩ ?_
 rintro i M' g ⟨rfl,hi,hib,heq⟩
 by_cases hlt:i<a.length
 ·rcases ha with hz|⟨b1,o1,rfl,ha⟩
  ·omega
  have g1:=ha i hlt;rw[Rs hlt]at g1;have d1:a.drop i=a[i]::a.drop (i+1):=drop_eq_getElem_cons hlt;by_cases hltb:i<b.length
  ·rcases hb with hz|⟨b2,o2,rfl,hb⟩
   ·omega
   have g2:=hb i hltb;rw[Rs hltb]at g2;have d2:b.drop i=b[i]::b.drop (i+1):=drop_eq_getElem_cons hltb;rw[d1,d2]at heq;have e:dJ (a[i]::a.drop (i+1)) (b[i]::b.drop (i+1))=if a[i]<b[i] then -1 else if b[i]<a[i] then 1 else dJ (a.drop (i+1)) (b.drop (i+1)):=rfl
   rw[e]at heq;have hlt2:¬(b.length:Int)<=i:=by omega
   have hlt3:¬ b.length<=i:=by omega
   generalize a[i]=x at *;generalize b[i]=y at *;simp(disch:=omega)[g1,g2,hlt2];refine qI _ _ _ _ ?_;rw[OV];unfold rQ;by_cases h1:x<y
   ·rw[if_pos h1]at heq ⊢;rw[<-heq]at h;simp(disch:=omega);exact ad h
   ·rw[if_neg h1]at heq ⊢;by_cases h2:y<x
    ·rw[if_pos h2]at heq ⊢;rw[<-heq]at h;simp(disch:=omega);exact ad h
    ·rw[if_neg h2]at heq ⊢;simp(disch:=omega);exact rndS (i+1) ⟨rfl,by omega,by omega,heq⟩
  ·have e:b.drop i=[]:=drop_of_length_le (by omega);rw[d1,e]at heq;have e2:dJ (a[i]::a.drop (i+1)) []=1:=rfl;rw[e2]at heq;rw[<-heq]at h;have hlt2:(b.length:Int)<=i:=by omega
   have hlt3:b.length<=i:=by omega
   generalize a[i]=x at *;simp(disch:=omega)[g1,hlt2];exact ad h
 ·have hi':i=a.length:=by omega
  subst hi';rw[drop_length]at heq;by_cases hltb:a.length<b.length
  ·have d2:b.drop a.length=b[a.length]::b.drop (a.length+1):=drop_eq_getElem_cons hltb;rw[d2]at heq;rw[<-heq]at h;have h2:R (.int .i64 (-1)) M:=h;have hltI:(a.length:Int)<b.length:=by omega
   simp(disch:=omega)[hltI];exact ad h2
  ·have e:b.drop a.length=[]:=drop_of_length_le (by omega);rw[e]at heq;rw[<-heq]at h;have h2:R (.int .i64 0) M:=h;have hltI:¬(a.length:Int)<b.length:=by omega
   simp(disch:=omega)[hltI];exact ad h2
theorem rF(v:Value)(zs:List Int)(M:Mem)(R:VP)(hv:Rd M v (ints zs))(hnil:zs=[]->v=.slice none 0 0)(hl:zs.length<=1000)(h:∀ v' M',Own M v' (ints zs) M'->R v' M'):ar prog 393 [v] M R:=by
 refine fnS func393 rfl ntmps393 results393 ?_;cases hz:zs with
 | nil=>
  subst hz;rw[hnil rfl];simp(disch:=omega);exact ad (h _ _ (Own.nil _))
 | cons z l=>
  have hne:1<=(ints zs).length:=by rw[ay,hz];simp
  have hsrc:=qN hv hne;obtain⟨a,c,rfl,ha⟩:=hv.opened;rw[ay]at ha hsrc ⊢;rcases ha with h0|⟨b,o,rfl,ha⟩
  ·rw[ay]at hne;omega
  simp(disch:=omega);intro b6 hb6;have o0:=Own.new (M:=M) (xs:=ints []) (n:=0) (c:=0) hb6 rfl (Nat.le_refl 0);have hs1:=nO hsrc ((Sub.refl M).put hb6 (.cells true [] 0));dsimp only;have e0:ints []=[]:=rfl;rw[e0]at o0;generalize M.put b6 (.cells true [] 0)=N at *;generalize Value.slice (some ⟨b6,0,none⟩) 0 0=e at *;simp(disch:=omega);refine aN o0 (Sub.refl _) hs1 rfl rfl (by omega) (BY zs) (by rw[ay];simp only[length_nil];omega) ?_;intro v' M'' N'' o' hs';simp(disch:=omega);exact ae hs' (h _ _ o')
theorem uR(v:Value)(zs:List Int)(M:Mem)(R:VP)(hsrc:dp M v=some (ints zs))(hl:zs.length<=1000)(h:∀ v' M',Own M v' (ints zs) M'->R v' M'):ar prog 404 [v] M R:=by
 refine fnS func404 rfl ntmps404 results404 ?_;simp(disch:=omega);intro b6 hb6;have o0:=Own.new (M:=M) (xs:=ints []) (n:=0) (c:=0) hb6 rfl (Nat.le_refl 0);have hs1:=nO hsrc ((Sub.refl M).put hb6 (.cells true [] 0));dsimp only;have e0:ints []=[]:=rfl;rw[e0]at o0;generalize M.put b6 (.cells true [] 0)=N at *;generalize Value.slice (some ⟨b6,0,none⟩) 0 0=e at *;simp(disch:=omega);refine aN o0 (Sub.refl _) hs1 rfl rfl (by omega) (BY zs) (by rw[ay];simp only[length_nil];omega) ?_;intro v' M'' N'' o' hs';simp(disch:=omega);exact ae hs' (h _ _ o')
def JL(bf bb:Nat)(s:Option (List Nat))(M:Mem):Prop:=M bf=some (.cells true [.bool s.isSome] 1)/\∃ vb D,M bb=some (.cells true [vb] 1)/\Rd D vb (ints (nI (s.getD [])))/\Sub D M/\D bf=none/\D bb=none/\(s.getD []).length<=20
theorem JL.sub{bf bb:Nat}{s:Option (List Nat)}{M N:Mem}(h:JL bf bb s M)(hs:Sub M N):JL bf bb s N:=by
 obtain⟨h1,vb,D,h2,h3,h4,h5,h6,h7⟩:=h;exact⟨hs _ _ h1,vb,D,hs _ _ h2,h3,h4.trans hs,h5,h6,h7⟩
def OL(bf bb:Nat):Nat->Prop:=fun b=>b=bf\/b=bb
theorem xV(bf bb:Nat)(hne:bf≠bb)(s:Option (List Nat))(v:Value)(x:List Nat)(D M:Mem)(R:VP)(hJ:JL bf bb s M)(hv:Rd D v (ints (nI x)))(hD:Sub D M)(hDf:D bf=none)(hDb:D bb=none)(hx:x.length<=20)
  (h:∀ M',JL bf bb (jv s x) M'->dP (OL bf bb) M M'->R (.tuple #[]) M') :
  fj prog (.func (.func 342) #[] #[.pointer (some ⟨bf,0,none⟩),.pointer (some ⟨bb,0,none⟩)]) [v] R M:=by
 obtain⟨j1,vb,Db,j2,j3,j4,j5,j6,j7⟩:=hJ;obtain⟨a,c,hve,_⟩:=hv.opened;rw[ay,dx]at hve;subst hve;obtain⟨ab,cb,hve,_⟩:=j3.opened;rw[ay,dx]at hve;subst hve;have keep:∀ N',Sub M N'->dP (OL bf bb) M ((N'.put bb (.cells true [.slice a x.length c] 1)).put bf (.cells true [.bool true] 1)):=by
  intro N' hN b B hb hB;rw[ai _ _ (fun e=>hb (.inl e)),ai _ _ (fun e=>hb (.inr e))];exact hN _ _ hB
 have newJ:∀ N':Mem,Sub M N'->JL bf bb (some x) ((N'.put bb (.cells true [.slice a x.length c] 1)).put bf (.cells true [.bool true] 1)):=by
  intro N' hN;refine⟨ag _ _ _,.slice a x.length c,D,?_,hv,?_,hDf,hDb,hx⟩
  ·rw[ai _ _ (Ne.symm hne)];exact ag _ _ _
  ·intro j B hj;have e1:j≠bf:=by rintro rfl;rw[hDf]at hj;cases hj
   have e2:j≠bb:=by rintro rfl;rw[hDb]at hj;cases hj
   rw[ai _ _ e1,ai _ _ e2];exact hN _ _ (hD _ _ hj)
 simp(disch:=omega);refine fnS func342 rfl ntmps342 results342 ?_;cases s with
 | none=>
  have hst:jv none x=some x:=rfl;rw[hst]at h;simp only[Option.isSome]at j1;refine plyS (ak [0,1,2,3,4,5,6,7,8,9,10] (.one 11 1 (ak [12,13,14] .fin))) ?_;simp(disch:=omega)[aj j1];simp(disch:=omega)[j1,j2,al];have j1':(M.put bb (.cells true [.slice a x.length c] 1)) bf=some (.cells true [.bool false] 1):=by rw[ai _ _ hne];exact j1
  try simp(disch:=omega)[j1',al]
  exact ad (h _ (newJ M (Sub.refl M)) (keep M (Sub.refl M)))
 | some b=>
  simp only[Option.isSome,Option.getD]at j1 j2 j3 j7;have hle:jJ x b=decide ((if rQ x.length b.length=0 then dJ x b else rQ x.length b.length)<0):=rfl;have hst:jv (some b) x=if jJ x b=true then some x else some b:=rfl
  rw[hst]at h;have rx:=hv.sub hD;have rb:=j3.sub j4;refine plyS (ak [0,1,2,3,4,5,6,7,8,9,10] (.one 11 1 (ak [12,13,14] .fin))) ?_;simp(disch:=omega)[aj j1,aj j2];refine aU (a:=[]) (c:=[]) (eZ _ _ _ _ ⟨rfl,rfl⟩) ?_;rw[OV];simp(disch:=omega)[aj j2];refine aU (a:=[]) (c:=[]) (wk _ _ x b _ _ rx rb (by omega) (by omega) ⟨rfl,rfl⟩) ?_;simp(disch:=omega);intro b7 hb7;have q3:Sub M (M.put b7 (.cells true [.int .i64 (rQ x.length b.length),.int .i64 (dJ x b)] 2)):=(Sub.refl _).put hb7 _;refine⟨q3,?_⟩;have r7:Rd (M.put b7 (.cells true [.int .i64 (rQ x.length b.length),.int .i64 (dJ x b)] 2)) (.slice (some ⟨b7,0,none⟩) 2 2) (ints [rQ x.length b.length,dJ x b]):=Rd.new rfl (Nat.le_refl 2);generalize M.put b7 (.cells true [.int .i64 (rQ x.length b.length),.int .i64 (dJ x b)] 2)=N3 at *;simp(disch:=omega);refine aU (a:=[]) (c:=[]) (uT _ _ _ _ _ r7 ⟨rfl,rfl⟩) ?_;have l1:=q3 _ _ j1;have l2:=q3 _ _ j2;generalize (if rQ x.length b.length=0 then dJ x b else rQ x.length b.length)=q at *;cases hd:jJ x b
  ·rw[hd]at h hle;have hlt:=of_decide_eq_false hle.symm;simp only[Bool.false_eq_true,if_false]at h;simp(disch:=omega)[hlt];exact ad (h N3 (JL.sub ⟨j1,_,Db,j2,j3,j4,j5,j6,j7⟩ q3) q3.keepO)
  ·rw[hd]at h hle;have hlt:=of_decide_eq_true hle.symm;simp only[if_true]at h;simp(disch:=omega)[hlt];simp(disch:=omega)[l1,l2,al];have l1':(N3.put bb (.cells true [.slice a x.length c] 1)) bf=some (.cells true [.bool true] 1):=by rw[ai _ _ hne];exact l1
   try simp(disch:=omega)[l1',al]
   exact ad (h _ (newJ N3 q3) (keep N3 q3))
theorem L8(w last own:List UInt8)(least:Nat):fX w 0 least last own=p9 w own++[]:=by rw[append_nil];rfl
theorem KT(w last own:List UInt8)(n least:Nat):fX w (n+1) least last own=p9 w own++lpE w last own (fun x=>fX w n 1 own x) 61 least:=rfl
set_option maxHeartbeats 2000000 in
theorem pI(w:List UInt8)(hw:w.length<=60)(bf bb:Nat)(hne:bf≠bb)(n:Nat):∀(pre:List Nat) (last own:List UInt8) (s:Option (List Nat)) (v:Value) (D M:Mem) (R:VP),pre.length+n=20->1<=own.length->1<=last.length->own.length<=60->last.length<=60->JL bf bb s M->Rd D v (ints (nI pre))->Sub D M->D bf=none->D bb=none->(pre=[]->v=.slice none 0 0) ->
  (∀ M',JL bf bb (((fX w n (min pre.length 1) last own).map (pre ++ ·)).foldl jv s) M'->dP (OL bf bb) M M'->R (.tuple #[]) M') ->
  ar prog 341 [str w,str last,str own,v,.func (.func 342) #[] #[.pointer (some ⟨bf,0,none⟩),.pointer (some ⟨bb,0,none⟩)]] M R:=by
 induction n with
 | zero=>
  intro pre last own s v D M R hpn ho1 hl1 ho60 hl60 hJ hv hD hDf hDb hnil h;rw[L8,map_append,foldl_append]at h;obtain⟨a,c,hve,_⟩:=hv.opened;rw[ay,dx]at hve;subst hve;have hmI:(if (pre.length:Int)<1 then (pre.length:Int) else 1)=((min pre.length 1:Nat):Int):=by split<;>omega
  have hmI2:(if (1:Int)<pre.length then (1:Int) else pre.length)=((min pre.length 1:Nat):Int):=by split<;>omega
  refine fnS func341 rfl ntmps341 results341 ?_;by_cases hown:own=w
  ·have hone:(p9 w own).map (pre ++ ·)=[pre]:=by unfold p9;rw[if_pos hown];simp
   rw[hone]at h;have hownb:(own==w)=true:=by rw[hown];exact beq_self_eq_true _
   simp(disch:=omega)[hownb];refine xV bf bb hne s _ pre D _ _ hJ hv hD hDf hDb (by omega) ?_;intro M1 J1 K1;have hfin:=h M1 J1 K1;simp(disch:=omega)[hmI2];clear hown hownb;refine lupS [11,12,23,24,25,26,27,28,29,30,31,32,33,34,35,36,37,38,39,40,41,42,43,44,45,46,47,48,49,50,51,52] (fun x:Nat=>[(11,.int .i64 ((min pre.length 1:Nat):Int))]) (fun x N=>M1=N) (fun x=>x) 0 rfl ?_
   rintro x N g rfl
   have hmm:min pre.length 1<=1:=Nat.min_le_right _ _;generalize min pre.length 1=m at *;simp(disch:=omega);refine gO own m _ _ ho60 (by omega) ?_;have hxl:(dD own m).length<=60:=by
    rw[fu];have:=Nat.mul_le_mul hmm ho60;omega
   generalize dD own m=X at *;by_cases hbig:w.length<X.length+last.length
   ·have hbigI:(w.length:Int)<(X.length:Int)+last.length:=by omega
    simp(disch:=omega)[hbigI];exact ad hfin
   ·have hbigI:¬(w.length:Int)<(X.length:Int)+last.length:=by omega
    have hp20:pre.length=20:=by omega
    simp(disch:=omega)[hbigI,hp20];exact ad hfin
  ·have hone:(p9 w own).map (pre ++ ·)=[]:=by unfold p9;rw[if_neg hown];rfl
   rw[hone]at h;have hfin:=h M hJ (dP.refl _ _);have hown':(own==w)=false:=beq_eq_false_iff_ne.2 hown;simp(disch:=omega)[hown',hmI2];generalize M=M1 at *;refine lupS [11,12,23,24,25,26,27,28,29,30,31,32,33,34,35,36,37,38,39,40,41,42,43,44,45,46,47,48,49,50,51,52] (fun x:Nat=>[(11,.int .i64 ((min pre.length 1:Nat):Int))]) (fun x N=>M1=N) (fun x=>x) 0 rfl ?_
   rintro x N g rfl
   have hmm:min pre.length 1<=1:=Nat.min_le_right _ _;generalize min pre.length 1=m at *;simp(disch:=omega);refine gO own m _ _ ho60 (by omega) ?_;have hxl:(dD own m).length<=60:=by
    rw[fu];have:=Nat.mul_le_mul hmm ho60;omega
   generalize dD own m=X at *;by_cases hbig:w.length<X.length+last.length
   ·have hbigI:(w.length:Int)<(X.length:Int)+last.length:=by omega
    simp(disch:=omega)[hbigI];exact ad hfin
   ·have hbigI:¬(w.length:Int)<(X.length:Int)+last.length:=by omega
    have hp20:pre.length=20:=by omega
    simp(disch:=omega)[hbigI,hp20];exact ad hfin
 | succ n ih=>
  intro pre last own s v D M R hpn ho1 hl1 ho60 hl60 hJ hv hD hDf hDb hnil h;rw[KT,map_append,foldl_append]at h;obtain⟨a,c,hve,_⟩:=hv.opened;rw[ay,dx]at hve;subst hve;have hmI:(if (pre.length:Int)<1 then (pre.length:Int) else 1)=((min pre.length 1:Nat):Int):=by split<;>omega
  have hmI2:(if (1:Int)<pre.length then (1:Int) else pre.length)=((min pre.length 1:Nat):Int):=by split<;>omega
  refine fnS func341 rfl ntmps341 results341 ?_;by_cases hown:own=w
  ·have hone:(p9 w own).map (pre ++ ·)=[pre]:=by unfold p9;rw[if_pos hown];simp
   rw[hone]at h;have hownb:(own==w)=true:=by rw[hown];exact beq_self_eq_true _
   simp(disch:=omega)[hownb];refine xV bf bb hne s _ pre D _ _ hJ hv hD hDf hDb (by omega) ?_;intro M1 J1 K1;have hD1:Sub D M1:=fun j B hj=>K1 j B (by rintro(rfl|rfl);exact absurd hj (by rw[hDf];intro q;cases q);exact absurd hj (by rw[hDb];intro q;cases q)) (hD _ _ hj);obtain⟨s1,hs1⟩:∃ s1,s1=[pre].foldl jv s:=⟨_,rfl⟩;have J1:JL bf bb s1 M1:=by rw[hs1];exact J1
   rw[<-hs1]at h;obtain⟨total,hT⟩:∃ total,((lpE w last own (fun y=>fX w n 1 own y) 61 (min pre.length 1)).map (pre ++ ·)).foldl jv s1=total:=⟨_,rfl⟩;rw[hT]at h;have hfin:∀ M',JL bf bb total M'->dP (OL bf bb) M1 M'->R (.tuple #[]) M':=fun M' j k=>h M' j (K1.trans k);simp(disch:=omega)[hmI2];clear hown hownb;refine lupS [11,12,23,24,25,26,27,28,29,30,31,32,33,34,35,36,37,38,39,40,41,42,43,44,45,46,47,48,49,50,51,52] (fun x:Nat×Nat×Option (List Nat)=>[(11,.int .i64 (x.1:Nat))]) (fun x N=>dP (OL bf bb) M1 N/\JL bf bb x.2.2 N/\((lpE w last own (fun y=>fX w n 1 own y) x.2.1 x.1).map (pre ++ ·)).foldl jv x.2.2=total/\x.1+x.2.1=61+min pre.length 1) (fun x=>x.2.1) (min pre.length 1,61,s1) ⟨dP.refl _ _,J1,hT,by simp only;omega⟩ ?_
   rintro⟨d,f,cur⟩ N g ⟨kN,jN,hF,hdf⟩
   simp only at jN hF hdf;have hmm:min pre.length 1<=1:=Nat.min_le_right _ _;have hdN:Sub D N:=fun j B hj=>kN j B (by rintro(rfl|rfl);exact absurd hj (by rw[hDf];intro q;cases q);exact absurd hj (by rw[hDb];intro q;cases q)) (hD1 _ _ hj);have hlen:=fI own last d;have hnx:nxt own last d=dD own d++last:=rfl;have hrl:=fu own d;simp(disch:=omega);refine gO own d _ _ ho60 (by omega) ?_;rw[hnx]at hlen;have hmulb:d*1<=d*own.length:=Nat.mul_le_mul_left d ho1;have hmulc:d*own.length<=62*60:=Nat.mul_le_mul (by omega) ho60;by_cases hbig:w.length<(dD own d).length+last.length
   ·have hbigI:(w.length:Int)<((dD own d).length:Int)+last.length:=by omega
    have hF2:total=cur:=by
     rw[<-hF];cases f with
     | zero=>rfl
     | succ f=>
      unfold lpE;rw[if_neg (by rw[hnx,length_append];omega)];rfl
    rw[hF2]at hfin;generalize dD own d=X at *;simp(disch:=omega)[hbigI];exact ad (hfin N jN kN)
   ·have hbigI:¬(w.length:Int)<((dD own d).length:Int)+last.length:=by omega
    have hp20:¬ pre.length=20:=by omega
    have hp20I:¬(pre.length:Int)=20:=by omega
    have hp20b:((pre.length:Int)==20)=false:=beq_eq_false_iff_ne.2 hp20I;obtain⟨f,rfl⟩:∃ f',f=f'+1:=⟨f-1,by omega⟩;have hstep:lpE w last own (fun y=>fX w n 1 own y) (f+1) d=(fX w n 1 own (nxt own last d)).map (d :: ·)++lpE w last own (fun y=>fX w n 1 own y) f (d+1):=by
     conv=>lhs;unfold lpE
     rw[if_pos (by rw[hnx,length_append];omega)]
    rw[hstep,map_append,foldl_append,hnx]at hF;have hpre:=GD (w:=w) hw (n:=n) (last:=own) (own:=dD own d++last) (by rw[length_append];omega) ho1;generalize dD own d=X at *;simp(disch:=omega)[hbigI,hp20b];refine du w (X++last) _ _ (by omega) (by rw[length_append];omega) ?_;cases hp:(X++last).isPrefixOf w
    ·rw[hpre hp]at hF;simp(disch:=omega);refine rndS (d+1,f,cur) ⟨kN,jN,hF,by simp only;omega⟩
    ·simp(disch:=omega);refine rF _ (nI pre) _ _ (hv.sub hdN) (fun e=>hnil (by unfold nI at e;exact List.map_eq_nil_iff.1 e)) (by rw[dx];omega) ?_;intro v1 N1 o1;simp(disch:=omega);intro b' hb';simp(disch:=omega);refine aN o1 ((Sub.refl _).put hb' _) (by simp(disch:=omega);rfl) rfl rfl (by omega) (by simp(disch:=omega)) (by simp(disch:=omega)[dx];omega) ?_;intro v2 N2 N3 o2 s3;rw[cw,<-wx]at o2;obtain⟨D2,r1,r2,r3⟩:=Bw o2;have tf:N bf≠none:=by rw[jN.1];intro q;cases q
     have tb:N bb≠none:=by
      obtain⟨_,vb,Db,h2,_⟩:=jN;rw[h2];intro q;cases q
     have sN3:=o2.sub.trans s3;simp(disch:=omega);refine ih (pre++[d]) own (X++last) cur v2 D2 N3 _ (by rw[length_append,length_singleton];omega) (by rw[length_append];omega) ho1 (by rw[length_append];omega) ho60 (jN.sub sN3) r1 (r2.trans s3) (r3 _ tf) (r3 _ tb) (fun e=>by simp at e) ?_;intro N4 j4 k4;have hm1:min (pre++[d]).length 1=1:=by rw[length_append,length_singleton];omega
     rw[hm1]at j4;have hmap:((fX w n 1 own (X++last)).map (d :: ·)).map (pre ++ ·)=(fX w n 1 own (X++last)).map ((pre++[d]) ++ ·):=by
      rw[map_map];refine map_congr_left fun y _=>?_;simp
     rw[hmap]at hF;simp(disch:=omega);refine rndS (d+1,f,_) ⟨kN.trans (sN3.keepO.trans k4),j4,hF,by simp only;omega⟩
  ·have hone:(p9 w own).map (pre ++ ·)=[]:=by unfold p9;rw[if_neg hown];rfl
   rw[hone]at h;obtain⟨s1,hs1⟩:∃ s1,s1=s:=⟨_,rfl⟩;have J1:JL bf bb s1 M:=by rw[hs1];exact hJ
   have hD1:=hD;obtain⟨total,hT⟩:∃ total,((lpE w last own (fun y=>fX w n 1 own y) 61 (min pre.length 1)).map (pre ++ ·)).foldl jv s1=total:=⟨_,rfl⟩;rw[hs1]at hT;have hfin:∀ M',JL bf bb total M'->dP (OL bf bb) M M'->R (.tuple #[]) M':=by rw[<-hT];exact h
   rw[<-hs1]at hT;have hown':(own==w)=false:=beq_eq_false_iff_ne.2 hown;simp(disch:=omega)[hown',hmI2];generalize M=M1 at *;refine lupS [11,12,23,24,25,26,27,28,29,30,31,32,33,34,35,36,37,38,39,40,41,42,43,44,45,46,47,48,49,50,51,52] (fun x:Nat×Nat×Option (List Nat)=>[(11,.int .i64 (x.1:Nat))]) (fun x N=>dP (OL bf bb) M1 N/\JL bf bb x.2.2 N/\((lpE w last own (fun y=>fX w n 1 own y) x.2.1 x.1).map (pre ++ ·)).foldl jv x.2.2=total/\x.1+x.2.1=61+min pre.length 1) (fun x=>x.2.1) (min pre.length 1,61,s1) ⟨dP.refl _ _,J1,hT,by simp only;omega⟩ ?_
   rintro⟨d,f,cur⟩ N g ⟨kN,jN,hF,hdf⟩
   simp only at jN hF hdf;have hmm:min pre.length 1<=1:=Nat.min_le_right _ _;have hdN:Sub D N:=fun j B hj=>kN j B (by rintro(rfl|rfl);exact absurd hj (by rw[hDf];intro q;cases q);exact absurd hj (by rw[hDb];intro q;cases q)) (hD1 _ _ hj);have hlen:=fI own last d;have hnx:nxt own last d=dD own d++last:=rfl;have hrl:=fu own d;simp(disch:=omega);refine gO own d _ _ ho60 (by omega) ?_;rw[hnx]at hlen;have hmulb:d*1<=d*own.length:=Nat.mul_le_mul_left d ho1;have hmulc:d*own.length<=62*60:=Nat.mul_le_mul (by omega) ho60;by_cases hbig:w.length<(dD own d).length+last.length
   ·have hbigI:(w.length:Int)<((dD own d).length:Int)+last.length:=by omega
    have hF2:total=cur:=by
     rw[<-hF];cases f with
     | zero=>rfl
     | succ f=>
      unfold lpE;rw[if_neg (by rw[hnx,length_append];omega)];rfl
    rw[hF2]at hfin;generalize dD own d=X at *;simp(disch:=omega)[hbigI];exact ad (hfin N jN kN)
   ·have hbigI:¬(w.length:Int)<((dD own d).length:Int)+last.length:=by omega
    have hp20:¬ pre.length=20:=by omega
    have hp20I:¬(pre.length:Int)=20:=by omega
    have hp20b:((pre.length:Int)==20)=false:=beq_eq_false_iff_ne.2 hp20I;obtain⟨f,rfl⟩:∃ f',f=f'+1:=⟨f-1,by omega⟩;have hstep:lpE w last own (fun y=>fX w n 1 own y) (f+1) d=(fX w n 1 own (nxt own last d)).map (d :: ·)++lpE w last own (fun y=>fX w n 1 own y) f (d+1):=by
     conv=>lhs;unfold lpE
     rw[if_pos (by rw[hnx,length_append];omega)]
    rw[hstep,map_append,foldl_append,hnx]at hF;have hpre:=GD (w:=w) hw (n:=n) (last:=own) (own:=dD own d++last) (by rw[length_append];omega) ho1;generalize dD own d=X at *;simp(disch:=omega)[hbigI,hp20b];refine du w (X++last) _ _ (by omega) (by rw[length_append];omega) ?_;cases hp:(X++last).isPrefixOf w
    ·rw[hpre hp]at hF;simp(disch:=omega);refine rndS (d+1,f,cur) ⟨kN,jN,hF,by simp only;omega⟩
    ·simp(disch:=omega);refine rF _ (nI pre) _ _ (hv.sub hdN) (fun e=>hnil (by unfold nI at e;exact List.map_eq_nil_iff.1 e)) (by rw[dx];omega) ?_;intro v1 N1 o1;simp(disch:=omega);intro b' hb';simp(disch:=omega);refine aN o1 ((Sub.refl _).put hb' _) (by simp(disch:=omega);rfl) rfl rfl (by omega) (by simp(disch:=omega)) (by simp(disch:=omega)[dx];omega) ?_;intro v2 N2 N3 o2 s3;rw[cw,<-wx]at o2;obtain⟨D2,r1,r2,r3⟩:=Bw o2;have tf:N bf≠none:=by rw[jN.1];intro q;cases q
     have tb:N bb≠none:=by
      obtain⟨_,vb,Db,h2,_⟩:=jN;rw[h2];intro q;cases q
     have sN3:=o2.sub.trans s3;simp(disch:=omega);refine ih (pre++[d]) own (X++last) cur v2 D2 N3 _ (by rw[length_append,length_singleton];omega) (by rw[length_append];omega) ho1 (by rw[length_append];omega) ho60 (jN.sub sN3) r1 (r2.trans s3) (r3 _ tf) (r3 _ tb) (fun e=>by simp at e) ?_;intro N4 j4 k4;have hm1:min (pre++[d]).length 1=1:=by rw[length_append,length_singleton];omega
     rw[hm1]at j4;have hmap:((fX w n 1 own (X++last)).map (d :: ·)).map (pre ++ ·)=(fX w n 1 own (X++last)).map ((pre++[d]) ++ ·):=by
      rw[map_map];refine map_congr_left fun y _=>?_;simp
     rw[hmap]at hF;simp(disch:=omega);refine rndS (d+1,f,_) ⟨kN.trans (sN3.keepO.trans k4),j4,hF,by simp only;omega⟩
theorem oV(w:List UInt8)(M:Mem)(R:VP)(hl:w.length<=1099511627776)(h:∀ v M',Sub M M'->Rd M' v (ints (nI (jo w)))->R (.tuple #[v,.int .i64 (qR w)]) M'):ar prog 248 [str w] M R:=by
 unfold jo qR at h;refine fnS func248 rfl ntmps248 results248 ?_;simp(disch:=omega);refine HP w _ _ hl ?_;cases hw:Af w
 ·rw[hw]at h;simp only[Bool.false_eq_true,if_false]at h;simp(disch:=omega);exact ad (h _ M (Sub.refl M) (.inl ⟨none,0,rfl,rfl⟩))
 ·rw[hw]at h;simp only[if_true]at h;have h60:=xB hw;simp(disch:=omega);intro bb hbb;simp(disch:=omega);intro bf hbf;simp(disch:=omega);have hne:bf≠bb:=by rintro rfl;rw[ag]at hbf;cases hbf
  have hbfM:M bf=none:=by rw[ai _ _ hne]at hbf;exact hbf
  have kb:((M.put bb (.cells true [.slice none 0 0] 1)).put bf (.cells true [.bool false] 1)) bb=some (.cells true [.slice none 0 0] 1):=by rw[ai _ _ (Ne.symm hne)];exact ag _ _ _
  have kf:((M.put bb (.cells true [.slice none 0 0] 1)).put bf (.cells true [.bool false] 1)) bf=some (.cells true [.bool false] 1):=ag _ _ _;have s0:Sub M ((M.put bb (.cells true [.slice none 0 0] 1)).put bf (.cells true [.bool false] 1)):=((Sub.refl M).put hbb _).put hbfM _
  try simp only[a7]
  generalize (M.put bb (.cells true [.slice none 0 0] 1)).put bf (.cells true [.bool false] 1)=M0 at *;have J0:JL bf bb none M0:=⟨kf,_,dA,kb,.inl ⟨none,0,rfl,rfl⟩,nY _,rfl,rfl,Nat.zero_le _⟩;refine pI w h60 bf bb hne 20 [] [98] [97] none (.slice none 0 0) dA M0 _ rfl (by decide) (by decide) (by decide) (by decide) J0 (.inl ⟨none,0,rfl,rfl⟩) (nY _) rfl rfl (fun _=>rfl) ?_;intro M1 J1 K1;have hmap:(fX w 20 (min ([]:List Nat).length 1) [98] [97]).map (([]:List Nat) ++ ·)=fX w 20 0 [98] [97]:=by simp
  rw[hmap,Hy h60]at J1;obtain⟨j1,vb,D,j2,j3,j4,j5,j6,j7⟩:=J1;have sM:Sub M M1:=fun j B hj=>K1 j B (by rintro(rfl|rfl);exact absurd hj (by rw[hbfM];intro q;cases q);exact absurd hj (by rw[hbb];intro q;cases q)) (s0 _ _ hj);cases hc:cntF w 21 0 with
  | none=>
   rw[hc]at h j1;simp only[Option.isSome]at j1 h;simp(disch:=omega)[aj j1];exact ad (h _ M1 sM (.inl ⟨none,0,rfl,rfl⟩))
  | some y=>
   rw[hc]at h j1 j3;simp only[Option.isSome,Option.getD]at j1 h j3;have hf:=h vb M1 sM (j3.sub j4);obtain⟨a,c,hve,_⟩:=j3.opened;rw[ay,dx]at hve;subst hve;simp(disch:=omega)[aj j1,aj j2];exact ad hf
theorem Qj{w last own:List UInt8}{G:List UInt8->Option (List Nat)}{d:Nat}(h:w.length<(nxt own last d).length):∀ f,lpG w last own G f d=none
 | 0=>rfl
 | f+1=>by unfold lpG;rw[if_neg (by omega)]
set_option maxHeartbeats 2000000 in
theorem Da(w:List UInt8)(hw:w.length<=60)(r:Nat):∀(pre:List Nat) (last own:List UInt8) (v:Value) (M:Mem) (R:VP),pre.length+r<=20->1<=own.length->1<=last.length->own.length<=60->last.length<=60->Rd M v (ints (nI pre))->dp M v=some (ints (nI pre)) ->
  (∀ v' M',Sub M M'->(∀ ds,dw w r (min pre.length 1) last own=some ds->Rd M' v' (ints (nI (pre++ds))))->R (.tuple #[v',.bool (dw w r (min pre.length 1) last own).isSome]) M') ->
  ar prog 365 [str w,v,str last,str own,.int .i64 ((pre.length+r:Nat):Int)] M R:=by
 induction r with
 | zero=>
  intro pre last own v M R hpn ho1 hl1 ho60 hl60 hv hsrc h;obtain⟨a,c,hve,_⟩:=hv.opened;rw[ay,dx]at hve;subst hve;unfold dw at h;refine fnS func365 rfl ntmps365 results365 ?_;by_cases hown:own=w
  ·have hownb:(own==w)=true:=by rw[hown];exact beq_self_eq_true _
   rw[if_pos hown]at h;have hf:=h _ M (Sub.refl M) (fun ds hds=>by
    injection hds with hds
    subst hds;rw[append_nil];exact hv)
   simp only[Option.isSome]at hf;simp(disch:=omega)[hownb];exact ad hf
  ·have hownb:(own==w)=false:=beq_eq_false_iff_ne.2 hown;rw[if_neg hown]at h;have hf:=h (.slice a pre.length c) M (Sub.refl M) (fun ds hds=>by cases hds);simp only[Option.isSome]at hf;simp(disch:=omega)[hownb];exact ad hf
 | succ r ih=>
  intro pre last own v M R hpn ho1 hl1 ho60 hl60 hv hsrc h;obtain⟨a,c,hve,_⟩:=hv.opened;rw[ay,dx]at hve;subst hve;obtain⟨m,hm⟩:∃ m,m=min pre.length 1:=⟨_,rfl⟩;rw[<-hm]at h;have hm1:m<=1:=by omega
  have hmp:m=0↔pre.length=0:=by omega
  have hne:¬(pre.length:Int)=((pre.length+(r+1):Nat):Int):=by omega
  obtain⟨total,hT⟩:∃ total,dw w (r+1) m last own=total:=⟨_,rfl⟩;rw[hT]at h;have hT2:lpG w last own (fun x=>dw w r 1 own x) 61 m=total:=hT;obtain⟨cI,hcI⟩:∃ cI:Int,cI=((pre.length+(r+1):Nat):Int):=⟨_,rfl⟩;rw[<-hcI]at hne ⊢;have hneb:((pre.length:Int)==cI)=false:=beq_eq_false_iff_ne.2 hne;refine fnS func365 rfl ntmps365 results365 ?_;simp(disch:=omega)[hneb];refine aQ aR [10,11,12,13,14,15,25,26,27,28,29,30,31,32,33,34,35,36,37,38,39,40,41,42,43,44,45,46,47,48,49,50,51,52,53,54,55,56] (fun x:Nat×Nat=>[(12,str (nxt own last x.1)),(13,.int .i64 (x.1:Nat))]) (fun x N=>Sub M N/\lpG w last own (fun x=>dw w r 1 own x) x.2 (max x.1 m)=total/\max x.1 m+x.2=61+m/\x.1<=62) (fun x=>63-x.1) (0,61) (by kernel_rfl) (by simp(disch:=omega)[nxt,dD]) ⟨Sub.refl M,by simp only[Nat.zero_max];exact hT2,by simp only[Nat.zero_max];omega,by simp only;omega⟩ ?_
  rintro⟨d,f⟩ N g ⟨sN,hF,hdf,hd62⟩
  simp only at hF hdf hd62;have hlen:=fI own last d;have hmulb:d*1<=d*own.length:=Nat.mul_le_mul_left d ho1;have hmulc:d*own.length<=62*60:=Nat.mul_le_mul hd62 ho60;have hsucc:=FR own last d;by_cases hbig:w.length<(nxt own last d).length
  ·have hbigI:¬((nxt own last d).length:Int)<=w.length:=by omega
   have hbign:¬(nxt own last d).length<=w.length:=by omega
   have hnone:total=none:=by
    rw[<-hF];refine Qj ?_ f;rw[fI]at hbig ⊢;have:d*own.length<=(max d m)*own.length:=Nat.mul_le_mul_right _ (Nat.le_max_left _ _);omega
   rw[hnone]at h;have hf:=h (.slice none 0 0) N sN (fun ds hds=>by cases hds);simp only[Option.isSome]at hf;generalize nxt own last d=X at *;simp(disch:=omega)[hbigI];exact ad hf
  ·have hbigI:((nxt own last d).length:Int)<=w.length:=by omega
   have hbign:(nxt own last d).length<=w.length:=by omega
   by_cases hdm:m<=d
   ·have hmax:max d m=d:=Nat.max_eq_left hdm;rw[hmax]at hF hdf;obtain⟨f,rfl⟩:∃ f',f=f'+1:=⟨f-1,by omega⟩;rw[lpG,if_pos hbign]at hF;have hcond:(decide ((0:Int)<d)||decide ((pre.length:Int)=0))=true:=by
     rw[Bool.or_eq_true,decide_eq_true_eq,decide_eq_true_eq];by_cases h0:pre.length=0
     ·exact .inr (by omega)
     ·exact .inl (by omega)
    have hmax2:max (d+1) m=d+1:=Nat.max_eq_left (by omega);have key:∀(hd0:True),True:=fun _=>trivial;generalize hX:nxt own last d=X at *;by_cases hd0:0<d
    ·have hd0I:(0:Int)<d:=by omega
     simp(disch:=omega)[hbigI,hd0];refine uR _ (nI pre) _ _ (nO hsrc sN) (by rw[dx];omega) ?_;intro v1 N1 o1;simp(disch:=omega);intro b' hb';simp(disch:=omega);refine aN o1 ((Sub.refl _).put hb' _) (by simp(disch:=omega);rfl) rfl rfl (by omega) (by simp(disch:=omega)) (by simp(disch:=omega)[dx];omega) ?_;intro v2 N2 N3 o2 s3;rw[cw,<-wx]at o2;have rd2:=o2.rd.sub s3;have sr2:=qN rd2 (by rw[ay,dx,length_append,length_singleton];omega);have sN3:=sN.trans (o2.sub.trans s3);have hc2:cI=(((pre++[d]).length+r:Nat):Int):=by rw[hcI,length_append,length_singleton];omega
     have hm2:min (pre++[d]).length 1=1:=by rw[length_append,length_singleton];omega
     simp(disch:=omega);rw[hc2];refine ih (pre++[d]) own X v2 N3 _ (by rw[length_append,length_singleton];omega) (by omega) ho1 (by omega) ho60 rd2 sr2 ?_;rw[hm2];intro v3 N4 s4 hres;cases hG:dw w r 1 own X with
     | some ds=>
      rw[hG]at hF;simp only at hF;have r3:=hres ds hG;rw[append_assoc]at r3;have hf:=h v3 N4 (sN3.trans s4) (fun ds' hds=>by
       rw[<-hF]at hds;injection hds with hds
       rw[<-hds];exact r3)
      rw[<-hF]at hf;simp only[Option.isSome]at hf ⊢;simp(disch:=omega);exact ad hf
     | none=>
      rw[hG]at hF;simp only[Option.isSome]at hF ⊢;rw[<-hc2];simp(disch:=omega);refine rndA (d+1,f) (by simp(disch:=omega)[hsucc]) ⟨sN3.trans s4,by simp only[hmax2];exact hF,by simp only[hmax2];omega,by simp only;omega⟩
    ·have hd0I:¬(0:Int)<d:=by omega
     have hp0:pre.length=0:=by omega
     have hp0I:(pre.length:Int)=0:=by omega
     simp(disch:=omega)[hbigI,hd0,hp0];refine uR _ (nI pre) _ _ (by rw[<-hp0];exact nO hsrc sN) (by rw[dx];omega) ?_;intro v1 N1 o1;simp(disch:=omega);intro b' hb';simp(disch:=omega);refine aN o1 ((Sub.refl _).put hb' _) (by simp(disch:=omega);rfl) rfl rfl (by omega) (by simp(disch:=omega)) (by simp(disch:=omega)[dx];omega) ?_;intro v2 N2 N3 o2 s3;rw[cw,<-wx]at o2;have rd2:=o2.rd.sub s3;have sr2:=qN rd2 (by rw[ay,dx,length_append,length_singleton];omega);have sN3:=sN.trans (o2.sub.trans s3);have hc2:cI=(((pre++[d]).length+r:Nat):Int):=by rw[hcI,length_append,length_singleton];omega
     have hm2:min (pre++[d]).length 1=1:=by rw[length_append,length_singleton];omega
     simp(disch:=omega);rw[hc2];refine ih (pre++[d]) own X v2 N3 _ (by rw[length_append,length_singleton];omega) (by omega) ho1 (by omega) ho60 rd2 sr2 ?_;rw[hm2];intro v3 N4 s4 hres;cases hG:dw w r 1 own X with
     | some ds=>
      rw[hG]at hF;simp only at hF;have r3:=hres ds hG;rw[append_assoc]at r3;have hf:=h v3 N4 (sN3.trans s4) (fun ds' hds=>by
       rw[<-hF]at hds;injection hds with hds
       rw[<-hds];exact r3)
      rw[<-hF]at hf;simp only[Option.isSome]at hf ⊢;simp(disch:=omega);exact ad hf
     | none=>
      rw[hG]at hF;simp only[Option.isSome]at hF ⊢;rw[<-hc2];simp(disch:=omega);refine rndA (d+1,f) (by simp(disch:=omega)[hsucc]) ⟨sN3.trans s4,by simp only[];exact hF,by simp only[];omega,by simp only;omega⟩
   ·have hd0:d=0:=by omega
    have hm1':m=1:=by omega
    subst hd0;rw[hm1',Nat.zero_max]at hF hdf;have hp0:¬ pre.length=0:=by omega
    have hp0I:¬(pre.length:Int)=0:=by omega
    have hp0b:((pre.length:Int)==0)=false:=beq_eq_false_iff_ne.2 hp0I;generalize hX:nxt own last 0=X at *;simp(disch:=omega)[hbigI,hp0b];refine rndA (0+1,f) (by simp(disch:=omega)[hsucc]) ⟨sN,by simp only[hm1'];exact hF,by simp only[hm1'];omega,by simp only;omega⟩
theorem oP(w:List UInt8)(M:Mem)(R:VP)(hl:w.length<=1099511627776)(h:∀ v M',Sub M M'->Rd M' v (ints (nI (jo w)))->R (.tuple #[v,.int .i64 (qR w)]) M'):ar prog 287 [str w] M R:=by
 unfold jo qR at h;refine fnS func287 rfl ntmps287 results287 ?_;simp(disch:=omega);refine Im w _ _ hl ?_;cases hw:Af w
 ·rw[hw]at h;simp only[Bool.false_eq_true,if_false]at h;simp(disch:=omega);exact ad (h _ M (Sub.refl M) (.inl ⟨none,0,rfl,rfl⟩))
 ·rw[hw]at h;simp only[if_true]at h;have h60:=xB hw;simp(disch:=omega);refine lupS [2,3,4,5,6,10,11,12,13,14,15,16,17,18,19,20,21,22] (fun x:Nat×Nat=>[(4,.int .i64 (x.1:Nat))]) (fun x N=>Sub M N/\cntF w x.2 x.1=cntF w 21 0/\x.1+x.2=21) (fun x=>x.2) (0,21) ⟨Sub.refl M,rfl,rfl⟩ ?_
  rintro⟨c,f⟩ N g ⟨sN,hF,hcf⟩
  simp only at hF hcf;cases f with
  | zero=>
   have hc:¬(c:Int)<=20:=by omega
   have hc':¬ c<=20:=by omega
   rw[<-hF]at h;have hf:=h (.slice none 0 0) N sN (.inl ⟨none,0,rfl,rfl⟩);simp only[cntF]at hf;simp(disch:=omega)[hc];exact ad hf
  | succ f=>
   have hc:(c:Int)<=20:=by omega
   have hc':c<=20:=by omega
   have hst:cntF w (f+1) c=match dw w c 0 [98] [97] with|some y=>some y|none=>cntF w f (c+1):=rfl
   rw[hst]at hF;simp(disch:=omega)[hc];intro b hb;simp(disch:=omega);have s1:=(Sub.refl N).put hb (.cells true [] 0);have sr:dp (N.put b (.cells true [] 0)) (.slice (some ⟨b,0,none⟩) 0 0)=some (ints (nI [])):=by
    show Mem.sub? _ b 0 0=_;unfold Mem.sub?;rw[ag];rfl
   have hcI:(c:Int)=((([]:List Nat).length+c:Nat):Int):=by simp
   rw[hcI];refine Da w h60 c [] [98] [97] _ _ _ (by simp only[length_nil];omega) (by decide) (by decide) (by decide) (by decide) (.inl ⟨_,_,rfl,rfl⟩) sr ?_;rw[<-hcI];intro v1 N1 s2 hres;have sA:=sN.trans (s1.trans s2);cases hG:dw w c (min ([]:List Nat).length 1) [98] [97] with
   | some y=>
    have hG':dw w c 0 [98] [97]=some y:=hG;rw[hG']at hF;simp only at hF;rw[<-hF]at h;have hf:=h v1 N1 sA (hres y hG);simp only[Option.isSome]at hf ⊢;simp(disch:=omega);exact ad hf
   | none=>
    have hG':dw w c 0 [98] [97]=none:=hG;rw[hG']at hF;simp only[Option.isSome]at hF ⊢;simp(disch:=omega);refine rndS (c+1,f) ⟨sA,hF,by simp only;omega⟩
end Go.Proofs.YtapimhjbilkfpaaGreatDoor
