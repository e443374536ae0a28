/- Lemmas for FnExactConsole, part 16 of 46. -/
import Derived.Test.YtapimhjbilkfpaaGreatDoorZ14
import Derived.Test.YtapimhjbilkfpaaGreatDoorZ09
import Derived.Test.YtapimhjbilkfpaaGreatDoorZ08
import Derived.Test.YtapimhjbilkfpaaGreatDoorZ04
import Derived.Test.YtapimhjbilkfpaaGreatDoorZ03
import Derived.Test.YtapimhjbilkfpaaGreatDoorZ10
set_option linter.unusedVariables false
set_option linter.unusedSimpArgs false
namespace Go.Proofs.YtapimhjbilkfpaaGreatDoor
open Go Go.Proofs.Tryz List
def nB(u:List UInt8):Int:=cnt u 1
def EY(A B:Mem):Prop:=∀ b X,A b=some X->∃ Y,B b=some Y/\(X=Y\/∃ own xs ys tot,X=.cells own xs tot/\Y=.cells own (xs++ys) tot)
theorem EY.rep{A B:Mem}{w:World}(h:EY A B)(hw:Rep B w):Rep A w:=by
 intro b X hX;obtain⟨Y,hY,e⟩:=h b X hX;have hold:=hw b Y hY;rcases e with rfl|⟨own,xs,ys,tot,rfl,rfl⟩
 ·exact hold
 ·obtain⟨c,e,fr,h1,h2,⟨zs,h3⟩,h4⟩:=hold;exact⟨c,e,fr,h1,h2,⟨ys++zs,by rw[h3,append_assoc]⟩,h4⟩
theorem EY.owns{A B:Mem}{b:Nat}(h:EY A B)(ho:owns A b):owns B b:=by
 obtain⟨X,hX,o⟩:=ho;obtain⟨Y,hY,e⟩:=h b X hX;rcases e with rfl|⟨own,xs,ys,tot,rfl,rfl⟩
 ·exact⟨_,hY,o⟩
 ·exact⟨_,hY,o⟩
theorem Sub.less{A B:Mem}(h:Sub A B):EY A B:=fun b X hX=>⟨X,h b X hX,.inl rfl⟩
theorem ar.less{P:Program}{f:FuncId}{args:List Value}{M:Mem}{R R':VP}(h:ar P f args M R')(hr:∀ v M',R' v M'->∃ M'',EY M'' M'/\R v M''):ar P f args M R:=
 ⟨h.1,fun w hw=>(h.2 w hw).mono fun _ _ ⟨v,M',h1,h2,h3,h4⟩=>by
  obtain⟨M'',hl,hR⟩:=hr v M' h4;exact⟨v,M'',h1,hl.rep h2,⟨h3.os,h3.tape,h3.output,h3.size,h3.block,fun b hb=>h3.own b (hl.owns hb)⟩,hR⟩⟩
def CZ(P:Program)(fv:Value)(ss:List (List UInt8))(p:List UInt8->Bool):Prop:=
 ∀ u∈ss,∀ M R,(∀ M',Sub M M'->R (.bool (p u)) M')->fj P fv [str u] R M
theorem AO(v fv:Value)(ss:List (List UInt8))(p:List UInt8->Bool)(M:Mem)(R:VP)(hv:Rd M v (strs ss))(hf:CZ prog fv ss p)(hl:ss.length<=1000000)
  (h1:∀(r:Nat) M',Sub M M'->(hr:r<ss.length)->(∀ x∈ss.take r,p x=false)->p ss[r]=true->R (.int .i64 r) M') (h0:∀ M',Sub M M'->(∀ x∈ss,p x=false)->R (.int .i64 (-1)) M'):ar prog 207 [v,fv] M R:=by
 refine fnS func207 rfl ntmps207 results207 ?_;obtain⟨a,c,rfl,ha⟩:=hv.opened;rw[ah]at ha ⊢;simp(disch:=omega);refine lupS [4,5,8,9,10,11,12,13,14,15,16,17,18] (fun i:Nat=>[(8,.int .i64 i)]) (fun i M'=>Sub M M'/\i<=ss.length/\∀ x∈ss.take i,p x=false) (fun i=>ss.length-i) 0 ⟨Sub.refl M,by omega,by simp⟩ ?_
 rintro i M' g ⟨hs,hi,hp⟩
 by_cases hlt:i<ss.length
 ·rcases ha with hz|⟨b,o,rfl,ha⟩
  ·omega
  have hg:=ha i hlt;rw[bg,getElem?_eq_getElem hlt]at hg;have hg':=aT hg hs;have hmem:=getElem_mem hlt;have htk:=az ss hlt;obtain⟨u,hu⟩:∃ u,ss[i]=u:=⟨_,rfl⟩;rw[hu]at hg' hmem htk;simp(disch:=omega)[hg'];refine hf u hmem _ _ ?_;intro M2 s2;cases hpu:p u
  ·simp(disch:=omega);refine rndS (i+1) ⟨hs.trans s2,by omega,?_⟩;rw[htk];intro x hx;rcases List.mem_append.1 hx with h|h
   ·exact hp x h
   ·rw[List.mem_singleton.1 h];exact hpu
  ·simp(disch:=omega);exact ad (h1 i _ (hs.trans s2) hlt hp (by rw[hu];exact hpu))
 ·have hi':i=ss.length:=by omega
  subst hi';rw[take_length]at hp;simp(disch:=omega);exact ad (h0 _ hs hp)
theorem l8(v fv:Value)(ss:List (List UInt8))(p:List UInt8->Bool)(M0 M:Mem)(R:VP)(ho:Own M0 v (strs ss) M)(hf:CZ prog fv ss p)(hl:ss.length<=1000000)
  (h:∀ v' M',Own M0 v' (strs (ss.filter fun u=>!p u)) M'->R v' M'):ar prog 325 [v,fv] M R:=by
 have hv:=ho.rd;rcases ho with ⟨rfl,he,rfl⟩|⟨b,c,rfl,hb,hc,rfl⟩
 ·have hss:ss=[]:=by
   have:=congrArg length he;rw[ah]at this;exact eq_nil_of_length_eq_zero this
  subst hss;refine fnS func325 rfl ntmps325 results325 ?_;simp(disch:=omega);refine AO _ _ [] p _ _ hv hf (by simp) (fun r M' _ hr=>by simp at hr) ?_;intro M' hs _;simp(disch:=omega);exact ae hs (h _ _ (Own.nil _))
 ·rw[ah]at hc hv ⊢;have hkeep:∀ M',Sub M0 M'->M' b=some (.cells true (strs ss) c)->(∀ x∈ss,p x=false)->∃ M'',EY M'' M'/\R (.slice (some ⟨b,0,none⟩) ss.length c) M'':=by
   intro M' hs hM hp;have e:ss.filter (fun u=>!p u)=ss:=List.filter_eq_self.2 fun x hx=>by rw[hp x hx];rfl
   rw[e]at h;refine⟨M0.put b (.cells true (strs ss) c),?_,h _ _ (.inr ⟨b,c,by rw[ah],hb,by rw[ah];exact hc,rfl⟩)⟩;intro i X hX;unfold Mem.put at hX;split at hX
   ·rename_i e;subst e;injection hX with hX;subst hX;exact⟨_,hM,.inl rfl⟩
   ·exact⟨X,hs _ _ hX,.inl rfl⟩
  refine ar.less (R':=fun v' M'=>(v'=.slice (some ⟨b,0,none⟩) ss.length c/\Sub M0 M'/\M' b=some (.cells true (strs ss) c)/\∀ x∈ss,p x=false) \/
   ∃ L,v'=.slice (some ⟨b,0,none⟩) (ss.filter fun u=>!p u).length c/\Sub M0 M'/\M' b=some (.cells true (strs ((ss.filter fun u=>!p u)++L)) c)) ?_ ?_
  ·have hk:(M0.put b (.cells true (strs ss) c)) b=some (.cells true (strs ss) c):=ag _ _ _;have hs0:Sub M0 (M0.put b (.cells true (strs ss) c)):=(Sub.refl _).put hb _;generalize M0.put b (.cells true (strs ss) c)=N at *;refine fnS func325 rfl ntmps325 results325 ?_;simp(disch:=omega);refine AO _ _ ss p _ _ hv hf hl ?_ ?_
   ·intro r N1 s1 hr hno hyes;have hr1:¬(r:Int) = -1:=by omega
    have hk1:=s1 _ _ hk;simp(disch:=omega);refine lupS [5,6,7,16,17,18,19,20,21,22,23,24,25,26,27,28,29,30,31,32,33,34,35] (fun x:Nat×Nat×List (List UInt8)=>[(5,.int .i64 x.1),(6,.int .i64 x.2.1)]) (fun x M'=>x.1<x.2.1/\x.2.1<=ss.length/\x.2.2.length=ss.length/\x.2.2.take x.1=(ss.take x.2.1).filter (fun u=>!p u)/\x.2.2.drop x.2.1=ss.drop x.2.1/\M' b=some (.cells true (strs x.2.2) c)/\Sub M0 M') (fun x=>ss.length-x.2.1) (r,r+1,ss) ⟨by simp only;omega,by simp only;omega,rfl,?_,rfl,hk1,hs0.trans s1⟩ ?_
    ·simp only;rw[az ss hr,filter_append,List.filter_eq_self.2 (fun x hx=>by rw[hno x hx];rfl)];simp[hyes]
    rintro⟨i,j,L⟩ M' g ⟨hij,hj,hL,htk,hdr,hM,hs⟩
    simp only at hij hj hL htk hdr hM hs;by_cases hlt:j<ss.length
    ·have hx:L[j]?=some ss[j]:=by
      have:=congrArg (fun l=>l[0]?) hdr;simp only[getElem?_drop,Nat.add_zero]at this;rw[this,getElem?_eq_getElem hlt]
     have hg:M'.get? b j=some (str ss[j]):=by rw[aj hM,bg,hx];rfl
     have hmem:=getElem_mem hlt;have htj:=az ss hlt;have hd2:L.drop (j+1)=ss.drop (j+1):=by rw[<-drop_drop,hdr,drop_drop]
     generalize ss[j]=u at *;simp(disch:=omega)[hg];refine hf u hmem _ _ ?_;intro M2 s2;have hM2:=s2 _ _ hM;cases hpu:p u
     ·simp(disch:=omega)[hM2,gG];refine rndS (i+1,j+1,L.set i u) ⟨by simp only;omega,by simp only;omega,by simp only[length_set];omega,?_,?_,?_,(hs.trans s2).set hb _⟩
      ·simp only;rw[htj,filter_append,<-htk];have e:[u].filter (fun u=>!p u)=[u]:=by simp[hpu]
       rw[e];have hi:i<(L.set i u).length:=by rw[length_set];omega
       rw[az _ hi,take_set_of_le (Nat.le_refl i),getElem_set_self]
      ·simp only;rw[drop_set_of_lt (by omega),hd2]
      ·simp only;rw[al];exact ag _ _ _
     ·simp(disch:=omega);refine rndS (i,j+1,L) ⟨by simp only;omega,by simp only;omega,hL,?_,hd2,hM2,hs.trans s2⟩;simp only;rw[htj,filter_append,<-htk];simp[hpu]
    ·have hj':j=ss.length:=by omega
     subst hj';rw[take_length]at htk;have hil:i=(ss.filter fun u=>!p u).length:=by rw[<-htk,length_take];omega
     simp(disch:=omega);obtain⟨d,hd⟩:∃ d,ss.length-i=d+1:=⟨ss.length-i-1,by omega⟩;rw[hd];show JM (M' b) b i (d+1) (str []) _ M';rw[hM];refine⟨⟨by rw[ah];omega,rfl⟩,?_⟩;have e:(strs L).take i++replicate (d+1) (str [])++(strs L).drop (i+(d+1))=strs ((ss.filter fun u=>!p u)++replicate (d+1) []):=by
      rw[drop_of_length_le (by rw[ah];omega),append_nil,<-htk];simp[strs]
     rw[e,hil];simp(disch:=omega);exact ad (.inr ⟨rfl,hs.set hb _,_,by rw[al];exact ag _ _ _⟩)
   ·intro N1 s1 hno;simp(disch:=omega);exact ad (.inl ⟨rfl,hs0.trans s1,s1 _ _ hk,hno⟩)
  ·rintro v' M' (⟨rfl,hs,hM,hp⟩|⟨L,rfl,hs,hM⟩)
   ·exact hkeep M' hs hM hp
   ·have hle:(ss.filter fun u=>!p u).length<=ss.length:=length_filter_le _ _;refine⟨M0.put b (.cells true (strs (ss.filter fun u=>!p u)) c),?_,h _ _ (.inr ⟨b,c,by rw[ah],hb,by rw[ah];omega,rfl⟩)⟩;intro i X hX;unfold Mem.put at hX;split at hX
    ·rename_i e;subst e;injection hX with hX;subst hX;exact⟨_,hM,.inr ⟨true,_,strs L,c,rfl,by rw[EV]⟩⟩
    ·exact⟨X,hs _ _ hX,.inl rfl⟩
def dP(O:Nat->Prop)(M M':Mem):Prop:=∀ b B,¬ O b->M b=some B->M' b=some B
theorem dP.refl(O:Nat->Prop)(M:Mem):dP O M M:=fun _ _ _ h=>h
theorem dP.trans{O:Nat->Prop}{A B C:Mem}(h:dP O A B)(k:dP O B C):dP O A C:=fun b x ho hx=>k b x ho (h b x ho hx)
theorem Sub.keepO{O:Nat->Prop}{A B:Mem}(h:Sub A B):dP O A B:=fun b x _ hx=>h b x hx
set_option maxHeartbeats 1000000 in
theorem mg{S:Type}(w:List UInt8)(hl:w.length<=60)(step:S->bA×Nat->S×Bool)(fv:Value)(hfl:bF fv=true)(O:Nat->Prop)(J:S->Mem->Prop)(hO:∀ s M b,J s M->O b->M b≠none)(hst:∀ s,nd (J s))
  (ht:∀ s V t M R,eu V->J s M->(∀ M',J (step s (V,t)).1 M'->dP O M M'->R (.bool (step s (V,t)).2) M')->fj prog fv [.agg (strs V).toArray,.int .i64 (t:Nat)] R M) :
  ∀(p:List UInt8) (V:bA) (t:Nat) (s:S) (M:Mem) (R:VP),p.all isV=true->p.length<=8->eu V->t<=w.length->J s M->(∀ M',J (bR step s (cD w p V t)).1 M'->dP O M M'->R (.bool (bR step s (cD w p V t)).2) M')->ar prog 319 [str w,str p,.agg (strs V).toArray,.int .i64 t,fv] M R
 | [],V,t,s,M,R,hp,hp8,hV,htl,hG,h=>by
  unfold cD at h;rw[yX]at h;refine fnS func319 rfl ntmps319 results319 ?_;have h3:=cS hV.1;have h3':=hV.1;simp(disch:=omega);intro b7 hb7;simp(disch:=omega)[h3,h3'];refine ht s V t _ _ hV (hst s _ _ _ hG hb7) ?_;intro M' hJ hk;simp(disch:=omega);exact ad (h _ hJ (((Sub.refl M).put hb7 _).keepO.trans hk))
 | c::p,V,t,s,M,R,hp,hp8,hV,htl,hG,h=>by
  rw[all_cons,Bool.and_eq_true]at hp;have hc:=dc hp.1;refine fnS func319 rfl ntmps319 results319 ?_;have h3:=cS hV.1;have h3':=hV.1;have hk:((c.toNat:Int)-65).toNat=aE c:=by unfold aE;omega
  have hk3:aE c<3:=by unfold aE;omega
  have hgv:=oO hV.1 hk3;have hsm:=kB hV (aE c);have hold:=yN (w:=w) (p:=p) (V:=V) (t:=t) (c:=c);have hnew:=yV (w:=w) (p:=p) (V:=V) (t:=t) (c:=c);rw[length_cons]at hp8;obtain⟨own,hown⟩:∃ own,own=V.getD (aE c) []:=⟨_,rfl⟩;rw[<-hown]at hgv hsm hold hnew;obtain⟨k,hkk⟩:∃ k,k=aE c:=⟨_,rfl⟩;rw[<-hkk]at hk hk3 hgv hnew hown;simp(disch:=omega);intro b7 hb7;have hG7:=hst s _ _ (.cells true (strs V) 3) hG hb7;have hs7:dP O M (M.put b7 (.cells true (strs V) 3)):=((Sub.refl M).put hb7 (.cells true (strs V) 3)).keepO;have k7:(M.put b7 (.cells true (strs V) 3)) b7=some (.cells true (strs V) 3):=ag _ _ _;have ho7:¬ O b7:=fun ho=>hO s M b7 hG ho hb7;simp(disch:=omega)[h3',hk,hgv];by_cases h0:own=[]
  ·rw[hnew h0]at h;subst h0;simp(disch:=omega);generalize M.put b7 (.cells true (strs V) 3)=N at *;refine lupS [10,13,14,48,49,50,51,52,53,54,55,56,57,58,59,60,61,62,63,64,65,66,67] (fun x:Nat×S=>[(13,.int .i64 (((t+x.1:Nat):Int)+1))]) (fun x M'=>t+x.1<=w.length/\bR step s (jy w p V k t x.1)=(x.2,false)/\J x.2 M'/\dP O N M') (fun x=>w.length-x.1) (0,s) ⟨by simp only;omega,rfl,hG7,dP.refl _ _⟩ ?_
   rintro⟨n,s'⟩ M' g ⟨hn,hno,hJ,hK⟩
   simp only at hn hno hJ hK;have hsucc:=yB w p V k t n;have k7':=hK _ _ ho7 k7;by_cases hlt:t+n<w.length
   ·simp(disch:=omega)[aq k7',h3,h3'];intro b14 hb14;simp(disch:=omega)[h3'];refine⟨dz V,?_⟩;have hJ14:=hst s' _ _ (.cells true (strs (V.set k ((w.drop t).take (n+1)))) 3) hJ hb14;have hV':eu (V.set k ((w.drop t).take (n+1))):=oy hV (by rw[length_take];omega);have h4:=cS hV'.1;have hseg:drop t (take ((t:Int)+n+1).toNat w)=(w.drop t).take (n+1):=by
     rw[show ((t:Int)+n+1).toNat=t+(n+1) by omega,drop_take,show t+(n+1)-t=n+1 by omega]
    have e2:((t:Int)+n+1)=((t+(n+1):Nat):Int):=by omega
    refine plyS (ak [0,1,2,3,4,5] (.one 6 2 .fin)) ?_;simp(disch:=omega)[gG,hk,hseg,h4];rw[e2];refine mg w hl step fv hfl O J hO hst ht p (V.set k ((w.drop t).take (n+1))) (t+(n+1)) s' _ _ hp.2 (by omega) hV' (by omega) hJ14 ?_;intro M2 hJ2 hK2;have hK3:dP O N M2:=(hK.trans ((Sub.refl M').put hb14 _).keepO).trans hK2;have happ:bR step s (jy w p V k t (n+1))=bR step s' (cD w p (V.set k ((w.drop t).take (n+1))) (t+(n+1))):=by
     rw[hsucc,qM (by rw[hno]),hno]
    generalize hq:bR step s' (cD w p (V.set k ((w.drop t).take (n+1))) (t+(n+1)))=out at *;obtain⟨s2,bo⟩:=out;simp only at hJ2;cases bo with
    | false=>
     simp(disch:=omega);exact rndS (n+1,s2) ⟨by simp only;omega,happ,hJ2,hK3⟩
    | true=>
     have hall:bR step s (jy w p V k t (w.length-t))=(s2,true):=by
      obtain⟨d,hd⟩:∃ d,w.length-t=(n+1)+d:=⟨w.length-t-(n+1),by omega⟩;have hsp:jy w p V k t (n+1+d)=jy w p V k t (n+1)++(range d).flatMap (fun i=>cD w p (V.set k ((w.drop t).take (n+1+i+1))) (t+(n+1+i+1))):=by
       unfold jy;rw[range_add,flatMap_append,flatMap_map]
      rw[hd,hsp,ux (by rw[happ]),happ]
     rw[hall]at h;simp(disch:=omega);exact ad (h _ hJ2 (hs7.trans hK3))
   ·have hn':n=w.length-t:=by omega
    rw[<-hn',hno]at h;simp(disch:=omega);exact ad (h _ hJ (hs7.trans hK))
  ·have he:own.isEmpty=false:=by cases own with
    | nil=>exact absurd rfl h0
    | cons a l=>rfl
   rw[hold h0]at h;simp(disch:=omega)[he];refine plyS (ak [0,1,2,3] (.one 4 1 (ak [5,6,7,8,9,10,11,12,13,14] (.one 15 2 (ak [16,17] .fin))))) ?_;simp(disch:=omega);refine du _ _ _ _ (by rw[length_drop];omega) (by omega) ?_;cases hpre:own.isPrefixOf (w.drop t)
   ·rw[hpre]at h;simp(disch:=omega);exact ad (h _ hG7 hs7)
   ·rw[hpre,if_pos rfl]at h;have hle:=eA hpre;rw[length_drop]at hle;have e1:((t:Int)+own.length)=((t+own.length:Nat):Int):=by push_cast;rfl
    simp(disch:=omega)[aq k7,h3,h3'];rw[e1];refine mg w hl step fv hfl O J hO hst ht p V (t+own.length) s _ _ hp.2 (by omega) hV (by omega) hG7 ?_;intro M2 hJ2 hK2;simp(disch:=omega);exact ad (h _ hJ2 (hs7.trans hK2))
end Go.Proofs.YtapimhjbilkfpaaGreatDoor
namespace Go.Proofs.YtapimhjbilkfpaaGreatDoor
open Go.Proofs.Tryz List
def fC(p:List UInt8)(V:bA):List UInt8:=p.flatMap fun c=>V.getD (aE c) []
theorem E5(V:bA):fC [] V=[]:=rfl
theorem cE(c:UInt8)(p:List UInt8)(V:bA):fC (c::p) V=V.getD (aE c) []++fC p V:=by simp[fC]
def occ(p:List UInt8)(k:Nat):Prop:=∃ c∈p,aE c=k
theorem DI(k:Nat):¬ occ [] k:=by rintro⟨c,hc,_⟩;cases hc
theorem cT(c:UInt8)(p:List UInt8)(k:Nat):occ (c::p) k↔aE c=k\/occ p k:=by
 unfold occ;simp
structure qz(p:List UInt8)(V V':bA):Prop where
 len:V'.length=V.length
 old:∀ k,V.getD k []≠[]->V'.getD k []=V.getD k []
 new:∀ k,V.getD k []=[]->(V'.getD k []≠[]↔occ p k)
theorem yH{V V':bA}(hl:V'.length=V.length)(h:∀ k,V'.getD k []=V.getD k []):V'=V:=by
 refine ext_getElem hl fun i h1 h2=>?_;have:=h i;rw[getD_eq_getElem?_getD,getD_eq_getElem?_getD,getElem?_eq_getElem h1,getElem?_eq_getElem h2]at this;exact this
theorem xO(V:bA){k:Nat}(hk:k<V.length)(x:List UInt8)(j:Nat):(V.set k x).getD j []=if j=k then x else V.getD j []:=by
 rw[getD_eq_getElem?_getD,getD_eq_getElem?_getD,getElem?_set];by_cases h:j=k
 ·subst h;simp[hk]
 ·rw[if_neg (Ne.symm h),if_neg h]
theorem Gr{V V':bA}:qz [] V V'↔V'=V:=by
 constructor
 ·intro h;refine yH h.len fun k=>?_;by_cases hk:V.getD k []=[]
  ·rw[hk];have:=h.new k hk;by_cases hv:V'.getD k []=[]
   ·exact hv
   ·exact absurd (this.1 hv) (DI k)
  ·exact h.old k hk
 ·rintro rfl
  exact⟨rfl,fun _ _=>rfl,fun k hk=>⟨fun h=>absurd hk h,fun h=>absurd h (DI k)⟩⟩
theorem zm{c:UInt8}{p:List UInt8}{V V':bA}{x:List UInt8}(hk:aE c<V.length)(h0:V.getD (aE c) []=[])(hx:x≠[]):qz p (V.set (aE c) x) V'↔qz (c::p) V V'/\V'.getD (aE c) []=x:=by
 have hg:=xO V hk x;constructor
 ·intro h;have hkk:V'.getD (aE c) []=x:=by
   have:=h.old (aE c) (by rw[hg,if_pos rfl];exact hx);rw[this,hg,if_pos rfl]
  refine⟨⟨by rw[h.len,length_set],fun j hj=>?_,fun j hj=>?_⟩,hkk⟩
  ·have hne:j≠aE c:=by rintro rfl;exact hj h0
   have:=h.old j (by rw[hg,if_neg hne];exact hj);rw[this,hg,if_neg hne]
  ·rw[cT];by_cases e:j=aE c
   ·subst e;rw[hkk];exact⟨fun _=>.inl rfl,fun _=>hx⟩
   ·have:=h.new j (by rw[hg,if_neg e];exact hj);rw[this];exact⟨.inr,fun h=>h.resolve_left (Ne.symm e)⟩
 ·rintro⟨h,hkk⟩
  refine⟨by rw[h.len,length_set],fun j hj=>?_,fun j hj=>?_⟩
  ·rw[hg]at hj ⊢;by_cases e:j=aE c
   ·rw[if_pos e,e,hkk]
   ·rw[if_neg e]at hj ⊢;exact h.old j hj
  ·rw[hg]at hj;by_cases e:j=aE c
   ·rw[if_pos e]at hj;exact absurd hj hx
   ·rw[if_neg e]at hj;have:=h.new j hj;rw[cT]at this;rw[this];exact⟨fun h=>h.resolve_left (Ne.symm e),.inr⟩
theorem Et{c:UInt8}{p:List UInt8}{V V':bA}(h0:V.getD (aE c) []≠[]):qz p V V'↔qz (c::p) V V':=by
 constructor
 ·intro h;refine⟨h.len,h.old,fun j hj=>?_⟩;rw[h.new j hj,cT];refine⟨.inr,fun h=>h.resolve_left ?_⟩
  rintro rfl;exact h0 hj
 ·intro h;refine⟨h.len,h.old,fun j hj=>?_⟩;rw[h.new j hj,cT];refine⟨fun h=>h.resolve_left ?_,.inr⟩
  rintro rfl;exact h0 hj
theorem take_prefix{x:List UInt8}{w:List UInt8}(h:x <+: w):w.take x.length=x:=(List.prefix_iff_eq_take.1 h).symm
theorem cM{x y w:List UInt8}:x++y <+: w↔x <+: w/\y <+: w.drop x.length:=by
 constructor
 ·rintro⟨z,rfl⟩
  refine⟨⟨y++z,by rw[append_assoc]⟩,⟨z,?_⟩⟩;rw[append_assoc,drop_left]
 ·rintro⟨⟨z,rfl⟩,⟨u,hu⟩⟩
  rw[drop_left]at hu;exact⟨u,by rw[<-hu,append_assoc]⟩
theorem rX(w:List UInt8):∀(p:List UInt8) (V:bA) (t:Nat),(∀ c∈p,aE c<V.length)->t<=w.length->∀ V' t',(V',t')∈cD w p V t↔qz p V V'/\t'=t+(fC p V').length/\fC p V' <+: w.drop t
 | [],V,t,_,ht,V',t'=>by
  unfold cD;rw[mem_singleton,Gr,Prod.mk.injEq,E5];constructor
  ·rintro⟨rfl,rfl⟩;exact⟨rfl,rfl,nil_prefix⟩
  ·rintro⟨rfl,h,_⟩;exact⟨rfl,h⟩
 | c::p,V,t,hp,ht,V',t'=>by
  have hk:=hp c mem_cons_self;have hp':∀ d∈p,aE d<V.length:=fun d hd=>hp d (mem_cons_of_mem _ hd);have hdl:(w.drop t).length=w.length-t:=length_drop;by_cases h0:V.getD (aE c) []=[]
  ·rw[yV h0];unfold jy;rw[mem_flatMap];constructor
   ·rintro⟨n,hn,hm⟩
    have hn:=List.mem_range.1 hn;rw[rX w p _ _ (by simpa using hp') (by omega)]at hm;obtain⟨h1,h2,h3⟩:=hm;have hxl:((w.drop t).take (n+1)).length=n+1:=by rw[length_take];omega
    have hx:(w.drop t).take (n+1)≠[]:=by intro e;rw[e]at hxl;simp at hxl
    obtain⟨h4,h5⟩:=(zm hk h0 hx).1 h1;refine⟨h4,?_,?_⟩
    ·rw[cE,h5,length_append,hxl,h2];omega
    ·rw[cE,h5,cM,hxl,drop_drop];exact⟨List.take_prefix _ _,h3⟩
   ·rintro⟨h1,h2,h3⟩
    rw[cE,cM,drop_drop]at h3;have hx:V'.getD (aE c) []≠[]:=(h1.new _ h0).2 ((cT _ _ _).2 (.inl rfl));have hxt:=take_prefix h3.1;have hle:=h3.1.length_le;have hpos:1<=(V'.getD (aE c) []).length:=by
     cases e:V'.getD (aE c) [] with
     | nil=>exact absurd e hx
     | cons a l=>simp
    rw[cE,length_append]at h2;obtain⟨x,hxe⟩:∃ x,V'.getD (aE c) []=x:=⟨_,rfl⟩;rw[hxe]at hx hxt hle hpos h2 h3;refine⟨x.length-1,List.mem_range.2 (by omega),?_⟩;rw[show x.length-1+1=x.length by omega,hxt,rX w p _ _ (by simpa using hp') (by omega)];exact⟨(zm hk h0 hx).2 ⟨h1,hxe⟩,by omega,h3.2⟩
  ·rw[yN h0,Et (V':=V') h0 |>.symm,cE];by_cases hq:(V.getD (aE c) []).isPrefixOf (w.drop t)=true
   ·rw[if_pos hq];have hq':=List.isPrefixOf_iff_prefix.1 hq;have hle:=hq'.length_le;rw[rX w p _ _ hp' (by omega)];constructor
    ·rintro⟨h1,h2,h3⟩
     have:=h1.old _ h0;rw[this,cM,drop_drop];exact⟨h1,by rw[length_append];omega,hq',h3⟩
    ·rintro⟨h1,h2,h3⟩
     have:=h1.old _ h0;rw[this,cM,drop_drop]at h3;rw[this,length_append]at h2;exact⟨h1,by omega,h3.2⟩
   ·rw[if_neg hq];constructor
    ·intro h;cases h
    ·rintro⟨h1,h2,h3⟩
     have:=h1.old _ h0;rw[this,cM]at h3;exact absurd (List.isPrefixOf_iff_prefix.2 h3.1) hq
def cj(V:bA):List Nat:=V.map length
theorem gg(V:bA)(k:Nat):(cj V).getD k 0=(V.getD k []).length:=by
 unfold cj;rw[getD_eq_getElem?_getD,getD_eq_getElem?_getD,getElem?_map];cases V[k]?<;>rfl
def lexLt:List Nat->List Nat->Bool
 | _,[]=>false
 | [],_::_=>true
 | a::l,b::m=>decide (a<b)||(a==b&&lexLt l m)
theorem wT:∀ l,lexLt l l=false
 | []=>rfl
 | a::l=>by simp[lexLt,wT l]
theorem lex_trans:∀(a b c:List Nat),lexLt a b=true->lexLt b c=true->lexLt a c=true
 | _,_,[],_,h=>by cases ‹List Nat›<;>simp[lexLt]at h
 | _,[],_::_,h,_=>by cases ‹List Nat›<;>simp[lexLt]at h
 | [],_::_,_::_,_,_=>rfl
 | a::l,b::m,c::n,h,k=>by
  simp only[lexLt,Bool.or_eq_true,Bool.and_eq_true,decide_eq_true_eq,beq_iff_eq]at h k ⊢;rcases h with h|⟨rfl,h⟩
  ·rcases k with k|⟨rfl,k⟩
   ·exact .inl (by omega)
   ·exact .inl h
  ·rcases k with k|⟨rfl,k⟩
   ·exact .inl k
   ·exact .inr ⟨rfl,lex_trans l m n h k⟩
theorem B5:∀(a b:List Nat),a.length=b.length->lexLt a b=false->lexLt b a=false->a=b
 | [],[],_,_,_=>rfl
 | [],_::_,h,_,_=>by simp at h
 | _::_,[],h,_,_=>by simp at h
 | a::l,b::m,hl,h,k=>by
  simp only[lexLt,Bool.or_eq_false_iff,decide_eq_false_iff_not]at h k;have e:a=b:=by omega
  subst e;simp at h k hl;rw[B5 l m hl h k]
theorem NJ:∀(a c:List Nat),lexLt a c=true->∀ b,lexLt a b=true\/lexLt b c=true
 | _,[],h,_=>by cases ‹List Nat›<;>simp[lexLt]at h
 | [],_::_,_,[]=>.inr rfl
 | [],_::_,_,_::_=>.inl rfl
 | _::_,_::_,_,[]=>.inr rfl
 | x::l,z::n,h,y::m=>by
  simp only[lexLt,Bool.or_eq_true,Bool.and_eq_true,decide_eq_true_eq,beq_iff_eq]at h ⊢;by_cases h1:x<y
  ·exact .inl (.inl h1)
  by_cases h2:y<z
  ·exact .inr (.inl h2)
  have e1:x=y:=by omega
  have e2:y=z:=by omega
  have h3:=NJ l n (h.resolve_left (by omega)).2 m;rcases h3 with h3|h3
  ·exact .inl (.inr ⟨e1,h3⟩)
  ·exact .inr (.inr ⟨e2,h3⟩)
theorem Kq(l a b:List Nat):lexLt (l++a) (l++b)=lexLt a b:=by
 induction l with
 | nil=>rfl
 | cons x l ih=>simp[lexLt,ih]
def ltT(x y:bA×Nat):Bool:=decide (x.2<y.2)||(x.2==y.2&&lexLt (cj x.1) (cj y.1))
theorem Lr{x y z:bA×Nat}(h:ltT x y=true)(k:ltT y z=true):ltT x z=true:=by
 unfold ltT at *;simp only[Bool.or_eq_true,Bool.and_eq_true,decide_eq_true_eq,beq_iff_eq]at h k ⊢;rcases h with h|⟨h1,h2⟩
 ·rcases k with k|⟨k1,k2⟩<;>exact .inl (by omega)
 ·rcases k with k|⟨k1,k2⟩
  ·exact .inl (by omega)
  ·exact .inr ⟨by omega,lex_trans _ _ _ h2 k2⟩
theorem R1{x z:bA×Nat}(h:ltT x z=true)(y:bA×Nat):ltT x y=true\/ltT y z=true:=by
 unfold ltT at *;simp only[Bool.or_eq_true,Bool.and_eq_true,decide_eq_true_eq,beq_iff_eq]at h ⊢;by_cases h1:x.2<y.2
 ·exact .inl (.inl h1)
 by_cases h2:y.2<z.2
 ·exact .inr (.inl h2)
 have e1:x.2=y.2:=by omega
 have e2:y.2=z.2:=by omega
 rcases NJ _ _ (h.resolve_left (by omega)).2 (cj y.1) with h3|h3
 ·exact .inl (.inr ⟨e1,h3⟩)
 ·exact .inr (.inr ⟨e2,h3⟩)
theorem PW(x:bA×Nat):ltT x x=false:=by unfold ltT;simp[wT]
def cR(s:Nat×bA)(x:bA×Nat):(Nat×bA)×Bool:=(if s.1=0\/ltT x (s.2,s.1)=true then (x.2,x.1) else s,false)
theorem Nl(s:Nat×bA)(x:bA×Nat):(cR s x).2=false:=rfl
def fo(l:List (bA×Nat)):Nat×bA:=(bR cR (0,V0) l).1
theorem zi:∀(l:List (bA×Nat)) (s:Nat×bA),(∀ x∈l,1<=x.2)->(bR cR s l).2=false /\
  ((
   s.1=0/\l=[]/\(bR cR s l).1=s)\/(1<=(bR cR s l).1.1/\(((bR cR s l).1.2,(bR cR s l).1.1)∈l\/(s.1≠0/\(bR cR s l).1=s)) /\
   (s.1≠0->ltT (s.2,s.1) ((bR cR s l).1.2,(bR cR s l).1.1)=false)/\∀ x∈l,ltT x ((bR cR s l).1.2,(bR cR s l).1.1)=false))
 | [],s,_=>by
  rw[nF];refine⟨rfl,?_⟩;by_cases h:s.1=0
  ·exact .inl ⟨h,rfl,rfl⟩
  ·exact .inr ⟨by simp only;omega,.inr ⟨h,rfl⟩,fun _=>PW _,fun x hx=>by cases hx⟩
 | x::l,s,hl=>by
  have hx:=hl x mem_cons_self;have hl':∀ y∈l,1<=y.2:=fun y hy=>hl y (mem_cons_of_mem _ hy);have e:bR cR s (x::l)=bR cR (cR s x).1 l:=by
   conv=>lhs;unfold bR
   rw[Nl];rfl
  rw[e];obtain⟨h1,h2⟩:=zi l (cR s x).1 hl';refine⟨h1,?_⟩;by_cases hb:s.1=0\/ltT x (s.2,s.1)=true
  ·have es:(cR s x).1=(x.2,x.1):=by unfold cR;rw[if_pos hb]
   rw[es]at h2 ⊢;generalize (bR cR (x.2,x.1) l).1=r at *;rcases h2 with ⟨h3,_,_⟩|⟨h3,h4,h5,h6⟩
   ·simp only at h3;omega
   refine .inr ⟨h3,.inl ?_,?_,?_⟩
   ·rcases h4 with h4|⟨_,h4⟩
    ·exact mem_cons_of_mem _ h4
    ·rw[h4];exact mem_cons_self
   ·intro hs;have hxs:=hb.resolve_left hs;have:=h5 (by simp only;omega);cases hc:ltT (s.2,s.1) (r.2,r.1) with
    | false=>rfl
    | true=>rw[Lr hxs hc]at this;cases this
   ·intro y hy;rcases List.mem_cons.1 hy with rfl|hy
    ·exact h5 (by simp only;omega)
    ·exact h6 y hy
  ·have es:(cR s x).1=s:=by unfold cR;rw[if_neg hb]
   have hs0:s.1≠0:=fun h=>hb (.inl h);have hxs:ltT x (s.2,s.1)=false:=by
    cases hc:ltT x (s.2,s.1) with
    | false=>rfl
    | true=>exact absurd (.inr hc) hb
   rw[es]at h2 ⊢;generalize (bR cR s l).1=r at *;rcases h2 with ⟨h3,_,_⟩|⟨h3,h4,h5,h6⟩
   ·exact absurd h3 hs0
   refine .inr ⟨h3,?_,h5,?_⟩
   ·rcases h4 with h4|h4
    ·exact .inl (mem_cons_of_mem _ h4)
    ·exact .inr h4
   ·intro y hy;rcases List.mem_cons.1 hy with rfl|hy
    ·cases hc:ltT y (r.2,r.1) with
     | false=>rfl
     | true=>
      rcases R1 hc (s.2,s.1) with h|h
      ·rw[hxs]at h;cases h
      ·rw[h5 hs0]at h;cases h
    ·exact h6 y hy
def gvS(w:List UInt8)(ls:List Nat)(s:Option (bA×Nat))(c:UInt8):Option (bA×Nat):=
 match s with
 | none=>none
 | some (V,t)=>if t+ls.getD (aE c) 0<=w.length/\(V.getD (aE c) []=[]\/V.getD (aE c) []=(w.drop t).take (ls.getD (aE c) 0)) then some (V.set (aE c) ((w.drop t).take (ls.getD (aE c) 0)),t+ls.getD (aE c) 0) else none
def gvF(w:List UInt8)(ls:List Nat)(p:List UInt8)(V:bA)(t:Nat):Option (bA×Nat):=p.foldl (gvS w ls) (some (V,t))
theorem Eu(w:List UInt8)(ls:List Nat)(V:bA)(t:Nat)(c:UInt8):gvS w ls (some (V,t)) c=if t+ls.getD (aE c) 0<=w.length/\(V.getD (aE c) []=[]\/V.getD (aE c) []=(w.drop t).take (ls.getD (aE c) 0)) then some (V.set (aE c) ((w.drop t).take (ls.getD (aE c) 0)),t+ls.getD (aE c) 0) else none:=rfl
theorem wL(w:List UInt8)(ls:List Nat):∀ p:List UInt8,p.foldl (gvS w ls) none=none
 | []=>rfl
 | _::p=>wL w ls p
theorem Oc(V:bA){k:Nat}(hk:k<V.length):V.set k (V.getD k [])=V:=by
 refine yH (by rw[length_set]) fun j=>?_;rw[xO V hk];split
 ·rename_i e;rw[e]
 ·rfl
theorem H0(w:List UInt8)(ls:List Nat):∀(p:List UInt8) (V:bA) (t:Nat),(∀ c∈p,aE c<V.length)->t<=w.length->(∀ k,occ p k->1<=ls.getD k 0)->(∀ k,V.getD k []≠[]->(V.getD k []).length=ls.getD k 0)->∀ V' t',
  gvF w ls p V t=some (V',t')↔qz p V V'/\(∀ k,occ p k->(V'.getD k []).length=ls.getD k 0)/\t'=t+(fC p V').length/\fC p V' <+: w.drop t
 | [],V,t,_,ht,_,_,V',t'=>by
  unfold gvF;rw[foldl_nil,Option.some.injEq,Prod.mk.injEq,Gr,E5];constructor
  ·rintro⟨rfl,rfl⟩;exact⟨rfl,fun k hk=>absurd hk (DI k),rfl,nil_prefix⟩
  ·rintro⟨rfl,_,h,_⟩;exact⟨rfl,h.symm⟩
 | c::p,V,t,hp,ht,hls,hV,V',t'=>by
  have hk:=hp c mem_cons_self;have hp':∀ d∈p,aE d<V.length:=fun d hd=>hp d (mem_cons_of_mem _ hd);have hls':∀ k,occ p k->1<=ls.getD k 0:=fun k hk=>hls k ((cT _ _ _).2 (.inr hk));have hl1:=hls (aE c) ((cT _ _ _).2 (.inl rfl));have hdl:(w.drop t).length=w.length-t:=length_drop;have e:gvF w ls (c::p) V t=p.foldl (gvS w ls) (gvS w ls (some (V,t)) c):=rfl;rw[e,Eu];have hb:=hV (aE c);obtain⟨l,hl⟩:∃ l,l=ls.getD (aE c) 0:=⟨_,rfl⟩;rw[<-hl]at hl1 hb ⊢;by_cases hle:t+l<=w.length
  ·have hxl:((w.drop t).take l).length=l:=by rw[length_take];omega
   by_cases h0:V.getD (aE c) []=[]
   ·rw[if_pos ⟨hle,.inl h0⟩];have hx:(w.drop t).take l≠[]:=by intro e;rw[e]at hxl;simp at hxl;omega
    have ih:=H0 w ls p (V.set (aE c) ((w.drop t).take l)) (t+l) (by simpa using hp') hle hls' (by
     intro j hj;rw[xO V hk]at hj ⊢;by_cases ej:j=aE c
     ·rw[if_pos ej,hxl,ej,hl]
     ·rw[if_neg ej]at hj ⊢;exact hV j hj) V' t'
    unfold gvF at ih;rw[ih,zm hk h0 hx,cE,cM];constructor
    ·rintro⟨⟨h1,h2⟩,h3,h4,h5⟩
     rw[h2,hxl,drop_drop];refine⟨h1,fun j hj=>?_,by rw[length_append,hxl];omega,List.take_prefix _ _,h5⟩;rcases(cT _ _ _).1 hj with rfl|hj
     ·rw[h2,hxl,hl]
     ·exact h3 j hj
    ·rintro⟨h1,h2,h3,h4,h5⟩
     have h6:=h2 _ ((cT _ _ _).2 (.inl rfl));rw[<-hl]at h6;have h7:V'.getD (aE c) []=(w.drop t).take l:=by rw[<-h6];exact(take_prefix h4).symm
     rw[length_append,h6]at h3;rw[h6,drop_drop]at h5;exact⟨⟨h1,h7⟩,fun j hj=>h2 j ((cT _ _ _).2 (.inr hj)),by omega,h5⟩
   ·have hbl:=hb h0;by_cases hq:V.getD (aE c) []=(w.drop t).take l
    ·rw[if_pos ⟨hle,.inr hq⟩,<-hq,Oc V hk];have ih:=H0 w ls p V (t+l) hp' hle hls' hV V' t';unfold gvF at ih;rw[ih,Et h0,cE,cM];constructor
     ·rintro⟨h1,h3,h4,h5⟩
      have h6:=h1.old _ h0;rw[h6,hbl,drop_drop];refine⟨h1,fun j hj=>?_,by rw[length_append,hbl];omega,by rw[hq];exact List.take_prefix _ _,h5⟩;rcases(cT _ _ _).1 hj with rfl|hj
      ·rw[h6,hbl,hl]
      ·exact h3 j hj
     ·rintro⟨h1,h2,h3,h4,h5⟩
      have h6:=h1.old _ h0;rw[h6,length_append,hbl]at h3;rw[h6,hbl,drop_drop]at h5;exact⟨h1,fun j hj=>h2 j ((cT _ _ _).2 (.inr hj)),by omega,h5⟩
    ·rw[if_neg (by rintro⟨_,h|h⟩;exact h0 h;exact hq h),wL];constructor
     ·intro h;cases h
     ·rintro⟨h1,h2,h3,h4⟩
      have h6:=h1.old _ h0;rw[cE,cM,h6]at h4;have:=take_prefix h4.1;rw[hbl]at this;exact absurd this.symm hq
  ·rw[if_neg (by rintro⟨h,_⟩;exact hle h),wL];constructor
   ·intro h;cases h
   ·rintro⟨h1,h2,h3,h4⟩
    rw[cE,cM]at h4;have h5:=h4.1.length_le;rw[h2 _ ((cT _ _ _).2 (.inl rfl)),<-hl]at h5;omega
def fL(p:List UInt8)(k:Nat):Nat:=p.countP fun c=>aE c==k
def gZ(p:List UInt8)(ls:List Nat):Nat:=(p.map fun c=>ls.getD (aE c) 0).sum
theorem AX{p:List UInt8}{k:Nat}:fL p k=0↔¬ occ p k:=by
 unfold fL occ;rw[countP_eq_zero];constructor
 ·rintro h ⟨c,hc,e⟩;exact h c hc (by simpa using e)
 ·intro h c hc e;exact h ⟨c,hc,by simpa using e⟩
def lK(w p:List UInt8):Nat->List Nat->Option bA
 | 0,ls=>match gvF w ls p V0 0 with
  | some (V,t)=>if t=w.length then some V else none
  | none=>none
 | d+1,ls=>if fL p ls.length=0 then lK w p d (ls++[0]) else (range ((w.length-gZ p ls)/fL p ls.length)).findSome? fun n=>lK w p d (ls++[n+1])
theorem find_range{A:Type}(f:Nat->Option A):∀ m,match (range m).findSome? f with
  | some a=>∃ n,n<m/\f n=some a/\∀ i,i<n->f i=none
  | none=>∀ i,i<m->f i=none
 | 0=>fun i hi=>by omega
 | m+1=>by
  have ih:=find_range f m;rw[range_succ,findSome?_append];cases h:(range m).findSome? f with
  | some a=>
   rw[h]at ih;obtain⟨n,h1,h2,h3⟩:=ih;exact⟨n,by omega,h2,h3⟩
  | none=>
   rw[h]at ih;have e:findSome? f [m]=f m:=by cases hf:f m<;>simp[findSome?,hf]
   rw[Option.none_or,e];cases hf:f m with
   | some a=>exact⟨m,by omega,hf,ih⟩
   | none=>
    intro i hi;by_cases him:i=m
    ·rw[him,hf]
    ·exact ih i (by omega)
structure Fit(p w:List UInt8)(V:bA):Prop where
 goes:qz p V0 V
 word:fC p V=w
theorem um(k:Nat):V0.getD k []=[]:=by
 rw[getD_eq_getElem?_getD];cases h:V0[k]? with
 | none=>rfl
 | some x=>
  have:=mem_of_getElem? h;unfold V0 at this;simp at this;rw[this];rfl
theorem Fit.on{p w:List UInt8}{V:bA}(h:Fit p w V)(k:Nat):1<=(cj V).getD k 0↔occ p k:=by
 rw[gg,<-h.goes.new k (um k)];cases V.getD k []<;>simp
theorem Fit.len{p w:List UInt8}{V:bA}(h:Fit p w V):V.length=3:=h.goes.len
theorem eW(V:bA):(cj V).length=V.length:=length_map _
theorem Fq{a b:List Nat}(h:a <+: b){k:Nat}(hk:k<a.length):b.getD k 0=a.getD k 0:=by
 obtain⟨z,rfl⟩:=h;rw[getD_eq_getElem?_getD,getD_eq_getElem?_getD,getElem?_append_left hk]
theorem FY{a b:List Nat}(h:a <+: b)(hl:a.length<b.length):a++[b.getD a.length 0] <+: b:=by
 obtain⟨z,rfl⟩:=h;cases z with
 | nil=>simp at hl
 | cons x z=>
  refine⟨z,?_⟩;rw[getD_eq_getElem?_getD,getElem?_append_right (Nat.le_refl _),Nat.sub_self];simp
theorem D7{ls:List Nat}{V:bA}(h:ls <+: cj V)(n:Nat)(hn:n=(cj V).getD ls.length 0):∀ p:List UInt8,gZ p ls+n*fL p ls.length<=(fC p V).length
 | []=>by simp[gZ,fL]
 | c::p=>by
  have ih:=D7 h n hn p;have e1:gZ (c::p) ls=ls.getD (aE c) 0+gZ p ls:=by simp[gZ]
  have e2:fL (c::p) ls.length=fL p ls.length+if aE c=ls.length then 1 else 0:=by simp[fL,countP_cons]
  have e3:=gg V (aE c);rw[e1,e2,cE,length_append,<-e3,Nat.mul_add];by_cases h1:aE c<ls.length
  ·rw[Fq h h1,if_neg (by omega)];omega
  ·have e4:ls.getD (aE c) 0=0:=by rw[getD_eq_getElem?_getD,getElem?_eq_none (by omega)];rfl
   rw[e4];by_cases h2:aE c=ls.length
   ·rw[if_pos h2,h2,<-hn];omega
   ·rw[if_neg h2];omega
def NC(w p:List UInt8)(ls:List Nat):Option bA->Prop
 | some V=>Fit p w V/\ls <+: cj V/\∀ V2,Fit p w V2->ls <+: cj V2->lexLt (cj V2) (cj V)=false
 | none=>∀ V2,Fit p w V2->ls <+: cj V2->False
theorem Cb(w p:List UInt8)(hp:∀ c∈p,aE c<3):∀(d:Nat) (ls:List Nat),ls.length+d=3->(∀ k,k<ls.length->(1<=ls.getD k 0↔occ p k))->NC w p ls (lK w p d ls)
 | 0,ls,hl,hls=>by
  have hls0:∀ k,occ p k->1<=ls.getD k 0:=by
   intro k hk;obtain⟨c,hc,rfl⟩:=hk;exact(hls _ (by have:=hp c hc;omega)).2 ⟨c,hc,rfl⟩
  have key:=H0 w ls p V0 0 hp (Nat.zero_le _) hls0 (fun k hk=>absurd (um k) hk);have key2:∀ V2,Fit p w V2->ls <+: cj V2->gvF w ls p V0 0=some (V2,w.length):=by
   intro V2 hf hpre;have hl2:ls.length=(cj V2).length:=by rw[eW,hf.len];omega
   have e:=hpre.eq_of_length hl2;rw[key];refine⟨hf.goes,fun k hk=>?_,?_,?_⟩
   ·rw[e,gg]
   ·rw[hf.word];omega
   ·rw[hf.word];exact prefix_rfl
  unfold lK;cases hg:gvF w ls p V0 0 with
  | none=>
   intro V2 hf hpre;rw[key2 V2 hf hpre]at hg;cases hg
  | some x=>
   obtain⟨V,t⟩:=x;simp only;by_cases ht:t=w.length
   ·rw[if_pos ht];obtain⟨h1,h2,h3,h4⟩:=(key V t).1 hg;rw[drop_zero]at h4;have hw:fC p V=w:=h4.eq_of_length (by omega);have hf:Fit p w V:=⟨h1,hw⟩;have e:ls=cj V:=by
     refine ext_getElem (by rw[eW,hf.len];omega) fun k a b=>?_;have h5:=h2 k;have h6:=hf.on k;have h7:=hls k a;rw[<-gg]at h5;rw[getD_eq_getElem?_getD,getElem?_eq_getElem b]at h5 h6;rw[getD_eq_getElem?_getD,getElem?_eq_getElem a]at h5 h7;simp only[Option.getD_some]at h5 h6 h7;by_cases ho:occ p k
     ·exact(h5 ho).symm
     ·have a1:¬ 1<=ls[k]:=fun hh=>ho (h7.1 hh);have a2:¬ 1<=(cj V)[k]:=fun hh=>ho (h6.1 hh);omega
    refine⟨hf,by rw[e];exact prefix_rfl,fun V2 hf2 hpre=>?_⟩;have:gvF w ls p V0 0=some (V2,w.length):=key2 V2 hf2 hpre;rw[hg,Option.some.injEq,Prod.mk.injEq]at this;rw[this.1];exact wT _
   ·rw[if_neg ht];intro V2 hf hpre;rw[key2 V2 hf hpre,Option.some.injEq,Prod.mk.injEq]at hg;exact ht hg.2.symm
 | d+1,ls,hl,hls=>by
  have hmore:∀ n,(1<=n↔occ p ls.length)->∀ k,k<(ls++[n]).length->(1<=(ls++[n]).getD k 0↔occ p k):=by
   intro n hn k hk;rw[length_append,length_singleton]at hk;by_cases e:k=ls.length
   ·subst e;rw[getD_eq_getElem?_getD,getElem?_append_right (Nat.le_refl _),Nat.sub_self];exact hn
   ·rw[getD_eq_getElem?_getD,getElem?_append_left (by omega),<-getD_eq_getElem?_getD];exact hls k (by omega)
  have hpm:∀ V2,Fit p w V2->ls <+: cj V2->ls++[(cj V2).getD ls.length 0] <+: cj V2:=fun V2 hf hpre=>FY hpre (by rw[eW,hf.len];omega);have hless:∀(n:Nat) (V2:bA),ls++[n] <+: cj V2->ls <+: cj V2:=fun n V2 h=>(prefix_append ls [n]).trans h;unfold lK;by_cases hc:fL p ls.length=0
  ·rw[if_pos hc];have hno:=AX.1 hc;have ih:=Cb w p hp d (ls++[0]) (by rw[length_append,length_singleton];omega) (hmore 0 ⟨fun h=>by omega,fun h=>absurd h hno⟩);have h0:∀ V2,Fit p w V2->ls <+: cj V2->ls++[0] <+: cj V2:=by
    intro V2 hf hpre;have h1:=hpm V2 hf hpre;have h2:=hf.on ls.length;have:(cj V2).getD ls.length 0=0:=by
     by_cases hh:1<=(cj V2).getD ls.length 0
     ·exact absurd (h2.1 hh) hno
     ·omega
    rw[this]at h1;exact h1
   cases hs:lK w p d (ls++[0]) with
   | none=>rw[hs]at ih;exact fun V2 hf hpre=>ih V2 hf (h0 V2 hf hpre)
   | some V=>rw[hs]at ih;exact⟨ih.1,hless 0 V ih.2.1,fun V2 hf hpre=>ih.2.2 V2 hf (h0 V2 hf hpre)⟩
  ·rw[if_neg hc];have hocc:occ p ls.length:=by
    by_cases h:occ p ls.length
    ·exact h
    ·exact absurd (AX.2 h) hc
   have hcp:0<fL p ls.length:=Nat.pos_of_ne_zero hc;have ih:∀ n,NC w p (ls++[n+1]) (lK w p d (ls++[n+1])):=fun n=>Cb w p hp d (ls++[n+1]) (by rw[length_append,length_singleton];omega) (hmore (n+1) ⟨fun _=>hocc,fun _=>by omega⟩);have hb:∀ V2,Fit p w V2->ls <+: cj V2->∃ n,(cj V2).getD ls.length 0=n+1/\n<(w.length-gZ p ls)/fL p ls.length/\ls++[n+1] <+: cj V2:=by
    intro V2 hf hpre;have h1:=hpm V2 hf hpre;have h2:=(hf.on ls.length).2 hocc;have h3:=D7 hpre _ rfl p;rw[hf.word]at h3;generalize (cj V2).getD ls.length 0=n2 at *;obtain⟨n,rfl⟩:∃ n,n2=n+1:=⟨n2-1,by omega⟩;refine⟨n,rfl,?_,h1⟩;have:n+1<=(w.length-gZ p ls)/fL p ls.length:=(Nat.le_div_iff_mul_le hcp).2 (by omega);omega
   have hfr:=find_range (fun n=>lK w p d (ls++[n+1])) ((w.length-gZ p ls)/fL p ls.length);cases hs:(range ((w.length-gZ p ls)/fL p ls.length)).findSome? (fun n=>lK w p d (ls++[n+1])) with
   | none=>
    rw[hs]at hfr;intro V2 hf hpre;obtain⟨n,_,h2,h3⟩:=hb V2 hf hpre;have:=ih n;rw[hfr n h2]at this;exact this V2 hf h3
   | some V=>
    rw[hs]at hfr;obtain⟨n,h1,h2,h3⟩:=hfr;have hi:=ih n;rw[h2]at hi;refine⟨hi.1,hless _ V hi.2.1,fun V2 hf hpre=>?_⟩;obtain⟨n2,_,h5,h6⟩:=hb V2 hf hpre;by_cases e1:n2<n
    ·have:=ih n2;rw[h3 n2 e1]at this;exact absurd h6 (fun h=>this V2 hf h)
    ·by_cases e2:n2=n
     ·subst e2;exact hi.2.2 V2 hf h6
     ·obtain⟨z1,hz1⟩:=hi.2.1;obtain⟨z2,hz2⟩:=h6;rw[<-hz1,<-hz2,append_assoc,append_assoc,Kq];simp only[cons_append,nil_append,lexLt];rw[decide_eq_false (by omega),Bool.false_or,beq_eq_false_iff_ne.2 (by omega),Bool.false_and]
theorem B3{V V2:bA}(hl:cj V=cj V2):∀ p:List UInt8,fC p V=fC p V2->∀ c∈p,V.getD (aE c) []=V2.getD (aE c) []
 | [],_,c,hc=>by cases hc
 | d::p,h,c,hc=>by
  rw[cE,cE]at h;have e:(V.getD (aE d) []).length=(V2.getD (aE d) []).length:=by rw[<-gg,<-gg,hl]
  obtain⟨h1,h2⟩:=append_inj h e;rcases List.mem_cons.1 hc with rfl|hc
  ·exact h1
  ·exact B3 hl p h2 c hc
theorem PX{p w:List UInt8}{V V2:bA}(h:Fit p w V)(k:Fit p w V2)(hl:cj V=cj V2):V=V2:=by
 refine yH (by rw[h.len,k.len]) fun j=>?_;by_cases ho:occ p j
 ·obtain⟨c,hc,rfl⟩:=ho;exact B3 hl p (by rw[h.word,k.word]) c hc
 ·have h1:=h.goes.new j (um j);have h2:=k.goes.new j (um j);have e1:V.getD j []=[]:=by
   by_cases hh:V.getD j []=[]
   ·exact hh
   ·exact absurd (h1.1 hh) ho
  have e2:V2.getD j []=[]:=by
   by_cases hh:V2.getD j []=[]
   ·exact hh
   ·exact absurd (h2.1 hh) ho
  rw[e1,e2]
theorem my{w p:List UInt8}(hp:∀ c∈p,aE c<3){V:bA}{t:Nat}:(V,t)∈cD w p V0 0↔qz p V0 V/\t=(fC p V).length/\fC p V <+: w:=by
 rw[rX w p V0 0 hp (Nat.zero_le _),Nat.zero_add,drop_zero]
theorem uA{w p:List UInt8}(hp:∀ c∈p,aE c<3):eM w p=true↔∃ V,Fit p w V:=by
 have h:=qQ w p V0 0 (Nat.zero_le _);rw[drop_zero]at h;unfold eM;rw[<-h,any_eq_true];constructor
 ·rintro⟨⟨V,t⟩,hm,ht⟩
  obtain⟨h1,h2,h3⟩:=(my hp).1 hm;simp only[beq_iff_eq]at ht;exact⟨V,h1,h3.eq_of_length (by omega)⟩
 ·rintro⟨V,h1,h2⟩
  exact⟨(V,w.length),(my hp).2 ⟨h1,by rw[h2],by rw[h2];exact prefix_rfl⟩,by simp⟩
theorem Kv{u p:List UInt8}(hp:∀ c∈p,aE c<3)(hp1:p≠[]):((fo (cD u p V0 0)).1=0/\∀ k,k<=u.length->eM (u.take k) p=false) \/
  (1<=(fo (cD u p V0 0)).1/\(fo (cD u p V0 0)).1<=u.length/\eM (u.take (fo (cD u p V0 0)).1) p=true/\(∀ k,k<(fo (cD u p V0 0)).1->eM (u.take k) p=false)/\lK (u.take (fo (cD u p V0 0)).1) p 3 []=some (fo (cD u p V0 0)).2):=by
 have h1:∀ x∈cD u p V0 0,1<=x.2:=by
  rintro⟨V,t⟩ hx
  obtain⟨a,b,_⟩:=(my hp).1 hx;simp only;cases p with
  | nil=>exact absurd rfl hp1
  | cons c p=>
   have:=(a.new (aE c) (um _)).2 ((cT _ _ _).2 (.inl rfl));rw[b,cE,length_append];cases hq:V.getD (aE c) [] with
   | nil=>exact absurd hq this
   | cons x l=>simp;omega
 have hfit:∀ k,k<=u.length->(eM (u.take k) p=true↔∃ V,(V,k)∈cD u p V0 0):=by
  intro k hk;rw[uA hp];have hl:(u.take k).length=k:=by rw[length_take];omega
  constructor
  ·rintro⟨V,h1,h2⟩
   exact⟨V,(my hp).2 ⟨h1,by rw[h2,hl],by rw[h2];exact List.take_prefix _ _⟩⟩
  ·rintro⟨V,hm⟩
   obtain⟨h1,h2,h3⟩:=(my hp).1 hm;exact⟨V,h1,by rw[h2];exact(take_prefix h3).symm⟩
 obtain⟨_,hb⟩:=zi (cD u p V0 0) (0,V0) h1;unfold fo;generalize (bR cR (0,V0) (cD u p V0 0)).1=s at *;rcases hb with ⟨_,h2,h3⟩|⟨h2,h3,_,h5⟩
 ·left;rw[h3];refine⟨rfl,fun k hk=>?_⟩;cases hf:eM (u.take k) p with
  | false=>rfl
  | true=>
   obtain⟨V,hm⟩:=(hfit k hk).1 hf;rw[h2]at hm;cases hm
 ·right;have hm:=h3.resolve_right (fun h=>h.1 rfl);obtain⟨a,b,c⟩:=(my hp).1 hm;have hle:s.1<=u.length:=by rw[b];exact c.length_le
  refine⟨h2,hle,(hfit _ hle).2 ⟨_,hm⟩,fun k hk=>?_,?_⟩
  ·cases hf:eM (u.take k) p with
   | false=>rfl
   | true=>
    obtain⟨V,hm2⟩:=(hfit k (by omega)).1 hf;have:=h5 _ hm2;unfold ltT at this;simp only[Bool.or_eq_false_iff,decide_eq_false_iff_not]at this;omega
  ·have hf:Fit p (u.take s.1) s.2:=⟨a,by rw[b];exact(take_prefix c).symm⟩;have ok:=Cb (u.take s.1) p hp 3 [] rfl (fun k hk=>by simp at hk);cases hs:lK (u.take s.1) p 3 [] with
   | none=>rw[hs]at ok;exact absurd nil_prefix (fun h=>ok _ hf h)
   | some V=>
    rw[hs]at ok;obtain⟨o1,_,o3⟩:=ok;have l1:=o3 _ hf nil_prefix;have hl:(u.take s.1).length=s.1:=by rw[length_take];omega
    have l2:=h5 (V,s.1) ((my hp).2 ⟨o1.goes,by rw[o1.word,hl],by rw[o1.word];exact List.take_prefix _ _⟩);unfold ltT at l2;simp only[Bool.or_eq_false_iff,beq_self_eq_true,Bool.true_and]at l2;rw[PX o1 hf (B5 _ _ (by rw[eW,eW,o1.len,hf.len]) l2.2 l1)]
def iv(w p:List UInt8)(i:Nat):Option (Nat×bA):=if 0<(fo (cD (w.drop i) p V0 0)).1 then some (i,(fo (cD (w.drop i) p V0 0)).2) else none
def en(w p:List UInt8)(n:Nat):Option (Nat×bA):=(range n).findSome? (iv w p)
def iV(w p:List UInt8):Option (Nat×bA):=en w p w.length
theorem ix{w p:List UInt8}{n:Nat}(h:en w p n=none):en w p (n+1)=iv w p n:=by
 unfold en at *;rw[range_succ,findSome?_append,h,Option.none_or];cases hf:iv w p n<;>simp[findSome?,hf]
theorem vw{w p:List UInt8}{n m:Nat}{r:Nat×bA}(hn:n<m)(h0:en w p n=none)(h:iv w p n=some r):en w p m=some r:=by
 have h1:en w p (n+1)=some r:=by rw[ix h0,h]
 obtain⟨d,rfl⟩:∃ d,m=n+1+d:=⟨m-n-1,by omega⟩;unfold en at *;rw[range_add,findSome?_append,h1,Option.some_or]
end Go.Proofs.YtapimhjbilkfpaaGreatDoor
namespace Go.Proofs.YtapimhjbilkfpaaGreatDoor
open Go Go.Proofs.Tryz List
def iu(a b:Int):Int:=if a<b then -1 else if b<a then 1 else 0
def cmpL(a b:List Nat):Int:=if a=b then 0 else if lexLt a b then -1 else 1
theorem Lp{pre a b:List Nat}:cmpL (pre++a) (pre++b)=cmpL a b:=by
 unfold cmpL;simp only[Kq,append_right_inj]
theorem L6{x y:Nat}{a b:List Nat}(h:x≠y):cmpL (x::a) (y::b)=iu x y:=by
 have e:¬(x::a=y::b):=by intro e;injection e with e _;exact h e
 by_cases h1:x<y
 ·simp[cmpL,lexLt,iu,h,h1]
 ·have h2:y<x:=by omega
  simp[cmpL,lexLt,iu,h,h1,h2]
theorem zp(a:Int)(M:Mem)(R:VP)(h:R (.bool false) M):ar prog 384 [.int .i64 a] M R:=by
 refine fnS func384 rfl ntmps384 results384 ?_;simp(disch:=omega);exact ad h
theorem eZ(a b:Int)(M:Mem)(R:VP)(h:R (.int .i64 (iu a b)) M):ar prog 322 [.int .i64 a,.int .i64 b] M R:=by
 unfold iu at h;refine fnS func322 rfl ntmps322 results322 ?_;simp(disch:=omega);refine zp a _ _ ?_;simp(disch:=omega);refine zp b _ _ ?_;by_cases h1:a<b
 ·rw[if_pos h1]at h;simp(disch:=omega)[h1];exact ad h
 ·rw[if_neg h1]at h;by_cases h2:b<a
  ·rw[if_pos h2]at h;simp(disch:=omega)[h1,h2];exact ad h
  ·rw[if_neg h2]at h;simp(disch:=omega)[h1,h2];exact ad h
theorem uT(v:Value)(x y:Int)(M:Mem)(R:VP)(hv:Rd M v (ints [x,y]))(h:R (.int .i64 (if x=0 then y else x)) M):ar prog 321 [v] M R:=by
 obtain⟨a,c,rfl,ha⟩:=hv.opened;rcases ha with h0|⟨b,o,rfl,ha⟩
 ·simp at h0
 have g0:=ha 0 (by simp);have g1:=ha 1 (by simp);refine fnS func321 rfl ntmps321 results321 ?_;simp(disch:=omega);refine lupS [2,5,8,9,10,11,12,13,14,15,16] (fun i:Nat=>[(8,.int .i64 i)]) (fun i M'=>M'=M/\(i=0\/(i=1/\x=0)\/(i=2/\x=0/\y=0))) (fun i=>2-i) 0 ⟨rfl,.inl rfl⟩ ?_
 rintro i M' g ⟨rfl,hi⟩
 have e0:(ints [x,y])[0]?=some (.int .i64 x):=rfl;have e1:(ints [x,y])[1]?=some (.int .i64 y):=rfl;rw[e0]at g0;rw[e1]at g1;rw[Nat.add_zero]at g0;rcases hi with rfl|⟨rfl,rfl⟩|⟨rfl,rfl,rfl⟩
 ·by_cases hx:x=0
  ·subst hx;simp(disch:=omega)[g0];exact rndS 1 ⟨rfl,by simp⟩
  ·rw[if_neg hx]at h;simp(disch:=omega)[g0,hx];exact ad h
 ·by_cases hy:y=0
  ·subst hy;simp(disch:=omega)[g1];exact rndS 2 ⟨rfl,by simp⟩
  ·rw[if_pos rfl]at h;simp(disch:=omega)[g1,hy];exact ad h
 ·rw[if_pos rfl]at h;simp(disch:=omega);exact ad h
theorem zN(v v':Value)(a b:List Nat)(M:Mem)(R:VP)(hv:Rd M v (aB a))(hv':Rd M v' (aB b))(hl:a.length=b.length)(hl':a.length<=1000000)(h:R (.int .i64 (cmpL a b)) M):ar prog 323 [v,v'] M R:=by
 obtain⟨a1,c1,rfl,ha⟩:=hv.opened;obtain⟨a2,c2,rfl,hb⟩:=hv'.opened;simp only[aA]at ha hb ⊢;refine fnS func323 rfl ntmps323 results323 ?_;simp(disch:=omega);refine lupS [4,5,6,7,8,11,12,13,14,15,16,17,18,19,20,21,22,23,24,25,26,27,28,29,30] (fun i:Nat=>[(11,.int .i64 i)]) (fun i M'=>M'=M/\i<=a.length/\a.take i=b.take i) (fun i=>a.length-i) 0 ⟨rfl,by omega,rfl⟩ ?_
 rintro i M' g ⟨rfl,hi,heq⟩
 by_cases hlt:i<a.length
 ·rcases ha with hz|⟨b1,o1,rfl,ha⟩
  ·omega
  rcases hb with hz|⟨b2,o2,rfl,hb⟩
  ·omega
  have hltb:i<b.length:=by omega
  have g1:=ha i hlt;have g2:=hb i hltb;rw[bS,getElem?_eq_getElem hlt,Option.map_some]at g1;rw[bS,getElem?_eq_getElem hltb,Option.map_some]at g2;have t1:=az a hlt;have t2:=az b hltb;have d1:a=a.take i++a[i]::a.drop (i+1):=by rw[getElem_cons_drop];exact(take_append_drop _ _).symm
  have d2:b=b.take i++b[i]::b.drop (i+1):=by rw[getElem_cons_drop];exact(take_append_drop _ _).symm
  by_cases hx:a[i]=b[i]
  ·rw[hx]at g1 t1;generalize b[i]=x at *;simp(disch:=omega)[g1,g2];refine eZ _ _ _ _ ?_;have e:iu x x=0:=by unfold iu;simp
   rw[e];simp(disch:=omega);exact rndS (i+1) ⟨rfl,by omega,by rw[t1,t2,heq]⟩
  ·have e:cmpL a b=iu a[i] b[i]:=by
    conv=>lhs;rw[d1,d2,heq]
    rw[Lp,L6 hx]
   have e0:iu (a[i]:Nat) (b[i]:Nat)≠0:=by
    unfold iu;split
    ·omega
    ·split<;>omega
   rw[e]at h;generalize a[i]=x at *;generalize b[i]=y at *;simp(disch:=omega)[g1,g2];refine eZ _ _ _ _ ?_;generalize iu x y=q at *;simp(disch:=omega);exact ad h
 ·have hi':i=a.length:=by omega
  subst hi';rw[take_length,hl,take_length]at heq;have e:cmpL a b=0:=by unfold cmpL;rw[if_pos heq]
  rw[e]at h;simp(disch:=omega);exact ad h
theorem mG(V:bA)(M:Mem)(R:VP)(hV:eu V)(h:∀ v M',Own M v (aB (cj V)) M'->R v M'):ar prog 324 [.agg (strs V).toArray] M R:=by
 have h3:=cS hV.1;have h3':=hV.1;refine fnS func324 rfl ntmps324 results324 ?_;simp(disch:=omega);intro b1 hb1;have k1:(M.put b1 (.cells true (strs V) 3)) b1=some (.cells true (strs V) 3):=ag _ _ _;have hs1:Sub M (M.put b1 (.cells true (strs V) 3)):=(Sub.refl M).put hb1 _;simp(disch:=omega)[aq k1,h3,h3'];generalize M.put b1 (.cells true (strs V) 3)=N at *;refine lupS [3,5,7,8,9,10,11,12,13,14,15] (fun x:Nat×Value=>[(7,.int .i64 x.1),(3,x.2)]) (fun x M'=>x.1<=3/\Own N x.2 (aB ((cj V).take x.1)) M') (fun x=>3-x.1) (0,.slice none 0 0) ⟨by omega,by show Own N _ [] N;exact Own.nil N⟩ ?_
 rintro⟨i,v⟩ M' g ⟨hi,ho⟩
 simp only at hi ho;by_cases hlt:i<3
 ·have hgv:=oO hV.1 hlt;have hsm:=kB hV i;have hll:i<(cj V).length:=by rw[eW];omega
  have htk:=az (cj V) hll;have he:(cj V)[i]=(V.getD i []).length:=by
   rw[<-gg,getD_eq_getElem?_getD,getElem?_eq_getElem hll];rfl
  rw[he]at htk;generalize V.getD i []=u at *;have htl:((cj V).take i).length<=3:=by rw[length_take];omega
  generalize (cj V).take i=L at *;simp(disch:=omega)[hgv];intro b' hb';simp(disch:=omega);refine aN ho ((Sub.refl _).put hb' _) (by simp(disch:=omega);rfl) rfl rfl (by omega) (by simp(disch:=omega)) (by simp(disch:=omega);rw[aA];omega) ?_;intro v' M'' N'' ho' hs';simp(disch:=omega);refine rndM M'' (i+1,v') hs' ⟨by simp only;omega,?_⟩;simp only;rw[htk,<-ez];exact ho'
 ·have hi':i=3:=by omega
  subst hi';rw[take_of_length_le (by rw[eW];omega)]at ho;obtain⟨M3,o3,s3⟩:=ho.base hs1;simp(disch:=omega);exact ae s3 (h _ _ o3)
def JF(bl bb:Nat)(s:Nat×bA)(M:Mem):Prop:=M bl=some (.cells true [.int .i64 (s.1:Nat)] 1)/\M bb=some (.cells true (strs s.2) 3)/\eu s.2
theorem Sc(x:bA×Nat)(s:Nat×bA):decide ((if iu (x.2:Nat) (s.1:Nat)=0 then cmpL (cj x.1) (cj s.2) else iu (x.2:Nat) (s.1:Nat))<0)=ltT x (s.2,s.1):=by
 unfold ltT iu;rcases Nat.lt_trichotomy x.2 s.1 with h|h|h
 ·simp[h]
 ·rw[h];simp only[Int.lt_irrefl,if_false,if_true,Nat.lt_irrefl,decide_false,Bool.false_or,beq_self_eq_true,Bool.true_and];unfold cmpL;by_cases e:cj x.1=cj s.2
  ·rw[if_pos e,e,wT];rfl
  ·rw[if_neg e];cases hl:lexLt (cj x.1) (cj s.2)<;>simp
 ·have h1:¬ x.2<s.1:=by omega
  have h2:¬ x.2=s.1:=by omega
  simp[h,h1,h2]
theorem uy(bl bb:Nat)(hne:bl≠bb)(s:Nat×bA)(V:bA)(t:Nat)(M:Mem)(R:VP)(hV:eu V)(hJ:JF bl bb s M)
  (h:∀ M',JF bl bb (cR s (V,t)).1 M'->dP (fun b=>b=bl\/b=bb) M M'->R (.bool (cR s (V,t)).2) M') :
  fj prog (.func (.func 320) #[] #[.pointer (some ⟨bl,0,none⟩),.pointer (some ⟨bb,0,none⟩)]) [.agg (strs V).toArray,.int .i64 (t:Nat)] R M:=by
 obtain⟨j1,j2,j3⟩:=hJ;obtain⟨least,best⟩:=s;simp only at j1 j2 j3;have h3:=cS hV.1;have h3':=hV.1;have b3:=cS j3.1;have b3':=j3.1;have bd:(strs best).drop 3=[]:=drop_of_length_le (by rw[ah];omega);simp(disch:=omega);refine fnS func320 rfl ntmps320 results320 ?_;simp(disch:=omega);intro b4 hb4;have n1:bl≠b4:=by rintro rfl;rw[hb4]at j1;cases j1
 have n2:bb≠b4:=by rintro rfl;rw[hb4]at j2;cases j2
 have k4:(M.put b4 (.cells true (strs V) 3)) b4=some (.cells true (strs V) 3):=ag _ _ _;have s4:Sub M (M.put b4 (.cells true (strs V) 3)):=(Sub.refl M).put hb4 _;have k1:=s4 _ _ j1;have k2:=s4 _ _ j2;simp(disch:=omega)[h3'];generalize M.put b4 (.cells true (strs V) 3)=N at *;have keep:∀ N',Sub N N'->dP (fun b=>b=bl\/b=bb) M ((N'.put bl (.cells true [.int .i64 (t:Nat)] 1)).put bb (.cells true (strs V) 3)):=by
  intro N' hN b B hb hB;rw[ai _ _ (fun e=>hb (.inr e)),ai _ _ (fun e=>hb (.inl e))];exact hN _ _ (s4 _ _ hB)
 have newJ:∀ N':Mem,JF bl bb (t,V) ((N'.put bl (.cells true [.int .i64 (t:Nat)] 1)).put bb (.cells true (strs V) 3)):=by
  intro N';refine⟨?_,ag _ _ _,hV⟩;rw[ai _ _ hne];exact ag _ _ _
 by_cases h0:least=0
 ·have hst:cR (least,best) (V,t)=((t,V),false):=by unfold cR;rw[if_pos (.inl h0)]
  rw[hst]at h;subst h0;refine plyS (ak [0,1,2,3,4,5,6,8] (.one 7 1 (.one 9 1 (ak [10] (.one 11 1 (ak [12,13,14] .fin)))))) ?_;simp(disch:=omega)[aj k1];refine plyS (ak [0] (.alt 1 1 (.one 2 2 (.one 3 2 .fin)) (.one 2 2 (.one 1 1 (.one 3 2 .fin))))) ?_;simp(disch:=omega)[aq k4,h3,h3',b3',k1,k2,al,jW,bd];refine⟨dz V,?_⟩;exact ad (h _ (newJ N) (keep N (Sub.refl _)))
 ·have hlt:=Sc (V,t) (least,best);have hst:cR (least,best) (V,t)=((if ltT (V,t) (best,least)=true then (t,V) else (least,best)),false):=by
   unfold cR;simp[h0]
  rw[hst]at h;simp only at hlt;have h0':¬(least:Int)=0:=by omega
  refine plyS (ak [0,1,2,3,4,5,6,8] (.one 7 1 (.one 9 1 (ak [10] (.one 11 1 (ak [12,13,14] .fin)))))) ?_;simp(disch:=omega)[aj k1];refine aU (a:=[]) (c:=[]) (eZ _ _ _ _ ⟨rfl,rfl⟩) ?_;simp(disch:=omega)[aq k2,aq k4,h3,h3',b3,b3'];refine mG V _ _ hV ?_;intro v1 N1 o1;have q1:=o1.sub;simp(disch:=omega);refine⟨q1,?_⟩;refine mG best _ _ j3 ?_;intro v2 N2 o2;have q2:=o2.sub;simp(disch:=omega);refine⟨q2,?_⟩;refine aU (a:=[]) (c:=[]) (zN v1 v2 _ _ _ _ (o1.rd.sub q2) o2.rd (by rw[eW,eW,hV.1,j3.1]) (by rw[eW,hV.1];omega) ⟨rfl,rfl⟩) ?_;simp(disch:=omega);intro b7 hb7;have q3:Sub N2 (N2.put b7 (.cells true [.int .i64 (iu (t:Nat) (least:Nat)),.int .i64 (cmpL (cj V) (cj best))] 2)):=(Sub.refl _).put hb7 _;refine⟨q3,?_⟩;have r7:Rd (N2.put b7 (.cells true [.int .i64 (iu (t:Nat) (least:Nat)),.int .i64 (cmpL (cj V) (cj best))] 2)) (.slice (some ⟨b7,0,none⟩) 2 2) (ints [iu (t:Nat) (least:Nat),cmpL (cj V) (cj best)]):=Rd.new rfl (Nat.le_refl 2);have sN:=(q1.trans q2).trans q3;generalize N2.put b7 (.cells true [.int .i64 (iu (t:Nat) (least:Nat)),.int .i64 (cmpL (cj V) (cj best))] 2)=N3 at *;simp(disch:=omega);refine aU (a:=[]) (c:=[]) (uT _ _ _ _ _ r7 ⟨rfl,rfl⟩) ?_;have l1:=sN _ _ k1;have l2:=sN _ _ k2;have l4:=sN _ _ k4;generalize (if iu (t:Nat) (least:Nat)=0 then cmpL (cj V) (cj best) else iu (t:Nat) (least:Nat))=q at *;cases hd:ltT (V,t) (best,least)
  ·rw[hd]at h hlt;have hlt:=of_decide_eq_false hlt;simp(disch:=omega)[hlt];refine ad (h N3 ⟨l1,l2,j3⟩ ?_);exact(s4.trans sN).keepO
  ·rw[hd]at h hlt;have hlt:=of_decide_eq_true hlt;simp(disch:=omega)[hlt];refine plyS (ak [0] (.alt 1 1 (.one 2 2 (.one 3 2 .fin)) (.one 2 2 (.one 1 1 (.one 3 2 .fin))))) ?_;simp(disch:=omega)[aq l4,h3,h3',b3',l1,l2,al,jW,bd];refine⟨dz V,?_⟩;exact ad (h _ (newJ N3) (keep N3 sN))
theorem kl(w p:List UInt8)(M:Mem)(R:VP)(hw:w.length<=1099511627776)(hp:p.length<=1099511627776)(h:R (.int .i64 (if isWord w&&aY p then 0 else 1)) M):ar prog 318 [str w,str p] M R:=by
 refine fnS func318 rfl ntmps318 results318 ?_;simp(disch:=omega);refine gI w _ _ hw ?_;cases h1:isWord w
 ·rw[h1]at h;simp(disch:=omega);exact ad h
 ·rw[h1]at h;simp(disch:=omega);refine jd p _ _ hp ?_;cases h2:aY p
  ·rw[h2]at h;simp(disch:=omega);exact ad h
  ·rw[h2]at h;simp(disch:=omega);exact ad h
def jw(V:bA):bA:=V.filter fun u=>!u.isEmpty
def plI(w p:List UInt8):Int:=if isWord w&&aY p then (match iV w p with|some x=>(x.1:Int)|none=>0) else 0
def plL(w p:List UInt8):bA:=if isWord w&&aY p then (match iV w p with|some x=>jw x.2|none=>[]) else []
def plC(w p:List UInt8):Int:=if isWord w&&aY p then (match iV w p with|some _=>0|none=>4) else 1
def UJ(i:Int)(c:Int)(xs:List Value)(M:Mem)(R:VP):Prop:=∀ v M',Own M v xs M'->R (.tuple #[.int .i64 i,v,.int .i64 c]) M'
theorem Sub.delN{M N:Mem}{b:Nat}(h:Sub M N)(hb:M b=none):Sub M (N.del b):=by
 intro i B hi;have hne:i≠b:=by rintro rfl;rw[hb]at hi;cases hi
 simp only[Mem.del,if_neg hne];exact h _ _ hi
theorem Cs{M:Mem}{b:Nat}{X:Blk}(h:M b=some X):(M.del b).put b X=M:=by
 funext i
 by_cases e:i=b
 ·subst e;rw[ag,h]
 ·rw[ai _ _ e];simp[Mem.del,e]
theorem sI(ss:List (List UInt8)):CZ prog (.func (.func 326) #[] #[]) ss (fun u=>u.isEmpty):=by
 intro u hu M R h;have h:∀ M',Sub M M'->R (.bool (u.isEmpty)) M':=h;simp(disch:=omega);refine fnS func326 rfl ntmps326 results326 ?_;simp(disch:=omega);exact ad (h _ (Sub.refl _))
theorem vW(w p:List UInt8)(M:Mem)(R:VP)(hw:w.length<=1099511627776)(hp:p.length<=1099511627776)(h:UJ (plI w p) (plC w p) (strs (plL w p)) M R):ar prog 231 [str w,str p] M R:=by
 unfold plI plC plL at h;refine fnS func231 rfl ntmps231 results231 ?_;simp(disch:=omega);refine kl w p _ _ hw hp ?_;cases hb:isWord w&&aY p
 ·rw[hb]at h;simp(disch:=omega);exact ad (h _ _ (Own.nil M))
 ·rw[hb,if_pos rfl,if_pos rfl,if_pos rfl]at h;rw[Bool.and_eq_true]at hb;have h60:=au hb.1;obtain⟨hp1,hp8,hpv⟩:=bK hb.2;have hpi:∀ c∈p,aE c<3:=fun c hc=>by
   have:=dc (List.all_eq_true.1 hpv c hc);unfold aE;omega
  simp(disch:=omega);refine lupS [4,5,6,8,9,10,19,20,21,22,23,24,25,26,27,28,29,30,31,32,33,34] (fun i:Nat=>[(19,.int .i64 i)]) (fun i M'=>i<=w.length/\Sub M M'/\en w p i=none) (fun i=>w.length-i) 0 ⟨by omega,Sub.refl _,rfl⟩ ?_
  rintro i M' g ⟨hi,hs,hno⟩
  by_cases hlt:i<w.length
  ·simp(disch:=omega);intro bl hbl;simp(disch:=omega);intro bb hbb;have hne:bl≠bb:=by rintro rfl;rw[ag]at hbb;cases hbb
   have hbb':M' bb=none:=by rw[ai _ _ (Ne.symm hne)]at hbb;exact hbb
   have hJ:JF bl bb (0,V0) ((M'.put bl (.cells true [.int .i64 0] 1)).put bb (.cells true [str [],str [],str []] 3)):=by
    refine⟨?_,ag _ _ _,uj⟩;rw[ai _ _ hne];exact ag _ _ _
   have hsN:Sub M' ((M'.put bl (.cells true [.int .i64 0] 1)).put bb (.cells true [str [],str [],str []] 3)):=((Sub.refl M').put hbl _).putN hbb _;simp(disch:=omega);generalize (M'.put bl (.cells true [.int .i64 0] 1)).put bb (.cells true [str [],str [],str []] 3)=N at *;refine mg (w.drop i) (by rw[length_drop];omega) cR _ rfl (fun b=>b=bl\/b=bb) (JF bl bb) ?_ ?_ (fun s V t K R' hV hJ' hR=>uy bl bb hne s V t K R' hV hJ' hR) p V0 0 (0,V0) _ _ hpv hp8 uj (by omega) hJ ?_
   ·rintro s K b ⟨q1,q2,_⟩ (rfl|rfl)
    ·rw[q1];intro hh;cases hh
    ·rw[q2];intro hh;cases hh
   ·rintro s K b B ⟨q1,q2,q3⟩ hb
    refine⟨?_,?_,q3⟩
    ·rw[ai _ _ (by rintro rfl;rw[hb]at q1;cases q1)];exact q1
    ·rw[ai _ _ (by rintro rfl;rw[hb]at q2;cases q2)];exact q2
   ·intro N1 hJ1 hk1;have hrun:(bR cR (0,V0) (cD (w.drop i) p V0 0)).1=fo (cD (w.drop i) p V0 0):=rfl;have hsK:Sub M' N1:=by
     intro b B hB;refine hk1 b B ?_ (hsN _ _ hB)
     rintro(rfl|rfl)
     ·rw[hbl]at hB;cases hB
     ·rw[hbb']at hB;cases hB
    have hbest:=Kv (u:=w.drop i) hpi (by intro e;rw[e]at hp1;simp at hp1);have hat:iv w p i=if 0<(fo (cD (w.drop i) p V0 0)).1 then some (i,(fo (cD (w.drop i) p V0 0)).2) else none:=rfl
    rw[hrun]at hJ1;generalize fo (cD (w.drop i) p V0 0)=s at *;obtain⟨j1,j2,j3⟩:=hJ1;obtain⟨least,best⟩:=s;simp only at j1 j2 j3 hat;by_cases h0:0<least
    ·have h0':0<(least:Int):=by omega
     rw[if_pos h0]at hat;have hpl:iV w p=some (i,best):=vw hlt hno hat;rw[hpl]at h;have hbn:(N1.del bb) bb=none:=by simp[Mem.del]
     have hown:Own (N1.del bb) (.slice (some ⟨bb,0,none⟩) 3 3) (strs best) N1:=.inr ⟨bb,3,by rw[ah,j3.1],hbn,by rw[ah,j3.1];omega,(Cs j2).symm⟩;have hsD:Sub M (N1.del bb):=hs.trans (Sub.delN hsK hbb');simp(disch:=omega)[aj j1];refine l8 _ _ best (fun u=>u.isEmpty) _ _ _ hown (sI best) (by rw[j3.1];omega) ?_;intro v' M2 o2;obtain⟨M3,o3,s3⟩:=o2.base hsD;simp(disch:=omega);exact ae s3 (h _ _ o3)
    ·have h0':¬ 0<(least:Int):=by omega
     rw[if_neg h0]at hat;simp(disch:=omega)[aj j1];exact rndM M' (i+1) hsK ⟨by omega,hs,by rw[ix hno,hat]⟩
  ·have hi':i=w.length:=by omega
   subst hi';have e:iV w p=none:=hno;rw[e]at h;simp(disch:=omega);exact ae hs (h _ _ (Own.nil M))
end Go.Proofs.YtapimhjbilkfpaaGreatDoor
