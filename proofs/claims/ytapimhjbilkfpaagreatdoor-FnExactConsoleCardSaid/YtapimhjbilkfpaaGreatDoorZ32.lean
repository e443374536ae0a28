/- Lemmas for FnExactDeskAfter, part 33 of 33. -/
import Derived.Test.YtapimhjbilkfpaaGreatDoorZ31
set_option linter.unusedVariables false
set_option linter.unusedSimpArgs false
namespace Go.Proofs.YtapimhjbilkfpaaGreatDoor
open Go Go.Proofs.Tryz Go.RowKit List
theorem Fm(c:UInt8):∀(l:B8) (m:Nat),Lib.indexByte l c=m->l.take (m+1)=l.take m++[c]
 | [],m,h=>by unfold Lib.indexByte at h;omega
 | b::l,m,h=>by
  unfold Lib.indexByte at h;split at h
  ·rename_i h1;obtain rfl:m=0:=by omega
   have:b=c:=by simpa using h1
   subst this;rfl
  ·split at h
   ·omega
   ·rename_i h2;have h4:Lib.indexByte l c≠-1:=by simpa using h2
    have h3:=Lib.indexByte_ge l c;obtain⟨k,rfl⟩:∃ k,m=k+1:=⟨m-1,by omega⟩;have ih:=Fm c l k (by omega);rw[take_succ_cons,ih];rfl
theorem Pd(l:B8):Lib.trimSuffix (l++[10]) [10]=l:=by
 unfold Lib.trimSuffix Lib.hasSuffix;rw[if_pos (by simp)];simp
theorem ML{l:B8}(h:l.count 10=0):Lib.trimSuffix l [10]=l:=by
 unfold Lib.trimSuffix Lib.hasSuffix;rw[if_neg];intro hs;have h1:=List.isSuffixOf_iff_suffix.1 hs;have h2:(10:UInt8)∈l:=h1.subset (by simp);have:=List.count_pos_iff.2 h2;omega
theorem je:bR []=[]:=by unfold bR;rfl
theorem Iq{r:B8}(h:r≠[]):bR r=Lib.trimSuffix (iB r) [10]::bR (eX r):=by
 rcases pt 10 r with ⟨h1,h2,h3⟩|⟨m,h1,h2,h3,h4⟩
 ·have e1:iB r=r:=by unfold iB;rw[if_neg (by omega)]
  have e2:eX r=[]:=by unfold eX;rw[if_neg (by omega)]
  rw[e1,e2,je,ML h2];unfold bR;have hl:(spR 10 r).getLast (fo 10 r)=r:=by simp[h3]
  rw[hl,if_neg h,h3]
 ·have e1:iB r=r.take (m+1):=by unfold iB;rw[if_pos (by omega),h1];rfl
  have e2:eX r=r.drop (m+1):=by unfold eX;rw[if_pos (by omega),h1];rfl
  rw[e1,e2,Fm 10 r m h1,Pd];have hl:(spR 10 r).getLast (fo 10 r)=(spR 10 (r.drop (m+1))).getLast (fo 10 _):=by
   have:∀(a:List B8) (x:B8) (b:List B8) (ha:a≠[]) (hb:b≠[]),a=x::b->a.getLast ha=b.getLast hb:=by
    intro a x b ha hb e;subst e;exact getLast_cons hb
   exact this _ _ _ _ _ h3
  unfold bR;rw[hl];by_cases hz:(spR 10 (r.drop (m+1))).getLast (fo 10 _)=[]
  ·rw[if_pos hz,if_pos hz,h3,dropLast_cons_of_ne_nil (fo 10 _)]
  ·rw[if_neg hz,if_neg hz,h3]
theorem QR:∀(f:Nat) (r:B8) (i:Nat) (s:Dk×B8),r.length<=f->i<=40->goX f r i s=if i+(bR r).length<=40 then some ((bR r).foldl cf s) else none
 | 0,r,i,s,hr,hi=>by
  obtain rfl:r=[]:=List.length_eq_zero_iff.1 (by omega);rw[je,if_pos (by simpa using hi)];rfl
 | f+1,r,i,s,hr,hi=>by
  by_cases hn:r=[]
  ·subst hn;rw[Lc,je,if_pos (by simpa using hi)];rfl
  ·have ht:=pw hn;unfold goX;rw[if_neg hn,Iq hn];by_cases h40:40<i+1
   ·rw[if_pos h40,if_neg (by rw[length_cons];omega)]
   ·rw[if_neg h40,QR f (eX r) (i+1) _ (by omega) (by omega)];by_cases hle:i+1+(bR (eX r)).length<=40
    ·rw[if_pos hle,if_pos (by rw[length_cons];omega)];rfl
    ·rw[if_neg hle,if_neg (by rw[length_cons];omega)]
theorem xJ(l:B8):EL l=eC l:=by
 unfold EL eC;by_cases h4:l.length<=4000
 ·rw[if_pos h4,QR l.length l 0 _ (lRf _) (by omega)];by_cases hm:(bR l).length<=40
  ·rw[if_pos (by omega),if_pos ⟨h4,hm⟩];unfold iQ;rw[take_length]
  ·rw[if_neg (by omega),if_neg (fun h=>hm h.2)]
 ·rw[if_neg h4,if_neg (fun h=>h4 h.1)]
def kx(l:B8):B8:=match eC l with|some (_,t)=>t|none=>[]
theorem fQ(l:B8)(M:Mem)(R:VP)(hl:l.length<=1500000)(hvar:bW M)(h:R (str (kx l)) M):ar prog 9 [str l] M R:=by
 refine fnS func9 rfl ntmps9 results9 ?_;simp(disch:=omega);refine CP l M _ hl hvar ?_ ?_
 ·intro d t v M' hc o;rw[xJ]at hc;have e:kx l=t:=by unfold kx;rw[hc]
  rw[e]at h;have hf:=aT o.rd;have s1:=o.sub;unfold dkV;simp(disch:=omega);intro b3 hb3;simp(disch:=omega)[hf,aj,aW];exact ae (s1.putN hb3 _) h
 ·intro hc;rw[xJ]at hc;have e:kx l=[]:=by unfold kx;rw[hc]
  rw[e]at h;simp(disch:=omega);intro b3 hb3;simp(disch:=omega)[aj,aW];exact ae ((Sub.refl M).putN hb3 _) h
theorem sf(l:B8)(M:Mem)(R:VP)(hl:l.length<=1500000)(h:R (str (kx l)) M):ar prog 8 [str l] M R:=by
 refine fnS func8 rfl ntmps8 results8 ?_;simp(disch:=omega);refine CS l M _ hl ?_ ?_
 ·intro d t v M' hc o;have e:kx l=t:=by unfold kx;rw[hc]
  rw[e]at h;have hf:=aT o.rd;have s1:=o.sub;unfold dkV;simp(disch:=omega);intro b3 hb3;simp(disch:=omega)[hf,aj,aW];exact ae (s1.putN hb3 _) h
 ·intro hc;have e:kx l=[]:=by unfold kx;rw[hc]
  rw[e]at h;simp(disch:=omega);intro b3 hb3;simp(disch:=omega)[aj,aW];exact ae ((Sub.refl M).putN hb3 _) h
end Go.Proofs.YtapimhjbilkfpaaGreatDoor
namespace Go.Proofs.YtapimhjbilkfpaaGreatDoor
open Go Go.Proofs.Tryz List
def gS(w p:B8)(ws:List B8):Bool:=isWord w&&(a7 p&&aY ws)
theorem Gp(w p:B8)(v:Value)(ws:List B8)(M:Mem)(R:VP)(hv:Rd M v (strs ws))(hw:w.length<=1099511627776)(hp:p.length<=1099511627776)(hf:cP ws)(hn:ws.length<=1099511627776)(h:R (.bool (gS w p ws)) M):ar prog 24 [cQ w p v] M R:=by
 unfold cQ;refine fnS func24 rfl ntmps24 results24 ?_;obtain⟨a,c,rfl,ha⟩:=hv.opened;rw[ah]at ha hv ⊢;simp(disch:=omega);intro b1 hb1;have hs1:Sub M (M.put b1 (.cells true [str w,str p,.slice a ws.length c] 3)):=(Sub.refl M).put hb1 _;have hv1:=hv.put hb1 (.cells true [str w,str p,.slice a ws.length c] 3);unfold gS at h;simp(disch:=omega);refine bg w _ _ hw ?_;cases e1:isWord w
 ·rw[e1,Bool.false_and]at h;simp(disch:=omega);exact ae hs1 h
 ·rw[e1,Bool.true_and]at h;simp(disch:=omega);refine gp p _ _ hp ?_;cases e2:a7 p
  ·rw[e2,Bool.false_and]at h;simp(disch:=omega);exact ae hs1 h
  ·rw[e2,Bool.true_and]at h;simp(disch:=omega);refine fA _ ws _ _ hv1 hf hn ?_;simp(disch:=omega);exact ae hs1 h
theorem Ib(w p:B8)(v:Value)(ws:List B8)(M:Mem)(R:VP)(hv:Rd M v (strs ws))(hw:w.length<=1099511627776)(hp:p.length<=1099511627776)(hf:cP ws)(hn:ws.length<=1099511627776)(h:R (.bool (gS w p ws)) M):ar prog 23 [cQ w p v] M R:=by
 unfold cQ;refine fnS func23 rfl ntmps23 results23 ?_;obtain⟨a,c,rfl,ha⟩:=hv.opened;rw[ah]at ha hv ⊢;simp(disch:=omega);intro b1 hb1;have hs1:Sub M (M.put b1 (.cells true [str w,str p,.slice a ws.length c] 3)):=(Sub.refl M).put hb1 _;have hv1:=hv.put hb1 (.cells true [str w,str p,.slice a ws.length c] 3);unfold gS at h;simp(disch:=omega);refine fG w _ _ hw ?_;cases e1:isWord w
 ·rw[e1,Bool.false_and]at h;simp(disch:=omega);exact ae hs1 h
 ·rw[e1,Bool.true_and]at h;simp(disch:=omega);refine fW p _ _ hp ?_;cases e2:a7 p
  ·rw[e2,Bool.false_and]at h;simp(disch:=omega);exact ae hs1 h
  ·rw[e2,Bool.true_and]at h;simp(disch:=omega);refine iI _ ws _ _ hv1 hf hn ?_;simp(disch:=omega);exact ae hs1 h
theorem HH(w p:B8)(v:Value)(ws:List B8)(M:Mem)(R:VP)(hv:Rd M v (strs ws))(hw0:w.length<=9223372036854775807)(hp0:p.length<=9223372036854775807)(hn:ws.length<=9223372036854775807)(hw:∀ w∈ws,w.length<=9223372036854775807)
  (h1:w.length+p.length+(ws.length+gP ws)<=1048576->∀ k:Nat,R (.int .i64 k) M) (h0:R (.int .i64 (-1)) M):ar prog 15 [cQ w p v,.int .i64 1048576] M R:=by
 unfold cQ;refine fnS func15 rfl ntmps15 results15 ?_;obtain⟨a,c,rfl,ha⟩:=hv.opened;rw[ah]at ha hv ⊢;simp(disch:=omega);intro b1 hb1;have hs1:Sub M (M.put b1 (.cells true [str w,str p,.slice a ws.length c] 3)):=(Sub.refl M).put hb1 _;have hv1:=hv.put hb1 (.cells true [str w,str p,.slice a ws.length c] 3);by_cases hc1:(1048576:Int)-w.length<0
 ·simp(disch:=omega)[hc1];exact ae hs1 h0
 by_cases hc2:(1048576:Int)-w.length-p.length<0
 ·simp(disch:=omega)[hc1,hc2];exact ae hs1 h0
 obtain⟨q,hq⟩:∃ q:Nat,(1048576:Int)-w.length-p.length=q:=⟨1048576-w.length-p.length,by omega⟩;simp(disch:=omega)[hc1,hq];refine xp _ ws q _ _ hv1 hn hw (by omega) ?_ ?_
 ·intro hle;obtain⟨k,hk⟩:∃ k,k=q-(ws.length+gP ws):=⟨_,rfl⟩;rw[<-hk];have h1:=h1 (by omega) k;simp(disch:=omega);exact ae hs1 h1
 ·intro hlt;simp(disch:=omega);exact ae hs1 h0
theorem kl(w p:B8)(v:Value)(ws:List B8)(M:Mem)(R:VP)(hv:Rd M v (strs ws))(hn:ws.length<=1048576)(h:∀ v' M',Own M v' (strs ws) M'->R (cQ w p v') M'):ar prog 17 [cQ w p v] M R:=by
 unfold cQ;refine fnS func17 rfl ntmps17 results17 ?_;obtain⟨a,c,rfl,ha⟩:=hv.opened;rw[ah]at ha hv ⊢;simp(disch:=omega);intro b1 hb1;simp(disch:=omega);intro b2 hb2;simp(disch:=omega);intro b3 hb3;have n2:=hb2;have n3:=hb3;rw[aA]at n2;rw[aA,aA]at n3;simp(disch:=omega);refine xi _ ws _ _ (((hv.put hb1 _).put hb2 _).put hb3 _) hn ?_;intro v' M' o;obtain⟨a',c',rfl,_⟩:=o.rd.opened;rw[ah]at o ⊢;have k3:=o.sub _ _ (ag _ _ _);have k2:=o.sub b2 _ ((ai _ _ (Ne.symm n3.1)).trans (ag _ _ _));simp(disch:=omega)[k3];simp only[aj];simp(disch:=omega)[k2];simp only[aj];simp(disch:=omega);have o2:=o.other (b:=b2) ((ai _ _ (Ne.symm n3.1)).trans (ag _ _ _)) (.cells true [str w,str p,.slice a' ws.length c'] 3);have o3:=o2.other (b:=b3) ((ai _ _ n3.1).trans (ag _ _ _)) (.cells true [str w,str p,.slice a' ws.length c'] 3);obtain⟨M'',o4,hs4⟩:=o3.base ((((((Sub.refl M).put hb1 _).put n2.2 _).put n3.2.2 _).put n2.2 _).put n3.2.2 _);exact ae hs4 (h _ _ o4)
end Go.Proofs.YtapimhjbilkfpaaGreatDoor
namespace Go.Proofs.YtapimhjbilkfpaaGreatDoor
open Go Go.Proofs.Tryz Go.RowKit List
def daD(l:B8):Dk:=match eC l with|some (d,_)=>d|none=>⟨[],[],[]⟩
def daB(l:B8):Bool:=(eC l).isSome
theorem iK(l:B8)(M:Mem)(R:VP)(hl:l.length<=1500000)(hvar:bW M)(h:∀ v M',Own M v (strs (daD l).ms) M'->R (.tuple #[dkV (daD l) v,.bool (daB l)]) M'):ar prog 10 [str l] M R:=by
 refine fnS func10 rfl ntmps10 results10 ?_;simp(disch:=omega);intro b1 hb1;have s1:Sub M (M.put b1 (.cells true [str [],str [],.slice none 0 0] 3)):=(Sub.refl M).put hb1 _;have k1:=ag M b1 (.cells true [str [],str [],.slice none 0 0] 3);generalize M.put b1 (.cells true [str [],str [],.slice none 0 0] 3)=N at *;simp(disch:=omega);refine CP l N _ hl (hvar.sub s1) ?_ ?_
 ·intro d t v M' hc o;rw[xJ]at hc;have e1:daD l=d:=by unfold daD;rw[hc]
  have e2:daB l=true:=by unfold daB;rw[hc];rfl
  rw[e1,e2]at h;have k1':=o.sub _ _ k1;obtain⟨M2,o2,s2,n2⟩:=dp s1 o;have m1:=n2 _ _ hb1 k1;have h:=h v M2 o2;have hf:=aT o.rd;unfold dkV at h ⊢;simp(disch:=omega);intro b3 hb3;have n13:b1≠b3:=by rintro rfl;rw[k1']at hb3;cases hb3
  have kq:(M'.put b3 (.cells true [str d.w,str d.p,v] 3)) b1=some (.cells true [str [],str [],.slice none 0 0] 3):=by rw[ai _ _ n13];exact k1'
  have k3:=ag M' b3 (.cells true [str d.w,str d.p,v] 3);have s3:=s2.putN hb3 (.cells true [str d.w,str d.p,v] 3);simp(disch:=omega)[hf,aj,aW];generalize M'.put b3 (.cells true [str d.w,str d.p,v] 3)=P at *;simp(disch:=omega)[k1',aj,hf];exact ae (s3.ovr m1 _) h
 ·intro hc;rw[xJ]at hc;have e1:daD l=⟨[],[],[]⟩:=by unfold daD;rw[hc]
  have e2:daB l=false:=by unfold daB;rw[hc];rfl
  rw[e1,e2]at h;have h:=h (.slice none 0 0) M (Own.nil M);unfold dkV at h;simp(disch:=omega);intro b3 hb3;have n13:b1≠b3:=by rintro rfl;rw[k1]at hb3;cases hb3
  have kq:(N.put b3 (.cells true [str [],str [],.slice none 0 0] 3)) b1=some (.cells true [str [],str [],.slice none 0 0] 3):=by rw[ai _ _ n13];exact k1
  have k3:=ag N b3 (.cells true [str [],str [],.slice none 0 0] 3);have s3:=s1.putN hb3 (.cells true [str [],str [],.slice none 0 0] 3);simp(disch:=omega)[aj,aW];generalize N.put b3 (.cells true [str [],str [],.slice none 0 0] 3)=P at *;simp(disch:=omega)[k1,aj];exact ae (s3.ovr hb1 _) h
theorem iL(l:B8)(M:Mem)(R:VP)(hl:l.length<=1500000)(h:∀ v M',Own M v (strs (daD l).ms) M'->R (.tuple #[dkV (daD l) v,.bool (daB l)]) M'):ar prog 11 [str l] M R:=by
 refine fnS func11 rfl ntmps11 results11 ?_;simp(disch:=omega);intro b1 hb1;have s1:Sub M (M.put b1 (.cells true [str [],str [],.slice none 0 0] 3)):=(Sub.refl M).put hb1 _;have k1:=ag M b1 (.cells true [str [],str [],.slice none 0 0] 3);generalize M.put b1 (.cells true [str [],str [],.slice none 0 0] 3)=N at *;simp(disch:=omega);refine CS l N _ hl ?_ ?_
 ·intro d t v M' hc o
  skip
  have e1:daD l=d:=by unfold daD;rw[hc]
  have e2:daB l=true:=by unfold daB;rw[hc];rfl
  rw[e1,e2]at h;have k1':=o.sub _ _ k1;obtain⟨M2,o2,s2,n2⟩:=dp s1 o;have m1:=n2 _ _ hb1 k1;have h:=h v M2 o2;have hf:=aT o.rd;unfold dkV at h ⊢;simp(disch:=omega);intro b3 hb3;have n13:b1≠b3:=by rintro rfl;rw[k1']at hb3;cases hb3
  have kq:(M'.put b3 (.cells true [str d.w,str d.p,v] 3)) b1=some (.cells true [str [],str [],.slice none 0 0] 3):=by rw[ai _ _ n13];exact k1'
  have k3:=ag M' b3 (.cells true [str d.w,str d.p,v] 3);have s3:=s2.putN hb3 (.cells true [str d.w,str d.p,v] 3);simp(disch:=omega)[hf,aj,aW];generalize M'.put b3 (.cells true [str d.w,str d.p,v] 3)=P at *;simp(disch:=omega)[k1',aj,hf];exact ae (s3.ovr m1 _) h
 ·intro hc
  skip
  have e1:daD l=⟨[],[],[]⟩:=by unfold daD;rw[hc]
  have e2:daB l=false:=by unfold daB;rw[hc];rfl
  rw[e1,e2]at h;have h:=h (.slice none 0 0) M (Own.nil M);unfold dkV at h;simp(disch:=omega);intro b3 hb3;have n13:b1≠b3:=by rintro rfl;rw[k1]at hb3;cases hb3
  have kq:(N.put b3 (.cells true [str [],str [],.slice none 0 0] 3)) b1=some (.cells true [str [],str [],.slice none 0 0] 3):=by rw[ai _ _ n13];exact k1
  have k3:=ag N b3 (.cells true [str [],str [],.slice none 0 0] 3);have s3:=s1.putN hb3 (.cells true [str [],str [],.slice none 0 0] 3);simp(disch:=omega)[aj,aW];generalize N.put b3 (.cells true [str [],str [],.slice none 0 0] 3)=P at *;simp(disch:=omega)[k1,aj];exact ae (s3.ovr hb1 _) h
def zDk:Dk:=⟨[],[],[]⟩
def rlD(d:Dk)(l:B8):Dk:=if gS d.w d.p d.ms then (eL d l).1 else zDk
def rlT(d:Dk)(l:B8):B8:=if gS d.w d.p d.ms then (eL d l).2 else []
theorem Ef{d:Dk}(h:gS d.w d.p d.ms=true):d.ok:=by
 unfold gS at h;rw[Bool.and_eq_true,Bool.and_eq_true]at h;exact h
set_option maxHeartbeats 1000000 in
theorem fR(d:Dk)(v:Value)(l:B8)(M:Mem)(R:VP)(hw:d.w.length<=1099511627776)(hp:d.p.length<=1099511627776)(hfi:cP d.ms)(hn:d.ms.length<=1099511627776)(hvar:bW M)(hv:Rd M v (strs d.ms))(hl:l.length<=1500000)
  (h:∀ v' M',Own M v' (strs (rlD d l).ms) M'->R (.tuple #[dkV (rlD d l) v',str (rlT d l)]) M'):ar prog 14 [dkV d v,str l] M R:=by
 have hf:=aT hv;unfold dkV at h ⊢;refine fnS func14 rfl ntmps14 results14 ?_;simp(disch:=omega);intro b1 hb1;have h1:Sub M (M.put b1 (.cells true [str d.w,str d.p,v] 3)):=(Sub.refl M).put hb1 _;simp(disch:=omega);intro b2 hb2;have h2:=hb2;rw[aA]at h2;have sN:=h1.putN hb2 (.cells true [str [],str [],.slice none 0 0] 3);have k1:((M.put b1 (.cells true [str d.w,str d.p,v] 3)).put b2 (.cells true [str [],str [],.slice none 0 0] 3)) b1=some (.cells true [str d.w,str d.p,v] 3):=by rw[ai _ _ (Ne.symm h2.1)];exact ag _ _ _
 have k2:((M.put b1 (.cells true [str d.w,str d.p,v] 3)).put b2 (.cells true [str [],str [],.slice none 0 0] 3)) b2=some (.cells true [str [],str [],.slice none 0 0] 3):=ag _ _ _;generalize (M.put b1 (.cells true [str d.w,str d.p,v] 3)).put b2 (.cells true [str [],str [],.slice none 0 0] 3)=N at *;have hvN:=hv.sub sN;simp(disch:=omega)[aq k1];refine Ib d.w d.p v d.ms _ _ hvN hw hp hfi hn ?_;unfold rlD rlT at h;cases hd:gS d.w d.p d.ms
 ·rw[hd]at h;have h:=h (.slice none 0 0) M (Own.nil M);unfold zDk at h;simp(disch:=omega)[k2,aj];exact ae (sN.ovr h2.2 _) h
 ·rw[hd]at h;have hok:=Ef hd;simp(disch:=omega)[aq k1];refine H5 d v l _ _ hok (hvar.sub sN) hvN hl ?_;intro d' v' t M4 hgv hr;have hro:=uZ hok l;rw[if_pos rfl,hr]at h;rw[hr]at hro;have hf':=eD hf hgv;have k2':=cU hgv _ _ k2;have hv4:=Qo hvN hgv;have s4:=sN.trans (cU hgv);unfold dkV;simp(disch:=omega);intro b6 hb6;have n26:b2≠b6:=by rintro rfl;rw[k2']at hb6;cases hb6
  have k2q:(M4.put b6 (.cells true [str d'.w,str d'.p,v'] 3)) b2=some (.cells true [str [],str [],.slice none 0 0] 3):=by rw[ai _ _ n26];exact k2'
  have k6q:=ag M4 b6 (.cells true [str d'.w,str d'.p,v'] 3);have s5:=s4.putN hb6 (.cells true [str d'.w,str d'.p,v'] 3);have hv5:=hv4.sub ((Sub.refl M4).put hb6 (.cells true [str d'.w,str d'.p,v'] 3));simp(disch:=omega)[hf',aj,aW];generalize M4.put b6 (.cells true [str d'.w,str d'.p,v'] 3)=M5 at *;refine B6 d' v' _ _ hro.2.2 hv5 ?_;intro v7 M7 o7;have q2:=o7.sub _ _ k2q;have hf7:=aT o7.rd;obtain⟨M',o8,s8,n8⟩:=dp s5 o7;have m2:=n8 _ _ h2.2 k2q;have h:=h v7 M' o8;unfold dkV;simp(disch:=omega)[q2,aj,hf7];exact ae (s8.ovr m2 _) h
set_option maxHeartbeats 1000000 in
theorem tN(d:Dk)(v:Value)(l:B8)(M:Mem)(R:VP)(hw:d.w.length<=1099511627776)(hp:d.p.length<=1099511627776)(hfi:cP d.ms)(hn:d.ms.length<=1099511627776)(hv:Rd M v (strs d.ms))(hl:l.length<=1500000)
  (h:∀ v' M',Own M v' (strs (rlD d l).ms) M'->R (.tuple #[dkV (rlD d l) v',str (rlT d l)]) M'):ar prog 16 [dkV d v,str l] M R:=by
 cases hd:gS d.w d.p d.ms
 ·unfold rlD rlT at h;rw[hd]at h;have h:=h (.slice none 0 0) M (Own.nil M);have hf:=aT hv;unfold zDk dkV at h;unfold dkV;refine fnS func16 rfl ntmps16 results16 ?_;simp(disch:=omega);intro b1 hb1;have h1:Sub M (M.put b1 (.cells true [str d.w,str d.p,v] 3)):=(Sub.refl M).put hb1 _;simp(disch:=omega);intro b2 hb2;have h2:=hb2;rw[aA]at h2;have sN:=h1.putN hb2 (.cells true [str [],str [],.slice none 0 0] 3);have k1:((M.put b1 (.cells true [str d.w,str d.p,v] 3)).put b2 (.cells true [str [],str [],.slice none 0 0] 3)) b1=some (.cells true [str d.w,str d.p,v] 3):=by rw[ai _ _ (Ne.symm h2.1)];exact ag _ _ _
  have k2:((M.put b1 (.cells true [str d.w,str d.p,v] 3)).put b2 (.cells true [str [],str [],.slice none 0 0] 3)) b2=some (.cells true [str [],str [],.slice none 0 0] 3):=ag _ _ _;generalize (M.put b1 (.cells true [str d.w,str d.p,v] 3)).put b2 (.cells true [str [],str [],.slice none 0 0] 3)=N at *;have hvN:=hv.sub sN;simp(disch:=omega)[aq k1];refine Gp d.w d.p v d.ms _ _ hvN hw hp hfi hn ?_;rw[hd];simp(disch:=omega)[k2,aj];exact ae (sN.ovr h2.2 _) h
 ·have hok:=Ef hd;unfold rlD rlT at h;rw[hd,if_pos rfl,if_pos rfl]at h;exact ff d v l M R hok hv hl h
end Go.Proofs.YtapimhjbilkfpaaGreatDoor
namespace Go.Proofs.YtapimhjbilkfpaaGreatDoor
open Go Go.Proofs.Tryz List
theorem yY{c:UInt8}:∀ {w:B8},(∀ u∈w,u≠c)->spR c w=[w]
 | [],_=>rfl
 | b::w,h=>by
  unfold spR;rw[if_neg (h b (by simp)),yY fun u hu=>h u (mem_cons_of_mem _ hu)];rfl
theorem Cy(s:Dk×B8):cf s []=s:=by unfold cf;rw[if_pos rfl]
theorem DA(c:UInt8)(b:B8):∀ a:B8,spR c (a++c::b)=spR c a++spR c b
 | []=>by
  show spR c (c::b)=[]::spR c b
  conv=>lhs;unfold spR
  rw[if_pos rfl]
 | x::a=>by
  have ih:=DA c b a;have hne:=fo c a;have e1:spR c (x::(a++c::b))=if x=c then []::spR c (a++c::b) else (x::(spR c (a++c::b)).headD [])::(spR c (a++c::b)).tail:=rfl
  have e2:spR c (x::a)=if x=c then []::spR c a else (x::(spR c a).headD [])::(spR c a).tail:=rfl
  show spR c (x::(a++c::b))=spR c (x::a)++spR c b;rw[e1,e2,ih];cases ha:spR c a with
  | nil=>exact absurd ha hne
  | cons y ys=>split<;>rfl
theorem B9(a b:B8):bR (a++10::b)=spR 10 a++bR b:=by
 have e:=DA 10 b a;unfold bR;have hl:(spR 10 (a++10::b)).getLast (fo 10 _)=(spR 10 b).getLast (fo 10 _):=by
  have:∀(x y z:List B8) (hx:x≠[]) (hz:z≠[]),x=y++z->x.getLast hx=z.getLast hz:=by
   intro x y z hx hz e;subst e;exact getLast_append_of_ne_nil hx hz
  exact this _ _ _ _ _ e
 rw[hl,e];split
 ·rw[dropLast_append_of_ne_nil (fo 10 b)]
 ·rfl
theorem NY(a:B8):bR (a++[10])=spR 10 a:=by
 rw[B9,je,append_nil]
theorem Re(l:B8)(s:Dk×B8):(bR l).foldl cf s=(spR 10 l).foldl cf s:=by
 unfold bR;split
 ·rename_i h;have e:=dropLast_concat_getLast (fo 10 l);rw[h]at e
  conv=>rhs;rw[<-e,foldl_append]
  exact(Cy _).symm
 ·rfl
theorem Pz(s:Dk×B8)(l:B8):s.2 <+: (cf s l).2:=by
 unfold cf;split
 ·exact prefix_refl _
 ·rw[append_assoc];exact prefix_append _ _
theorem Fw:∀(ls:List B8) (s:Dk×B8),s.2 <+: (ls.foldl cf s).2
 | [],s=>prefix_refl _
 | l::ls,s=>(Pz s l).trans (Fw ls (cf s l))
theorem zE(ls:List B8):iQ ls ls.length=ls.foldl cf (dW,[]):=by unfold iQ;rw[take_length]
theorem Cb{l:B8}{p:Dk×B8}(h:eC l=some p):l.length<=4000/\(bR l).length<=40/\(bR l).foldl cf (dW,[])=p:=by
 unfold eC at h;split at h
 ·rename_i h1;injection h with h
  exact⟨h1.1,h1.2,by rw[<-zE];exact h⟩
 ·cases h
theorem Gj{l:B8}{k:Nat}{p:Dk×B8}(hk:k<=l.length)(h:k=0\/l[k-1]?=some 10)(hc:eC l=some p):∃ q,eC (l.take k)=some q/\q.2 <+: p.2:=by
 obtain⟨h1,h2,h3⟩:=Cb hc;have hs:bR l=bR (l.take k)++bR (l.drop k):=by
  rcases h with rfl|h
  ·rw[take_zero,drop_zero,je];rfl
  ·by_cases hz:k=0
   ·subst hz;rw[take_zero,drop_zero,je];rfl
   have e1:l.take k=l.take (k-1)++[10]:=by
    have hlt:k-1<l.length:=by omega
    have hv:l[k-1]=10:=by rw[gEl hlt]at h;injection h
    have:=aw l hlt;rw[hv]at this;rw[<-this];congr 1;omega
   have e2:l=l.take (k-1)++10::l.drop k:=by
    conv=>lhs;rw[<-take_append_drop k l,e1]
    rw[append_assoc];rfl
   conv=>lhs;rw[e2,B9]
   rw[e1,NY]
 have hle:(bR (l.take k)).length<=(bR l).length:=by rw[hs,lAp];omega
 refine⟨(bR (l.take k)).foldl cf (dW,[]),?_,?_⟩
 ·unfold eC;rw[if_pos ⟨by rw[lTa];omega,by omega⟩,zE]
 ·rw[<-h3,hs,foldl_append];exact Fw _ _
theorem Ou{l:B8}{b i:Nat}{s p:Dk×B8}(hb:b<=i)(hi:l[i]?=some 10)(hn:∀ u∈(l.take i).drop b,u≠10)(h:(spR 10 (l.drop b)).foldl cf s=p):(spR 10 (l.drop (i+1))).foldl cf (cf s ((l.take i).drop b))=p:=by
 have hlt:i<l.length:=by
  rcases Nat.lt_or_ge i l.length with h|h
  ·exact h
  ·rw[getElem?_eq_none h]at hi;cases hi
 have hv:l[i]=10:=by rw[gEl hlt]at hi;injection hi
 have e:l.drop b=(l.take i).drop b++10::l.drop (i+1):=by
  conv=>lhs;rw[<-take_append_drop i l,drop_eq_getElem_cons hlt,hv]
  rw[drop_append_of_le_length (by rw[lTa];omega)]
 rw[e,DA,yY hn]at h;exact h
theorem NF{l:B8}{b:Nat}{s p:Dk×B8}(hn:∀ u∈(l.take l.length).drop b,u≠10)(h:(spR 10 (l.drop b)).foldl cf s=p):cf s ((l.take l.length).drop b)=p:=by
 rw[take_length]at hn ⊢;rw[yY hn]at h;exact h
theorem NO{l:B8}{b i:Nat}{u:UInt8}(hb:b<=i)(hi:l[i]?=some u)(hu:u≠10)(hn:∀ u∈(l.take i).drop b,u≠10):∀ u∈(l.take (i+1)).drop b,u≠10:=by
 have hlt:i<l.length:=by
  rcases Nat.lt_or_ge i l.length with h|h
  ·exact h
  ·rw[getElem?_eq_none h]at hi;cases hi
 have hv:l[i]=u:=by rw[gEl hlt]at hi;injection hi
 rw[aw l hlt,drop_append_of_le_length (by rw[lTa];omega),hv];intro x hx;rcases List.mem_append.1 hx with hx|hx
 ·exact hn x hx
 ·rw[List.mem_singleton.1 hx];exact hu
end Go.Proofs.YtapimhjbilkfpaaGreatDoor
