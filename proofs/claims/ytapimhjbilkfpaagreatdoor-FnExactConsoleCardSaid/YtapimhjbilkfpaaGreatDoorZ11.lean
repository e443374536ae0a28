/- Lemmas for FnExactDeskAfter, part 12 of 33. -/
import Derived.Test.YtapimhjbilkfpaaGreatDoorZ10
set_option linter.unusedVariables false
set_option linter.unusedSimpArgs false
namespace Go.Proofs.YtapimhjbilkfpaaGreatDoor
open Go Go.Proofs.Tryz List
def encS:Cell->Int
 | (some s,_)=>s
 | (none,_)=>-1
theorem iW{c:Cell}(h:c.1=none):encS c = -1:=by
 obtain⟨o,b⟩:=c;cases o with
 | none=>rfl
 | some s=>cases h
theorem eP{c:Cell}{s:Nat}(h:c.1=some s):encS c=s:=by
 obtain⟨o,b⟩:=c;cases o with
 | none=>cases h
 | some x=>injection h with h;subst h;rfl
def kH(i:Nat)(c:Cell)(t:List Cell):List Int:=replicate i 0++(encS c::t.map encS)
theorem HA(i:Nat)(c:Cell)(t:List Cell):(kH i c t).length=i+1+t.length:=by simp[kH];omega
theorem Qu(i:Nat)(c:Cell)(t:List Cell):(kH i c t)[i]?=some (encS c):=by
 unfold kH;rw[getElem?_append_right (by simp)];simp
theorem Rz(i j:Nat)(c:Cell)(t:List Cell)(h:j<t.length):(kH i c t)[i+(j+1)]?=some (encS t[j]):=by
 unfold kH;rw[getElem?_append_right (by rw[length_replicate];omega),length_replicate,show i+(j+1)-i=j+1 by omega,getElem?_cons_succ,getElem?_map,gEl h];rfl
theorem Hu(i:Nat)(c c':Cell)(t:List Cell):(kH i c t).set i (encS c')=kH i c' t:=by
 unfold kH;rw[set_append_right _ _ (by simp),length_replicate,Nat.sub_self,set_cons_zero]
def j9(i:Nat)(t:List Cell):List Int:=replicate i 0++t.map encS
theorem Kl(i:Nat)(c:Cell)(t:List Cell):j9 i (c::t)=kH i c t:=rfl
theorem MZ(i:Nat)(t:List Cell):(j9 (i+1) t).set i (-1)=kH i (none,0) t:=by
 unfold j9 kH;rw[replicate_succ',append_assoc,set_append_right _ _ (by simp),length_replicate,Nat.sub_self];rfl
theorem Jh(n:Nat):replicate (n+1) (0:Int)=j9 n [(some 0,0)]:=by
 unfold j9;rw[replicate_succ'];rfl
theorem Mp(t:List Cell)(i:Nat):(j9 0 t)[i]?=t[i]?.map encS:=by
 unfold j9;rw[replicate_zero,nil_append,getElem?_map]
theorem Jq{w own:B8}{i:Nat}(h:i+own.length<=w.length):((w.take (i+own.length)).drop i==own)=own.isPrefixOf (w.drop i):=by
 rw[drop_take,show i+own.length-i=own.length by omega,qn (w.drop i) own (by rw[length_drop];omega)]
set_option maxHeartbeats 4000000 in
set_option maxRecDepth 4000 in
theorem qY(v:Value)(ws:List B8)(w:B8)(M:Mem)(R:VP)(hv:Rd M v (strs ws))(hf:cP ws)(hn:ws.length<=1099511627776)(hl:w.length<=1099511627776)(h:R (aE (str (pS ws w)) (pM ws w)) M):ar prog 118 [.agg #[v],str w] M R:=by
 refine fnS func118 rfl ntmps118 results118 ?_;obtain⟨a,c,rfl,ha⟩:=hv.opened;rw[ah]at ha hv ⊢;simp(disch:=omega);intro b2 hb2;have hs2:Sub M (M.put b2 (.cells true [.slice a ws.length c] 1)):=(Sub.refl M).put hb2 _;have hv2:=hv.put hb2 (.cells true [.slice a ws.length c] 1);have k2:(M.put b2 (.cells true [.slice a ws.length c] 1)) b2=some (.cells true [.slice a ws.length c] 1):=ag _ _ _;simp(disch:=omega);generalize M.put b2 (.cells true [.slice a ws.length c] 1)=N1 at *;refine sW _ ws w _ _ hv2 hf hn hl ?_;unfold pS pM at h;by_cases h0:il ws w=0
 ·obtain⟨hm,hw⟩:=qz h0;rw[if_pos h0,if_pos h0]at h;have h15:=aV hm;have h60:=au hw;rw[h0];rcases ha with hz|⟨b,o,rfl,ha⟩
  ·omega
  have hget:∀ k,(hk:k<ws.length)->N1.get? b (o+k)=some (str ws[k]):=by
   intro k hk;have hg0:=ha k hk;rw[ba,gEl hk]at hg0;exact aX hg0 hs2
  have er:((w.length:Int)+1).toNat=w.length+1:=by omega
  have eI:replicate (w.length+1) (Value.int .i64 0)=ints (j9 w.length [(some 0,0)]):=by rw[HF,Jh]
  simp(disch:=omega)[er];intro b8 hb8;simp only[length_replicate];simp only[eI];simp(disch:=omega);refine lupS (rlA [9,10,11,12] 30 75) (fun m:Nat=>[(9,.int .i64 ((w.length:Int)-1-m))]) (fun m M'=>m<=w.length/\M'=N1.put b8 (.cells true (ints (j9 (w.length-m) (cX w ws m))) (w.length+1))) (fun m=>w.length-m) 0 ⟨by omega,rfl⟩ ?_
  rintro m M' g ⟨hmn,rfl⟩
  have htl:=nA w ws m;have htle:=oN w ws m;by_cases hlt:m<w.length
  ·obtain⟨i,hi⟩:∃ i,i=w.length-(m+1):=⟨_,rfl⟩;have ei:(w.length:Int)-1-m=(i:Int):=by omega
   have hc1:cX w ws (m+1)=dc w ws (cX w ws m) i ws.length::cX w ws m:=by rw[hi];rfl
   rw[show w.length-m=i+1 by omega,ei];have hhs:=MZ i (cX w ws m);have hhl:(j9 (i+1) (cX w ws m)).length=w.length+1:=by unfold j9;simp;omega
   have hset:(ints (j9 (i+1) (cX w ws m))).set i (.int .i64 (-1))=ints (kH i (none,0) (cX w ws m)):=by rw[<-hhs,<-ints_set]
   generalize cX w ws m=t at *;simp(disch:=omega)[hset];have hil:i+1+m=w.length:=by omega
   refine lupS (rlA [10,11,12] 37 68) (fun k:Nat=>[(10,.int .i64 k)]) (fun k M1=>k<=ws.length/\M1=N1.put b8 (.cells true (ints (kH i (dc w ws t i k) t)) (w.length+1))) (fun k=>ws.length-k) 0 ⟨by omega,rfl⟩ ?_
   rintro k M1 g1 ⟨hk,rfl⟩
   have hcs:=yx w ws t i k;have hcle:=fun x=>EX (w:=w) (ws:=ws) (i:=i) htle k x;generalize hcur:dc w ws t i k=cur at *;have sN:Sub N1 (N1.put b8 (.cells true (ints (kH i cur t)) (w.length+1))):=(Sub.refl N1).put hb8 _;have l2:=sN _ _ k2;by_cases hkl:k<ws.length
   ·have hgk:=hget k hkl;have hgd:ws.getD k []=ws[k]:=by rw[gDe,gEl hkl];rfl
    rw[hgd]at hcs;obtain⟨own,hown⟩:∃ own,own=ws[k]:=⟨_,rfl⟩;rw[<-hown]at hgk hcs;have hIv:(ints (kH i cur t))[i]?=some (.int .i64 (encS cur)):=by rw[cD,Qu i cur t];rfl
    have hIl:=HA i cur t;have hgk2:=aX hgk sN;have hown12:own.length<=12:=by rw[hown];exact(bL hm (getElem_mem hkl)).1
    have hdl:(w.drop i).length=m+1:=by rw[length_drop];omega
    simp(disch:=omega)[al l2,hgk2];by_cases h1:own=[]
    ·have hc0:iz w t i own=none:=by unfold iz;rw[if_pos h1]
     rw[hc0]at hcs;subst h1;simp(disch:=omega);refine rndS (k+1) ⟨by omega,?_⟩;rw[hcs];rfl
    ·have he:own.isEmpty=false:=by cases own with
      | nil=>exact absurd rfl h1
      | cons a l=>rfl
     have ho1:1<=own.length:=by cases own with
      | nil=>exact absurd rfl h1
      | cons a l=>simp
     by_cases hlong:w.length<i+own.length
     ·have hpre:own.isPrefixOf (w.drop i)=false:=uD (by omega);have hc0:iz w t i own=none:=by unfold iz;rw[if_neg h1,hpre];rfl
      rw[hc0]at hcs;have hlong':(w.length:Int)<(i:Int)+own.length:=by omega
      simp(disch:=omega)[he,hlong'];refine rndS (k+1) ⟨by omega,?_⟩;rw[hcs];rfl
     ·have hlong':¬(w.length:Int)<(i:Int)+own.length:=by omega
      have ea:((i:Int)+own.length).toNat=i+own.length:=by omega
      have hab:=Jq (w:=w) (own:=own) (i:=i) (by omega);cases hpre:own.isPrefixOf (w.drop i)
      ·have hc0:iz w t i own=none:=by unfold iz;rw[if_neg h1,hpre];rfl
       rw[hc0]at hcs;rw[hpre]at hab;simp(disch:=omega)[he,hlong',ea,hab];refine rndS (k+1) ⟨by omega,?_⟩;rw[hcs];rfl
      ·rw[hpre]at hab;have htj:own.length-1<t.length:=by omega
       have hc0:iz w t i own=(t[own.length-1]).1:=by
        unfold iz;rw[if_neg h1,hpre,if_pos rfl,gDe,gEl htj];rfl
       rw[hc0]at hcs;have hIt:=Rz i (own.length-1) cur t htj;rw[show i+(own.length-1+1)=i+own.length by omega]at hIt;have hte:=htle _ (getElem_mem htj);generalize t[own.length-1]=ce at *;have hIt2:(ints (kH i cur t))[i+own.length]?=some (.int .i64 (encS ce)):=by rw[cD,hIt];rfl
       cases hce:ce.1 with
       | none=>
        rw[hce]at hcs;have hneg:encS ce<0:=by rw[iW hce];decide
        generalize encS ce=ec at *;simp(disch:=omega)[he,hlong',ea,hab,hIt2,hneg];refine rndS (k+1) ⟨by omega,?_⟩;rw[hcs];rfl
       | some s=>
        rw[hce]at hcs;have hes:=eP hce;have hs60:=hte s hce;rw[hes]at hIt2;cases hcu:cur.1 with
        | none=>
         have hup:kK cur k (some s)=(some (s+1),k):=by unfold kK;rw[hcu]
         rw[hup]at hcs;have hneg:encS cur<0:=by rw[iW hcu];decide
         have hs1:=Hu i cur (some (s+1),k) t;have hs1':(ints (kH i cur t)).set i (.int .i64 ((1:Int)+(s:Nat)))=ints (kH i (some (s+1),k) t):=by
          rw[<-hs1,<-ints_set,show encS (some (s+1),k)=((s+1:Nat):Int) from rfl,show ((1:Int)+(s:Nat))=((s+1:Nat):Int) by omega]
         generalize encS cur=ecu at *;simp(disch:=omega)[he,hlong',ea,hab,hIt2,hIv,hneg,hs1'];refine rndS (k+1) ⟨by omega,?_⟩;rw[hcs]
        | some x=>
         have hex:=eP hcu;have hxle:=hcle x hcu;rw[hex]at hIv;by_cases hlt2:s+1<x
         ·have hup:kK cur k (some s)=(some (s+1),k):=by unfold kK;rw[hcu];exact if_pos hlt2
          rw[hup]at hcs;have hl2':(1:Int)+(s:Nat)<(x:Nat):=by omega
          have hs1:=Hu i cur (some (s+1),k) t;have hs1':(ints (kH i cur t)).set i (.int .i64 ((1:Int)+(s:Nat)))=ints (kH i (some (s+1),k) t):=by
           rw[<-hs1,<-ints_set,show encS (some (s+1),k)=((s+1:Nat):Int) from rfl,show ((1:Int)+(s:Nat))=((s+1:Nat):Int) by omega]
          simp(disch:=omega)[he,hlong',ea,hab,hIt2,hIv,hl2',hs1'];refine rndS (k+1) ⟨by omega,?_⟩;rw[hcs]
         ·have hup:kK cur k (some s)=cur:=by unfold kK;rw[hcu];exact if_neg hlt2
          rw[hup]at hcs;have hl2':¬(1:Int)+(s:Nat)<(x:Nat):=by omega
          simp(disch:=omega)[he,hlong',ea,hab,hIt2,hIv,hl2'];refine rndS (k+1) ⟨by omega,?_⟩;rw[hcs]
   ·have hk':k=ws.length:=by omega
    subst hk';simp(disch:=omega)[al l2];refine rndA (m+1) (by simp(disch:=omega);omega) ⟨by omega,?_⟩;rw[show w.length-(m+1)=i by omega,hc1,Kl,hcur]
  ·have hm':m=w.length:=by omega
   subst hm';have hent:∀ i,i<=w.length->(cX w ws w.length)[i]?=some (cO w ws i):=fun i hi=>by
    rw[sh w ws w.length i hi (lRf _),Nat.sub_self,Nat.zero_add]
   rw[Nat.sub_self];have hI0:∀ i,i<=w.length->(ints (j9 0 (cX w ws w.length)))[i]?=some (.int .i64 (encS (cO w ws i))):=fun i hi=>by rw[cD,Mp,hent i hi];rfl
   generalize ints (j9 0 (cX w ws w.length))=LI at *;have sN:Sub N1 (N1.put b8 (.cells true LI (w.length+1))):=(Sub.refl N1).put hb8 _;have l2:=sN _ _ k2;have hI00:=hI0 0 (by omega);simp(disch:=omega)[hI00];cases he0:(cO w ws 0).1 with
   | none=>
    rw[he0]at h;have e61:encS (cO w ws 0)<0:=by rw[iW he0];decide
    simp(disch:=omega)[e61];exact ae (hs2.trans sN) h
   | some x0=>
    rw[he0]at h;have e61:¬ encS (cO w ws 0)<0:=by rw[eP he0];omega
    simp(disch:=omega)[e61];refine lupS (rlA [13,14,15,16] 109 71) (fun x:Nat×B8=>[(14,.int .i64 x.1),(13,str x.2)]) (fun x M'=>M'=N1.put b8 (.cells true LI (w.length+1))/\x.1<=w.length/\(∃ y,(cO w ws x.1).1=some y)/\∃ f,w.length<=x.1+f/\x.2++iO w ws f x.1=iO w ws w.length 0) (fun x=>w.length-x.1) (0,[]) ⟨rfl,by omega,⟨x0,he0⟩,w.length,by omega,rfl⟩ ?_
    rintro⟨i,out⟩ M' g ⟨rfl,hi,⟨y,hy⟩,f,hf2,hout⟩
    simp only at hi hy hf2 hout;have hol:=congrArg length hout;have hofl:=zU w ws w.length 0;rw[lAp]at hol;by_cases hlt:i<w.length
    ·obtain⟨w1,w2,w3,⟨s,w4,w5⟩,w6,w7⟩:=ES hlt hy;obtain⟨f,rfl⟩:∃ f',f=f'+1:=⟨f-1,by omega⟩;have hof:iO w ws (f+1) i=ltr (cO w ws i).2::iO w ws f (i+(ws.getD (cO w ws i).2 []).length):=by
      conv=>lhs;unfold iO
      rw[if_pos hlt]
     rw[hof]at hout;have hIi:=hI0 i hi;rw[eP hy]at hIi;have hyl:y<=w.length:=oN w ws w.length _ (mem_of_getElem? (hent i hi)) y hy;simp(disch:=omega);refine lupS (rlA [13,14,15,16] 112 68) (fun k:Nat=>[(15,.int .i64 k),(14,.int .i64 i),(13,str out)]) (fun k M1=>M1=N1.put b8 (.cells true LI (w.length+1))/\k<=(cO w ws i).2) (fun k=>ws.length-k) 0 ⟨rfl,lZe _⟩ ?_
     rintro k M1 g1 ⟨rfl,hkb⟩
     have hkl:k<ws.length:=by omega
     have hgd:ws.getD k []=ws[k]:=by rw[gDe,gEl hkl];rfl
     have hgb:=aX (hget _ hkl) sN;rw[<-hgd]at hgb;obtain⟨own,hown⟩:∃ own,own=ws.getD k []:=⟨_,rfl⟩;rw[<-hown]at hgb;have hown12:own.length<=12:=by
      rw[hown,hgd];exact(bL hm (getElem_mem hkl)).1
     simp(disch:=omega)[al l2,hgb];refine drwS ?_;by_cases hke:k=(cO w ws i).2
     ·rw[<-hke,<-hown]at w2 w3 w4 w6 hout;rw[<-hke]at w1;have hob:1<=own.length:=by
       cases hq:own with
       | nil=>exact absurd hq w2
       | cons a l=>simp
      have hIe:=hI0 (i+own.length) w6;rw[eP w4]at hIe;have hab:=Jq (w:=w) (own:=own) (i:=i) w6;rw[w3]at hab;clear hown;have he:own.isEmpty=false:=by cases own with
       | nil=>exact absurd rfl w2
       | cons a l=>rfl
      have ea:((i:Int)+own.length).toNat=i+own.length:=by omega
      have hle':(i:Int)+own.length<=w.length:=by omega
      have hs0:(0:Int)<=(s:Nat):=by omega
      have hbq:((y:Int)==(1:Int)+(s:Nat))=true:=by rw[beq_iff_eq];omega
      have hrl:=zc (i:=k) (by omega);simp(disch:=omega)[he,ea,hle',hab,hIe,hIi,hs0,hbq];simp(disch:=omega)[uP,hrl];refine rndS (i+own.length,out++[ltr k]) ⟨rfl,by simp only;omega,⟨s,w4⟩,f,by simp only;omega,?_⟩;simp only;rw[append_assoc];exact hout
     ·have hkb':k<(cO w ws i).2:=by omega
      have hno:=w7 k hkb';rw[<-hown]at hno;clear hown;by_cases h1:own=[]
      ·subst h1;simp(disch:=omega);exact rndS (k+1) ⟨rfl,by omega⟩
      ·have he:own.isEmpty=false:=by cases own with
        | nil=>exact absurd rfl h1
        | cons a l=>rfl
       by_cases hlong:i+own.length<=w.length
       ·have hle':(i:Int)+own.length<=w.length:=by omega
        have ea:((i:Int)+own.length).toNat=i+own.length:=by omega
        have hab:=Jq (w:=w) (own:=own) (i:=i) hlong;cases hpre:own.isPrefixOf (w.drop i)
        ·rw[hpre]at hab;simp(disch:=omega)[he,ea,hle',hab];exact rndS (k+1) ⟨rfl,by omega⟩
        ·rw[hpre]at hab;have hIe:=hI0 (i+own.length) hlong;cases hce:(cO w ws (i+own.length)).1 with
         | none=>
          have hneg:¬ 0<=encS (cO w ws (i+own.length)):=by rw[iW hce];decide
          generalize encS (cO w ws (i+own.length))=ec at *;simp(disch:=omega)[he,ea,hle',hab,hIe,hneg];exact rndS (k+1) ⟨rfl,by omega⟩
         | some s'=>
          have hns:=hno h1 hpre s' hce;have hsl:s'<=w.length:=oN w ws w.length _ (mem_of_getElem? (hent _ hlong)) s' hce;rw[eP hce]at hIe;have hs0:(0:Int)<=(s':Nat):=by omega
          have hbq:((y:Int)==(1:Int)+(s':Nat))=false:=bNe.2 (by omega);simp(disch:=omega)[he,ea,hle',hab,hIe,hIi,hs0,hbq];exact rndS (k+1) ⟨rfl,by omega⟩
       ·have hle':¬(i:Int)+own.length<=w.length:=by omega
        simp(disch:=omega)[he,hle'];exact rndS (k+1) ⟨rfl,by omega⟩
    ·have hi':i=w.length:=by omega
     rw[G6 hlt,append_nil]at hout;rw[<-hout]at h;simp(disch:=omega);exact ae (hs2.trans sN) h
 ·rw[if_neg h0,if_neg h0]at h;have hb:(il ws w==0)=false:=bNe.2 h0;generalize il ws w=code at *;simp(disch:=omega)[hb];exact ae hs2 h
end Go.Proofs.YtapimhjbilkfpaaGreatDoor
namespace Go.Proofs.YtapimhjbilkfpaaGreatDoor
open Go Go.Proofs.Tryz Go.RowKit List
theorem vI(v:Value)(ws:List B8)(sep:B8)(M:Mem)(R:VP)(hv:Rd M v (strs ws))(h1:1<=ws.length)(hn:ws.length<=1000000)(hlen:(Lib.join ws sep).length<=140737488355328)(h:R (str (Lib.join ws sep)) M):ar prog 300 [v,str sep] M R:=by
 rcases hv with ⟨_,_,_,h0⟩|⟨b,o,c,rfl,hs,hc⟩
 ·have:=congrArg length h0;rw[ah,length_nil]at this;omega
 rw[ah]at hc ⊢;refine dt (str (Lib.join ws sep)) ⟨_,func300,by kernel_rfl,by kernel_rfl⟩ (fun w hw=>?_) h;have hml:(ws.map fun l:B8=>(⟨⟨l⟩⟩:ByteArray)).length=ws.length:=by simp
 have hmm:(ws.map fun l:B8=>(⟨⟨l⟩⟩:ByteArray)).map (·.data.toList)=ws:=by
  rw[map_map];show ws.map (fun l=>l)=ws;simp
 have hg:∀ j,j<ws.length->M.get? b (o+j)=(strs ws)[j]?:=fun j hj=>ni hs (by rw[ah];exact hj);have h0:=hg 0 (by omega);rw[ba,gEl (by omega)]at h0;obtain⟨B,hB⟩:=Ov h0;have:=Tryz.strings_Join b o c (ws.map fun l:B8=>(⟨⟨l⟩⟩:ByteArray)) ⟨⟨sep⟩⟩ w ?_ (kn hw hB) (by rw[hml];omega) (by rw[hml];exact hc) (by rw[hmm];exact hlen)
 ·rw[hml,hmm]at this;exact this
 ·intro j x hx;rw[getElem?_map]at hx;cases hw2:ws[j]? with
  | none=>rw[hw2]at hx;cases hx
  | some l=>
   rw[hw2]at hx;injection hx with hx
   subst hx;have hj:=(List.getElem?_eq_some_iff.1 hw2).1;have:=hg j hj;rw[ba,hw2]at this;exact hw.cell this
def txt:List B8->B8
 | []=>[]
 | x::r=>x++Lib.joinTail [44] r
theorem G9(ws:List B8):Lib.join ws [44]=txt ws:=by
 cases ws with
 | nil=>rfl
 | cons x r=>exact Lib.join_cons x r [44]
theorem Sd(w:B8):txt [w]=w:=by simp[txt,Lib.joinTail]
theorem Q4(ws:List B8)(w:B8)(h:1<=ws.length):txt (ws++[w])=txt ws++[44]++w:=by
 cases ws with
 | nil=>simp at h
 | cons x r=>simp[txt,Lib.joinTail]
theorem LU{ws:List B8}{n:Nat}(h:∀ w∈ws,w.length<=n):(txt ws).length<=ws.length*(n+1):=by
 cases ws with
 | nil=>exact lZe _
 | cons x r=>
  have h1:=h x (mem_cons_self ..);have h2:∀(l:List B8),(∀ w∈l,w.length<=n)->(Lib.joinTail [44] l).length<=l.length*(n+1):=by
   intro l hl
   induction l with
   | nil=>simp[Lib.joinTail]
   | cons a l ih=>
    have h3:=hl a (mem_cons_self ..);have h4:=ih fun w hw=>hl w (mem_cons_of_mem _ hw);have e:Lib.joinTail [44] (a::l)=[44]++a++Lib.joinTail [44] l:=by simp[Lib.joinTail]
    rw[e,lAp,lAp,length_singleton,length_cons,Nat.succ_mul];omega
  have h3:=h2 r fun w hw=>h w (mem_cons_of_mem _ hw);unfold txt;rw[lAp,length_cons,Nat.succ_mul];omega
def nC(ws:List B8):B8:=if aY ws then txt ws else []
theorem sa(v:Value)(ws:List B8)(M:Mem)(R:VP)(hv:Rd M v (strs ws))(hf:cP ws)(hn:ws.length<=1099511627776)(h:R (aE (str (nC ws)) (lu ws)) M):ar prog 215 [.agg #[v]] M R:=by
 refine fnS func215 rfl ntmps215 results215 ?_;obtain⟨a,c,rfl,ha⟩:=hv.opened;rw[ah]at hv ⊢;simp(disch:=omega);intro b1 hb1;have hs1:Sub M (M.put b1 (.cells true [.slice a ws.length c] 1)):=(Sub.refl M).put hb1 _;have hv1:=hv.put hb1 (.cells true [.slice a ws.length c] 1);have k1:(M.put b1 (.cells true [.slice a ws.length c] 1)) b1=some (.cells true [.slice a ws.length c] 1):=ag _ _ _;simp(disch:=omega);generalize M.put b1 (.cells true [.slice a ws.length c] 1)=N at *;refine fy _ ws _ _ hv1 hf hn ?_;unfold nC lu at h;unfold lu;cases hm:aY ws
 ·rw[hm]at h;simp(disch:=omega);exact ae hs1 h
 ·rw[hm,if_pos rfl,if_pos rfl,<-G9]at h;have h15:=aV hm;have hl:=LU (n:=12) fun w hw=>(bL hm hw).1;have hl5:ws.length*13<=65:=Nat.mul_le_mul_right 13 h15.2;simp(disch:=omega)[al k1];refine vI _ ws [44] _ _ hv1 h15.1 (by omega) (by rw[G9];omega) ?_;simp(disch:=omega);exact ae hs1 h
theorem Dm(v:Value)(ws:List B8)(M:Mem)(R:VP)(hv:Rd M v (strs ws))(hm:aY ws=true)(h:R (str (txt ws)) M):ar prog 77 [.agg #[v]] M R:=by
 refine fnS func77 rfl ntmps77 results77 ?_;obtain⟨a,c,rfl,ha⟩:=hv.opened;have h15:=aV hm;rw[ah]at ha hv ⊢;simp(disch:=omega);intro b1 hb1;have hs1:Sub M (M.put b1 (.cells true [.slice a ws.length c] 1)):=(Sub.refl M).put hb1 _;have k1:(M.put b1 (.cells true [.slice a ws.length c] 1)) b1=some (.cells true [.slice a ws.length c] 1):=ag _ _ _;rcases ha with h0|⟨b,o,rfl,ha⟩
 ·omega
 simp(disch:=omega);generalize M.put b1 (.cells true [.slice (some ⟨b,o,none⟩) ws.length c] 1)=N at *;refine aP aR (rlA [] 3 20) (fun i:Nat=>[(4,.int .i64 i),(3,str (txt (ws.take i)))]) (fun i M'=>M'=N/\i<=ws.length) (fun i=>ws.length-i) 0 (by kernel_rfl) (by simp(disch:=omega)[txt]) ⟨rfl,by omega⟩ ?_
 rintro i M' g ⟨rfl,hi⟩
 have hlt0:=LU (ws:=ws.take i) (n:=12) fun w hw=>(bL hm (mem_of_mem_take hw)).1;have hti:(ws.take i).length=i:=by rw[lTa];omega
 rw[hti]at hlt0;have hl5:i*13<=65:=Nat.mul_le_mul (show i<=5 by omega) (lRf 13);by_cases hlt:i<ws.length
 ·have hg0:=ha i hlt;rw[ba,gEl hlt]at hg0;have hg:=aX hg0 hs1;have hwo:=bL hm (getElem_mem hlt);by_cases h0:i=0
  ·subst h0;have e:txt (ws.take (0+1))=ws[0]:=by rw[take_one hlt,Sd]
   have e0:txt []=[]:=rfl;rw[Nat.add_zero]at hg;simp(disch:=omega)[al k1,hg,e0];exact rndA (0+1) (by simp(disch:=omega)[e]) ⟨rfl,by omega⟩
  ·have hpos:(0:Int)<i:=by omega
   have e:txt (ws.take (i+1))=txt (ws.take i)++[44]++ws[i]:=by rw[aw ws hlt,Q4 _ _ (by omega)]
   simp(disch:=omega)[al k1,hg];exact rndA (i+1) (by simp(disch:=omega)[e]) ⟨rfl,by omega⟩
 ·have hi':i=ws.length:=by omega
  subst hi';rw[take_length];simp(disch:=omega)[al k1];exact ae hs1 h
end Go.Proofs.YtapimhjbilkfpaaGreatDoor
namespace Go.Proofs.YtapimhjbilkfpaaGreatDoor
open Go Go.Proofs.Tryz List
theorem Sub.ovr{M N:Mem}{b:Nat}(h:Sub M N)(hb:M b=none)(B:Blk):Sub M (N.put b B):=by
 intro i Bi hi;have hne:i≠b:=by rintro rfl;rw[hb]at hi;cases hi
 rw[ai _ _ hne];exact h _ _ hi
def mnF(x y:Int):Int:=if y<x then y else x
def mxF(x y:Int):Int:=if x<y then y else x
def vec(g:Nat->Int):List Int:=[g 0,g 1,g 2,g 3,g 4]
theorem lH(l:B8):counts l=vec (cnt l):=rfl
theorem RN(g:Nat->Int){i:Nat}(h:i<5):(vec g)[i]?=some (g i):=by
 match i,h with
 | 0,_=>rfl
 | 1,_=>rfl
 | 2,_=>rfl
 | 3,_=>rfl
 | 4,_=>rfl
def eZ(f:Int->Int->Int)(g:Nat->Int)(u:B8)(i:Nat):Nat->Int:=fun k=>if k<i then f (g k) (cnt u k) else g k
theorem pa(f:Int->Int->Int)(g:Nat->Int)(u:B8):eZ f g u 0=g:=by
 funext k
 simp[eZ]
theorem KQ(f:Int->Int->Int)(g:Nat->Int)(u:B8)(i:Nat):eZ f g u i i=g i:=by simp[eZ]
theorem Sz(f:Int->Int->Int)(g:Nat->Int)(u:B8){i:Nat}(h:i<5):(vec (eZ f g u i)).set i (f (g i) (cnt u i))=vec (eZ f g u (i+1)):=by
 match i,h with
 | 0,_=>rfl
 | 1,_=>rfl
 | 2,_=>rfl
 | 3,_=>rfl
 | 4,_=>rfl
def cJ(f:Int->Int->Int)(g:Nat->Int)(L:List B8):Nat->Int:=fun k=>L.foldl (fun a u=>f a (cnt u k)) (g k)
theorem sY(f:Int->Int->Int)(g:Nat->Int)(L:List B8)(u:B8):vec (eZ f (cJ f g L) u 5)=vec (cJ f g (L++[u])):=by
 unfold cJ;simp only[foldl_append,foldl_cons,foldl_nil];rfl
def spr(best:Int)(lo hi:Nat->Int):Nat->Int
 | 0=>best
 | i+1=>mxF (spr best lo hi i) (hi i-lo i)
theorem jw{u:B8}(h:u.length<=60)(k:Nat):0<=cnt u k/\cnt u k<=60:=by
 have:=Ea u k;omega
theorem ll{f:Int->Int->Int}(hf:∀ a b,0<=a/\a<=60->0<=b/\b<=60->0<=f a b/\f a b<=60){g:Nat->Int}{L:List B8}(hg:∀ k,0<=g k/\g k<=60)(hL:∀ u∈L,u.length<=60)(k:Nat):0<=cJ f g L k/\cJ f g L k<=60:=by
 unfold cJ;have:∀(L:List B8) (a:Int),(∀ u∈L,u.length<=60)->0<=a/\a<=60->0<=L.foldl (fun a u=>f a (cnt u k)) a/\L.foldl (fun a u=>f a (cnt u k)) a<=60:=by
  intro L
  induction L with
  | nil=>intro a _ h;exact h
  | cons u r ih=>intro a hL h;exact ih _ (fun x hx=>hL x (mem_cons_of_mem _ hx)) (hf _ _ h (jw (hL u mem_cons_self) k))
 exact this L _ hL (hg k)
theorem JW(a b:Int)(ha:0<=a/\a<=60)(hb:0<=b/\b<=60):0<=mnF a b/\mnF a b<=60:=by unfold mnF;split<;>omega
theorem JJ(a b:Int)(ha:0<=a/\a<=60)(hb:0<=b/\b<=60):0<=mxF a b/\mxF a b<=60:=by unfold mxF;split<;>omega
theorem Dh{best:Int}{lo hi:Nat->Int}(hb:0<=best/\best<=60)(hlo:∀ k,0<=lo k/\lo k<=60)(hhi:∀ k,0<=hi k/\hi k<=60):∀ i,0<=spr best lo hi i/\spr best lo hi i<=60
 | 0=>hb
 | i+1=>by
  have h0:=Dh hb hlo hhi i;have h1:=hlo i;have h2:=hhi i;unfold spr mxF;split<;>omega
def eH(w:B8)(m i:Nat):List B8:=(range i).map fun t=>seg w (t+1) m
theorem Kd(w:B8)(m i:Nat):eH w m (i+1)=eH w m i++[seg w (i+1) m]:=by simp[eH,range_succ]
def dx(w:B8)(m i:Nat):List B8:=(range i).map fun t=>seg w t m
theorem qV(w:B8)(m i:Nat):dx w m (i+1)=dx w m i++[seg w i m]:=by simp[dx,range_succ]
theorem fX(w:B8)(m i:Nat):(dx w m i).length=i:=by simp[dx]
def loW(w:B8)(m:Nat):Nat->Int:=cJ mnF (cnt (w.take m)) (eH w m (w.length-m))
def hiW(w:B8)(m:Nat):Nat->Int:=cJ mxF (cnt (w.take m)) (eH w m (w.length-m))
def k9(w:B8):Nat->Int
 | 0=>0
 | m+1=>spr (k9 w m) (loW w (m+1)) (hiW w (m+1)) 5
theorem ui{w:B8}{m i:Nat}(hw:w.length<=60):∀ u∈eH w m i,u.length<=60:=by
 intro u hu;obtain⟨t,_,rfl⟩:=List.mem_map.1 hu;unfold seg;rw[length_drop,lTa];omega
theorem Je{w:B8}(hw:w.length<=60)(m k:Nat):0<=loW w m k/\loW w m k<=60:=ll JW (fun k=>jw (by rw[lTa];omega) k) (ui hw) k
theorem J2{w:B8}(hw:w.length<=60)(m k:Nat):0<=hiW w m k/\hiW w m k<=60:=ll JJ (fun k=>jw (by rw[lTa];omega) k) (ui hw) k
theorem E6{w:B8}(hw:w.length<=60):∀ m,0<=k9 w m/\k9 w m<=60
 | 0=>by unfold k9;omega
 | m+1=>Dh (E6 hw m) (Je hw _) (J2 hw _) 5
theorem xI(k:Nat):∀(L:List B8) (b:Int),L.foldl (fun a u=>mnF a (cnt u k)) b<=b/\(∀ u∈L,L.foldl (fun a u=>mnF a (cnt u k)) b<=cnt u k)/\(L.foldl (fun a u=>mnF a (cnt u k)) b=b\/∃ u∈L,L.foldl (fun a u=>mnF a (cnt u k)) b=cnt u k)
 | [],b=>⟨Int.le_refl b,by simp,.inl rfl⟩
 | u::r,b=>by
  obtain⟨h1,h2,h3⟩:=xI k r (mnF b (cnt u k));rw[foldl_cons];have hm:mnF b (cnt u k)<=b/\mnF b (cnt u k)<=cnt u k/\(mnF b (cnt u k)=b\/mnF b (cnt u k)=cnt u k):=by unfold mnF;split<;>simp<;>omega
  refine⟨by omega,?_,?_⟩
  ·intro x hx;rcases List.mem_cons.1 hx with rfl|hx
   ·omega
   ·exact h2 x hx
  ·rcases h3 with h3|⟨x,hx,h3⟩
   ·rcases hm.2.2 with e|e
    ·exact .inl (h3.trans e)
    ·exact .inr ⟨u,mem_cons_self,h3.trans e⟩
   ·exact .inr ⟨x,mem_cons_of_mem _ hx,h3⟩
theorem xX(k:Nat):∀(L:List B8) (b:Int),b<=L.foldl (fun a u=>mxF a (cnt u k)) b/\(∀ u∈L,cnt u k<=L.foldl (fun a u=>mxF a (cnt u k)) b)/\(L.foldl (fun a u=>mxF a (cnt u k)) b=b\/∃ u∈L,L.foldl (fun a u=>mxF a (cnt u k)) b=cnt u k)
 | [],b=>⟨Int.le_refl b,by simp,.inl rfl⟩
 | u::r,b=>by
  obtain⟨h1,h2,h3⟩:=xX k r (mxF b (cnt u k));rw[foldl_cons];have hm:b<=mxF b (cnt u k)/\cnt u k<=mxF b (cnt u k)/\(mxF b (cnt u k)=b\/mxF b (cnt u k)=cnt u k):=by unfold mxF;split<;>simp<;>omega
  refine⟨by omega,?_,?_⟩
  ·intro x hx;rcases List.mem_cons.1 hx with rfl|hx
   ·omega
   ·exact h2 x hx
  ·rcases h3 with h3|⟨x,hx,h3⟩
   ·rcases hm.2.2 with e|e
    ·exact .inl (h3.trans e)
    ·exact .inr ⟨u,mem_cons_self,h3.trans e⟩
   ·exact .inr ⟨x,mem_cons_of_mem _ hx,h3⟩
theorem E7{b:B8}{L L':List B8}(h1:∀ u∈L,u∈L'\/u=b)(h2:∀ u∈L',u∈L):cJ mnF (cnt b) L=cJ mnF (cnt b) L':=by
 funext k
 unfold cJ;obtain⟨a1,a2,a3⟩:=xI k L (cnt b k);obtain⟨b1,b2,b3⟩:=xI k L' (cnt b k);refine Int.le_antisymm ?_ ?_
 ·rcases b3 with e|⟨u,hu,e⟩
  ·rw[e];exact a1
  ·rw[e];exact a2 u (h2 u hu)
 ·rcases a3 with e|⟨u,hu,e⟩
  ·rw[e];exact b1
  ·rw[e];rcases h1 u hu with h|rfl
   ·exact b2 u h
   ·exact b1
theorem D3{b:B8}{L L':List B8}(h1:∀ u∈L,u∈L'\/u=b)(h2:∀ u∈L',u∈L):cJ mxF (cnt b) L=cJ mxF (cnt b) L':=by
 funext k
 unfold cJ;obtain⟨a1,a2,a3⟩:=xX k L (cnt b k);obtain⟨b1,b2,b3⟩:=xX k L' (cnt b k);refine Int.le_antisymm ?_ ?_
 ·rcases a3 with e|⟨u,hu,e⟩
  ·rw[e];exact b1
  ·rw[e];rcases h1 u hu with h|rfl
   ·exact b2 u h
   ·exact b1
 ·rcases b3 with e|⟨u,hu,e⟩
  ·rw[e];exact a1
  ·rw[e];exact a2 u (h2 u hu)
theorem Ps{w:B8}{m:Nat}{L:List B8}(hm:m<=w.length)(hL:∀ u,u∈L↔u∈dx w m (w.length-m+1)):cJ mnF (cnt (w.take m)) L=loW w m/\cJ mxF (cnt (w.take m)) L=hiW w m:=by
 have h1:∀ u∈L,u∈eH w m (w.length-m)\/u=w.take m:=by
  intro u hu;obtain⟨t,ht,rfl⟩:=List.mem_map.1 ((hL u).1 hu);have ht:=List.mem_range.1 ht;cases t with
  | zero=>exact .inr (nE w m)
  | succ t=>exact .inl (List.mem_map.2 ⟨t,List.mem_range.2 (by omega),rfl⟩)
 have h2:∀ u∈eH w m (w.length-m),u∈L:=by
  intro u hu;obtain⟨t,ht,rfl⟩:=List.mem_map.1 hu;have ht:=List.mem_range.1 ht;exact(hL _).2 (List.mem_map.2 ⟨t+1,List.mem_range.2 (by omega),rfl⟩)
 exact⟨E7 h1 h2,D3 h1 h2⟩
theorem Qp(w:B8):spr 0 (loW w 0) (hiW w 0) 5=0:=by
 have hc:∀ k,cnt [] k=0:=fun k=>rfl;have hs:∀ i,∀ u∈eH w 0 i,u=[]:=by
  intro i u hu;obtain⟨t,_,rfl⟩:=List.mem_map.1 hu;unfold seg;rw[Nat.add_zero];exact drop_eq_nil_of_le (by rw[lTa];omega)
 have h1:loW w 0=fun _=>0:=by
  funext k
  obtain⟨_,_,h|⟨u,hu,h⟩⟩:=xI k (eH w 0 (w.length-0)) (cnt (w.take 0) k)
  ·exact h
  ·rw[hs _ u hu]at h;exact h
 have h2:hiW w 0=fun _=>0:=by
  funext k
  obtain⟨_,_,h|⟨u,hu,h⟩⟩:=xX k (eH w 0 (w.length-0)) (cnt (w.take 0) k)
  ·exact h
  ·rw[hs _ u hu]at h;exact h
 rw[h1,h2];rfl
end Go.Proofs.YtapimhjbilkfpaaGreatDoor
